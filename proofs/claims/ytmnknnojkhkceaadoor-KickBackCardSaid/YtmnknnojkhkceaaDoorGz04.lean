/-
  Lemmas of this claim, in their order (GyY5, GyY6, GyY7, GyZ1, GyZ2, GyZ3, GyW1, GyU1, GyPU, GyV2, GyVA, GyRA, GyRB, GyDM, GyQA, GyVB, GyVC, GyVD, GyRC, GyRF, GyQB, GyDB, GyDC, GyWA, GyWB, GyWC, GyWD, GyWE, GyWF, GyWG, GyWH, GyWK, GyWL, GyWM, GyCA).
  Conditions: those of each theorem.
-/
import Derived.Test.YtmnknnojkhkceaaDoorGz03
namespace Go.Gy
set_option linter.unusedSimpArgs false
set_option linter.unusedVariables false
open Go Go.RowKit Go.Proofs

theorem sz_id {z:Int} (h0:-57896044618658097711785492504343953926634992332820282019728792003956564819968 ≤ z) (h1:z < 57896044618658097711785492504343953926634992332820282019728792003956564819968):sz z = z := by
 unfold sz; rw [Int.bmod_def]; split <;> omega
theorem sz_pos {z:Int} (h0:0 ≤ z) (h1:z < 57896044618658097711785492504343953926634992332820282019728792003956564819968):sz z = z := sz_id (Int.le_trans (by decide) h0) h1
theorem div_step (a M:Int) (hM:0 < M):(M ≤ a % (2 * M) → a % M = a % (2 * M) - M ∧ a / M = 2 * (a / (2 * M)) + 1) ∧ (a % (2 * M) < M → a % M = a % (2 * M) ∧ a / M = 2 * (a / (2 * M))) := by
 have h1 := Int.emod_add_mul_ediv a (2 * M)
 have h2 := Int.emod_nonneg a (b := 2 * M) (by omega)
 have h3 := Int.emod_lt_of_pos a (b := 2 * M) (by omega)
 have e:2 * M * (a / (2 * M)) = M * (2 * (a / (2 * M))) := by rw [Int.mul_comm 2 M,Int.mul_assoc]
 rw [e] at h1
 generalize a % (2 * M) = r at *
 generalize 2 * (a / (2 * M)) = k at *
 constructor
 ·intro h
  have ea:a = (r - M) + M * (k + 1) := by rw [Int.mul_add]; omega
  constructor
  ·rw [ea,Int.add_mul_emod_self_left,Int.emod_eq_of_lt (by omega) (by omega)]
  ·rw [ea,Int.add_mul_ediv_left _ _ (by omega),Int.ediv_eq_zero_of_lt (by omega) (by omega)]; omega
 ·intro h
  have ea:a = r + M * k := by omega
  constructor
  ·rw [ea,Int.add_mul_emod_self_left,Int.emod_eq_of_lt (by omega) (by omega)]
  ·rw [ea,Int.add_mul_ediv_left _ _ (by omega),Int.ediv_eq_zero_of_lt (by omega) (by omega)]; omega
theorem pow_pos2 (k:Nat):(0:Int) < 2 ^ k := Int.pow_pos (by omega)
theorem wi_bit (c:Int) (t r:Nat) (hr:r < 64):bitI .or .u64 (wi (c * 2 ^ (64 * t + r + 1)) t) (2 ^ r) = wi (c * 2 ^ (64 * t + r + 1) + 2 ^ (64 * t + r)) t := by
 have e1:c * 2 ^ (64 * t + r + 1) / 2 ^ (64 * t) = c * 2 ^ (r + 1) := by
  rw [show 64 * t + r + 1 = (r + 1) + 64 * t by omega,Int.pow_add,← Int.mul_assoc,Int.mul_ediv_cancel _ (by have := pow_pos2 (64 * t); omega)]
 have e2:(c * 2 ^ (64 * t + r + 1) + 2 ^ (64 * t + r)) / 2 ^ (64 * t) = c * 2 ^ (r + 1) + 2 ^ r := by
  have x1:(2:Int) ^ (64 * t + r + 1) = 2 ^ (r + 1) * 2 ^ (64 * t) := by rw [← Int.pow_add]; congr 1; omega
  have x2:(2:Int) ^ (64 * t + r) = 2 ^ r * 2 ^ (64 * t) := by rw [← Int.pow_add]; congr 1; omega
  rw [x1,x2,← Int.mul_assoc,← Int.add_mul,Int.mul_ediv_cancel _ (by have := pow_pos2 (64 * t); omega)]
 have hM:(18446744073709551616:Int) = 2 ^ (63 - r) * 2 ^ (r + 1) := by rw [← Int.pow_add,show 63 - r + (r + 1) = 64 by omega]; rfl
 have hdvd:(2:Int) ^ (r + 1) ∣ 18446744073709551616 := ⟨2 ^ (63 - r),by rw [hM,Int.mul_comm]⟩
 have hp := pow_pos2 r
 have hp1:(2:Int) ^ (r + 1) = 2 * 2 ^ r := by rw [Int.pow_succ,Int.mul_comm]
 have h5:(c * 2 ^ (r + 1)) % 18446744073709551616 % 2 ^ (r + 1) = 0 := by rw [Int.emod_emod_of_dvd _ hdvd,Int.mul_emod_left]
 have h6 := Int.emod_nonneg (c * 2 ^ (r + 1)) (b := 18446744073709551616) (by omega)
 have h7 := Int.emod_lt_of_pos (c * 2 ^ (r + 1)) (b := 18446744073709551616) (by omega)
 have h8:(c * 2 ^ (r + 1)) % 18446744073709551616 ≤ 18446744073709551616 - 2 ^ (r + 1) := by
  obtain ⟨d,hd⟩ := Int.dvd_of_emod_eq_zero h5
  rw [hd] at h7 ⊢
  have hs := pow_pos2 (63 - r)
  have hq := pow_pos2 (r + 1)
  rw [hM] at h7 ⊢
  generalize (2:Int) ^ (r + 1) = P at *
  generalize (2:Int) ^ (63 - r) = S at *
  rw [Int.mul_comm S P] at h7 ⊢
  have:d < S := Int.lt_of_mul_lt_mul_left h7 (by omega)
  have:P * d ≤ P * (S - 1) := Int.mul_le_mul_of_nonneg_left (by omega) (by omega)
  rw [Int.mul_sub,Int.mul_one] at this
  exact this
 unfold wi
 rw [e1,e2,or_add (R := r + 1) h6 h7 h5 (by omega) (by omega) (by omega),Int.add_emod (c * 2 ^ (r + 1)),Int.emod_eq_of_lt (a := 2 ^ r) (by omega) (by omega),Int.emod_eq_of_lt (a := c * 2 ^ (r + 1) % 18446744073709551616 + 2 ^ r) (by omega) (by omega)]
theorem wi_other (c:Int) (t r j:Nat) (hr:r < 64) (h:j ≠ t):wi (c * 2 ^ (64 * t + r + 1) + 2 ^ (64 * t + r)) j = wi (c * 2 ^ (64 * t + r + 1)) j := by
 unfold wi
 by_cases hj:j < t
 ·obtain ⟨m,rfl⟩:∃ m,t = j + 1 + m := ⟨t - (j + 1),by omega⟩
  have e:(2:Int) ^ (64 * (j + 1 + m) + r) = (2 ^ (64 * m + r) * 18446744073709551616) * 2 ^ (64 * j) := by
   rw [show 64 * (j + 1 + m) + r = 64 * m + r + 64 + 64 * j by omega,Int.pow_add,Int.pow_add]; rfl
  rw [Int.pow_succ,e,show c * (2 ^ (64 * m + r) * 18446744073709551616 * 2 ^ (64 * j) * 2) = (c * 2 * 2 ^ (64 * m + r) * 18446744073709551616) * 2 ^ (64 * j) by
   simp only [Int.mul_assoc,Int.mul_comm,Int.mul_left_comm],← Int.add_mul,Int.mul_ediv_cancel _ (by have := pow_pos2 (64 * j); omega),Int.mul_ediv_cancel _ (by have := pow_pos2 (64 * j); omega),← Int.add_mul,Int.mul_emod_left,Int.mul_emod_left]
 ·obtain ⟨m,rfl⟩:∃ m,j = t + 1 + m := ⟨j - (t + 1),by omega⟩
  have e:(2:Int) ^ (64 * (t + 1 + m)) = 2 ^ (64 * t + r + 1) * 2 ^ (64 * m + (63 - r)) := by
   rw [← Int.pow_add]; congr 1; omega
  have hp := pow_pos2 (64 * t + r)
  have hq:(2:Int) ^ (64 * t + r + 1) = 2 * 2 ^ (64 * t + r) := by rw [Int.pow_succ,Int.mul_comm]
  have hc:(c * 2 ^ (64 * t + r + 1) + 2 ^ (64 * t + r)) / 2 ^ (64 * t + r + 1) = c := by
   rw [Int.add_comm,Int.add_mul_ediv_right _ _ (by omega),Int.ediv_eq_zero_of_lt (by omega) (by omega)]; omega
  rw [e,← Int.ediv_ediv_of_nonneg (Int.le_of_lt (pow_pos2 _)),← Int.ediv_ediv_of_nonneg (Int.le_of_lt (pow_pos2 _)),hc,Int.mul_ediv_cancel _ (by omega)]
def rA (a b:Int) (k:Nat):Int := a % (b * 2 ^ k)
def qA (a b:Int) (k:Nat):Int := a / (b * 2 ^ k) * 2 ^ k
theorem dA_step (a b:Int) (hb:0 < b) (k:Nat):(b * 2 ^ k ≤ rA a b (k + 1) → rA a b k = rA a b (k + 1) - b * 2 ^ k ∧ qA a b k = qA a b (k + 1) + 2 ^ k) ∧ (rA a b (k + 1) < b * 2 ^ k → rA a b k = rA a b (k + 1) ∧ qA a b k = qA a b (k + 1)) := by
 have hp := pow_pos2 k
 have e:b * 2 ^ (k + 1) = 2 * (b * 2 ^ k) := by rw [Int.pow_succ,← Int.mul_assoc,Int.mul_comm]
 have e2:∀ x:Int,x * 2 ^ (k + 1) = 2 * x * 2 ^ k := fun x => by rw [Int.pow_succ,Int.mul_comm (2 ^ k),← Int.mul_assoc,Int.mul_comm x 2]
 have h := div_step a (b * 2 ^ k) (Int.mul_pos hb hp)
 unfold rA qA
 rw [e,e2]
 refine ⟨fun h1 => ?_,fun h1 => ?_⟩
 ·obtain ⟨h2,h3⟩ := h.1 h1
  exact ⟨h2,by rw [h3,Int.add_mul,Int.one_mul]⟩
 ·obtain ⟨h2,h3⟩ := h.2 h1
  exact ⟨h2,by rw [h3]⟩
theorem dA_end (a b:Int):rA a b 0 = a % b ∧ qA a b 0 = a / b := by simp [rA,qA]
theorem dA_begin (a b:Int) (k:Nat) (h0:0 ≤ a) (h:a < b * 2 ^ k):rA a b k = a ∧ qA a b k = 0 := by
 unfold rA qA
 rw [Int.emod_eq_of_lt h0 h,Int.ediv_eq_zero_of_lt h0 h]
 simp
theorem shN_up (a b:Int) (ha0:0 ≤ a) (hb0:0 < b) (ha:a < 2 ^ 256) (hb:b < 2 ^ 256):a < b * 2 ^ (shN a b + 1).toNat ∧ (0 ≤ shN a b → b * 2 ^ (shN a b).toNat < 2 ^ (nbits a).toNat) := by
 have ea:uz a = a := by unfold uz; omega
 have eb:uz b = b := by unfold uz; omega
 unfold shN
 rw [ea,eb]
 obtain ⟨j,hj,j1,j2⟩ := nbits_pos hb0
 by_cases h0:a = 0
 ·subst h0
  have e0:nbits 0 = 0 := rfl
  rw [e0,hj]
  exact ⟨Int.mul_pos hb0 (pow_pos2 _),fun h => by omega⟩
 ·obtain ⟨k,hk,k1,k2⟩ := nbits_pos (x := a) (by omega)
  rw [hk,hj]
  refine ⟨?_,fun h => ?_⟩
  ·by_cases hkj:j ≤ k + 1
   ·have e:((k:Int) + 1 - (j + 1) + 1).toNat = k + 1 - j := by omega
    rw [e]
    refine Int.lt_of_lt_of_le k2 ?_
    have h3:(2:Int) ^ (k + 1) = 2 ^ j * 2 ^ (k + 1 - j) := by rw [← Int.pow_add]; congr 1; omega
    rw [h3]
    exact Int.mul_le_mul_of_nonneg_right j1 (Int.le_of_lt (pow_pos2 _))
   ·have e:((k:Int) + 1 - (j + 1) + 1).toNat = 0 := by omega
    rw [e,Int.pow_zero,Int.mul_one]
    refine Int.lt_of_lt_of_le k2 (Int.le_trans ?_ j1)
    exact_mod_cast Nat.pow_le_pow_right (by omega) (by omega:k + 1 ≤ j)
  ·have e:((k:Int) + 1 - (j + 1)).toNat = k - j := by omega
   have e':((k:Int) + 1).toNat = k + 1 := by omega
   rw [e,e']
   have h3:(2:Int) ^ (k + 1) = 2 ^ (j + 1) * 2 ^ (k - j) := by rw [← Int.pow_add]; congr 1; omega
   rw [h3]
   exact Int.mul_lt_mul_of_pos_right j2 (pow_pos2 _)

def pnHp (a b:Int) (k:Nat):Hp := hpL G0 [(200,wb (rA a b k)),(208,wb b),(216,⟨fa 4 .u64 (wi (qA a b k)),.ty 82⟩),(224,zB)]
def pnTs:Nat → Value := tsL [(2,.pointer (some ⟨200,0,none⟩)),(3,.pointer (some ⟨208,0,none⟩)),(4,.pointer (some ⟨216,0,none⟩)),(5,.pointer (some ⟨224,0,none⟩))]
set_option maxHeartbeats 1000000 in
theorem plain_ret (a b:Int) (ha0:0 ≤ a) (ha:a < 57896044618658097711785492504343953926634992332820282019728792003956564819968) (hb0:0 < b) (hb1:b < 57896044618658097711785492504343953926634992332820282019728792003956564819968) :
  Ret Tryd.prog G0 84 #[wd a,wd b] (.tuple #[wd (a / b),wd (a % b)]) := by
 refine ret_of G0F Tryd.func84 rfl Tryd.call84 (by simp) (by simp) (by simp [Tryd.ntmps84]) ?_
 intro C hC hC0 hY
 have hup := shN_up a b ha0 hb0 (by omega) (by omega)
 have hbd := shN_bd a b
 have hna:nbits a ≤ 255 := (nbits_bd 255 (by omega)).2
 have hlt:shN a b < 256 := by
  have ea:uz a = a := by unfold uz; omega
  have hnb := nbits_bd 256 (uz_bd b).2
  unfold shN; rw [ea]; omega
 have hit := shifts_it a b hlt
 generalize shN a b = N at *
 repeat' (first | refine gwA ?_ | ((first | refine gwR [] ?_ | refine gwD [] ?_); intro Q hQ hP; simp [hC,hY]; refine hQ _ _ _ _ (by kernel_rfl) ?_; clear hQ hP Q) | (refine gwC ?_ ?_ <;> (intro hb; first | (cases hb; done) | skip)))
 refine GW_region' [89] (by kernel_rfl) ?_; intro Q hQ hP; simp [hC,hY]
 refine heapK_of (shifts_new a b 248 (by omega)) (by simp) (fun _ _ => rfl) (by simp [Res.at]) ?_
 simp
 refine hQ _ _ _ _ ?_; clear hQ hP Q
 repeat' (first | refine gwA ?_ | ((first | refine gwR [] ?_ | refine gwD [] ?_); intro Q hQ hP; simp [hC,hY]; refine hQ _ _ _ _ (by kernel_rfl) ?_; clear hQ hP Q) | (refine gwC ?_ ?_ <;> (intro hb; first | (cases hb; done) | skip)))
 refine GW_range (f := 96) (rs := [248,249]) (xs := shXs b N) (caps := #[.pointer (some ⟨248,0,none⟩),.pointer (some ⟨249,0,none⟩)]) (by simp) ?_ ?_ (by simp [Tryd.ntmps84]) pnTs (fun i => pnHp a b (N + 1 - (i:Int)).toNat) 300 (N + 1).toNat (by rw [shXs_len]; omega) ?_ ?_ ?_ ?_ ?_
 ·rw [hC]
  refine IterG.cast (IterX.rn (fun k => if k = 100 then 248 else if k = 101 then 249 else k) G0F (fun k hk => hpL_low (by simp) hk) (rs := [100,101]) ?_ hit) (by simp [ren0]) (by simp)
  refine ⟨fun k hk => ?_,?_,?_,?_⟩
  ·have h1:¬ k = 100 := by omega
   have h2:¬ k = 101 := by omega
   have h3:¬ k = 200 := by omega
   have h4:¬ k = 208 := by omega
   have h5:¬ k = 216 := by omega
   have h6:¬ k = 224 := by omega
   have h8:¬ k = 248 := by omega
   have h9:¬ k = 249 := by omega
   simp [h1,h2,h3,h4,h5,h6,h8,h9,wHp]
  ·simp
  ·simp [wHp,wb,Blk.rn,renF,ren0]
  ·simp
 ·intro x hx
  simp only [shXs,List.mem_map] at hx
  obtain ⟨i,_,rfl⟩ := hx
  simp
 ·have e := dA_begin a b (N + 1).toNat ha0 hup.1
  refine weakL _ 300 hC G0F (m0 := []) hC0 (by omega) ?_ ?_ ?_
  ·simp [dom]
  ·simp [zB,wb,e.1,e.2,fa_4,wi_zero]
  ·simp
 ·simp [pnHp,dom]
 ·intro i hi t
  refine tsL_ids ?_ t
  simp [dom,pnHp]
 ·intro i x hi hx C1 l hC1 hh1 hY1
  have hCC := hC
  have hC1':C1.G = G0 := hC1.trans hC
  obtain ⟨n,hn⟩:∃ n:Nat,N - (i:Int) = n := ⟨(N - i).toNat,by omega⟩
  rw [shXs_at b N i hi,hn] at hx
  have e1:(N + 1 - (i:Int)).toNat = n + 1 := by omega
  have e2:(N + 1 - ((i + 1:Nat):Int)).toNat = n := by omega
  simp only [e1,e2]
  cases hx
  have hD:b * 2 ^ n < 57896044618658097711785492504343953926634992332820282019728792003956564819968 := by
   have h1 := hup.2 (by omega)
   have h2:(2:Int) ^ n ≤ 2 ^ N.toNat := by exact_mod_cast Nat.pow_le_pow_right (by omega) (by omega:n ≤ N.toNat)
   have h3:b * 2 ^ n ≤ b * 2 ^ N.toNat := Int.mul_le_mul_of_nonneg_left h2 (by omega)
   have h4:(2:Int) ^ (nbits a).toNat ≤ 2 ^ 255 := by exact_mod_cast Nat.pow_le_pow_right (by omega) (by omega:(nbits a).toNat ≤ 255)
   omega
  have hD0:0 < b * 2 ^ n := Int.mul_pos hb0 (pow_pos2 _)
  have hM0:0 < b * 2 ^ (n + 1) := Int.mul_pos hb0 (pow_pos2 _)
  have hA0:0 ≤ rA a b (n + 1) := Int.emod_nonneg _ (by omega)
  have hA1:rA a b (n + 1) ≤ a := by
   have h1 := Int.emod_add_mul_ediv a (b * 2 ^ (n + 1))
   have h2:0 ≤ b * 2 ^ (n + 1) * (a / (b * 2 ^ (n + 1))) := Int.mul_nonneg (by omega) (Int.ediv_nonneg ha0 (by omega))
   unfold rA; omega
  have szD:sz (b * 2 ^ n) = b * 2 ^ n := sz_pos (Int.le_of_lt hD0) hD
  have szA:sz (rA a b (n + 1)) = rA a b (n + 1) := sz_pos hA0 (Int.lt_of_le_of_lt hA1 ha)
  obtain ⟨t,r,hr,hn'⟩:∃ t r,r < 64 ∧ n = 64 * t + r := ⟨n / 64,n % 64,by omega,by omega⟩
  have tq:((n:Int)).tdiv 64 = t := by rw [Int.tdiv_eq_ediv_of_nonneg (by omega)]; omega
  have tm:((n:Int)).tmod 64 = r := by rw [Int.tmod_eq_emod_of_nonneg (by omega)]; omega
  have t4:t < 4 := by omega
  have t4':(t:Int) < 4 := by omega
  have t0:(0:Int) ≤ t := by omega
  have tb:Int.bmod (t:Int) 18446744073709551616 = t := bm (by omega) (by omega)
  have t3:t ≤ 3 := Nat.le_of_lt_succ t4
  have t3':(t:Int) ≤ 3 := Int.le_of_lt_add_one t4'
  have m1:min r 64 = r := by omega
  have m2:(2:Int) ^ r % 18446744073709551616 = 2 ^ r := Int.emod_eq_of_lt (Int.le_of_lt (pow_pos2 _)) (by
   have:(2:Int) ^ r < 2 ^ 64 := by exact_mod_cast Nat.pow_lt_pow_right (by omega) hr
   exact this)
  have hst := dA_step a b hb0 n
  replace hC := hC1'
  replace hY := hY1
  by_cases hle:b * 2 ^ n ≤ rA a b (n + 1)
  ·have hcmp:cmpI (sz (b * 2 ^ n)) (sz (rA a b (n + 1))) ≤ 0 := by rw [szD,szA]; unfold cmpI; split <;> (try split) <;> omega
   obtain ⟨s1,s2⟩ := hst.1 hle
   have hb1 := wi_bit (a / (b * 2 ^ (64 * t + r + 1))) t r hr
   have hb2 := wi_other (a / (b * 2 ^ (64 * t + r + 1))) t r
   rw [← hn'] at hb1 hb2
   replace hb1:bitI .or .u64 (wi (qA a b (n + 1)) t) (2 ^ r) = wi (qA a b n) t := by rw [s2]; exact hb1
   replace hb2:∀ j,j ≠ t → wi (qA a b n) j = wi (qA a b (n + 1)) j := fun j hj => by rw [s2]; exact hb2 j hr hj
   have hq:fa 4 .u64 (upd (wi (qA a b (n + 1))) t (wi (qA a b n) t)) = fa 4 .u64 (wi (qA a b n)) := fa_congr fun j _ => by
    unfold upd; split
    ·rename_i h; rw [h]
    ·rename_i h; rw [hb2 j h]
   unfold pnHp
   repeat' (first | refine gwA ?_ | ((first | refine gwR [] ?_ | refine gwD [] ?_); intro Q hQ hP; simp [hC,hY,roundTs,pnTs]; refine hQ _ _ _ _ (by kernel_rfl) ?_; clear hQ hP Q) | (refine gwC ?_ ?_ <;> (intro hb; first | (cases hb; done) | skip)))
   intro C2 hC2 hh2 hY2
   replace hC:C2.G = G0 := hC2.trans hCC
   replace hY := hY2
   repeat' (first | refine gwA ?_ | ((first | refine gwR [] ?_ | refine gwD [] ?_); intro Q hQ hP; simp [hC,hY,roundTs,pnTs,wb,hcmp,tq,tm,t4,t4',t0,t3,t3',tb,m1,m2,fa_get,fa_set,hb1]; refine hQ _ _ _ _ (by kernel_rfl) ?_; clear hQ hP Q) | (refine gwC ?_ ?_ <;> (intro hb; first | (cases hb; done) | skip)))
   refine weakL [] 300 hC1' G0F hh1 (by omega) ?_ ?_ ?_
   ·simp
   ·simp [fa_ids,ids_lit,wb,zB,hq,s1]
   ·simp [wb,zB,hq,s1]
  ·have hcmp:¬ cmpI (sz (b * 2 ^ n)) (sz (rA a b (n + 1))) ≤ 0 := by rw [szD,szA]; unfold cmpI; split <;> (try split) <;> omega
   obtain ⟨s1,s2⟩ := hst.2 (by omega)
   unfold pnHp
   repeat' (first | refine gwA ?_ | ((first | refine gwR [] ?_ | refine gwD [] ?_); intro Q hQ hP; simp [hC,hY,roundTs,pnTs]; refine hQ _ _ _ _ (by kernel_rfl) ?_; clear hQ hP Q) | (refine gwC ?_ ?_ <;> (intro hb; first | (cases hb; done) | skip)))
   intro C2 hC2 hh2 hY2
   replace hC:C2.G = G0 := hC2.trans hCC
   replace hY := hY2
   repeat' (first | refine gwA ?_ | ((first | refine gwR [] ?_ | refine gwD [] ?_); intro Q hQ hP; simp [hC,hY,roundTs,pnTs,wb,hcmp]; refine hQ _ _ _ _ (by kernel_rfl) ?_; clear hQ hP Q) | (refine gwC ?_ ?_ <;> (intro hb; first | (cases hb; done) | skip)))
   refine weakL [] 300 hC1' G0F hh1 (by omega) ?_ ?_ ?_
   ·simp
   ·simp [fa_ids,ids_lit,wb,zB,s1,s2]
   ·simp [wb,zB,s1,s2]
 ·left
  refine ⟨by rw [shXs_len],?_⟩
  have e:(N + 1 - ((N + 1).toNat:Int)).toNat = 0 := by omega
  have ed := dA_end a b
  rw [e]
  unfold pnHp pnTs
  rw [ed.1,ed.2]
  repeat' (first | refine gwA ?_ | ((first | refine gwR [] ?_ | refine gwD [] ?_); intro Q hQ hP; simp [hC,hY,wb,fa_4,zB]; refine hQ _ _ _ _ (by kernel_rfl) ?_; clear hQ hP Q) | (refine gwC ?_ ?_ <;> (intro hb; first | (cases hb; done) | skip)))
  refine ⟨.inr trivial,?_⟩
  simp [Tryd.results84]
@[simp] theorem qplain (a b:Int) (ha0:0 ≤ a) (ha:a < 57896044618658097711785492504343953926634992332820282019728792003956564819968) (hb0:0 < b) (hb1:b < 57896044618658097711785492504343953926634992332820282019728792003956564819968) (K:Value → Prop) :
  callK Tryd.prog G0 84 #[Value.agg #[.int .u64 (wi (a) 0),.int .u64 (wi (a) 1),.int .u64 (wi (a) 2),.int .u64 (wi (a) 3)],Value.agg #[.int .u64 (wi (b) 0),.int .u64 (wi (b) 1),.int .u64 (wi (b) 2),.int .u64 (wi (b) 3)]] K ↔ K (.tuple #[wd (a / b),wd (a % b)]) := callK_iff G0W (by kernel_rfl) (plain_ret a b ha0 ha hb0 hb1)
theorem ret_of_retp {P:Program} {G:Hp} {f:FuncId} {args:Array Value} {v:Value} (h:RetP P G f args (.ret v)):Ret P G f args v := ⟨h.1 v rfl,h.2.1,h.2.2.1,h.2.2.2⟩
@[simp] theorem qmust (n:Int) (K:Value → Prop):callK Tryd.prog G0 82 #[.bool true,.int .i64 n] K ↔ K (.tuple #[]) := callK_iff G0W (by kernel_rfl) (ret_of_retp (must_t n))
@[simp] theorem qsure (z:Int) (K:Value → Prop):callK Tryd.prog G0 83 #[Value.agg #[.int .u64 (wi (z) 0),.int .u64 (wi (z) 1),.int .u64 (wi (z) 2),.int .u64 (wi (z) 3)],.bool false] K ↔ K (wd z) := callK_iff G0W (by kernel_rfl) (ret_of_retp (sure_f z))
def wr (z:Int):Prop := -57896044618658097711785492504343953926634992332820282019728792003956564819968 ≤ z ∧ z < 57896044618658097711785492504343953926634992332820282019728792003956564819968
theorem wr_sz {z:Int} (h:wr z):sz z = z := sz_id h.1 h.2
theorem wr_ng {z:Int} (h:wr z):ng z = decide (z < 0) := by rw [ng_sz,wr_sz h]
theorem ng_f {z:Int} (h:wr z) (h0:0 ≤ z):ng z = false := by rw [wr_ng h]; simp; exact h0
theorem ng_t {z:Int} (h:wr z) (h0:z < 0):ng z = true := by rw [wr_ng h]; simp; exact h0
theorem least_ne (z:Int) (h:wr z) (h1:z ≠ -57896044618658097711785492504343953926634992332820282019728792003956564819968):(!wi z 0 == 0 || (!wi z 1 == 0 || (!wi z 2 == 0 || !wi z 3 == 9223372036854775808))) = true := by
 refine Classical.byContradiction fun hn => h1 ?_
 simp at hn
 obtain ⟨w0,w1,w2,w3⟩ := hn
 rw [← wr_sz h,sz_w,w0,w1,w2,w3]
 unfold ng; rw [w3]; decide
theorem wr_ne {z:Int} (h:wr z) (h0:z ≠ 0):(!wi z 0 == 0 || (!wi z 1 == 0 || (!wi z 2 == 0 || !wi z 3 == 0))) = true := words_ne z (by rw [wr_sz h]; exact h0)
theorem i64_1:i64 1 := by decide
def lst:Int := -57896044618658097711785492504343953926634992332820282019728792003956564819968

theorem floor_zero (a:Int):RetP Tryd.prog G0 72 #[wd a,wd 0] (.pan (erV 30)) := by
 refine retp_of G0F Tryd.func72 rfl Tryd.call72 (fun v h => by cases h) (by simp) (by simp [Tryd.ntmps72]) ?_
 intro C hC hC0 hY
 repeat' (first | refine gwA ?_ | ((first | refine gwR [1000082] ?_ | refine gwD [1000082] ?_); intro Q hQ hP; simp [hC,hY,wi_zero]; (repeat ((first | (refine callP_of (must_f 30) ?_)); try simp [hC,hY,wi_zero])); (first | refine hQ _ _ _ _ (by kernel_rfl) ?_ | refine hP _ _ (by kernel_rfl) fun _ => ?_); clear hQ hP Q) | (refine gwC ?_ ?_ <;> (intro hb; first | (cases hb; done) | skip)))
 rfl
set_option maxHeartbeats 2000000 in
theorem floor_pp (a b:Int) (ha:wr a) (hb:wr b) (h0:0 < b) (ha0:0 ≤ a):Ret Tryd.prog G0 72 #[wd a,wd b] (.tuple #[wd (a.fdiv b),wd (a.fmod b)]) := by
 refine ret_of G0F Tryd.func72 rfl Tryd.call72 (by simp) (by simp) (by simp [Tryd.ntmps72]) ?_
 intro C hC hC0 hY
 have hz := wr_ne hb (by omega)
 have hn1 := least_ne a ha (by omega)
 have hn2 := least_ne b hb (by omega)
 have s1:¬ cmpI (sz b) 0 < 0 := by rw [wr_sz hb]; unfold cmpI; split <;> (try split) <;> omega
 have s2:¬ cmpI (sz a) 0 < 0 := by rw [wr_sz ha]; unfold cmpI; split <;> (try split) <;> omega
 have hbu:b < 57896044618658097711785492504343953926634992332820282019728792003956564819968 := hb.2
 have hau:a < 57896044618658097711785492504343953926634992332820282019728792003956564819968 := ha.2
 have e1:a.fdiv b = a / b := Int.fdiv_eq_ediv_of_nonneg a (by omega)
 have e2:a.fmod b = a % b := Int.fmod_eq_emod_of_nonneg a (by omega)
 repeat' (first | refine gwA ?_ | ((first | refine gwR [] ?_ | refine gwD [] ?_); intro Q hQ hP; simp [hC,hY,hz,hn1,hn2,s1,s2,lsB,ha0,hau,h0,hbu]; (first | refine hQ _ _ _ _ (by kernel_rfl) ?_ | refine hP _ _ (by kernel_rfl) fun _ => ?_); clear hQ hP Q) | (refine gwC ?_ ?_ <;> (intro hb; first | (cases hb; done) | skip)))
 refine ⟨.inr trivial,?_⟩
 simp [Tryd.results72,e1,e2]
theorem neg_fdiv (m b:Int) (hb:0 < b):(-(m + 1)).fdiv b = -(m / b) - 1 ∧ (-(m + 1)).fmod b = b - 1 - m % b := by
 have h1 := Int.emod_add_mul_ediv m b
 have h2 := Int.emod_nonneg m (b := b) (by omega)
 have h3 := Int.emod_lt_of_pos m hb
 have e:-(m + 1) = (b - 1 - m % b) + b * (-(m / b) - 1) := by rw [Int.mul_sub,Int.mul_neg]; omega
 rw [Int.fdiv_eq_ediv_of_nonneg _ (by omega),Int.fmod_eq_emod_of_nonneg _ (by omega)]
 constructor
 ·rw [e,Int.add_mul_ediv_left _ _ (by omega),Int.ediv_eq_zero_of_lt (by omega) (by omega)]; omega
 ·rw [e,Int.add_mul_emod_self_left,Int.emod_eq_of_lt (by omega) (by omega)]
set_option maxHeartbeats 2000000 in
theorem floor_np (m b:Int) (ha:wr (-(m + 1))) (hal:-(m + 1) ≠ lst) (hb:wr b) (h0:0 < b) (hm0:0 ≤ m):Ret Tryd.prog G0 72 #[wd (-(m + 1)),wd b] (.tuple #[wd ((-(m + 1)).fdiv b),wd ((-(m + 1)).fmod b)]) := by
 refine ret_of G0F Tryd.func72 rfl Tryd.call72 (by simp) (by simp) (by simp [Tryd.ntmps72]) ?_
 intro C hC hC0 hY
 obtain ⟨d1,d2⟩ := neg_fdiv m b h0
 rw [d1,d2]
 generalize ea:-(m + 1) = a at *
 have hz := wr_ne hb (by omega)
 have hn1 := least_ne a ha hal
 have hn2 := least_ne b hb (by omega)
 have s1:¬ cmpI (sz b) 0 < 0 := by rw [wr_sz hb]; unfold cmpI; split <;> (try split) <;> omega
 have s2:cmpI (sz a) 0 < 0 := by rw [wr_sz ha]; unfold cmpI; split <;> (try split) <;> omega
 have hbu:b < 57896044618658097711785492504343953926634992332820282019728792003956564819968 := hb.2
 have hmu:m < 57896044618658097711785492504343953926634992332820282019728792003956564819968 := by have := ha.1; unfold lst at hal; omega
 have hq0:0 ≤ m / b := Int.ediv_nonneg hm0 (by omega)
 have hq1:m / b ≤ m := Int.ediv_le_self b hm0
 have hr0:0 ≤ m % b := Int.emod_nonneg m (by omega)
 have hr1:m % b < b := Int.emod_lt_of_pos m h0
 have em:-(a + 1) = m := by omega
 have f1:(ng a == ng 1 && ng (a + 1) != ng a) = false := by
  rw [ng_t ha (by omega),ng_f (z := 1) (by unfold wr; omega) (by omega)]; rfl
 have f2:(ng (a + 1) && ng m) = false := by rw [ng_f (z := m) (by unfold wr; omega) hm0]; simp
 have f3:(ng (m / b) && ng (-(m / b))) = false := by rw [ng_f (z := m / b) (by unfold wr; omega) hq0]; simp
 have f4:(ng (-(m / b)) != ng 1 && ng (-(m / b) - 1) != ng (-(m / b))) = false := by
  rw [ng_f (z := 1) (by unfold wr; omega) (by omega),ng_t (z := -(m / b) - 1) (by unfold wr; omega) (by omega)]
  cases ng (-(m / b)) <;> rfl
 have f5:(ng b != ng 1 && ng (b - 1) != ng b) = false := by
  rw [ng_f hb (by omega),ng_f (z := 1) (by unfold wr; omega) (by omega)]; rfl
 have f6:(ng (b - 1) != ng (m % b) && ng (b - 1 - m % b) != ng (b - 1)) = false := by
  rw [ng_f (z := b - 1) (by unfold wr; have := hb.2; omega) (by omega),ng_f (z := m % b) (by unfold wr; omega) hr0]; rfl
 have i1 := i64_1
 repeat' (first | refine gwA ?_ | ((first | refine gwR [] ?_ | refine gwD [] ?_); intro Q hQ hP; simp [hC,hY,hz,hn1,hn2,s1,s2,lsB,h0,hbu,hm0,hmu,em,f1,f2,f3,f4,f5,f6,i1]; (first | refine hQ _ _ _ _ (by kernel_rfl) ?_ | refine hP _ _ (by kernel_rfl) fun _ => ?_); clear hQ hP Q) | (refine gwC ?_ ?_ <;> (intro hb; first | (cases hb; done) | skip)))
 refine ⟨.inr trivial,?_⟩
 simp [Tryd.results72]
theorem upd_far {α:Type} {f:Nat → α} {x k:Nat} {v:α} (h:k < x):upd f x v k = f k := upd_other f v (by omega)
theorem floor_ret (a b:Int) (ha:wr a) (hal:a ≠ lst) (hb:wr b) (h0:0 < b):Ret Tryd.prog G0 72 #[wd a,wd b] (.tuple #[wd (a / b),wd (a % b)]) := by
 rw [← Int.fdiv_eq_ediv_of_nonneg a (Int.le_of_lt h0),← Int.fmod_eq_emod_of_nonneg a (Int.le_of_lt h0)]
 by_cases ha0:0 ≤ a
 ·exact floor_pp a b ha hb h0 ha0
 ·obtain ⟨m,rfl⟩:∃ m,a = -(m + 1) := ⟨-a - 1,by omega⟩
  exact floor_np m b ha hal hb h0 (by omega)
@[simp] theorem qfloor (a b:Int) (ha:wr a) (hal:a ≠ lst) (hb:wr b) (h0:0 < b) (K:Value → Prop):callK Tryd.prog G0 72 #[Value.agg #[.int .u64 (wi (a) 0),.int .u64 (wi (a) 1),.int .u64 (wi (a) 2),.int .u64 (wi (a) 3)],Value.agg #[.int .u64 (wi (b) 0),.int .u64 (wi (b) 1),.int .u64 (wi (b) 2),.int .u64 (wi (b) 3)]] K ↔ K (.tuple #[wd (a / b),wd (a % b)]) :=
 callK_iff G0W (by kernel_rfl) (floor_ret a b ha hal hb h0)
def hp2 (a b:Int):Hp := hpL G0 [(200,wb a),(208,wb b)]
theorem hp2_rst (a b:Int):rst (hp2 a b) [200,208] = hp2 a b := hpL_rst G0F (by simp)
theorem hp2_closed (a b:Int) (D:Nat → Prop) (k:Nat) (c:Blk) (h:hp2 a b k = some c):c.ids D := by
 rcases hpL_mem h with h | h
 ·simp at h
  rcases h with ⟨_,rfl⟩ | ⟨_,rfl⟩ <;> simp [wb]
 ·exact G0_closed _ _ _ h
theorem hp2_free (a b:Int) (x:Nat) (hx:300 ≤ x):hp2 a b x = none := by
 simp [hp2,show ¬ x = 200 by omega,show ¬ x = 208 by omega,show 100 ≤ x by omega]
theorem Floor1_fun (a b:Int) (ha:wr a) (hal:a ≠ lst) (hb:wr b) (h0:0 < b):Fun Tryd.prog G0 71 [.pointer (some ⟨200,0,none⟩),.pointer (some ⟨208,0,none⟩)].toArray (hp2 a b) [200,208] (.ret (wd (a / b)) []) := by
 refine fun_of (B := 300) G0F (fun k hk => hpL_low (by simp) hk) Tryd.func71 rfl Tryd.call71 ?_ ?_ ⟨flatV_ids (by simp),by simp [keys],by simp,by simp⟩ (by simp [Tryd.ntmps71]) (by omega) ?_ ?_
 ·rw [hp2_rst]; simp [hp2,dom]
 ·rw [hp2_rst]; exact hp2_closed a b _
 ·rw [hp2_rst]; exact hp2_free a b
 ·intro C hC hC0 hY
  rw [hp2_rst] at hC0 ⊢
  repeat' (first | refine gwA ?_ | ((first | refine gwR [] ?_ | refine gwD [] ?_); intro Q hQ hP; simp [hC,hY,hp2,wb,ha,hal,hb,h0]; (first | refine hQ _ _ _ _ (by kernel_rfl) ?_ | refine hP _ _ (by kernel_rfl) fun _ => ?_); clear hQ hP Q) | (refine gwC ?_ ?_ <;> (intro hb; first | (cases hb; done) | skip)))
  refine ⟨.inr rfl,by simp [Tryd.results71],fun k hk => ?_⟩
  have hk3:k < 300 := Classical.byContradiction fun h => hk (hp2_free a b k (by omega))
  simp (disch := omega) only [upd_far]
  rfl
theorem qFloor_ret (a b:Int) (ha:wr a) (hal:a ≠ lst) (hb:wr b) (h0:0 < b):Ret Tryd.prog G0 55 #[wd a,wd b] (.tuple #[wd (a / b),.int .i64 0]) := by
 refine ret_of G0F Tryd.func55 rfl Tryd.call55 (by simp) (by simp) (by simp [Tryd.ntmps55]) ?_
 intro C hC hC0 hY
 repeat' (first | refine gwA ?_ | ((first | refine gwR [70] ?_ | refine gwD [70] ?_); intro Q hQ hP; simp [hC,hY]; (repeat ((first | (refine heapK_of (hp' := hp2 a b) (qtold_ret (fun k hk => hpL_low (by simp) hk) (by simp) rfl (by simp) (Floor1_fun a b ha hal hb h0)) (by simp [hp2,wb]) (fun k hk => hpL_low (by simp) hk) trivial ?_)); try simp [hC,hY])); (first | refine hQ _ _ _ _ (by kernel_rfl) ?_ | refine hP _ _ (by kernel_rfl) fun _ => ?_); clear hQ hP Q) | (refine gwC ?_ ?_ <;> (intro hb; first | (cases hb; done) | skip)))
 refine ⟨.inr trivial,?_⟩
 simp [Tryd.results55]
@[simp] theorem qFloor (a b:Int) (ha:wr a) (hal:a ≠ lst) (hb:wr b) (h0:0 < b) (K:Value → Prop):callK Tryd.prog G0 55 #[Value.agg #[.int .u64 (wi (a) 0),.int .u64 (wi (a) 1),.int .u64 (wi (a) 2),.int .u64 (wi (a) 3)],Value.agg #[.int .u64 (wi (b) 0),.int .u64 (wi (b) 1),.int .u64 (wi (b) 2),.int .u64 (wi (b) 3)]] K ↔ K (.tuple #[wd (a / b),.int .i64 0]) :=
 callK_iff G0W (by kernel_rfl) (qFloor_ret a b ha hal hb h0)
theorem rmust_t (n:Int):RetP Tryd.prog G0 59 #[.bool true,.int .i64 n] (.ret (.tuple #[])) := by
 refine retp_of G0F Tryd.func59 rfl Tryd.call59 (fun v h => by cases h; simp) (by simp) (by simp [Tryd.ntmps59]) ?_
 intro C hC hC0 hY
 repeat' (first | refine gwA ?_ | ((first | refine gwR [] ?_ | refine gwD [] ?_); intro Q hQ hP; simp [hC,hY]; (first | refine hQ _ _ _ _ (by kernel_rfl) ?_ | refine hP _ _ (by kernel_rfl) fun _ => ?_); clear hQ hP Q) | (refine gwC ?_ ?_ <;> (intro hb; first | (cases hb; done) | skip)))
 exact ⟨.inl trivial,by simp [Tryd.results59]⟩
theorem rmust_f (n:Int):RetP Tryd.prog G0 59 #[.bool false,.int .i64 n] (.pan (erV n)) := by
 refine retp_of G0F Tryd.func59 rfl Tryd.call59 (fun v h => by cases h) (by simp) (by simp [Tryd.ntmps59]) ?_
 intro C hC hC0 hY
 repeat' (first | refine gwA ?_ | ((first | refine gwR [] ?_ | refine gwD [] ?_); intro Q hQ hP; simp [hC,hY]; (first | refine hQ _ _ _ _ (by kernel_rfl) ?_ | refine hP _ _ (by kernel_rfl) fun _ => ?_); clear hQ hP Q) | (refine gwC ?_ ?_ <;> (intro hb; first | (cases hb; done) | skip)))
 rfl
@[simp] theorem rmust (n:Int) (K:Value → Prop):callK Tryd.prog G0 59 #[.bool true,.int .i64 n] K ↔ K (.tuple #[]) := callK_iff G0W (by kernel_rfl) (ret_of_retp (rmust_t n))
theorem most_ret (z:Int):Ret Tryd.prog G0 95 #[wd z] (.int .i64 (nbits (uz z) / 2)) := by
 refine ret_of G0F Tryd.func95 rfl Tryd.call95 rfl (by simp) (by simp [Tryd.ntmps95]) ?_
 intro C hC hC0 hY
 have b0 := nb_word z 0
 have b1 := nb_word z 1
 have b2 := nb_word z 2
 have b3 := nb_word z 3
 have k3 := size_3 z
 have k2 := size_2 z
 have k1 := size_1 z
 have k0 := size_0 z
 have m3:Int.bmod (192 + nbits (wi z 3)) 18446744073709551616 = 192 + nbits (wi z 3) := bm (by omega) (by omega)
 have m2:Int.bmod (128 + nbits (wi z 2)) 18446744073709551616 = 128 + nbits (wi z 2) := bm (by omega) (by omega)
 have m1:Int.bmod (64 + nbits (wi z 1)) 18446744073709551616 = 64 + nbits (wi z 1) := bm (by omega) (by omega)
 have t3:(192 + nbits (wi z 3)).tdiv 2 = (192 + nbits (wi z 3)) / 2 := Int.tdiv_eq_ediv_of_nonneg (by omega)
 have t2:(128 + nbits (wi z 2)).tdiv 2 = (128 + nbits (wi z 2)) / 2 := Int.tdiv_eq_ediv_of_nonneg (by omega)
 have t1:(64 + nbits (wi z 1)).tdiv 2 = (64 + nbits (wi z 1)) / 2 := Int.tdiv_eq_ediv_of_nonneg (by omega)
 have t0:(nbits (wi z 0)).tdiv 2 = nbits (wi z 0) / 2 := Int.tdiv_eq_ediv_of_nonneg (by omega)
 have u3:Int.bmod ((192 + nbits (wi z 3)) / 2) 18446744073709551616 = (192 + nbits (wi z 3)) / 2 := bm (by omega) (by omega)
 have u2:Int.bmod ((128 + nbits (wi z 2)) / 2) 18446744073709551616 = (128 + nbits (wi z 2)) / 2 := bm (by omega) (by omega)
 have u1:Int.bmod ((64 + nbits (wi z 1)) / 2) 18446744073709551616 = (64 + nbits (wi z 1)) / 2 := bm (by omega) (by omega)
 have u0:Int.bmod (nbits (wi z 0) / 2) 18446744073709551616 = nbits (wi z 0) / 2 := bm (by omega) (by omega)
 repeat' (first | refine GWL_start ?_ | refine GWL_step ?_ | refine gwA ?_ | ((first | refine gwR [] ?_ | refine gwD [] ?_); intro Q hQ hP; simp [hC,hY,wi_ge,wi_lt,m1,m2,m3,t0,t1,t2,t3,u0,u1,u2,u3]; (first | refine hQ _ _ _ _ (by kernel_rfl) ?_ | refine hP _ _ (by kernel_rfl) fun _ => ?_); clear hQ hP Q) | (refine gwC ?_ ?_ <;> (intro hb; first | (cases hb; done) | skip)))
 all_goals
  refine ⟨.inr trivial,?_⟩
  simp [Tryd.results95]
  simp_all
@[simp] theorem rmost (z:Int) (K:Value → Prop):callK Tryd.prog G0 95 #[Value.agg #[.int .u64 (wi (z) 0),.int .u64 (wi (z) 1),.int .u64 (wi (z) 2),.int .u64 (wi (z) 3)]] K ↔ K (.int .i64 (nbits (uz z) / 2)) := callK_iff G0W (by kernel_rfl) (most_ret z)
theorem all_new (a:Int) (k:Nat) (h100:100 ≤ k):Fun Tryd.prog G0 88 #[wd a] G0 [] (.new (.func (.func 94) #[] #[.pointer (some ⟨k,0,none⟩)]) [(k,wb a)]) := by
 have e0:rst G0 [] = G0 := rst_G G0F []
 refine new_of (B := 200) (fun j => if j = k then 200 else j) G0F (fun _ _ => rfl) Tryd.func88 rfl Tryd.call88 (by simp [idsV,idsA,idsF,ids0]) (by rw [e0]; exact G0_closed _) ?_ (by simp [Tryd.ntmps88]) (by omega) (by rw [e0]; exact fun x hx => G0_big x (by omega)) (fun j hj => ?_) ?_ ?_ ?_ ?_
 ·refine ⟨by simp [idsV,idsA,idsF,ids0,extD,keys],by simp [keys]; omega,fun q b c h1 h2 => ?_⟩
  simp at h1 h2
  rw [h1.2,h2.2]
 ·rw [e0] at hj; have := G0_dom hj; rw [if_neg (by omega)]
 ·simp [e0,dom]
 ·simp
 ·simp [wb,ids_lit,idsF,ids0]
 ·intro C hC hC0 hY
  rw [e0]
  repeat' (first | refine gwA ?_ | ((first | refine gwR [] ?_ | refine gwD [] ?_); intro Q hQ hP; simp [hC,hY]; (first | refine hQ _ _ _ _ (by kernel_rfl) ?_ | refine hP _ _ (by kernel_rfl) fun _ => ?_); clear hQ hP Q) | (refine gwC ?_ ?_ <;> (intro hb; first | (cases hb; done) | skip)))
  refine ⟨.inr trivial,?_⟩
  simp [Tryd.results88,ren,renA,renF,ren0,wb]
  intro j hj hj2
  have := G0_dom hj
  omega
theorem wi_pow (t r j:Nat) (hr:r < 64):wi (2 ^ (64 * t + r)) j = if j = t then 2 ^ r else 0 := by
 by_cases h:j = t
 ·subst h
  rw [if_pos rfl]
  unfold wi
  rw [Int.pow_add,Int.mul_ediv_cancel_left _ (by have := pow_pos2 (64 * j); omega)]
  exact Int.emod_eq_of_lt (Int.le_of_lt (pow_pos2 _)) (by
   have:(2:Int) ^ r < 2 ^ 64 := by exact_mod_cast Nat.pow_lt_pow_right (by omega) hr
   exact this)
 ·rw [if_neg h]
  have := wi_other 0 t r j hr h
  simp only [Int.zero_mul,Int.zero_add] at this
  rw [this,wi_zero]
theorem set_bit (t r:Nat) (ht:t < 4) (hr:r < 64):(#[.int .u64 0,.int .u64 0,.int .u64 0,.int .u64 0]:Array Value).setIfInBounds t (.int .u64 (2 ^ r)) = #[.int .u64 (wi (2 ^ (64 * t + r)) 0),.int .u64 (wi (2 ^ (64 * t + r)) 1),.int .u64 (wi (2 ^ (64 * t + r)) 2),.int .u64 (wi (2 ^ (64 * t + r)) 3)] := by
 simp only [wi_pow _ _ _ hr]
 have:t = 0 ∨ t = 1 ∨ t = 2 ∨ t = 3 := by omega
 rcases this with rfl | rfl | rfl | rfl <;> simp
def allXs (M:Int):List (Array Value) := (List.range (M + 1).toNat).map fun (i:Nat) => #[wd (2 ^ (M - (i:Int)).toNat)]
theorem allXs_len (M:Int):(allXs M).length = (M + 1).toNat := by simp [allXs]
theorem allXs_at (M:Int) (i:Nat) (h:i < (M + 1).toNat):(allXs M)[i]? = some #[wd (2 ^ (M - (i:Int)).toNat)] := by simp [allXs,h]
def aHp (a:Int):Hp := hpL G0 [(100,wb a)]
def allSt (a M:Int) (l i:Nat):GS :=
 ⟨tsL [(0,.func (.yield l) #[] #[]),(1,.pointer (some ⟨100,0,none⟩)),(3,.int .i64 (M - i))],aHp a,300,i⟩
theorem all_it (a:Int):IterG Tryd.prog G0 94 #[.pointer (some ⟨100,0,none⟩)] (aHp a) [100] (allXs (nbits (uz a) / 2)) := by
 have e0:rst (aHp a) [100] = aHp a := hpL_rst G0F (by simp)
 refine iter_of (B := 200) (v := .tuple #[]) G0F (fun k hk => hpL_low (by simp) hk) Tryd.func94 rfl Tryd.call94 ?_ ?_ (by simp [Tryd.ntmps94]) (by omega) ?_ ?_
 ·rw [e0]; simp [idsV,idsA,idsF,ids0,dom,aHp]
 ·rw [e0]
  intro k c hk
  rcases hpL_mem hk with h | h
  ·simp at h
   rcases h with ⟨_,rfl⟩
   simp [wb,ids_lit,idsF,ids0]
  ·exact G0_closed _ _ _ h
 ·rw [e0]
  intro x hx
  simp [aHp,show ¬ x = 100 by omega,show 100 ≤ x by omega]
 ·intro C l stop hC hC0 hY
  rw [e0] at hC0 ⊢
  have hnb := nbits_bd 256 (uz_bd a).2
  have hM:0 ≤ nbits (uz a) / 2 ∧ nbits (uz a) / 2 ≤ 128 := by omega
  have hlen := allXs_len (nbits (uz a) / 2)
  repeat' (first | refine gwA ?_ | ((first | refine gwR [] ?_ | refine gwD [] ?_); intro Q hQ hP; simp [hC,hY,aHp,wb]; (first | refine hQ _ _ _ _ (by kernel_rfl) ?_ | refine hP _ _ (by kernel_rfl) fun _ => ?_); clear hQ hP Q) | (refine gwC ?_ ?_ <;> (intro hb; first | (cases hb; done) | skip)))
  generalize hMe:nbits (uz a) / 2 = M at *
  generalize hxs:allXs M = xs at *
  refine GW_for (min stop xs.length) (allSt a M l) ?_ ?_ ?_
  ·refine weakL _ 300 hC G0F (m := [(100,wb a)]) (m0 := [(100,wb a)]) hC0 (by omega) ?_ ?_ ?_
   ·simp [dom]
   ·simp [wb]
   ·simp [wb]
  ·intro i hi
   have hs:i < stop := by omega
   have hq:(i != stop) = true := by simp; omega
   have hle:i ≤ stop := by omega
   obtain ⟨n,hn⟩:∃ n:Nat,M - (i:Int) = n := ⟨(M - i).toNat,by omega⟩
   have g1:(i:Int) ≤ M := by omega
   have hx:xs[i]? = some #[wd (2 ^ n)] := by
    rw [← hxs,allXs_at M i (by omega),hn]; rfl
   simp only [wd_eq] at hx
   have g4:Int.bmod ((n:Int) - 1) 18446744073709551616 = M - ((i + 1:Nat):Int) := by rw [bm (by omega) (by omega)]; omega
   obtain ⟨t,r,hr,hn'⟩:∃ t r,r < 64 ∧ n = 64 * t + r := ⟨n / 64,n % 64,by omega,by omega⟩
   have tq:((n:Int)).tdiv 64 = t := by rw [Int.tdiv_eq_ediv_of_nonneg (by omega)]; omega
   have tm:((n:Int)).tmod 64 = r := by rw [Int.tmod_eq_emod_of_nonneg (by omega)]; omega
   have t4:t < 4 := by omega
   have t4':(t:Int) < 4 := by omega
   have t0:(0:Int) ≤ t := by omega
   have tb:Int.bmod (t:Int) 18446744073709551616 = t := bm (by omega) (by omega)
   have t3:t ≤ 3 := Nat.le_of_lt_succ t4
   have m1:min r 64 = r := by omega
   have m2:(2:Int) ^ r % 18446744073709551616 = 2 ^ r := Int.emod_eq_of_lt (Int.le_of_lt (pow_pos2 _)) (by
    have:(2:Int) ^ r < 2 ^ 64 := by exact_mod_cast Nat.pow_lt_pow_right (by omega) hr
    exact this)
   have hset := set_bit t r t4 hr
   rw [← hn'] at hset
   unfold allSt
   repeat' (first | refine gwA ?_ | ((first | refine gwR [] ?_ | refine gwD [] ?_); intro Q hQ hP; simp [hC,hY,aHp,wb,hs,hq,hle,hn,g1,g4,hx,tq,tm,t4,t4',t0,tb,t3,m1,m2,hset]; (first | refine hQ _ _ _ _ (by kernel_rfl) ?_ | refine hP _ _ (by kernel_rfl) fun _ => ?_); clear hQ hP Q) | (refine gwC ?_ ?_ <;> (intro hb; first | (cases hb; done) | skip)))
   refine weakL _ 300 hC G0F (m := [(100,wb a)]) (m0 := [(100,wb a)]) hC0 (by omega) ?_ ?_ ?_
   ·simp [dom]
   ·simp [wb]
   ·simp [wb]
  ·by_cases h4:xs.length ≤ stop
   ·rw [Nat.min_eq_right h4]
    have g1:¬ ((xs.length:Int) ≤ M) := by omega
    unfold allSt
    repeat' (first | refine gwA ?_ | ((first | refine gwR [] ?_ | refine gwD [] ?_); intro Q hQ hP; simp [hC,hY,aHp,wb,g1]; (first | refine hQ _ _ _ _ (by kernel_rfl) ?_ | refine hP _ _ (by kernel_rfl) fun _ => ?_); clear hQ hP Q) | (refine gwC ?_ ?_ <;> (intro hb; first | (cases hb; done) | skip)))
    refine ⟨.inl trivial,by simp [Tryd.results94],?_⟩
    show xs.length = _
    omega
   ·rw [Nat.min_eq_left (by omega)]
    obtain ⟨n,hn⟩:∃ n:Nat,M - (stop:Int) = n := ⟨(M - stop).toNat,by omega⟩
    have g1:(stop:Int) ≤ M := by omega
    have hx:xs[stop]? = some #[wd (2 ^ n)] := by
     rw [← hxs,allXs_at M stop (by omega),hn]; rfl
    simp only [wd_eq] at hx
    obtain ⟨t,r,hr,hn'⟩:∃ t r,r < 64 ∧ n = 64 * t + r := ⟨n / 64,n % 64,by omega,by omega⟩
    have tq:((n:Int)).tdiv 64 = t := by rw [Int.tdiv_eq_ediv_of_nonneg (by omega)]; omega
    have tm:((n:Int)).tmod 64 = r := by rw [Int.tmod_eq_emod_of_nonneg (by omega)]; omega
    have t4:t < 4 := by omega
    have t4':(t:Int) < 4 := by omega
    have t0:(0:Int) ≤ t := by omega
    have tb:Int.bmod (t:Int) 18446744073709551616 = t := bm (by omega) (by omega)
    have t3:t ≤ 3 := Nat.le_of_lt_succ t4
    have m1:min r 64 = r := by omega
    have m2:(2:Int) ^ r % 18446744073709551616 = 2 ^ r := Int.emod_eq_of_lt (Int.le_of_lt (pow_pos2 _)) (by
     have:(2:Int) ^ r < 2 ^ 64 := by exact_mod_cast Nat.pow_lt_pow_right (by omega) hr
     exact this)
    have hset := set_bit t r t4 hr
    rw [← hn'] at hset
    unfold allSt
    repeat' (first | refine gwA ?_ | ((first | refine gwR [] ?_ | refine gwD [] ?_); intro Q hQ hP; simp [hC,hY,aHp,wb,hn,g1,hx,tq,tm,t4,t4',t0,tb,t3,m1,m2,hset]; (first | refine hQ _ _ _ _ (by kernel_rfl) ?_ | refine hP _ _ (by kernel_rfl) fun _ => ?_); clear hQ hP Q) | (refine gwC ?_ ?_ <;> (intro hb; first | (cases hb; done) | skip)))
    refine ⟨.inr trivial,by simp [Tryd.results94],?_⟩
    show stop + 1 = _
    omega
def rp (a:Int) (K:Nat):Nat → Int
 | 0 => 0
 | i + 1 => if (rp a K i + 2 ^ (K - 1 - i)) * (rp a K i + 2 ^ (K - 1 - i)) ≤ a then rp a K i + 2 ^ (K - 1 - i) else rp a K i
theorem rp_inv (a:Int) (K:Nat) (h0:0 ≤ a) (h:a < 2 ^ K * 2 ^ K):∀ i,i ≤ K → 0 ≤ rp a K i ∧ rp a K i * rp a K i ≤ a ∧ a < (rp a K i + 2 ^ (K - i)) * (rp a K i + 2 ^ (K - i))
 | 0,_ => by simp [rp]; exact ⟨h0,h⟩
 | i + 1,hi => by
  obtain ⟨h1,h2,h3⟩ := rp_inv a K h0 h i (by omega)
  have e1:K - i = (K - 1 - i) + 1 := by omega
  have e2:K - (i + 1) = K - 1 - i := by omega
  rw [e1,Int.pow_succ] at h3
  rw [e2]
  have hp := pow_pos2 (K - 1 - i)
  unfold rp
  split
  ·rename_i hc
   refine ⟨by omega,hc,?_⟩
   rw [Int.add_assoc,show (2:Int) ^ (K - 1 - i) + 2 ^ (K - 1 - i) = 2 ^ (K - 1 - i) * 2 by omega]
   exact h3
  ·rename_i hc
   exact ⟨h1,h2,by omega⟩
def isq (a:Int):Int := rp a (nbits a / 2 + 1).toNat (nbits a / 2 + 1).toNat
theorem isq_bits (a:Int) (h0:0 ≤ a):a < 2 ^ (nbits a / 2 + 1).toNat * 2 ^ (nbits a / 2 + 1).toNat := by
 rw [← Int.pow_add]
 by_cases h:a = 0
 ·subst h; exact pow_pos2 _
 ·obtain ⟨k,hk,k1,k2⟩ := nbits_pos (x := a) (by omega)
  refine Int.lt_of_lt_of_le k2 ?_
  rw [hk]
  exact_mod_cast Nat.pow_le_pow_right (by omega) (by omega)
theorem isq_spec (a:Int) (h0:0 ≤ a):0 ≤ isq a ∧ isq a * isq a ≤ a ∧ a < (isq a + 1) * (isq a + 1) := by
 have := rp_inv a (nbits a / 2 + 1).toNat h0 (isq_bits a h0) (nbits a / 2 + 1).toNat (Nat.le_refl _)
 simpa [isq] using this
theorem sq_lt {x y:Int} (hx:0 ≤ x) (hy:0 ≤ y) (h:x * x < y * y):x < y := by
 refine Classical.byContradiction fun hn => ?_
 have:y * y ≤ x * x := Int.mul_le_mul (by omega) (by omega) hy hx
 omega
theorem isq_unique {a r:Int} (h0:0 ≤ r) (h1:r * r ≤ a) (h2:a < (r + 1) * (r + 1)):isq a = r := by
 have ha:0 ≤ a := Int.le_trans (Int.mul_nonneg h0 h0) h1
 obtain ⟨s0,s1,s2⟩ := isq_spec a ha
 have h3 := sq_lt (x := isq a) (y := r + 1) s0 (by omega) (by omega)
 have h4 := sq_lt (x := r) (y := isq a + 1) h0 (by omega) (by omega)
 omega
theorem sq_bd {x:Int} (B:Int) (hx:0 ≤ x) (hB:0 ≤ B) (h:x * x < B * B):x < B := sq_lt hx hB h
def rfHp (a r:Int):Hp := hpL G0 [(200,wb a),(208,wb r)]
def rfTs:Nat → Value := tsL [(1,.pointer (some ⟨200,0,none⟩)),(2,.pointer (some ⟨208,0,none⟩))]
theorem rfloor_neg (a:Int) (ha:wr a) (h0:a < 0):RetP Tryd.prog G0 75 #[wd a] (.pan (erV 2)) := by
 refine retp_of G0F Tryd.func75 rfl Tryd.call75 (fun v h => by cases h) (by simp) (by simp [Tryd.ntmps75]) ?_
 intro C hC hC0 hY
 have s1:¬ 0 ≤ cmpI (sz a) 0 := by rw [wr_sz ha]; unfold cmpI; split <;> (try split) <;> omega
 repeat' (first | refine gwA ?_ | ((first | refine gwR [1000059] ?_ | refine gwD [1000059] ?_); intro Q hQ hP; simp [hC,hY,s1]; (repeat ((first | (refine callP_of (rmust_f 2) ?_)); try simp [hC,hY,s1])); (first | refine hQ _ _ _ _ (by kernel_rfl) ?_ | refine hP _ _ (by kernel_rfl) fun _ => ?_); clear hQ hP Q) | (refine gwC ?_ ?_ <;> (intro hb; first | (cases hb; done) | skip)))
 rfl
set_option maxHeartbeats 1000000 in
theorem rfloor_ret (a:Int) (ha:wr a) (h0:0 ≤ a):Ret Tryd.prog G0 75 #[wd a] (wd (isq a)) := by
 refine ret_of G0F Tryd.func75 rfl Tryd.call75 (by simp) (by simp) (by simp [Tryd.ntmps75]) ?_
 intro C hC hC0 hY
 have s1:0 ≤ cmpI (sz a) 0 := by rw [wr_sz ha]; unfold cmpI; split <;> (try split) <;> omega
 have hnb := nbits_bd 255 ha.2
 have hit := all_it a
 have eu:uz a = a := by unfold uz; have := ha.2; omega
 rw [eu] at hit
 have hinv := rp_inv a (nbits a / 2 + 1).toNat h0 (isq_bits a h0)
 have hisq:isq a = rp a (nbits a / 2 + 1).toNat (nbits a / 2 + 1).toNat := rfl
 have hM:0 ≤ nbits a / 2 ∧ nbits a / 2 ≤ 127 := by omega
 generalize nbits a / 2 = M at *
 repeat' (first | refine gwA ?_ | ((first | refine gwR [] ?_ | refine gwD [] ?_); intro Q hQ hP; simp [hC,hY,s1]; (first | refine hQ _ _ _ _ (by kernel_rfl) ?_ | refine hP _ _ (by kernel_rfl) fun _ => ?_); clear hQ hP Q) | (refine gwC ?_ ?_ <;> (intro hb; first | (cases hb; done) | skip)))
 refine GW_region' [88] (by kernel_rfl) ?_; intro Q hQ hP; simp [hC,hY]
 refine heapK_of (all_new a 256 (by omega)) (by simp) (fun _ _ => rfl) (by simp [Res.at]) ?_
 simp
 refine hQ _ _ _ _ ?_; clear hQ hP Q
 repeat' (first | refine gwA ?_ | ((first | refine gwR [] ?_ | refine gwD [] ?_); intro Q hQ hP; simp [hC,hY]; (first | refine hQ _ _ _ _ (by kernel_rfl) ?_ | refine hP _ _ (by kernel_rfl) fun _ => ?_); clear hQ hP Q) | (refine gwC ?_ ?_ <;> (intro hb; first | (cases hb; done) | skip)))
 generalize hK:(M + 1).toNat = K at *
 refine GW_range (f := 94) (rs := [256]) (xs := allXs M) (caps := #[.pointer (some ⟨256,0,none⟩)]) (by simp) ?_ ?_ (by simp [Tryd.ntmps75]) rfTs (fun i => rfHp a (rp a K i)) 300 K (by rw [allXs_len]; omega) ?_ ?_ ?_ ?_ ?_
 ·rw [hC]
  refine IterG.cast (IterX.rn (fun k => if k = 100 then 256 else k) G0F (fun k hk => hpL_low (by simp) hk) (rs := [100]) ?_ hit) (by simp [ren0]) (by simp)
  refine ⟨fun k hk => ?_,?_,?_,?_⟩
  ·simp [aHp,show ¬ k = 100 by omega,show ¬ k = 200 by omega,show ¬ k = 208 by omega,show ¬ k = 256 by omega]
  ·simp
  ·simp [aHp,wb,Blk.rn,renF,ren0]
  ·simp
 ·intro x hx
  simp only [allXs,List.mem_map] at hx
  obtain ⟨i,_,rfl⟩ := hx
  simp
 ·refine weakL _ 300 hC G0F (m0 := []) hC0 (by omega) ?_ ?_ ?_
  ·simp [dom]
  ·simp [wb,rp,wi_zero]
  ·simp
 ·simp [rfHp,dom]
 ·intro i hi t
  refine tsL_ids ?_ t
  simp [dom,rfHp]
 ·intro i x hi hx C1 l hC1 hh1 hY1
  have hCC := hC
  have hC1':C1.G = G0 := hC1.trans hC
  obtain ⟨n,hn⟩:∃ n:Nat,M - (i:Int) = n := ⟨(M - i).toNat,by omega⟩
  rw [allXs_at M i (by omega),hn] at hx
  cases hx
  obtain ⟨r0,r1,r2⟩ := hinv i (by omega)
  have en:K - 1 - i = n := by omega
  have hrs:rp a K (i + 1) = if (rp a K i + 2 ^ n) * (rp a K i + 2 ^ n) ≤ a then rp a K i + 2 ^ n else rp a K i := by
   rw [rp,en]
  generalize rp a K i = r at *
  have hau := ha.2
  have hr:r < 340282366920938463463374607431768211456 := sq_bd _ r0 (by decide) (by omega)
  have hn2:(2:Int) ^ n ≤ 2 ^ 127 := by exact_mod_cast Nat.pow_le_pow_right (by omega) (by omega:n ≤ 127)
  have hn0 := pow_pos2 n
  have t0:0 ≤ r + 2 ^ n := by omega
  have t1:r + 2 ^ n < 680564733841876926926749214863536422912 := by omega
  have szt:sz (r + 2 ^ n) = r + 2 ^ n := sz_pos t0 (Int.lt_trans t1 (by decide))
  have tt0:0 ≤ (r + 2 ^ n) * (r + 2 ^ n) := Int.mul_nonneg t0 t0
  have hmul:mulO (r + 2 ^ n) (r + 2 ^ n) = decide (¬ ((r + 2 ^ n) * (r + 2 ^ n) < 57896044618658097711785492504343953926634992332820282019728792003956564819968)) := by
   unfold mulO; rw [szt]; congr 1
   exact propext ⟨fun h1 h2 => h1 ⟨Int.le_trans (by decide) tt0,h2⟩,fun h1 h2 => h1 h2.2⟩
  have sza:sz a = a := wr_sz ha
  replace hC := hC1'
  replace hY := hY1
  simp only [hrs]
  generalize htt:(r + 2 ^ n) * (r + 2 ^ n) = T at *
  by_cases hov:T < 57896044618658097711785492504343953926634992332820282019728792003956564819968
  ·have hm:mulO (r + 2 ^ n) (r + 2 ^ n) = false := by rw [hmul]; simp [hov]
   have szT:sz T = T := sz_pos tt0 hov
   by_cases hle:T ≤ a
   ·have hcmp:cmpI (sz T) (sz a) ≤ 0 := by rw [szT,sza]; unfold cmpI; split <;> (try split) <;> omega
    rw [if_pos hle]
    unfold rfHp
    repeat' (first | refine gwA ?_ | ((first | refine gwR [] ?_ | refine gwD [] ?_); intro Q hQ hP; simp [hC,hY,roundTs,rfTs]; (first | refine hQ _ _ _ _ (by kernel_rfl) ?_ | refine hP _ _ (by kernel_rfl) fun _ => ?_); clear hQ hP Q) | (refine gwC ?_ ?_ <;> (intro hb; first | (cases hb; done) | skip)))
    intro C2 hC2 hh2 hY2
    replace hC:C2.G = G0 := hC2.trans hCC
    replace hY := hY2
    repeat' (first | refine gwA ?_ | ((first | refine gwR [] ?_ | refine gwD [] ?_); intro Q hQ hP; simp [hC,hY,roundTs,rfTs,wb,szt,htt,hm,hcmp]; (first | refine hQ _ _ _ _ (by kernel_rfl) ?_ | refine hP _ _ (by kernel_rfl) fun _ => ?_); clear hQ hP Q) | (refine gwC ?_ ?_ <;> (intro hb; first | (cases hb; done) | skip)))
    refine weakL [] 300 hC1' G0F hh1 (by omega) ?_ ?_ ?_
    ·simp
    ·simp [wb]
    ·simp [wb]
   ·have hcmp:¬ cmpI (sz T) (sz a) ≤ 0 := by rw [szT,sza]; unfold cmpI; split <;> (try split) <;> omega
    rw [if_neg hle]
    unfold rfHp
    repeat' (first | refine gwA ?_ | ((first | refine gwR [] ?_ | refine gwD [] ?_); intro Q hQ hP; simp [hC,hY,roundTs,rfTs]; (first | refine hQ _ _ _ _ (by kernel_rfl) ?_ | refine hP _ _ (by kernel_rfl) fun _ => ?_); clear hQ hP Q) | (refine gwC ?_ ?_ <;> (intro hb; first | (cases hb; done) | skip)))
    intro C2 hC2 hh2 hY2
    replace hC:C2.G = G0 := hC2.trans hCC
    replace hY := hY2
    repeat' (first | refine gwA ?_ | ((first | refine gwR [] ?_ | refine gwD [] ?_); intro Q hQ hP; simp [hC,hY,roundTs,rfTs,wb,szt,htt,hm,hcmp]; (first | refine hQ _ _ _ _ (by kernel_rfl) ?_ | refine hP _ _ (by kernel_rfl) fun _ => ?_); clear hQ hP Q) | (refine gwC ?_ ?_ <;> (intro hb; first | (cases hb; done) | skip)))
    refine weakL [] 300 hC1' G0F hh1 (by omega) ?_ ?_ ?_
    ·simp
    ·simp [wb]
    ·simp [wb]
  ·have hm:mulO (r + 2 ^ n) (r + 2 ^ n) = true := by rw [hmul]; simp only [hov,not_false_eq_true,decide_true]
   have hle:¬ T ≤ a := fun h => hov (Int.lt_of_le_of_lt h hau)
   rw [if_neg hle]
   unfold rfHp
   repeat' (first | refine gwA ?_ | ((first | refine gwR [] ?_ | refine gwD [] ?_); intro Q hQ hP; simp [hC,hY,roundTs,rfTs]; (first | refine hQ _ _ _ _ (by kernel_rfl) ?_ | refine hP _ _ (by kernel_rfl) fun _ => ?_); clear hQ hP Q) | (refine gwC ?_ ?_ <;> (intro hb; first | (cases hb; done) | skip)))
   intro C2 hC2 hh2 hY2
   replace hC:C2.G = G0 := hC2.trans hCC
   replace hY := hY2
   repeat' (first | refine gwA ?_ | ((first | refine gwR [] ?_ | refine gwD [] ?_); intro Q hQ hP; simp [hC,hY,roundTs,rfTs,wb,szt,htt,hm]; (first | refine hQ _ _ _ _ (by kernel_rfl) ?_ | refine hP _ _ (by kernel_rfl) fun _ => ?_); clear hQ hP Q) | (refine gwC ?_ ?_ <;> (intro hb; first | (cases hb; done) | skip)))
   refine weakL [] 300 hC1' G0F hh1 (by omega) ?_ ?_ ?_
   ·simp
   ·simp [wb]
   ·simp [wb]
 ·left
  refine ⟨by rw [allXs_len]; omega,?_⟩
  rw [← hisq]
  unfold rfHp rfTs
  repeat' (first | refine gwA ?_ | ((first | refine gwR [] ?_ | refine gwD [] ?_); intro Q hQ hP; simp [hC,hY,wb]; (first | refine hQ _ _ _ _ (by kernel_rfl) ?_ | refine hP _ _ (by kernel_rfl) fun _ => ?_); clear hQ hP Q) | (refine gwC ?_ ?_ <;> (intro hb; first | (cases hb; done) | skip)))
  refine ⟨.inr trivial,?_⟩
  simp [Tryd.results75]
@[simp] theorem rfloor (a:Int) (ha:wr a) (h0:0 ≤ a) (K:Value → Prop):callK Tryd.prog G0 75 #[Value.agg #[.int .u64 (wi (a) 0),.int .u64 (wi (a) 1),.int .u64 (wi (a) 2),.int .u64 (wi (a) 3)]] K ↔ K (wd (isq a)) := callK_iff G0W (by kernel_rfl) (rfloor_ret a ha h0)
theorem next_ret (a:Int):Ret Tryd.prog G0 56 #[wd a] (wd (a + 1)) := by
 refine ret_of G0F Tryd.func56 rfl Tryd.call56 (by simp) (by simp) (by simp [Tryd.ntmps56]) ?_
 intro C hC hC0 hY
 have i1 := i64_1
 repeat' (first | refine gwA ?_ | ((first | refine gwR [] ?_ | refine gwD [] ?_); intro Q hQ hP; simp [hC,hY,i1]; (first | refine hQ _ _ _ _ (by kernel_rfl) ?_ | refine hP _ _ (by kernel_rfl) fun _ => ?_); clear hQ hP Q) | (refine gwC ?_ ?_ <;> (intro hb; first | (cases hb; done) | skip)))
 refine ⟨.inr trivial,?_⟩
 simp [Tryd.results56]
@[simp] theorem rnext (a:Int) (K:Value → Prop):callK Tryd.prog G0 56 #[Value.agg #[.int .u64 (wi (a) 0),.int .u64 (wi (a) 1),.int .u64 (wi (a) 2),.int .u64 (wi (a) 3)]] K ↔ K (wd (a + 1)) := callK_iff G0W (by kernel_rfl) (next_ret a)
def hp1 (a:Int):Hp := hpL G0 [(200,wb a)]
theorem isq_le (a:Int) (ha:wr a) (h0:0 ≤ a):isq a < 340282366920938463463374607431768211456 ∧ wr (isq a) := by
 obtain ⟨h1,h2,h3⟩ := isq_spec a h0
 have hau := ha.2
 have h4 := sq_bd 340282366920938463463374607431768211456 h1 (by decide) (by omega)
 exact ⟨h4,Int.le_trans (by decide) h1,Int.lt_trans h4 (by decide)⟩
theorem div_wr {a b:Int} (ha:wr a) (h0:0 ≤ a) (hb:0 < b):wr (a / b) ∧ 0 ≤ a / b := by
 have h1:0 ≤ a / b := Int.ediv_nonneg h0 (by omega)
 exact ⟨⟨Int.le_trans (by decide) h1,Int.lt_of_le_of_lt (Int.ediv_le_self b h0) ha.2⟩,h1⟩
theorem lst_ne {a:Int} (h0:0 ≤ a):a ≠ lst := fun e => by rw [e] at h0; exact absurd h0 (by decide)
theorem of_ret (a b:Int) (ha:wr a) (hb:wr b) (h0:0 ≤ a) (hb0:0 < b):Ret Tryd.prog G0 57 #[wd a,wd b] (wd (isq (a / b))) := by
 refine ret_of G0F Tryd.func57 rfl Tryd.call57 (by simp) (by simp) (by simp [Tryd.ntmps57]) ?_
 intro C hC hC0 hY
 have hz := wr_ne hb (by omega)
 have s1:0 ≤ cmpI (sz a) 0 := by rw [wr_sz ha]; unfold cmpI; split <;> (try split) <;> omega
 have s2:0 < cmpI (sz b) 0 := by rw [wr_sz hb]; unfold cmpI; split <;> (try split) <;> omega
 obtain ⟨d1,d2⟩ := div_wr ha h0 hb0
 have hl := lst_ne h0
 repeat' (first | refine gwA ?_ | ((first | refine gwR [] ?_ | refine gwD [] ?_); intro Q hQ hP; simp [hC,hY,hz,s1,s2,ha,hb,hb0,hl,d1,d2]; (first | refine hQ _ _ _ _ (by kernel_rfl) ?_ | refine hP _ _ (by kernel_rfl) fun _ => ?_); clear hQ hP Q) | (refine gwC ?_ ?_ <;> (intro hb; first | (cases hb; done) | skip)))
 refine ⟨.inr trivial,?_⟩
 simp [Tryd.results57]
@[simp] theorem rof (a b:Int) (ha:wr a) (hb:wr b) (h0:0 ≤ a) (hb0:0 < b) (K:Value → Prop):callK Tryd.prog G0 57 #[Value.agg #[.int .u64 (wi (a) 0),.int .u64 (wi (a) 1),.int .u64 (wi (a) 2),.int .u64 (wi (a) 3)],Value.agg #[.int .u64 (wi (b) 0),.int .u64 (wi (b) 1),.int .u64 (wi (b) 2),.int .u64 (wi (b) 3)]] K ↔ K (wd (isq (a / b))) := callK_iff G0W (by kernel_rfl) (of_ret a b ha hb h0 hb0)
theorem rHalf1_p (a b:Int) (ha:wr a) (hb:wr b) (h0:0 ≤ a) (hb0:0 < b):Fun Tryd.prog G0 54 [.pointer (some ⟨200,0,none⟩),.pointer (some ⟨208,0,none⟩)].toArray (hp2 a b) [200,208] (.ret (wd ((isq (a / b) + 1) / 2)) []) := by
 refine fun_of (B := 300) G0F (fun k hk => hpL_low (by simp) hk) Tryd.func54 rfl Tryd.call54 ?_ ?_ ⟨flatV_ids (by simp),by simp [keys],by simp,by simp⟩ (by simp [Tryd.ntmps54]) (by omega) ?_ ?_
 ·rw [hp2_rst]; simp [hp2,dom]
 ·rw [hp2_rst]; exact hp2_closed a b _
 ·rw [hp2_rst]; exact hp2_free a b
 ·intro C hC hC0 hY
  rw [hp2_rst] at hC0 ⊢
  obtain ⟨d1,d2⟩ := div_wr ha h0 hb0
  obtain ⟨q0,q1⟩ := isq_le _ d1 d2
  have q2 := (isq_spec _ d2).1
  have w2:wr 2 := by unfold wr; omega
  have w1:wr (isq (a / b) + 1) := ⟨Int.le_trans (by decide) (by omega:0 ≤ isq (a / b) + 1),by omega⟩
  have wl:isq (a / b) + 1 ≠ lst := lst_ne (by omega)
  have i2:i64 2 := by decide
  repeat' (first | refine gwA ?_ | ((first | refine gwR [] ?_ | refine gwD [] ?_); intro Q hQ hP; simp [hC,hY,hp2,wb,ha,hb,h0,hb0,w1,wl,w2,i2]; (first | refine hQ _ _ _ _ (by kernel_rfl) ?_ | refine hP _ _ (by kernel_rfl) fun _ => ?_); clear hQ hP Q) | (refine gwC ?_ ?_ <;> (intro hb; first | (cases hb; done) | skip)))
  refine ⟨.inr rfl,by simp [Tryd.results54],fun k hk => ?_⟩
  have hk3:k < 300 := Classical.byContradiction fun h => hk (hp2_free a _ k (by omega))
  simp (disch := omega) only [upd_far]
  rfl
theorem rHalf_p_ret (a b:Int) (ha:wr a) (hb:wr b) (h0:0 ≤ a) (hb0:0 < b):Ret Tryd.prog G0 45 #[wd a,wd b] (.tuple #[wd ((isq (a / b) + 1) / 2),.int .i64 0]) := by
 refine ret_of G0F Tryd.func45 rfl Tryd.call45 (by simp) (by simp) (by simp [Tryd.ntmps45]) ?_
 intro C hC hC0 hY
 repeat' (first | refine gwA ?_ | ((first | refine gwR [53] ?_ | refine gwD [53] ?_); intro Q hQ hP; simp [hC,hY]; (repeat ((first | (refine heapK_of (hp' := hp2 a b) (rtold_ret (fun k hk => hpL_low (by simp) hk) (by simp) rfl (by simp) (rHalf1_p a b ha hb h0 hb0)) (by simp [hp2,wb]) (fun k hk => hpL_low (by simp) hk) trivial ?_)); try simp [hC,hY])); (first | refine hQ _ _ _ _ (by kernel_rfl) ?_ | refine hP _ _ (by kernel_rfl) fun _ => ?_); clear hQ hP Q) | (refine gwC ?_ ?_ <;> (intro hb; first | (cases hb; done) | skip)))
 refine ⟨.inr trivial,?_⟩
 simp [Tryd.results45,wi_zero]
theorem i64_wr {n:Int} (h:i64 n):wr n := by unfold i64 at h; unfold wr; omega
end Go.Gy
namespace Go.Gy
set_option linter.unusedSimpArgs false
set_option linter.unusedVariables false
open Go Go.RowKit Go.Proofs
def lmB:Blk := ⟨#[.int .i64 (-2097152),.int .i64 2097152,.int .i64 1,.int .i64 2097152,.int .i64 1,.int .i64 1048576,.int .i64 1,.int .i64 1024,.int .i64 (-2097152),.int .i64 2097152,.int .i64 0,.int .i64 13194139533312],.ty 77⟩
def G1:Hp := hpL G0 [(0,lmB)]
theorem G1F:GFlat G1 := fun k b h => by
 rcases hpL_mem h with h | h
 ·simp at h
  obtain ⟨rfl,rfl⟩ := h
  exact ⟨by omega,by simp [lmB]⟩
 ·exact G0F k b h
@[simp] theorem G1_big (k:Nat) (h:100 ≤ k):G1 k = none := by
 cases hb:G1 k with
 | none => rfl
 | some b => have := (G1F k b hb).1; omega
@[simp] theorem G1_limits:G1 0 = some lmB := by simp [G1]
theorem G1_dom {k:Nat} (h:dom G1 k):k < 100 := by
 refine Classical.byContradiction fun hk => ?_
 exact h (G1_big k (by omega))
theorem G1_closed (D:Nat → Prop) (k:Nat) (b:Blk) (h:G1 k = some b):b.ids D := Blk.flat_ids ((G1F k b h).2)
theorem G1W:∃ W,GOK G1 W := ⟨{ (default:World) with heap := Array.ofFn (n := 100) fun k => match G1 k.1 with | some b => b.obj0 | none => .cells #[] 0 (0,0) },fun k b h => by
 have hk := (G1F k b h).1
 simp [hk,h]⟩
theorem G1up (W:World) (h:GOK G1 W):GOK G0 W := fun k b hk => h k b (by
 have h0:¬ k = 0 := fun e => by subst e; simp [G0,G0L] at hk
 simp [G1,h0,hk])

@[simp] theorem wOf' (n:Int) (h:i64 n) (K:Value → Prop):callK Tryd.prog G1 58 #[.int .i64 n] K ↔ K (wd n) := callK_iff G1W (by kernel_rfl) ((wof_ret n h).up G1up)
@[simp] theorem wMul' (a b:Int) (K:Value → Prop):callK Tryd.prog G1 60 #[Value.agg #[.int .u64 (wi (a) 0),.int .u64 (wi (a) 1),.int .u64 (wi (a) 2),.int .u64 (wi (a) 3)],Value.agg #[.int .u64 (wi (b) 0),.int .u64 (wi (b) 1),.int .u64 (wi (b) 2),.int .u64 (wi (b) 3)]] K ↔ K (.tuple #[wd (sz a * sz b),.bool (mulO a b)]) := callK_iff G1W (by kernel_rfl) ((wmul_ret a b).up G1up)
@[simp] theorem wInt' (z:Int) (K:Value → Prop):callK Tryd.prog G1 48 #[Value.agg #[.int .u64 (wi (z) 0),.int .u64 (wi (z) 1),.int .u64 (wi (z) 2),.int .u64 (wi (z) 3)]] K ↔ K (.tuple #[.int .i64 (if i64 (sz z) then sz z else 0),.bool (decide (i64 (sz z)))]) := callK_iff G1W (by kernel_rfl) ((wint_ret z).up G1up)
@[simp] theorem rHalf' (a b:Int) (ha:wr a) (hb:wr b) (h0:0 ≤ a) (hb0:0 < b) (K:Value → Prop):callK Tryd.prog G1 45 #[Value.agg #[.int .u64 (wi (a) 0),.int .u64 (wi (a) 1),.int .u64 (wi (a) 2),.int .u64 (wi (a) 3)],Value.agg #[.int .u64 (wi (b) 0),.int .u64 (wi (b) 1),.int .u64 (wi (b) 2),.int .u64 (wi (b) 3)]] K ↔ K (.tuple #[wd ((isq (a / b) + 1) / 2),.int .i64 0]) := callK_iff G1W (by kernel_rfl) ((rHalf_p_ret a b ha hb h0 hb0).up G1up)
theorem pmust_t (n:Int):RetP Tryd.prog G1 42 #[.bool true,.int .i64 n] (.ret (.tuple #[])) := by
 refine retp_of G1F Tryd.func42 rfl Tryd.call42 (fun v h => by cases h; simp) (by simp) (by simp [Tryd.ntmps42]) ?_
 intro C hC hC0 hY
 repeat' (first | refine gwA ?_ | ((first | refine gwR [] ?_ | refine gwD [] ?_); intro Q hQ hP; simp [hC,hY]; (first | refine hQ _ _ _ _ (by kernel_rfl) ?_ | refine hP _ _ (by kernel_rfl) fun _ => ?_); clear hQ hP Q) | (refine gwC ?_ ?_ <;> (intro hb; first | (cases hb; done) | skip)))
 exact ⟨.inl trivial,by simp [Tryd.results42]⟩
theorem pmust_f (n:Int):RetP Tryd.prog G1 42 #[.bool false,.int .i64 n] (.pan (erV n)) := by
 refine retp_of G1F Tryd.func42 rfl Tryd.call42 (fun v h => by cases h) (by simp) (by simp [Tryd.ntmps42]) ?_
 intro C hC hC0 hY
 repeat' (first | refine gwA ?_ | ((first | refine gwR [] ?_ | refine gwD [] ?_); intro Q hQ hP; simp [hC,hY]; (first | refine hQ _ _ _ _ (by kernel_rfl) ?_ | refine hP _ _ (by kernel_rfl) fun _ => ?_); clear hQ hP Q) | (refine gwC ?_ ?_ <;> (intro hb; first | (cases hb; done) | skip)))
 rfl
def capP:Array Value := #[.pointer (some ⟨100000,0,none⟩)]
def hpP (n:Int):Hp := hpL G1 [(100000,eB n)]
theorem hpP_rst (n:Int):rst (hpP n) [100000] = hpP n := hpL_rst G1F (by simp)
theorem hpP_ids (n:Int) (k:Nat) (b:Blk) (D:Nat → Prop) (h:hpP n k = some b):b.ids D := by
 rcases hpL_mem h with h | h
 ·simp at h
  rcases h with ⟨_,rfl⟩
  simp [eB]
 ·exact G1_closed _ _ _ h
@[simp] theorem opX_assertE' {dst:Option Tmp} {x:Operand} {T:TypeId} {ps:String} {af:Array Edge} {g:Option (Nat × Bool)} {V:XV} {yc nk:Nat} {ts:Nat → Value} {hp:Hp} {C:Eff → Prop} (h:ifE (gev ts x) = true) (hx:okX ts hp x) :
  opX Tryd.prog G1 V yc ⟨dst,.typeAssert x 20 30 false,T,ps,af,g⟩ ts hp nk C ↔ C (val (ifN (gev ts x)) []) := by
 obtain ⟨n,hn⟩ := ifE_of h
 refine pureV_iff (K := fun v => C (val v [])) ?_ ?_ fun W => ?_
 ·intro y hy
  simp [Op.operands] at hy
  subst hy
  exact ⟨hx,by rw [hn]; rfl⟩
 ·rw [hn]; rfl
 ·simp only [execOp,hn]
  kernel_rfl
theorem rep6:Array.replicate 6 undef = #[undef,undef,undef,undef,undef,undef] := rfl
theorem prec (n:Int):RecF Tryd.prog G1 41 capP (hpP 0) [100000] (erV n) [(100000,eB n)] := by
 refine ⟨⟨_,Tryd.func41⟩,Tryd.call41,?_,?_⟩
 ·refine back_of (k := 1) Tryd.func41 rfl fun args c₀ cs W hk hu => ?_
  obtain ⟨p0,rfl⟩:∃ p0,args = #[p0] := by
   rcases args with ⟨l⟩
   match l,hk with
   | [a],_ => exact ⟨a,rfl⟩
  have hn:Tryd.f41.ntmps = 7 := Tryd.ntmps41
  refine wpSIn_seq (wpSIn_region ?_)
  simp [wpOpsSIn,List.range,List.range.loop,go_sem,recoverD,hu,hn,rep6]
  refine wpSIn_seq (wpSIn_region ?_)
  simp [wpOpsSIn,List.range,List.range.loop,go_sem,neq_nil0]
  refine wpSIn_cond (t := false) (by simp [Act.eval]) ?_
  refine wpSIn_of_wpIn rfl (wpIn_skip ?_)
  exact ⟨.inl rfl,rfl,rfl,rfl,.tuple #[],by simp [results,Tryd.results41,go_sem]⟩
 ·refine caught_of (B := 200000) (A := #[.pointer (some ⟨100000,0,none⟩),erV n,erV n,undef,undef,undef,undef]) G1F (fun k hk => hpL_low (by simp) hk) Tryd.func41 rfl (by simp [Tryd.ntmps41]) ?_ ?_ ?_ ?_ ?_ ?_ (by omega) ?_ ?_
  ·rw [hpP_rst]; simp [hpP,dom]
  ·intro r c₀ cs W Q hu hQ
   have hrn:∀ v,flatV v = true → ren r v = v := fun v hv => flatV_ren hv
   simp only [List.map_toArray,List.map_cons,List.map_nil,capP] at hQ ⊢
   generalize ren r (.pointer (some ⟨100000,0,none⟩)) = p0 at hQ ⊢
   simp only [hrn (erV n) rfl,ren_undef] at hQ
   have hn:Tryd.f41.ntmps = 7 := Tryd.ntmps41
   simp [wpOpsSIn,List.range,List.range.loop,go_sem,recoverD,hu,pand,erV,hn,rep6]
   exact hQ
  ·rw [hpP_rst]; exact fun k b h => hpP_ids 0 k b _ h
  ·rw [hpP_rst]; simp [hpP,dom]
  ·intro k b c h1 h2
   simp at h1 h2
   rw [h1.2,h2.2]
  ·simp [eB]
  ·rw [hpP_rst]; exact fun x hx => by simp [hpP,show ¬ x = 100000 by omega,show 100 ≤ x by omega]
  ·intro C hC hC0 hY
   rw [hpP_rst]
   repeat' (first | refine gwA ?_ | ((first | refine gwR [] ?_ | refine gwD [] ?_); intro Q hQ hP; simp [hC,hY,hpP,eB]; (first | refine hQ _ _ _ _ (by kernel_rfl) ?_ | refine hP _ _ (by kernel_rfl) fun _ => ?_); clear hQ hP Q) | (refine gwC ?_ ?_ <;> (intro hb; first | (cases hb; done) | skip)))
   refine ⟨.inl trivial,by simp [Tryd.results41],fun k hk => ?_⟩
   simp [eB,hpP]
theorem ptold_ret {g:FuncId} {capv:List Value} {hp:Hp} {rs:List Nat} {ws:List (Nat × Blk)} (hG:∀ k,k < 100 → hp k = G1 k) (hrs:∀ k ∈ rs,k < 100000) (hc:capv.isEmpty = false) (hpl:capv.all plain0 = true)
  (h:Fun Tryd.prog G1 g capv.toArray hp rs (.ret (.tuple #[]) ws)) :
  Fun Tryd.prog G1 29 #[.func (.func g) #[] capv.toArray] hp rs (.ret (.int .i64 0) ws) := by
 have hids:∀ x ∈ capv,ids0 (dom (rst hp rs)) x := fun x hx => (ids_plain0 (List.all_eq_true.1 hpl x hx)).1 (h.ids x (by simpa using hx))
 have hbig:∀ x,100000 ≤ x → rst hp rs x = none := fun x hx => by
  unfold rst; rw [if_neg]; rintro (h1 | h1)
  ·omega
  ·have := hrs x h1; omega
 refine fun_rec (out := .ret (.int .i64 0) ws) (B := 100000) (B1 := 100008) (id := 1) (t := 3) (ts1 := upd (fun t => [Value.func (.func g) #[] capv.toArray][t]?.getD undef) 2 (gptr 100000))
  (hp1 := upd (rst hp rs) 100000 (some (eB 0))) capP G1F hG Tryd.func29 rfl (by simp [Tryd.ntmps29]) Tryd.call29 ⟨_,_,_,_,prec 0⟩ ?_ h.closed ?_ (by simp [Tryd.ntmps29]) (by omega) hbig ?_ ?_ ?_ ?_ ?_ ?_
 ·simpa using hids
 ·exact ⟨flatV_ids (by simp),h.fits.2⟩
 ·intro C hC hC0 hY
  repeat' (first | refine gwA ?_ | ((first | refine gwR [] ?_ | refine gwD [] ?_); intro Q hQ hP; simp [hC,hY]; (first | refine hQ _ _ _ _ (by kernel_rfl) ?_ | refine hP _ _ (by kernel_rfl) fun _ => ?_); clear hQ hP Q) | (refine gwC ?_ ?_ <;> (intro hb; first | (cases hb; done) | skip)))
  exact ⟨trivial,rfl⟩
 ·intro k hk
  have h1:¬ k = 100000 := fun e => hk (hbig k (by omega))
  simp [h1]
 ·simp [okT,capP]
 ·simp [capP]
 ·simp [capP]
 ·intro C d hC hC0 hY
  refine GW_seq ?_
  refine GW_region' [] (by kernel_rfl) ?_; intro Q hQ hP; simp [hC,hY,hc,hpl]
  have hk1:∀ k ∈ keys ws,k < 100000 := fun k hk => hrs k (h.fits.2.1 k hk).1
  have hk2:(100000:Nat) ∉ keys ws := fun hm => by have := hk1 _ hm; omega
  have w1:updL (upd (rst hp rs) 100000 (some (eB 0))) ws 100000 = some (eB 0) := by
   rw [updL_other hk2]; simp
  refine heapK_of (hp' := hp) h (fun k hk => ?_) hG trivial ?_
  ·have := hrs k hk
   simp [rst,hk,show ¬ k = 100000 by omega]
  simp only [eB] at w1
  simp [w1,eB]
  refine hQ _ _ _ _ ?_
  repeat' (first | refine gwA ?_ | ((first | refine gwR [] ?_ | refine gwD [] ?_); intro Q hQ hP; simp [hC,hY,w1,eB]; (first | refine hQ _ _ _ _ (by kernel_rfl) ?_ | refine hP _ _ (by kernel_rfl) fun _ => ?_); clear hQ hP Q) | (refine gwC ?_ ?_ <;> (intro hb; first | (cases hb; done) | skip)))
  refine ⟨.inr rfl,by simp [Tryd.results29],fun k hk => ?_⟩
  have h1:¬ k = 100000 := fun e => hk (hbig k (by omega))
  rw [updL_comm_upd hk2]
  simp [h1]
theorem ptold_pan {g:FuncId} {capv:List Value} {hp:Hp} {rs:List Nat} {n:Int} (hG:∀ k,k < 100 → hp k = G1 k) (hrs:∀ k ∈ rs,k < 100000) (hc:capv.isEmpty = false) (hpl:capv.all plain0 = true)
  (h:Fun Tryd.prog G1 g capv.toArray hp rs (.pan (erV n))) :
  Fun Tryd.prog G1 29 #[.func (.func g) #[] capv.toArray] hp rs (.ret (.int .i64 n) []) := by
 have hids:∀ x ∈ capv,ids0 (dom (rst hp rs)) x := fun x hx => (ids_plain0 (List.all_eq_true.1 hpl x hx)).1 (h.ids x (by simpa using hx))
 have hbig:∀ x,100000 ≤ x → rst hp rs x = none := fun x hx => by
  unfold rst; rw [if_neg]; rintro (h1 | h1)
  ·omega
  ·have := hrs x h1; omega
 refine fun_rec (out := .pan (erV n) [100000] [(100000,eB n)] (.int .i64 n)) (B := 100000) (B1 := 100008) (id := 1) (t := 3) (ts1 := upd (fun t => [Value.func (.func g) #[] capv.toArray][t]?.getD undef) 2 (gptr 100000))
  (hp1 := upd (rst hp rs) 100000 (some (eB 0))) capP G1F hG Tryd.func29 rfl (by simp [Tryd.ntmps29]) Tryd.call29 ⟨_,_,_,_,prec 0⟩ ?_ h.closed ?_ (by simp [Tryd.ntmps29]) (by omega) hbig ?_ ?_ ?_ ?_ ?_ ?_
 ·simpa using hids
 ·exact ⟨flatV_ids (by simp),by simp [keys],by simp,by simp⟩
 ·intro C hC hC0 hY
  repeat' (first | refine gwA ?_ | ((first | refine gwR [] ?_ | refine gwD [] ?_); intro Q hQ hP; simp [hC,hY]; (first | refine hQ _ _ _ _ (by kernel_rfl) ?_ | refine hP _ _ (by kernel_rfl) fun _ => ?_); clear hQ hP Q) | (refine gwC ?_ ?_ <;> (intro hb; first | (cases hb; done) | skip)))
  exact ⟨trivial,rfl⟩
 ·intro k hk
  have h1:¬ k = 100000 := fun e => hk (hbig k (by omega))
  simp [h1]
 ·simp [okT,capP]
 ·simp [capP]
 ·simp [capP]
 ·intro C d hC hC0 hY
  refine GW_seq ?_
  refine GW_region' [] (by kernel_rfl) ?_; intro Q hQ hP; simp [hC,hY,hc,hpl]
  refine heapK_of (hp' := hp) h (fun k hk => ?_) hG trivial ?_
  ·have := hrs k hk
   simp [rst,hk,show ¬ k = 100000 by omega]
  simp
  refine hP _ _ fun yc => ?_
  simp only [thenG_panic]
  have e:∀ k,(k < 100 ∨ k ∈ [100000]) → hpP 0 k = upd (rst hp rs) 100000 (some (eB 0)) k := fun k hk => by
   rcases hk with hk | hk
   ·simp [hpP,show ¬ k = 100000 by omega,rst,hk,hG k hk]
   ·simp at hk; subst hk; simp [hpP]
  have er:rst (upd (rst hp rs) 100000 (some (eB 0))) [100000] = hpP 0 := by rw [← rst_congr e,hpP_rst]
  refine ⟨rfl,by simp [Tryd.results29,eB],fun k hk => rfl,(prec n).under e,fun k hk => ?_,fun k hk => ?_,?_⟩
  ·rw [er] at hk; unfold dom at hk ⊢
   by_cases h1:k = 100000
   ·subst h1; simp
   ·simp only [hpP,hpL_cons,hpL_nil,h1,if_false] at hk
    have hk100 := G1_dom hk
    simp [h1,rst,hk100,hG k hk100]; exact hk
  ·rw [er]
   simp [keys] at hk
   subst hk
   exact ⟨by simp [hpP,dom],by omega,fun hd => hd (hbig _ (by omega))⟩
  ·rw [er]; exact fun k b hk => hpP_ids 0 k b _ hk
end Go.Gy
namespace Go.Gy
set_option linter.unusedSimpArgs false
set_option linter.unusedVariables false
open Go Go.RowKit
section
variable {P:Program} {G G':Hp}
structure LOd (G:Hp) (m:List (Nat × Blk)) (B:Nat):Prop where
 big:∀ p ∈ m,100 ≤ p.1 ∧ p.1 < B
 one:(keys m).Nodup
 ids:∀ p ∈ m,p.2.ids (dom (hpL G m))
theorem LOk.sub' {m:List (Nat × Blk)} (h1:(keys m).Nodup) (k:Nat) (hk:k ∈ keys m):dom (hpL G m) k := by
 obtain ⟨p,hp,rfl⟩ := mem_keys.1 hk
 unfold dom; rw [LOk.at h1 p hp]; simp
theorem LOd.low {m:List (Nat × Blk)} {B:Nat} (h:LOd G m B):∀ k,k < 100 → hpL G m k = G k := fun _ hk => hpL_low (fun p hp => (h.big p hp).1) hk
theorem LOd.sub {m:List (Nat × Blk)} {B:Nat} (h:LOd G m B) (k:Nat) (hk:k ∈ keys m):dom (hpL G m) k := LOk.sub' h.one k hk
theorem LOd.closed {m:List (Nat × Blk)} {B:Nat} (hGF:GFlat G) (h:LOd G m B) (k:Nat) (b:Blk) (hk:hpL G m k = some b):b.ids (dom (hpL G m)) := by
 rcases hpL_mem hk with h1 | h1
 ·exact h.ids (k,b) h1
 ·exact Blk.flat_ids (hGF k b h1).2
theorem LOd.free {m:List (Nat × Blk)} {B:Nat} (hGF:GFlat G) (hB:100 ≤ B) (h:LOd G m B) (x:Nat) (hx:B ≤ x):hpL G m x = none := by
 cases hb:hpL G m x with
 | none => rfl
 | some b =>
  rcases hpL_mem hb with h1 | h1
  ·have := (h.big _ h1).2; simp at this; omega
  ·have := (hGF x b h1).1; omega
theorem fun_ofD {f:FuncId} {fn:Func} {c:Code} {args:Array Value} {m:List (Nat × Blk)} {v:Value} {ws:List (Nat × Blk)} {B:Nat} (hGF:GFlat G) (hf:P.funcs[f]? = some fn) (hb:fn.body = some c) (hcall:∀ a w,(callFunc f a).run P w = .ok (.enter f a) w)
  (hm:LOk m B) (ha:∀ x ∈ args,idsV (dom (hpL G m)) x) (hv:idsV (fun k => k ∈ keys m) v) (hw:∀ p ∈ ws,p.1 ∈ keys m ∧ p.2.ids (fun k => k ∈ keys m)) (hw1:∀ k b c,(k,b) ∈ ws → (k,c) ∈ ws → b = c) (hn:args.size ≤ fn.ntmps) (hB:100 ≤ B)
  (h:∀ C:Ctx,C.G = G → C.hp0 = hpL G m → C.Y = none → GW P C fn.ntmps [] none c ⟨fun t => args.getD t undef,hpL G m,B,0⟩ (resP P fn (hpL G m) (.ret v ws))):Fun P G f args (hpL G m) (keys m) (.ret v ws) := by
 have e := LOk.rst (m := m) hGF
 refine fun_of (B := B) hGF hm.low hf hb hcall (by rw [e]; exact ha) (by rw [e]; exact hm.closed hGF) ⟨by rw [e]; exact idsV_mono (fun q hq => hm.sub q hq) hv,fun k hk => ?_,hw1,fun p hp => ?_⟩ hn hB (by rw [e]; exact hm.free hGF hB) (by rw [e]; exact h)
 ·obtain ⟨p,hp,rfl⟩ := mem_keys.1 hk
  have := (hw p hp).1
  obtain ⟨q,hq,e1⟩ := mem_keys.1 this
  exact ⟨this,hm.sub _ this,by rw [← e1]; exact (hm.big q hq).1⟩
 ·rw [e]; exact Blk.ids_mono (fun q hq => hm.sub q hq) (hw p hp).2
theorem iterk_ofD {f:FuncId} {fn:Func} {c:Code} {caps:Array Value} {m:List (Nat × Blk)} {xs:List (Array Value)} {B:Nat} {v:Value} (hGF:GFlat G) (hf:P.funcs[f]? = some fn) (hb:fn.body = some c) (hcall:∀ a w,(callFunc f a).run P w = .ok (.enter f a) w)
  (hm:LOd G m B) (ha:∀ x ∈ caps,plain0 x = true ∧ idsV (fun k => k ∈ keys m) x) (hn:caps.size + 1 ≤ fn.ntmps) (hB:100 ≤ B)
  (h:∀ (C:Ctx) (l stop:Nat),C.G = G → C.hp0 = hpL G m → C.Y = some ⟨l,xs,stop,none⟩ → GW P C fn.ntmps [] none c ⟨fun t => (#[Value.func (.yield l) #[] #[]] ++ caps).getD t undef,hpL G m,B,0⟩
   (fun e s => (e = .normal ∨ e = .ret) ∧ resG P fn.results.toList s.ts s.hp = some v ∧ s.yc = min (stop + 1) xs.length ∧ ∀ k,dom (hpL G m) k → s.hp k = hpL G m k)):IterK P G f caps (hpL G m) (keys m) xs := by
 have e := LOk.rst (m := m) hGF
 exact iterk_of (B := B) (v := v) hGF hm.low hf hb hcall (by rw [e]; exact fun x hx => ⟨(ha x hx).1,idsV_mono (fun q hq => hm.sub q hq) (ha x hx).2⟩) (by rw [e]; exact hm.closed hGF) hn hB (by rw [e]; exact hm.free hGF hB) (by rw [e]; exact h)
theorem newS_ofD {f:FuncId} {fn:Func} {c:Code} {args:Array Value} {m:List (Nat × Blk)} {R:Value → List (Nat × Blk) → Prop} {B:Nat} (hGF:GFlat G) (hf:P.funcs[f]? = some fn) (hb:fn.body = some c) (hcall:∀ a w,(callFunc f a).run P w = .ok (.enter f a) w)
  (hm:LOk m B) (ha:∀ x ∈ args,idsV (dom (hpL G m)) x)
  (hfit:∀ v ns,R v ns → idsV (extD (dom (hpL G m)) ns) v ∧ (∀ p ∈ ns,B ≤ p.1 ∧ p.2.ids (extD (dom (hpL G m)) ns)) ∧ (∀ k b c,(k,b) ∈ ns → (k,c) ∈ ns → b = c))
  (hn:args.size ≤ fn.ntmps) (hB:100 ≤ B)
  (h:∀ C:Ctx,C.G = G → C.hp0 = hpL G m → C.Y = none → GW P C fn.ntmps [] none c ⟨fun t => args.getD t undef,hpL G m,B,0⟩ fun e s => (e = .normal ∨ e = .ret) ∧ (∀ k,dom (hpL G m) k → s.hp k = hpL G m k) ∧
   ∃ v ns ρ,R v ns ∧ (∀ k,k < B → ρ k = k) ∧ (∀ p ∈ ns,B ≤ ρ p.1) ∧ (∀ p ∈ ns,∀ q ∈ ns,ρ p.1 = ρ q.1 → p.1 = q.1) ∧ resG P fn.results.toList s.ts s.hp = some (ren ρ v) ∧ ∀ p ∈ ns,s.hp (ρ p.1) = some (p.2.rn ρ)):FunS P G f args (hpL G m) (keys m) R := by
 have e := LOk.rst (m := m) hGF
 have hlt:∀ k,dom (hpL G m) k → k < B := fun k hk => by
  refine Classical.byContradiction fun h1 => hk (hm.free hGF hB k (by omega))
 refine newS_of (B := B) hGF hm.low hf hb hcall (by rw [e]; exact ha) (by rw [e]; exact hm.closed hGF) (fun v ns hR => ?_) hn hB (by rw [e]; exact hm.free hGF hB) (fun C h1 h2 h3 => ?_)
 ·rw [e]
  obtain ⟨f1,f2,f3⟩ := hfit v ns hR
  refine ⟨f1,fun k hk => ?_,f3,fun p hp => (f2 p hp).2⟩
  obtain ⟨p,hp,rfl⟩ := mem_keys.1 hk
  have := (f2 p hp).1
  exact ⟨by omega,fun hd => by have := hlt _ hd; omega⟩
 ·rw [e] at h2 ⊢
  refine GW_mono (h C h1 h2 h3) fun e s => fun ⟨q1,q2,v,ns,ρ,q3,q4,q5,q6,q7,q8⟩ => ⟨q1,q2,v,ns,ρ,q3,fun k hk => q4 k (hlt k hk),fun p hp => ?_,q6,q7,q8⟩
  have := q5 p hp
  exact ⟨fun hd => by have := hlt _ hd; omega,by omega⟩
structure MvG (G G':Hp) (m m':List (Nat × Blk)) (ρ:Nat → Nat):Prop where
 gf:GFlat G
 gf':GFlat G'
 ok:∃ B,LOk m B
 ok':∃ B,LOk m' B
 sub:∀ k b,G k = some b → G' k = some b ∧ ρ k = k
 at':∀ p ∈ m,∃ c,hpL G' m' (ρ p.1) = some c ∧ ∀ r,c.obj r = (p.2.rn ρ).obj r
 inj:∀ k ∈ keys m,∀ l ∈ keys m,ρ k = ρ l → k = l
 far:∀ k ∈ keys m,∀ l b,G l = some b → ρ k ≠ l
theorem MvG.dom {m m':List (Nat × Blk)} {ρ:Nat → Nat} (h:MvG G G' m m' ρ) {k:Nat} (hk:Gy.dom (hpL G m) k):Gy.dom (hpL G' m') (ρ k) := by
 unfold Gy.dom at hk
 cases hb:hpL G m k with
 | none => exact absurd hb hk
 | some b =>
  rcases hpL_mem hb with h1 | h1
  ·obtain ⟨c,h2,_⟩ := h.at' (k,b) h1
   unfold Gy.dom
   rw [show hpL G' m' (ρ k) = some c from h2]
   simp
  ·obtain ⟨h2,h3⟩ := h.sub k b h1
   obtain ⟨B,ok'⟩ := h.ok'
   unfold Gy.dom
   rw [h3,ok'.low k (h.gf k b h1).1,h2]
   simp
theorem MvG.run {m m':List (Nat × Blk)} {ρ:Nat → Nat} (h:MvG G G' m m' ρ) (hcl:∀ k b,hpL G m k = some b → b.ids (Gy.dom (hpL G m))) {r:Nat → Nat} {W:World} (hg:GOK G' W) (hs:Sat r (Gy.dom (hpL G' m')) (hpL G' m') W) (hi:Inj r (Gy.dom (hpL G' m'))) (hl:∀ k,k < 100 → Gy.dom (hpL G' m') k → r k = k) :
  GOK G W ∧ Sat (fun k => r (ρ k)) (Gy.dom (hpL G m)) (hpL G m) W ∧ Inj (fun k => r (ρ k)) (Gy.dom (hpL G m)) ∧ (∀ k,k < 100 → Gy.dom (hpL G m) k → r (ρ k) = k) := by
 obtain ⟨B',ok'⟩ := h.ok'
 obtain ⟨B,ok⟩ := h.ok
 have hG:GOK G W := fun k b hk => hg k b (h.sub k b hk).1
 have key:∀ k,Gy.dom (hpL G m) k → (k ∈ keys m ∧ 100 ≤ k) ∨ (∃ b,G k = some b ∧ k < 100 ∧ ρ k = k) := fun k hk => by
  unfold Gy.dom at hk
  cases hb:hpL G m k with
  | none => exact absurd hb hk
  | some b =>
   rcases hpL_mem hb with h1 | h1
   ·exact .inl ⟨mem_keys.2 ⟨_,h1,rfl⟩,(ok.big _ h1).1⟩
   ·exact .inr ⟨b,h1,(h.gf k b h1).1,(h.sub k b h1).2⟩
 refine ⟨hG,fun k b hk => ⟨?_,hcl k b hk⟩,fun k l hk hl' e => ?_,fun k hk hd => ?_⟩
 ·rcases hpL_mem hk with h1 | h1
  ·obtain ⟨c,h2,h3⟩ := h.at' (k,b) h1
   rw [(hs _ c h2).1,h3 r,Blk.rn_obj]
  ·obtain ⟨h2,h3⟩ := h.sub k b h1
   have h4 := (h.gf k b h1).1
   have h5:hpL G' m' k = some b := by rw [ok'.low k h4,h2]
   have := (hs k b h5).1
   show W.heap[r (ρ k)]? = _
   rw [h3,this]
   exact congrArg some (Blk.obj_congr (D := fun _ => False) (fun _ hf => hf.elim) (Blk.flat_ids (h.gf k b h1).2))
 ·have e2:ρ k = ρ l := hi _ _ (h.dom hk) (h.dom hl') e
  rcases key k hk with ⟨k1,_⟩ | ⟨b,k1,_,k2⟩ <;> rcases key l hl' with ⟨l1,_⟩ | ⟨c,l1,_,l2⟩
  ·exact h.inj k k1 l l1 e2
  ·exact absurd (e2.trans l2) (h.far k k1 l c l1)
  ·exact absurd (e2.symm.trans k2) (h.far l l1 k b k1)
  ·rw [← k2,← l2,e2]
 ·rcases key k hd with ⟨_,k1⟩ | ⟨b,k1,k3,k2⟩
  ·omega
  ·have := hl k hk (by have := h.dom hd; rwa [k2] at this)
   rw [k2,this]
theorem Fun.mvG {f:FuncId} {args args':Array Value} {m m' ws:List (Nat × Blk)} {v:Value} {ρ:Nat → Nat} (hi:Fun P G f args (hpL G m) (keys m) (.ret v ws)) (h:MvG G G' m m' ρ) (hw:∀ k ∈ keys ws,ρ k ∈ keys m') (ea:args.map (ren ρ) = args') :
  Fun P G' f args' (hpL G' m') (keys m') (.ret (ren ρ v) (rnL ρ ws)) := by
 subst ea
 have er := LOk.rst (m := m) h.gf
 have er' := LOk.rst (m := m') h.gf'
 obtain ⟨B',ok'⟩ := h.ok'
 obtain ⟨en,ids,closed,fits,run⟩ := hi
 rw [er] at ids closed run
 obtain ⟨f1,f2,f3,f4⟩ := fits
 rw [er] at f1 f4
 refine ⟨en,fun x hx => ?_,fun k b hb => ?_,⟨?_,fun k hk => ?_,fun k b c h1 h2 => ?_,fun p hp1 => ?_⟩,fun r W hgok hsat hinj hlow => ?_⟩
 ·rw [er']
  obtain ⟨y,hy,rfl⟩ := Array.mem_map.1 hx
  exact idsV_rn (fun k hk => h.dom hk) (ids y hy)
 ·rw [er'] at hb ⊢
  exact ok'.closed h.gf' k b hb
 ·rw [er']; exact idsV_rn (fun k hk => h.dom hk) f1
 ·obtain ⟨q,hq,rfl⟩ := keys_rnL hk
  have h1 := hw q hq
  refine ⟨h1,ok'.sub _ h1,?_⟩
  obtain ⟨p,hp,e⟩ := mem_keys.1 h1
  rw [← e]; exact (ok'.big p hp).1
 ·simp only [rnL,List.mem_map,Prod.mk.injEq] at h1 h2
  obtain ⟨p,hp1,e1,rfl⟩ := h1
  obtain ⟨q,hq1,e2,rfl⟩ := h2
  have k1 := f2 p.1 (mem_keys.2 ⟨p,hp1,rfl⟩)
  have k2 := f2 q.1 (mem_keys.2 ⟨q,hq1,rfl⟩)
  have e3 := h.inj p.1 k1.1 q.1 k2.1 (e1.trans e2.symm)
  rw [f3 p.1 p.2 q.2 hp1 (by rw [e3]; exact hq1)]
 ·simp only [rnL,List.mem_map] at hp1
  obtain ⟨p,hp1,rfl⟩ := hp1
  rw [er']
  exact Blk.ids_rn (fun k hk => h.dom hk) (f4 p hp1)
 ·rw [er'] at hsat hinj hlow
  obtain ⟨s0,s1,s2,s3⟩ := h.run closed hgok hsat hinj hlow
  have hrun := run (fun k => r (ρ k)) W s0 s1 s2 s3
  have ha:(args.map (ren ρ)).map (ren r) = args.map (ren fun k => r (ρ k)) := by
   rw [Array.map_map]
   exact Array.map_congr_left fun x _ => ren_comp r ρ x
  rw [ha]
  refine hrun.mono fun e W' ⟨he,ht⟩ => ⟨?_,ht.os,ht.tape,ht.output,ht.size,fun k hk hnw => ht.same k hk fun p hp1 => ?_,fun p hp1 => ?_,by simp,by simp⟩
  ·rw [he,ren_comp]
  ·exact hnw (ρ p.1,p.2.rn ρ) (by simp only [rnL,List.mem_map]; exact ⟨p,hp1,rfl⟩)
  ·simp only [List.append_nil,rnL,List.mem_map] at hp1
   obtain ⟨p,hp1,rfl⟩ := hp1
   have hh := ht.has p (by simpa using hp1)
   refine ⟨by rw [Blk.rn_obj]; exact hh.1,?_⟩
   rw [er']
   exact Blk.ids_rn (fun k hk => hk.elim (fun h1 => .inl (h.dom h1)) (fun h1 => .inr (by simp [keys] at h1))) hh.2
theorem FunS.mvG {f:FuncId} {args args':Array Value} {m m':List (Nat × Blk)} {R R':Value → List (Nat × Blk) → Prop} {ρ:Nat → Nat} (hi:FunS P G f args (hpL G m) (keys m) R) (h:MvG G G' m m' ρ) (ea:args.map (ren ρ) = args') (eR:RR ρ R = R')
  (hnew:∀ v ns,R v ns → ∀ k ∈ keys ns,100 ≤ ρ k ∧ ¬ dom (hpL G' m') (ρ k)) (hnj:∀ v ns,R v ns → ∀ k ∈ keys ns,∀ l ∈ keys ns,ρ k = ρ l → k = l):FunS P G' f args' (hpL G' m') (keys m') R' := by
 subst ea eR
 have er := LOk.rst (m := m) h.gf
 have er' := LOk.rst (m := m') h.gf'
 obtain ⟨B',ok'⟩ := h.ok'
 obtain ⟨en,ids,closed,fits,run⟩ := hi
 rw [er] at ids closed run fits
 have hext:∀ ns,∀ k,extD (dom (hpL G m)) ns k → extD (dom (hpL G' m')) (rnL ρ ns) (ρ k) := fun ns k hk => hk.elim (fun h1 => .inl (h.dom h1)) (fun h1 => .inr (mem_keys_rnL h1))
 refine ⟨en,fun x hx => ?_,fun k b hb => ?_,fun v' ns' hR' => ?_,fun r W hgok hsat hinj hlow => ?_⟩
 ·rw [er']
  obtain ⟨y,hy,rfl⟩ := Array.mem_map.1 hx
  exact idsV_rn (fun k hk => h.dom hk) (ids y hy)
 ·rw [er'] at hb ⊢
  exact ok'.closed h.gf' k b hb
 ·rw [er']
  obtain ⟨v,ns,hR,rfl,rfl⟩ := hR'
  obtain ⟨f1,f2,f3,f4⟩ := fits v ns hR
  refine ⟨idsV_rn (hext ns) f1,fun k hk => ?_,fun k b c h1 h2 => ?_,fun p hp1 => ?_⟩
  ·obtain ⟨q,hq,rfl⟩ := keys_rnL hk
   exact hnew v ns hR q hq
  ·simp only [rnL,List.mem_map,Prod.mk.injEq] at h1 h2
   obtain ⟨p,hp1,e1,rfl⟩ := h1
   obtain ⟨q,hq1,e2,rfl⟩ := h2
   have e3 := hnj v ns hR p.1 (mem_keys.2 ⟨p,hp1,rfl⟩) q.1 (mem_keys.2 ⟨q,hq1,rfl⟩) (e1.trans e2.symm)
   rw [f3 p.1 p.2 q.2 hp1 (by rw [e3]; exact hq1)]
  ·simp only [rnL,List.mem_map] at hp1
   obtain ⟨p,hp1,rfl⟩ := hp1
   exact Blk.ids_rn (hext ns) (f4 p hp1)
 ·rw [er'] at hsat hinj hlow ⊢
  obtain ⟨s0,s1,s2,s3⟩ := h.run closed hgok hsat hinj hlow
  have hrun := run (fun k => r (ρ k)) W s0 s1 s2 s3
  have ha:(args.map (ren ρ)).map (ren r) = args.map (ren fun k => r (ρ k)) := by
   rw [Array.map_map]
   exact Array.map_congr_left fun x _ => ren_comp r ρ x
  rw [ha]
  refine hrun.mono fun e W' ⟨v,ns,r1,hR,hr1,he,ht⟩ => ?_
  obtain ⟨f1,f2,f3,f4⟩ := fits v ns hR
  let r2:Nat → Nat := fun k' => match (keys ns).find? (fun k => ρ k == k') with | some k => r1 k | none => r k'
  have e1:∀ k ∈ keys ns,r2 (ρ k) = r1 k := fun k hk => by
   show (match (keys ns).find? (fun l => ρ l == ρ k) with | some k => r1 k | none => r (ρ k)) = r1 k
   cases hf:(keys ns).find? (fun l => ρ l == ρ k) with
   | none => have := List.find?_eq_none.1 hf k hk; simp at this
   | some l =>
    have h1 := List.find?_some hf
    have h2 := List.mem_of_find?_eq_some hf
    simp only [beq_iff_eq] at h1
    rw [hnj v ns hR l h2 k hk h1]
  have e2:∀ k,dom (hpL G' m') k → r2 k = r k := fun k hk => by
   show (match (keys ns).find? (fun l => ρ l == k) with | some k => r1 k | none => r k) = r k
   cases hf:(keys ns).find? (fun l => ρ l == k) with
   | none => rfl
   | some l =>
    have h1 := List.find?_some hf
    have h2 := List.mem_of_find?_eq_some hf
    simp only [beq_iff_eq] at h1
    exact absurd (h1 ▸ hk) (hnew v ns hR l h2).2
  have e3:∀ k,extD (dom (hpL G m)) ns k → r2 (ρ k) = r1 k := fun k hk => hk.elim (fun h1 => by rw [e2 _ (h.dom h1),hr1 k h1]) (fun h1 => e1 k h1)
  refine ⟨ren ρ v,rnL ρ ns,r2,⟨v,ns,hR,rfl,rfl⟩,e2,?_,ht.os,ht.tape,ht.output,ht.size,fun k hk hnw => ht.same k hk (by simp),fun p hp1 => ?_,fun p hp1 => ?_,fun p hp1 q hq1 hpq => ?_⟩
  ·rw [he,ren_comp]
   exact congrArg _ (ren_congr (D := extD (dom (hpL G m)) ns) (fun k hk => (e3 k hk).symm) f1)
  ·simp only [List.nil_append,rnL,List.mem_map] at hp1
   obtain ⟨p,hp1,rfl⟩ := hp1
   have hh := ht.has p (by simpa using hp1)
   refine ⟨?_,Blk.ids_rn (hext ns) hh.2⟩
   rw [Blk.rn_obj,Blk.obj_congr e3 hh.2]
   show W'.heap[r2 (ρ p.1)]? = _
   rw [e1 _ (mem_keys.2 ⟨p,hp1,rfl⟩)]
   exact hh.1
  ·simp only [rnL,List.mem_map] at hp1
   obtain ⟨p,hp1,rfl⟩ := hp1
   show W.heap.size ≤ r2 (ρ p.1)
   rw [e1 _ (mem_keys.2 ⟨p,hp1,rfl⟩)]
   exact ht.fresh p hp1
  ·simp only [rnL,List.mem_map] at hp1 hq1
   obtain ⟨p,hp1,rfl⟩ := hp1
   obtain ⟨q,hq1,rfl⟩ := hq1
   have k1 := mem_keys.2 ⟨p,hp1,rfl⟩
   have k2 := mem_keys.2 ⟨q,hq1,rfl⟩
   have hpq':r2 (ρ p.1) = r2 (ρ q.1) := hpq
   rw [e1 _ k1,e1 _ k2] at hpq'
   have := ht.apart p hp1 q hq1 hpq'
   show ρ p.1 = ρ q.1
   rw [this]
end
@[simp] theorem rg1:Array.range 1 = #[0] := rfl
@[simp] theorem rg2:Array.range 2 = #[0,1] := rfl
@[simp] theorem rg3:Array.range 3 = #[0,1,2] := rfl
@[simp] theorem rg4:Array.range 4 = #[0,1,2,3] := rfl
@[simp] theorem rg5:Array.range 5 = #[0,1,2,3,4] := rfl
@[simp] theorem rg6:Array.range 6 = #[0,1,2,3,4,5] := rfl
@[simp] theorem rg20:Array.range 20 = #[0,1,2,3,4,5,6,7,8,9,10,11,12,13,14,15,16,17,18,19] := rfl
@[simp] theorem rg36:Array.range 36 = #[0,1,2,3,4,5,6,7,8,9,10,11,12,13,14,15,16,17,18,19,20,21,22,23,24,25,26,27,28,29,30,31,32,33,34,35] := rfl
section
variable {P:Program} {G:Hp} {V:XV} {yc nk:Nat} {ts:Nat → Value} {hp:Hp} {C:Eff → Prop} {dst:Option Tmp} {type:TypeId} {pos:String} {after:Array Edge} {guard:Option (Nat × Bool)}
def bsZ (e len m nk:Nat) (ps:List (Nat × Value)) (z:Option Value) (C:Eff → Prop):Prop :=
 match z with
 | some z => okCells z = true ∧ flatV z = true ∧ 0 < len * m ∧ len * m ≤ 16777216 ∧ bsX (fillG (.inr m) ((Array.range (len * m)).map (z.cells[· % z.cells.size]!)) ps) e len nk C
 | none => False
@[simp] theorem bsZ_some (e len m nk:Nat) (ps:List (Nat × Value)) (z:Value) (C:Eff → Prop):bsZ e len m nk ps (some z) C = (okCells z = true ∧ flatV z = true ∧ 0 < len * m ∧ len * m ≤ 16777216 ∧ bsX (fillG (.inr m) ((Array.range (len * m)).map (z.cells[· % z.cells.size]!)) ps) e len nk C) := rfl
def bsM (P:Program) (e len nk:Nat) (ps:List (Nat × Value)) (m:Option Nat) (C:Eff → Prop):Prop :=
 match m with
 | some m => bsZ e len m nk ps (tyZero P e) C
 | none => False
@[simp] theorem bsM_some (P:Program) (e len m nk:Nat) (ps:List (Nat × Value)) (C:Eff → Prop):bsM P e len nk ps (some m) C = bsZ e len m nk ps (tyZero P e) C := rfl
def bsU (P:Program) (len nk:Nat) (ps:List (Nat × Value)) (u:Option TypeDesc) (C:Eff → Prop):Prop :=
 match u with
 | some (.slice e) => bsM P e len nk ps (tySize P e) C
 | _ => False
@[simp] theorem bsU_some (P:Program) (e len nk:Nat) (ps:List (Nat × Value)) (C:Eff → Prop):bsU P len nk ps (some (.slice e)) C = bsM P e len nk ps (tySize P e) C := rfl
@[simp ↓] theorem opX_buildSlice (T:TypeId) (len:Nat) (parts:Array (Nat × Operand)):opX P G V yc ⟨dst,.buildSlice T len parts,type,pos,after,guard⟩ ts hp nk C =
  ((∀ p ∈ parts.toList,okX ts hp p.2 ∧ okCells (gev ts p.2) = true) ∧ bsU P len nk (partsG ts parts) (P.underlying T) C) := by
 unfold opX bsU
 simp only
 cases hu:P.underlying T with
 | none => rfl
 | some u =>
  cases u with
  | slice e =>
   simp only [bsM]
   cases hm:tySize P e with
   | none => rfl
   | some m =>
    simp only [bsZ]
    cases hz:tyZero P e with
    | none => rfl
    | some z =>
     simp only
     cases hf:fillG (.inr m) ((Array.range (len * m)).map (z.cells[· % z.cells.size]!)) (partsG ts parts) <;> rfl
  | _ => rfl
@[simp] theorem msZ_int (e m:Nat) (z:Value) (b:Nat) (l:Int) (w:Value) (C:Eff → Prop):msZ P e m nk (some z) (some b) (.int .i64 l) w C = (w = .int .i64 l ∧ okCells z = true ∧ flatV z = true ∧ (0 < l ∧ l ≤ 4096) ∧ b ≤ 4096 ∧ 0 < m ∧ C ⟨.slice (some ⟨nk,0,none⟩) l.toNat l.toNat,[],[],[(nk,⟨(Array.range (l.toNat * m)).map (z.cells[· % z.cells.size]!),e⟩)],none,false⟩) := rfl
@[simp] theorem msM_some (e m:Nat) (v w:Value) (C:Eff → Prop):msM P e nk (some m) v w C = msZ P e m nk (tyZero P e) (tyB P e) v w C := rfl
@[simp] theorem msU_slice (e:Nat) (v w:Value) (C:Eff → Prop):msU P nk (some (.slice e)) v w C = msM P e nk (tySize P e) v w C := rfl
@[simp ↓] theorem opX_makeSlice (T:TypeId) (x y:Operand):opX P G V yc ⟨dst,.makeSlice T x y,type,pos,after,guard⟩ ts hp nk C = (okX ts hp x ∧ okX ts hp y ∧ msU P nk (P.underlying T) (gev ts x) (gev ts y) C) := nr rfl
end
end Go.Gy
namespace Go.Gy
set_option linter.unusedSimpArgs false
set_option linter.unusedVariables false
open Go Go.RowKit Go.Proofs
def vf (x0 x1 x2:Int):Nat → Int
 | 0 => x0
 | 1 => x1
 | _ => x2
def vf2 (x0 x1 x2 y0 y1 y2:Int):Nat → Int
 | 0 => x0
 | 1 => x1
 | 2 => x2
 | 3 => y0
 | 4 => y1
 | _ => y2
def xsV (N:Nat) (f:Nat → Int):List (Array Value) := (List.range N).map fun j => #[.int .i64 ((j % 3:Nat):Int),.int .i64 (f j)]
theorem xsV_at (N:Nat) (f:Nat → Int) (i:Nat) (h:i < N):(xsV N f)[i]? = some #[.int .i64 ((i % 3:Nat):Int),.int .i64 (f i)] := by simp [xsV,h]
theorem vparts_new (b k m c:Nat) (cs:Array Value) (hcs:∀ x ∈ cs,flatF x = true) (hb:100 ≤ b) (hb2:b < 100000) (hk:100 ≤ k) (hbk:b ≠ k):Fun Tryd.prog G0 51 #[.slice (some ⟨b,0,none⟩) m c] (hpL G0 [(b,⟨cs,.ty 36⟩)]) [b] (.new (.func (.func 68) #[] #[.pointer (some ⟨k,0,none⟩)]) [(k,⟨#[.slice (some ⟨b,0,none⟩) m c],.ty 42⟩)]) := by
 have e0:rst (hpL G0 [(b,⟨cs,.ty 36⟩)]) [b] = hpL G0 [(b,⟨cs,.ty 36⟩)] := hpL_rst G0F (by simp)
 have hdom:∀ j,dom (hpL G0 [(b,⟨cs,.ty 36⟩)]) j → j = b ∨ j < 100 := fun j hj => by
  unfold dom at hj
  cases hq:hpL G0 [(b,⟨cs,.ty 36⟩)] j with
  | none => exact absurd hq hj
  | some q =>
   rcases hpL_mem hq with h | h
   ·simp at h; exact .inl h.1
   ·exact .inr (G0F j q h).1
 have hdb:dom (hpL G0 [(b,⟨cs,.ty 36⟩)]) b := by unfold dom; simp
 refine new_of (B := 100000) (fun j => if j = k then 100000 else j) G0F (fun j hj => hpL_low (by simp; omega) hj) Tryd.func51 rfl Tryd.call51 ?_ ?_ ?_ (by simp [Tryd.ntmps51]) (by omega) ?_ (fun j hj => ?_) ?_ ?_ ?_ ?_
 ·rw [e0]; simp [idsV,idsA,idsF,ids0]; exact hdb
 ·rw [e0]
  intro j q hq
  rcases hpL_mem hq with h | h
  ·simp at h; rw [h.2]; exact Blk.flat_ids hcs
  ·exact G0_closed _ _ _ h
 ·refine ⟨by simp [idsV,idsA,idsF,ids0,extD,keys],by simp [keys]; omega,fun q b c h1 h2 => ?_⟩
  simp at h1 h2
  rw [h1.2,h2.2]
 ·rw [e0]
  intro x hx
  simp [show ¬ x = b by omega,show 100 ≤ x by omega]
 ·rw [e0] at hj
  rcases hdom j hj with h | h
  ·rw [if_neg (by omega)]
  ·rw [if_neg (by omega)]
 ·rw [e0]
  intro p hp
  simp at hp
  subst hp
  refine ⟨fun h => ?_,by simp⟩
  rcases hdom _ h with h | h <;> simp at h <;> omega
 ·simp
 ·rw [e0]; simp [idsF,ids0]; exact hdb
 ·intro C hC hC0 hY
  rw [e0]
  have hbB:¬ b = 100000 := by omega
  have hBb:¬ 100000 = b := by omega
  repeat' (first | refine gwA ?_ | ((first | refine gwR [] ?_ | refine gwD [] ?_); intro Q hQ hP; simp [hC,hY,hbB,hBb,hbk]; refine hQ _ _ _ _ (by kernel_rfl) ?_; clear hQ hP Q) | (refine gwC ?_ ?_ <;> (intro hb; first | (cases hb; done) | skip)))
  refine ⟨.inr trivial,?_⟩
  simp [Tryd.results51,ren,renA,renF,ren0]
  intro j hj
  rcases hdom j hj with h | h
  ·have:¬ j = 100000 := by omega
   simp [this]
  ·have:¬ j = 100000 := by omega
   simp [this]
def pvL1 (x0 x1 x2:Int):List (Nat × Blk) := [(100,⟨#[.slice (some ⟨108,0,none⟩) 1 1],.ty 42⟩),(108,⟨#[.int .i64 x0,.int .i64 x1,.int .i64 x2],.ty 36⟩)]
abbrev pv1 (x0 x1 x2:Int):Hp := hpL G0 (pvL1 x0 x1 x2)
theorem vparts1_itk (x0 x1 x2:Int):IterK Tryd.prog G0 68 #[.pointer (some ⟨100,0,none⟩)] (pv1 x0 x1 x2) [100,108] (xsV 3 (vf x0 x1 x2)) := by
 have hL:LOk (pvL1 x0 x1 x2) 200 := ⟨by simp [pvL1],by simp [pvL1,keys],by simp [pvL1,ids_lit,idsF,ids0,keys]⟩
 have hlt:∀ k,dom (hpL G0 (pvL1 x0 x1 x2)) k → k < 200 := fun k hk => Classical.byContradiction fun h1 => hk (hL.free G0F (by omega) k (by omega))
 refine iterk_ofL (m := pvL1 x0 x1 x2) (B := 200) (v := .tuple #[]) G0F Tryd.func68 rfl Tryd.call68 hL ?_ (by simp [Tryd.ntmps68]) (by omega) ?_
 ·simp [idsV,idsA,idsF,ids0,pvL1,keys]
 ·intro C l stop hC hC0 hY
  have exs:xsV 3 (vf x0 x1 x2) = [#[.int .i64 0,.int .i64 x0],#[.int .i64 1,.int .i64 x1],#[.int .i64 2,.int .i64 x2]] := rfl
  rw [exs] at hY ⊢
  by_cases h3:3 ≤ stop
  ·have q0:(0 != stop) = true := by simp; omega
   have q1:(1 != stop) = true := by simp; omega
   have q2:(2 != stop) = true := by simp; omega
   have l1:1 ≤ stop := by omega
   have l2:2 ≤ stop := by omega
   repeat' (first | refine GWL_start ?_ | refine GWL_step ?_ | refine gwA ?_ | ((first | refine gwR [] ?_ | refine gwD [] ?_); intro Q hQ hP; simp [hC,hY,pvL1,q0,q1,q2,l1,l2,h3]; refine hQ _ _ _ _ (by kernel_rfl) ?_; clear hQ hP Q) | (refine gwC ?_ ?_ <;> (intro hb; first | (cases hb; done) | skip)))
   refine ⟨by simp,by simp [Tryd.results68],by first | (simp; omega) | omega,fun k hk => ?_⟩
   have hk := hlt k hk
   simp (disch := omega) only [upd_other]
   rfl
  ·have:stop = 0 ∨ stop = 1 ∨ stop = 2 := by omega
   rcases this with rfl | rfl | rfl
   all_goals
    repeat' (first | refine GWL_start ?_ | refine GWL_step ?_ | refine gwA ?_ | ((first | refine gwR [] ?_ | refine gwD [] ?_); intro Q hQ hP; simp [hC,hY,pvL1]; refine hQ _ _ _ _ (by kernel_rfl) ?_; clear hQ hP Q) | (refine gwC ?_ ?_ <;> (intro hb; first | (cases hb; done) | skip)))
   all_goals
    refine ⟨by simp,by simp [Tryd.results68],by simp,fun k hk => ?_⟩
    have hk := hlt k hk
    simp (disch := omega) only [upd_other]
    rfl
theorem vparts1_it (x0 x1 x2:Int):IterG Tryd.prog G0 68 #[.pointer (some ⟨100,0,none⟩)] (pv1 x0 x1 x2) [100,108] (xsV 3 (vf x0 x1 x2)) := (vparts1_itk x0 x1 x2).g
def pvL2 (x0 x1 x2 y0 y1 y2:Int):List (Nat × Blk) := [(100,⟨#[.slice (some ⟨108,0,none⟩) 2 2],.ty 42⟩),(108,⟨#[.int .i64 x0,.int .i64 x1,.int .i64 x2,.int .i64 y0,.int .i64 y1,.int .i64 y2],.ty 36⟩)]
abbrev pv2 (x0 x1 x2 y0 y1 y2:Int):Hp := hpL G0 (pvL2 x0 x1 x2 y0 y1 y2)
set_option maxRecDepth 20000 in
set_option maxHeartbeats 4000000 in
theorem vparts2_itk (x0 x1 x2 y0 y1 y2:Int):IterK Tryd.prog G0 68 #[.pointer (some ⟨100,0,none⟩)] (pv2 x0 x1 x2 y0 y1 y2) [100,108] (xsV 6 (vf2 x0 x1 x2 y0 y1 y2)) := by
 have hL:LOk (pvL2 x0 x1 x2 y0 y1 y2) 200 := ⟨by simp [pvL2],by simp [pvL2,keys],by simp [pvL2,ids_lit,idsF,ids0,keys]⟩
 have hlt:∀ k,dom (hpL G0 (pvL2 x0 x1 x2 y0 y1 y2)) k → k < 200 := fun k hk => Classical.byContradiction fun h1 => hk (hL.free G0F (by omega) k (by omega))
 refine iterk_ofL (m := pvL2 x0 x1 x2 y0 y1 y2) (B := 200) (v := .tuple #[]) G0F Tryd.func68 rfl Tryd.call68 hL ?_ (by simp [Tryd.ntmps68]) (by omega) ?_
 ·simp [idsV,idsA,idsF,ids0,pvL2,keys]
 ·intro C l stop hC hC0 hY
  have exs:xsV 6 (vf2 x0 x1 x2 y0 y1 y2) = [#[.int .i64 0,.int .i64 x0],#[.int .i64 1,.int .i64 x1],#[.int .i64 2,.int .i64 x2],#[.int .i64 0,.int .i64 y0],#[.int .i64 1,.int .i64 y1],#[.int .i64 2,.int .i64 y2]] := rfl
  rw [exs] at hY ⊢
  by_cases h6:6 ≤ stop
  ·have q0:(0 != stop) = true := by simp; omega
   have q1:(1 != stop) = true := by simp; omega
   have q2:(2 != stop) = true := by simp; omega
   have q3:(3 != stop) = true := by simp; omega
   have q4:(4 != stop) = true := by simp; omega
   have q5:(5 != stop) = true := by simp; omega
   have l1:1 ≤ stop := by omega
   have l2:2 ≤ stop := by omega
   have l3:3 ≤ stop := by omega
   have l4:4 ≤ stop := by omega
   have l5:5 ≤ stop := by omega
   repeat' (first | refine GWL_start ?_ | refine GWL_step ?_ | refine gwA ?_ | ((first | refine gwR [] ?_ | refine gwD [] ?_); intro Q hQ hP; simp [hC,hY,pvL2,q0,q1,q2,q3,q4,q5,l1,l2,l3,l4,l5,h6]; refine hQ _ _ _ _ (by kernel_rfl) ?_; clear hQ hP Q) | (refine gwC ?_ ?_ <;> (intro hb; first | (cases hb; done) | skip)))
   refine ⟨by simp,by simp [Tryd.results68],by first | (simp; omega) | omega,fun k hk => ?_⟩
   have hk := hlt k hk
   simp (disch := omega) only [upd_other]
   rfl
  ·have:stop = 0 ∨ stop = 1 ∨ stop = 2 ∨ stop = 3 ∨ stop = 4 ∨ stop = 5 := by omega
   rcases this with rfl | rfl | rfl | rfl | rfl | rfl
   all_goals
    repeat' (first | refine GWL_start ?_ | refine GWL_step ?_ | refine gwA ?_ | ((first | refine gwR [] ?_ | refine gwD [] ?_); intro Q hQ hP; simp [hC,hY,pvL2]; refine hQ _ _ _ _ (by kernel_rfl) ?_; clear hQ hP Q) | (refine gwC ?_ ?_ <;> (intro hb; first | (cases hb; done) | skip)))
   all_goals
    refine ⟨by simp,by simp [Tryd.results68],by simp,fun k hk => ?_⟩
    have hk := hlt k hk
    simp (disch := omega) only [upd_other]
    rfl
end Go.Gy
namespace Go.Gy
set_option linter.unusedSimpArgs false
set_option linter.unusedVariables false
open Go Go.RowKit Go.Proofs
def wl (z:Int):List Value := [.int .u64 (wi z 0),.int .u64 (wi z 1),.int .u64 (wi z 2),.int .u64 (wi z 3)]
@[simp] theorem wl_len (z:Int):(wl z).length = 4 := rfl
def lc (b:Int):Nat → List Value
 | 0 => []
 | k + 1 => lc b k ++ wl (b * 2 ^ k)
@[simp] theorem lc_len (b:Int) (k:Nat):(lc b k).length = 4 * k := by
 induction k with
 | zero => rfl
 | succ k ih => simp [lc,ih]; omega
end Go.Gy
namespace Go.Gy
set_option linter.unusedSimpArgs false
set_option linter.unusedVariables false
def nearQ (a b:Int):Int := if b < 2 * (a % b) ∨ (2 * (a % b) = b ∧ 0 ≤ a / b) then a / b + 1 else a / b
end Go.Gy
namespace Go.Gy
set_option linter.unusedSimpArgs false
set_option linter.unusedVariables false
open Go Go.RowKit Go.Proofs
def sm (z:Int):Prop := -1329227995784915872903807060280344576 ≤ z ∧ z ≤ 1329227995784915872903807060280344576
theorem sm.wr {z:Int} (h:sm z):wr z := ⟨Int.le_trans (by decide) h.1,Int.lt_of_le_of_lt h.2 (by decide)⟩
theorem sm.up {z:Int} (h:sm z):Gy.wr (z + 1) := ⟨Int.le_trans (by decide) (Int.le_trans h.1 (Int.le_add_one (Int.le_refl _))),Int.lt_of_le_of_lt (Int.add_le_add_right h.2 1) (by decide)⟩
def jb (n:Int):Blk := ⟨#[.int .i64 n],.ty 3⟩
theorem lead (p:Nat → Prop) (m:Nat):∃ N,N ≤ m ∧ (∀ i,i < N → p i) ∧ (N = m ∨ ¬ p N) := by
 induction m with
 | zero => exact ⟨0,Nat.le_refl _,fun i hi => absurd hi (Nat.not_lt_zero i),.inl rfl⟩
 | succ m ih =>
  obtain ⟨N,h1,h2,h3⟩ := ih
  rcases h3 with rfl | h3
  ·by_cases hp:p N
   ·exact ⟨N + 1,Nat.le_refl _,fun i hi => by
     by_cases e:i = N
     ·subst e; exact hp
     ·exact h2 i (by omega),.inl rfl⟩
   ·exact ⟨N,by omega,h2,.inr hp⟩
  ·exact ⟨N,by omega,h2,.inr h3⟩
def inW (m x:Int):Prop := 0 ≤ m ∧ -m ≤ x ∧ x ≤ m
instance inWdec (m x:Int):Decidable (inW m x) := by unfold inW; infer_instance
theorem neg_in {m:Int} (h:i64 m) (h0:0 ≤ m):Int.bmod (-m) 18446744073709551616 = -m := by
 have := h.1; have := h.2
 rw [Int.bmod_def]; omega
def wiHp (x0 x1 x2 m:Int):Hp := hpL G0 [(200,⟨#[.int .i64 x0,.int .i64 x1,.int .i64 x2],.ty 36⟩),(208,jb m),(216,⟨#[.bool false],.ty 4⟩)]
def wiTs:Nat → Value := tsL [(3,.pointer (some ⟨208,0,none⟩)),(4,.pointer (some ⟨216,0,none⟩))]
set_option maxRecDepth 8000 in
theorem within_ret (x0 x1 x2 m:Int) (hm:i64 m) (h0:i64 x0) (h1:i64 x1) (h2:i64 x2):Ret Tryd.prog G0 38 #[.agg #[.int .i64 x0,.int .i64 x1,.int .i64 x2],.int .i64 m] (.bool (decide (inW m x0 ∧ inW m x1 ∧ inW m x2))) := by
 refine ret_of G0F Tryd.func38 rfl Tryd.call38 (by simp) (by simp) (by simp [Tryd.ntmps38]) ?_
 intro C hC hC0 hY
 obtain ⟨N,hN,hlt,hend⟩ := lead (fun i => inW m (vf x0 x1 x2 i)) 3
 repeat' (first | refine gwA ?_ | ((first | refine gwR [51] ?_ | refine gwD [51] ?_); intro Q hQ hP; simp [hC,hY,jb]; (repeat ((first | (refine heapK_of (vparts_new 232 240 1 1 #[.int .i64 x0,.int .i64 x1,.int .i64 x2] (by simp) (by omega) (by omega) (by omega) (by omega)) (by simp) (fun k hk => hpL_low (by simp) hk) (by simp [Res.at,keys]) ?_)); try simp [hC,hY,jb])); refine hQ _ _ _ _ (by kernel_rfl) ?_; clear hQ hP Q) | (refine gwC ?_ ?_ <;> (intro hb; first | (cases hb; done) | skip)))
 have hT:m < 0 ∨ 0 ≤ m := by omega
 refine GW_range (f := 68) (rs := [240,232]) (xs := xsV 3 (vf x0 x1 x2)) (caps := #[.pointer (some ⟨240,0,none⟩)]) (by simp) ?_ (by simp [xsV]) (by simp [Tryd.ntmps38]) wiTs (fun _ => wiHp x0 x1 x2 m) 300 N (by simp [xsV]; omega) ?_ ?_ ?_ ?_ ?_
 ·rw [hC]
  refine IterG.cast (IterX.rn (fun k => if k = 100 then 240 else if k = 108 then 232 else k) G0F (fun k hk => hpL_low (by simp [pvL1]) hk) (rs := [100,108]) ?_ (vparts1_it x0 x1 x2)) (by simp [ren0]) (by simp)
  refine ⟨fun k hk => ?_,?_,?_,?_⟩
  ·have h1:¬ k = 100 := by omega
   have h2:¬ k = 108 := by omega
   have h3:¬ k = 200 := by omega
   have h4:¬ k = 208 := by omega
   have h5:¬ k = 216 := by omega
   have h8:¬ k = 232 := by omega
   have h9:¬ k = 240 := by omega
   simp [h1,h2,h3,h4,h5,h8,h9,pv1,pvL1]
  ·simp
  ·simp [pvL1,Blk.rn,renF,ren0]
  ·simp
 ·refine weakL _ 300 hC G0F (m0 := []) hC0 (by omega) ?_ ?_ ?_
  ·simp [idsV,idsA,idsF,ids0,dom]
  ·simp [ids_lit,idsF,ids0,jb]
  ·simp
 ·simp [wiHp,dom]
 ·intro i hi t
  refine tsL_ids ?_ t
  simp [idsV,idsA,idsF,ids0,dom,wiHp]
 ·intro i x hi hx C1 l hC1 hh1 hY1
  have hCC := hC
  have hC1':C1.G = G0 := hC1.trans hC
  obtain ⟨g0,g1,g2⟩ := hlt i hi
  replace hC := hC1'
  replace hY := hY1
  have:i = 0 ∨ i = 1 ∨ i = 2 := by omega
  rcases this with rfl | rfl | rfl
  all_goals
   rw [xsV_at _ _ _ (by omega)] at hx
   simp only [Option.some.injEq] at hx
   subst hx
   simp only [vf] at *
   unfold wiHp
  all_goals
   repeat' (first | refine gwA ?_ | ((first | refine gwR [] ?_ | refine gwD [] ?_); intro Q hQ hP; simp [hC,hY,roundTs,wiTs,jb]; refine hQ _ _ _ _ (by kernel_rfl) ?_; clear hQ hP Q) | (refine gwC ?_ ?_ <;> (intro hb; first | (cases hb; done) | skip)))
  all_goals
   intro C2 hC2 hh2 hY2
   replace hC:C2.G = G0 := hC2.trans hCC
   replace hY := hY2
   have q0:¬ m < 0 := by omega
   have q1 := Int.not_lt.2 g1
   have q2 := Int.not_lt.2 g2
   have hbm := neg_in hm g0
   repeat' (first | refine gwA ?_ | ((first | refine gwR [] ?_ | refine gwD [] ?_); intro Q hQ hP; simp [hC,hY,roundTs,wiTs,jb,hbm,q0,q1,q2]; refine hQ _ _ _ _ (by kernel_rfl) ?_; clear hQ hP Q) | (refine gwC ?_ ?_ <;> (intro hb; first | (cases hb; done) | skip)))
  all_goals
   refine weakL [] 300 hC1' G0F hh1 (by omega) ?_ ?_ ?_
   ·simp
   ·simp [ids_lit,idsF,ids0,jb]
   ·simp [jb]
 ·by_cases hend':N = 3
  ·subst hend'
   left
   refine ⟨by simp [xsV],?_⟩
   have e:(inW m x0 ∧ inW m x1 ∧ inW m x2) = True := by
    simp only [eq_iff_iff,iff_true]
    exact ⟨hlt 0 (by omega),hlt 1 (by omega),hlt 2 (by omega)⟩
   simp only [e]
   unfold wiHp wiTs jb
   repeat' (first | refine gwA ?_ | ((first | refine gwR [] ?_ | refine gwD [] ?_); intro Q hQ hP; simp [hC,hY]; refine hQ _ _ _ _ (by kernel_rfl) ?_; clear hQ hP Q) | (refine gwC ?_ ?_ <;> (intro hb; first | (cases hb; done) | skip)))
   refine ⟨.inr trivial,?_⟩
   simp [Tryd.results38]
  ·right
   have hN3:N < 3 := by omega
   replace hend := hend.resolve_left hend'
   refine ⟨_,xsV_at _ _ _ hN3,?_⟩
   have e:(inW m x0 ∧ inW m x1 ∧ inW m x2) = False := by
    simp only [eq_iff_iff,iff_false]
    rintro ⟨a0,a1,a2⟩
    have:N = 0 ∨ N = 1 ∨ N = 2 := by omega
    rcases this with rfl | rfl | rfl <;> contradiction
   simp only [e]
   have hor:m < 0 ∨ (¬ m < 0 ∧ vf x0 x1 x2 N < -m) ∨ (¬ m < 0 ∧ ¬ vf x0 x1 x2 N < -m ∧ m < vf x0 x1 x2 N) := by
    unfold inW at hend; omega
   intro C1 l hC1 hh1 hY1
   have hCC := hC
   replace hC := hC1.trans hC
   replace hY := hY1
   clear hlt hN
   have:N = 0 ∨ N = 1 ∨ N = 2 := by omega
   rcases this with rfl | rfl | rfl
   all_goals
    simp only [vf] at hor ⊢
    unfold wiHp
   all_goals
    repeat' (first | refine gwA ?_ | ((first | refine gwR [] ?_ | refine gwD [] ?_); intro Q hQ hP; simp [hC,hY,roundTs,wiTs,jb]; refine hQ _ _ _ _ (by kernel_rfl) ?_; clear hQ hP Q) | (refine gwC ?_ ?_ <;> (intro hb; first | (cases hb; done) | skip)))
   all_goals
    intro C2 hC2 hh2 hY2
    replace hC:C2.G = G0 := hC2.trans hCC
    replace hY := hY2
    rcases hor with q0 | ⟨q0,q1⟩ | ⟨q0,q1,q2⟩
    ·
     repeat' (first | refine gwA ?_ | ((first | refine gwR [] ?_ | refine gwD [] ?_); intro Q hQ hP; simp [hC,hY,roundTs,wiTs,jb,q0]; refine hQ _ _ _ _ (by kernel_rfl) ?_; clear hQ hP Q) | (refine gwC ?_ ?_ <;> (intro hb; first | (cases hb; done) | skip)))
     refine ⟨by simp [outCode],fun t => tsL_ids (by simp [idsV,idsA,idsF,ids0,dom]) t,.inr trivial,?_⟩
     simp [Tryd.results38,wiTs]
    ·have hbm := neg_in hm (Int.not_lt.1 q0)
     repeat' (first | refine gwA ?_ | ((first | refine gwR [] ?_ | refine gwD [] ?_); intro Q hQ hP; simp [hC,hY,roundTs,wiTs,jb,hbm,q0,q1]; refine hQ _ _ _ _ (by kernel_rfl) ?_; clear hQ hP Q) | (refine gwC ?_ ?_ <;> (intro hb; first | (cases hb; done) | skip)))
     refine ⟨by simp [outCode],fun t => tsL_ids (by simp [idsV,idsA,idsF,ids0,dom]) t,.inr trivial,?_⟩
     simp [Tryd.results38,wiTs]
    ·have hbm := neg_in hm (Int.not_lt.1 q0)
     repeat' (first | refine gwA ?_ | ((first | refine gwR [] ?_ | refine gwD [] ?_); intro Q hQ hP; simp [hC,hY,roundTs,wiTs,jb,hbm,q0,q1,q2]; refine hQ _ _ _ _ (by kernel_rfl) ?_; clear hQ hP Q) | (refine gwC ?_ ?_ <;> (intro hb; first | (cases hb; done) | skip)))
     refine ⟨by simp [outCode],fun t => tsL_ids (by simp [idsV,idsA,idsF,ids0,dom]) t,.inr trivial,?_⟩
     simp [Tryd.results38,wiTs]
def inV (m x0 x1 x2:Int):Bool := decide (inW m x0 ∧ inW m x1 ∧ inW m x2)
@[simp] theorem vwithin (x0 x1 x2 m:Int) (hm:i64 m) (h0:i64 x0) (h1:i64 x1) (h2:i64 x2) (K:Value → Prop):callK Tryd.prog G0 38 #[.agg #[.int .i64 x0,.int .i64 x1,.int .i64 x2],.int .i64 m] K ↔ K (.bool (inV m x0 x1 x2)) := callK_iff G0W (by kernel_rfl) (within_ret x0 x1 x2 m hm h0 h1 h2)
def fnI (x:Int):Prop := -536870912 ≤ x ∧ x ≤ 536870912
instance fnIdec (x:Int):Decidable (fnI x) := by unfold fnI; infer_instance
theorem fine_fun (M m:Nat) (v:Bool) (cs:Array Value) (hcs:∀ x ∈ cs,flatF x = true) (f:Nat → Int) (hit:IterK Tryd.prog G0 68 #[.pointer (some ⟨100,0,none⟩)] (hpL G0 [(100,⟨#[.slice (some ⟨108,0,none⟩) m m],.ty 42⟩),(108,⟨cs,.ty 36⟩)]) (keys [(100,⟨#[.slice (some ⟨108,0,none⟩) m m],.ty 42⟩),(108,⟨cs,.ty 36⟩)]) (xsV M f)) (hv:v = true ↔ ∀ j,j < M → fnI (f j)) :
  Fun Tryd.prog G0 52 #[.slice (some ⟨100,0,none⟩) m m] (hpL G0 [(100,⟨cs,.ty 36⟩)]) [100] (.ret (.bool v) []) := by
 have hfx:Blk.fx (Blk.mk cs (.ty 36)) := hcs
 have hfi:∀ D,(Blk.mk cs (.ty 36)).ids D := fun D => Blk.fx_ids hfx D
 refine fun_ofL (m := [(100,⟨cs,.ty 36⟩)]) (B := 200) G0F Tryd.func52 rfl Tryd.call52 ⟨by simp,by simp [keys],by simp only [List.mem_singleton,forall_eq]; exact hfi _⟩ ?_ (by simp) (by simp) (by simp) (by simp [Tryd.ntmps52]) (by omega) ?_
 ·simp [idsV,idsA,idsF,ids0,keys]
 intro C hC hC0 hY
 obtain ⟨N,hN,hlt,hend⟩ := lead (fun i => fnI (f i)) M
 repeat' (first | refine gwA ?_ | ((first | refine gwR [51] ?_ | refine gwD [51] ?_); intro Q hQ hP; simp [hC,hY,jb]; (repeat ((first | (refine heapK_of (vparts_new 100 216 m m cs hcs (by omega) (by omega) (by omega) (by omega)) (by simp) (fun k hk => hpL_low (by simp) hk) (by simp [Res.at,keys]) ?_)); try simp [hC,hY,jb])); refine hQ _ _ _ _ (by kernel_rfl) ?_; clear hQ hP Q) | (refine gwC ?_ ?_ <;> (intro hb; first | (cases hb; done) | skip)))
 refine GW_rangeKL (G := G0) (f := 68) (rs := [216,100]) (xs := xsV M f) (caps := #[.pointer (some ⟨216,0,none⟩)]) (m0 := [(100,⟨cs,.ty 36⟩)]) [216,100] G0F hC hC0 hY (by simp) ?_ (by simp [xsV]) (by simp [Tryd.ntmps52]) [(2,.pointer (some ⟨200,0,none⟩))] [] (fun _ => [(200,⟨#[.bool false],.ty 4⟩)]) 300 N (by simp [xsV]; omega) (by omega) (by simp) (by simp [dom]) ?_ (by simp) (by simp) (by simp) ?_ (by simp) ?_ ?_
 ·refine iterk_mv (m := [(100,⟨#[.slice (some ⟨108,0,none⟩) m m],.ty 42⟩),(108,⟨cs,.ty 36⟩)]) (B := 200) hit G0F ⟨by simp,by simp [keys],?_⟩ (fun k => if k = 100 then 216 else if k = 108 then 100 else k) (fun k hk => ?_) (by simp [ren0]) (by simp [keys]) (by (intro k hk; first | rfl | (simp (disch := omega) only [addB,List.mem_cons,List.not_mem_nil,or_false,upd_other,hpL_cons,hpL_nil,if_neg,updL] <;> done))) ?_ ?_
  ·simp only [List.mem_cons,List.not_mem_nil,or_false,forall_eq_or_imp,forall_eq]
   exact ⟨by simp [ids_lit,idsF,ids0,keys],hfi _⟩
  ·rw [if_neg (by omega),if_neg (by omega)]
  ·have hr := fun ρ => fx_map hcs ρ
   simp [hr,Blk.rn,renF,ren0]
  ·simp [keys]
 ·intro k hk b hb
  simp only [List.mem_cons,List.not_mem_nil,or_false] at hk
  rcases hk with rfl | rfl
  ·simp at hb; subst hb; simp [ids_lit,idsF,ids0]
  ·simp at hb; subst hb; exact hfi _
 ·intro i hi
  simp [idsV,idsA,idsF,ids0,dom,ids_lit]
 ·intro i x hi hx C1 l hC1 hh1 hY1
  rw [xsV_at _ _ _ (by omega)] at hx
  simp only [Option.some.injEq] at hx
  subst hx
  obtain ⟨g1,g2⟩ := hlt i hi
  have q1 := Int.not_lt.2 g1
  have q2 := Int.not_lt.2 g2
  clear hC hY
  have hC := hC1
  have hY := hY1
  repeat' (first | refine gwA ?_ | ((first | refine gwR [] ?_ | refine gwD [] ?_); intro Q hQ hP; simp [hC,hY,roundTs]; refine hQ _ _ _ _ (by kernel_rfl) ?_; clear hQ hP Q) | (refine gwC ?_ ?_ <;> (intro hb; first | (cases hb; done) | skip)))
  intro C2 hC2 hh2 hY2
  clear hC hY
  have hC := hC2
  have hY := hY2
  repeat' (first | refine gwA ?_ | ((first | refine gwR [] ?_ | refine gwD [] ?_); intro Q hQ hP; simp [hC,hY,roundTs,q1,q2]; refine hQ _ _ _ _ (by kernel_rfl) ?_; clear hQ hP Q) | (refine gwC ?_ ?_ <;> (intro hb; first | (cases hb; done) | skip)))
  simp
 ·by_cases hend':N = M
  ·subst hend'
   left
   refine ⟨by simp [xsV],?_⟩
   have e := hv.2 hlt
   subst e
   repeat' (first | refine gwA ?_ | ((first | refine gwR [] ?_ | refine gwD [] ?_); intro Q hQ hP; simp [hC,hY,addB,List.cons_append,List.nil_append]; refine hQ _ _ _ _ (by kernel_rfl) ?_; clear hQ hP Q) | (refine gwC ?_ ?_ <;> (intro hb; first | (cases hb; done) | skip)))
   refine ⟨.inr rfl,by simp [Tryd.results52],keep_of G0F (by simp [addB]) (by (intro k hk; first | rfl | (simp (disch := omega) only [addB,List.mem_cons,List.not_mem_nil,or_false,upd_other,hpL_cons,hpL_nil,if_neg,updL] <;> done)))⟩
  ·right
   have hN3:N < M := by omega
   replace hend := hend.resolve_left hend'
   refine ⟨_,xsV_at _ _ _ hN3,?_⟩
   have e:v = false := by
    cases v
    ·rfl
    ·exact absurd (hv.1 rfl N hN3) hend
   subst e
   have hor:f N < -536870912 ∨ (¬ f N < -536870912 ∧ 536870912 < f N) := by
    unfold fnI at hend; omega
   intro C1 l hC1 hh1 hY1
   clear hC hY
   have hC := hC1
   have hY := hY1
   repeat' (first | refine gwA ?_ | ((first | refine gwR [] ?_ | refine gwD [] ?_); intro Q hQ hP; simp [hC,hY,roundTs]; refine hQ _ _ _ _ (by kernel_rfl) ?_; clear hQ hP Q) | (refine gwC ?_ ?_ <;> (intro hb; first | (cases hb; done) | skip)))
   intro C2 hC2 hh2 hY2
   clear hC hY
   have hC := hC2
   have hY := hY2
   rcases hor with q1 | ⟨q1,q2⟩
   ·
    repeat' (first | refine gwA ?_ | ((first | refine gwR [] ?_ | refine gwD [] ?_); intro Q hQ hP; simp [hC,hY,roundTs,q1]; refine hQ _ _ _ _ (by kernel_rfl) ?_; clear hQ hP Q) | (refine gwC ?_ ?_ <;> (intro hb; first | (cases hb; done) | skip)))
    refine ⟨by simp [outCode],by simp [idsV,idsA,idsF,ids0,dom],by simp,.inr rfl,by simp [Tryd.results52,addB],keep_of G0F (by simp [addB]) (by (intro k hk; first | rfl | (simp (disch := omega) only [addB,List.mem_cons,List.not_mem_nil,or_false,upd_other,hpL_cons,hpL_nil,if_neg,updL] <;> done)))⟩
   ·
    repeat' (first | refine gwA ?_ | ((first | refine gwR [] ?_ | refine gwD [] ?_); intro Q hQ hP; simp [hC,hY,roundTs,q1,q2]; refine hQ _ _ _ _ (by kernel_rfl) ?_; clear hQ hP Q) | (refine gwC ?_ ?_ <;> (intro hb; first | (cases hb; done) | skip)))
    refine ⟨by simp [outCode],by simp [idsV,idsA,idsF,ids0,dom],by simp,.inr rfl,by simp [Tryd.results52,addB],keep_of G0F (by simp [addB]) (by (intro k hk; first | rfl | (simp (disch := omega) only [addB,List.mem_cons,List.not_mem_nil,or_false,upd_other,hpL_cons,hpL_nil,if_neg,updL] <;> done)))⟩

theorem fine1_fun (x0 x1 x2:Int) (v:Bool) (hv:v = true ↔ fnI x0 ∧ fnI x1 ∧ fnI x2):Fun Tryd.prog G0 52 #[.slice (some ⟨100,0,none⟩) 1 1] (hpL G0 [(100,⟨#[.int .i64 x0,.int .i64 x1,.int .i64 x2],.ty 36⟩)]) [100] (.ret (.bool v) []) := by
 refine fine_fun 3 1 _ _ (by simp) _ (vparts1_itk x0 x1 x2) ?_
 rw [hv]
 refine ⟨fun ⟨h0,h1,h2⟩ j hj => ?_,fun h => ⟨h 0 (by omega),h 1 (by omega),h 2 (by omega)⟩⟩
 have:j = 0 ∨ j = 1 ∨ j = 2 := by omega
 rcases this with rfl | rfl | rfl <;> assumption
theorem fine2_fun (x0 x1 x2 y0 y1 y2:Int) (v:Bool) (hv:v = true ↔ (fnI x0 ∧ fnI x1 ∧ fnI x2) ∧ fnI y0 ∧ fnI y1 ∧ fnI y2):Fun Tryd.prog G0 52 #[.slice (some ⟨100,0,none⟩) 2 2] (hpL G0 [(100,⟨#[.int .i64 x0,.int .i64 x1,.int .i64 x2,.int .i64 y0,.int .i64 y1,.int .i64 y2],.ty 36⟩)]) [100] (.ret (.bool v) []) := by
 refine fine_fun 6 2 _ _ (by simp) _ (vparts2_itk x0 x1 x2 y0 y1 y2) ?_
 rw [hv]
 refine ⟨fun ⟨⟨h0,h1,h2⟩,h3,h4,h5⟩ j hj => ?_,fun h => ⟨⟨h 0 (by omega),h 1 (by omega),h 2 (by omega)⟩,h 3 (by omega),h 4 (by omega),h 5 (by omega)⟩⟩
 have:j = 0 ∨ j = 1 ∨ j = 2 ∨ j = 3 ∨ j = 4 ∨ j = 5 := by omega
 rcases this with rfl | rfl | rfl | rfl | rfl | rfl <;> assumption
@[simp] theorem flatV_fn0 (f:Fn):flatV (.func f #[] #[]) = true := by simp [flatV,flatA,flatF,Array.all]
def eaE (op:Int → Int → Int) (a0 a1 a2 b0 b1 b2:Int):Int := if ((fnI a0 ∧ fnI a1 ∧ fnI a2) ∧ fnI b0 ∧ fnI b1 ∧ fnI b2) ∧ fnI (op a0 b0) ∧ fnI (op a1 b1) ∧ fnI (op a2 b2) then 0 else 20
def eaV (e v:Int):Int := if e = 0 then v else 0
def eaL (g:FuncId) (op:Int → Int → Int) (a0 a1 a2 b0 b1 b2:Int) (i:Nat):List (Nat × Blk) := [(200,⟨#[.int .i64 a0,.int .i64 a1,.int .i64 a2],.ty 36⟩),(208,⟨#[.int .i64 b0,.int .i64 b1,.int .i64 b2],.ty 36⟩),(216,⟨#[.func (.func g) #[] #[]],.ty 73⟩),
 (224,⟨#[.int .i64 (if 0 < i then op a0 b0 else 0),.int .i64 (if 1 < i then op a1 b1 else 0),.int .i64 (if 2 < i then op a2 b2 else 0)],.ty 36⟩)]
set_option maxRecDepth 8000 in
theorem each_ret (g:FuncId) (op:Int → Int → Int) (hop:∀ x y K,fnI x → fnI y → (callK Tryd.prog G0 g #[.int .i64 x,.int .i64 y] K ↔ K (.int .i64 (op x y)))) (a0 a1 a2 b0 b1 b2:Int):Ret Tryd.prog G0 39 #[.agg #[.int .i64 a0,.int .i64 a1,.int .i64 a2],.agg #[.int .i64 b0,.int .i64 b1,.int .i64 b2],.func (.func g) #[] #[]]
  (.tuple #[.agg #[.int .i64 (eaV (eaE op a0 a1 a2 b0 b1 b2) (op a0 b0)),.int .i64 (eaV (eaE op a0 a1 a2 b0 b1 b2) (op a1 b1)),.int .i64 (eaV (eaE op a0 a1 a2 b0 b1 b2) (op a2 b2))],.int .i64 (eaE op a0 a1 a2 b0 b1 b2)]) := by
 refine ret_of G0F Tryd.func39 rfl Tryd.call39 (by simp) (by simp) (by simp [Tryd.ntmps39]) ?_
 intro C hC hC0 hY
 obtain ⟨v,hv⟩:∃ v:Bool,v = true ↔ (fnI a0 ∧ fnI a1 ∧ fnI a2) ∧ fnI b0 ∧ fnI b1 ∧ fnI b2 := ⟨decide _,decide_eq_true_iff⟩
 cases v with
 | false =>
  have e:eaE op a0 a1 a2 b0 b1 b2 = 20 := by unfold eaE; rw [if_neg]; intro h; exact absurd (hv.2 h.1) (by simp)
  rw [e]
  repeat' (first | refine gwA ?_ | ((first | refine gwR [52] ?_ | refine gwD [52] ?_); intro Q hQ hP; simp [hC,hY]; (repeat ((first | (refine heapK_mv (fine2_fun a0 a1 a2 b0 b1 b2 _ hv) G0F (B := 200) ⟨by simp,by simp [keys],by simp [ids_lit,idsF,ids0]⟩ (fun k => if k = 100 then 256 else k) (fun k hk => if_neg (by omega)) (by simp [ren,renA,renF,ren0]) (by simp) (by simp [Blk.rn,renF,ren0]) (by simp [keys]) (by simp [keys]; rfl) ?_)); try simp [hC,hY])); refine hQ _ _ _ _ (by kernel_rfl) ?_; clear hQ hP Q) | (refine gwC ?_ ?_ <;> (intro hb; first | (cases hb; done) | skip)))
  refine ⟨.inr trivial,?_⟩
  simp [Tryd.results39,eaV]
 | true =>
  repeat' (first | refine gwA ?_ | ((first | refine gwR [52,51] ?_ | refine gwD [52,51] ?_); intro Q hQ hP; simp [hC,hY]; (repeat ((first | (first | (refine heapK_mv (fine2_fun a0 a1 a2 b0 b1 b2 _ hv) G0F (B := 200) ⟨by simp,by simp [keys],by simp [ids_lit,idsF,ids0]⟩ (fun k => if k = 100 then 256 else k) (fun k hk => if_neg (by omega)) (by simp [ren,renA,renF,ren0]) (by simp) (by simp [Blk.rn,renF,ren0]) (by simp [keys]) (by simp [keys]; rfl) ?_) | refine heapK_of (vparts_new 288 296 1 1 #[.int .i64 a0,.int .i64 a1,.int .i64 a2] (by simp) (by omega) (by omega) (by omega) (by omega)) (by simp) (fun k hk => hpL_low (by simp) hk) (by simp [Res.at,keys]) ?_)); try simp [hC,hY])); refine hQ _ _ _ _ (by kernel_rfl) ?_; clear hQ hP Q) | (refine gwC ?_ ?_ <;> (intro hb; first | (cases hb; done) | skip)))
  obtain ⟨⟨f0,f1,f2⟩,g0,g1,g2⟩ := hv.1 rfl
  have s0 := fun K => hop a0 b0 K f0 g0
  have s1 := fun K => hop a1 b1 K f1 g1
  have s2 := fun K => hop a2 b2 K f2 g2
  refine GW_rangeKL (G := G0) (f := 68) (rs := [296,288]) (xs := xsV 3 (vf a0 a1 a2)) (caps := #[.pointer (some ⟨296,0,none⟩)]) (m0 := []) [296,288] G0F hC hC0 hY (by simp) ?_ (by simp [xsV]) (by simp [Tryd.ntmps39]) [(3,.pointer (some ⟨200,0,none⟩)),(4,.pointer (some ⟨208,0,none⟩)),(5,.pointer (some ⟨216,0,none⟩)),(6,.pointer (some ⟨224,0,none⟩)),(7,.int .i64 0)] [] (eaL g op a0 a1 a2 b0 b1 b2) 400 3 (by simp [xsV]) (by omega) (by simp) (by simp [dom]) ?_ (by simp) (by simp) (by simp [eaL]) ?_ (by simp) ?_ ?_
  ·refine iterk_mv (m := pvL1 a0 a1 a2) (B := 200) (vparts1_itk a0 a1 a2) G0F ⟨by simp [pvL1],by simp [pvL1,keys],by simp [pvL1,ids_lit,idsF,ids0,keys]⟩ (fun k => if k = 100 then 296 else if k = 108 then 288 else k) (fun k hk => ?_) (by simp [ren0]) (by simp [pvL1,keys]) (by (intro k hk; first | rfl | (simp (disch := omega) only [addB,List.mem_cons,List.not_mem_nil,or_false,upd_other,hpL_cons,hpL_nil,if_neg,updL] <;> done))) ?_ ?_
   ·rw [if_neg (by omega),if_neg (by omega)]
   ·simp [pvL1,Blk.rn,renF,ren0]
   ·simp [pvL1,keys]
  ·intro k hk b hb
   simp only [List.mem_cons,List.not_mem_nil,or_false] at hk
   rcases hk with rfl | rfl
   ·simp at hb; subst hb; simp [ids_lit,idsF,ids0]
   ·simp at hb; subst hb; simp [ids_lit,idsF,ids0]
  ·intro i hi
   simp [eaL,idsV,idsA,idsF,ids0,dom,ids_lit]
  ·intro i x hi hx C1 l hC1 hh1 hY1
   rw [xsV_at _ _ _ (by omega)] at hx
   simp only [Option.some.injEq] at hx
   subst hx
   clear hC hY
   have hC := hC1
   have hY := hY1
   have:i = 0 ∨ i = 1 ∨ i = 2 := by omega
   rcases this with rfl | rfl | rfl
   all_goals
    simp only [vf]
    unfold eaL
   all_goals
    repeat' (first | refine gwA ?_ | ((first | refine gwR [] ?_ | refine gwD [] ?_); intro Q hQ hP; simp [hC,hY,roundTs]; refine hQ _ _ _ _ (by kernel_rfl) ?_; clear hQ hP Q) | (refine gwC ?_ ?_ <;> (intro hb; first | (cases hb; done) | skip)))
   all_goals
    intro C2 hC2 hh2 hY2
    clear hC hY
    have hC := hC2
    have hY := hY2
    repeat' (first | refine gwA ?_ | ((first | refine gwR [] ?_ | refine gwD [] ?_); intro Q hQ hP; simp [hC,hY,roundTs,s0,s1,s2]; refine hQ _ _ _ _ (by kernel_rfl) ?_; clear hQ hP Q) | (refine gwC ?_ ?_ <;> (intro hb; first | (cases hb; done) | skip)))
   all_goals simp
  ·left
   refine ⟨by simp [xsV],?_⟩
   obtain ⟨w,hw⟩:∃ w:Bool,w = true ↔ fnI (op a0 b0) ∧ fnI (op a1 b1) ∧ fnI (op a2 b2) := ⟨decide _,decide_eq_true_iff⟩
   cases w with
   | false =>
    have e:eaE op a0 a1 a2 b0 b1 b2 = 20 := by unfold eaE; rw [if_neg]; intro h; exact absurd (hw.2 h.2) (by simp)
    rw [e]
    unfold eaL
    repeat' (first | refine gwA ?_ | ((first | refine gwR [52] ?_ | refine gwD [52] ?_); intro Q hQ hP; simp [hC,hY,addB,List.cons_append,List.nil_append]; (repeat ((first | (refine heapK_mv (fine1_fun (op a0 b0) (op a1 b1) (op a2 b2) _ hw) G0F (B := 200) ⟨by simp,by simp [keys],by simp [ids_lit,idsF,ids0]⟩ (fun k => if k = 100 then 408 else k) (fun k hk => if_neg (by omega)) (by simp [ren,renA,renF,ren0]) (by simp) (by simp [Blk.rn,renF,ren0]) (by simp [keys]) (by simp [keys]; rfl) ?_)); try simp [hC,hY,addB,List.cons_append,List.nil_append])); refine hQ _ _ _ _ (by kernel_rfl) ?_; clear hQ hP Q) | (refine gwC ?_ ?_ <;> (intro hb; first | (cases hb; done) | skip)))
    refine ⟨.inr trivial,?_⟩
    simp [Tryd.results39,eaV]
   | true =>
    have e:eaE op a0 a1 a2 b0 b1 b2 = 0 := by unfold eaE; rw [if_pos]; exact ⟨hv.1 rfl,hw.1 rfl⟩
    rw [e]
    unfold eaL
    repeat' (first | refine gwA ?_ | ((first | refine gwR [52] ?_ | refine gwD [52] ?_); intro Q hQ hP; simp [hC,hY,addB,List.cons_append,List.nil_append]; (repeat ((first | (refine heapK_mv (fine1_fun (op a0 b0) (op a1 b1) (op a2 b2) _ hw) G0F (B := 200) ⟨by simp,by simp [keys],by simp [ids_lit,idsF,ids0]⟩ (fun k => if k = 100 then 408 else k) (fun k hk => if_neg (by omega)) (by simp [ren,renA,renF,ren0]) (by simp) (by simp [Blk.rn,renF,ren0]) (by simp [keys]) (by simp [keys]; rfl) ?_)); try simp [hC,hY,addB,List.cons_append,List.nil_append])); refine hQ _ _ _ _ (by kernel_rfl) ?_; clear hQ hP Q) | (refine gwC ?_ ?_ <;> (intro hb; first | (cases hb; done) | skip)))
    refine ⟨.inr trivial,?_⟩
    simp [Tryd.results39,eaV]
theorem veach (g:FuncId) (op:Int → Int → Int) (hop:∀ x y K,fnI x → fnI y → (callK Tryd.prog G0 g #[.int .i64 x,.int .i64 y] K ↔ K (.int .i64 (op x y)))) (a0 a1 a2 b0 b1 b2:Int) (K:Value → Prop):callK Tryd.prog G0 39 #[.agg #[.int .i64 a0,.int .i64 a1,.int .i64 a2],.agg #[.int .i64 b0,.int .i64 b1,.int .i64 b2],.func (.func g) #[] #[]] K ↔
  K (.tuple #[.agg #[.int .i64 (eaV (eaE op a0 a1 a2 b0 b1 b2) (op a0 b0)),.int .i64 (eaV (eaE op a0 a1 a2 b0 b1 b2) (op a1 b1)),.int .i64 (eaV (eaE op a0 a1 a2 b0 b1 b2) (op a2 b2))],.int .i64 (eaE op a0 a1 a2 b0 b1 b2)]) := callK_iff G0W (by kernel_rfl) (each_ret g op hop a0 a1 a2 b0 b1 b2)
end Go.Gy
namespace Go.Gy
set_option linter.unusedSimpArgs false
set_option linter.unusedVariables false
open Go Go.RowKit Go.Proofs
end Go.Gy
namespace Go.Gy
set_option linter.unusedSimpArgs false
set_option linter.unusedVariables false
open Go Go.RowKit Go.Proofs
def partB (n d:Int):Bool := decide (-2097152 ≤ n ∧ n ≤ 2097152 ∧ 1 ≤ d ∧ d ≤ 2097152)
def d1E (v n d:Int):Int := if partB n d = true ∧ -1073741824 ≤ v ∧ v ≤ 1073741824 then 0 else 2
def d1V (v n d:Int):Int := if partB n d = true ∧ -1073741824 ≤ v ∧ v ≤ 1073741824 then nearQ (v * n) d else 0
def wyE (v0 v1 v2 n d:Int):Int := if d1E v0 n d = 0 then (if d1E v1 n d = 0 then d1E v2 n d else d1E v1 n d) else d1E v0 n d
structure SB (b:Blk) (off n:Nat) (f:Nat → Int):Prop where
 rd:rdI b off (6 * n) f
 fx:b.fx
 i6:∀ j,j < 6 * n → i64 (f j)
 nn:n ≤ 2932031007402
def inB (bx tp:Int) (f:Nat → Int) (i:Nat):Bool := inV bx (f (6 * i)) (f (6 * i + 1)) (f (6 * i + 2)) && inV tp (f (6 * i + 3)) (f (6 * i + 4)) (f (6 * i + 5))
theorem SB.body {b:Blk} {off n:Nat} {f:Nat → Int} (h:SB b off n f) {i:Nat} (hi:i < n):loadK Tryd.prog 38 b (off + i * 6) = some (.agg #[.int .i64 (f (6 * i)),.int .i64 (f (6 * i + 1)),.int .i64 (f (6 * i + 2)),.int .i64 (f (6 * i + 3)),.int .i64 (f (6 * i + 4)),.int .i64 (f (6 * i + 5))]) := by
 have hbrd := Blk.fx_rd h.fx
 have := loadK_rd (P := Tryd.prog) (T := 38) (m := 6) (j := 6 * i) (tyAgg_of Tryd.isAgg38) (tySize_of Tryd.sizeOf38) (by omega) h.rd (by omega)
 rw [show off + i * 6 = off + 6 * i by omega,this,fa_6]
 rfl
theorem SB.i {b:Blk} {off n:Nat} {f:Nat → Int} (h:SB b off n f) {i:Nat} (hi:i < n) (q:Nat) (hq:q < 6):i64 (f (6 * i + q)) := h.i6 _ (by omega)
theorem wi1_fun (bx tp x0 x1 x2 v0 v1 v2:Int) (hbx:i64 bx) (htp:i64 tp) (h0:i64 x0) (h1:i64 x1) (h2:i64 x2) (h3:i64 v0) (h4:i64 v1) (h5:i64 v2) :
  Fun Tryd.prog G0 37 #[.agg #[.int .i64 x0,.int .i64 x1,.int .i64 x2,.int .i64 v0,.int .i64 v1,.int .i64 v2],.pointer (some ⟨100,0,none⟩),.pointer (some ⟨108,0,none⟩)] (hpL G0 [(100,jb bx),(108,jb tp)]) (keys [(100,jb bx),(108,jb tp)]) (.ret (.bool !(inV bx x0 x1 x2 && inV tp v0 v1 v2)) []) := by
 refine fun_ofL (B := 200) G0F Tryd.func37 rfl Tryd.call37 ⟨by simp,by simp [keys],by simp [jb,ids_lit,idsF,ids0]⟩ ?_ (by simp) (by simp) (by simp) (by simp [Tryd.ntmps37]) (by omega) ?_
 ·simp [idsV,idsA,idsF,ids0,keys]
 intro C hC hC0 hY
 cases c0:inV bx x0 x1 x2 with
 | true =>
  cases c1:inV tp v0 v1 v2 with
  | true =>
   repeat' (first | refine gwA ?_ | ((first | refine gwR [] ?_ | refine gwD [] ?_); intro Q hQ hP; simp [hC,hY,jb,hbx,htp,h0,h1,h2,h3,h4,h5,c0,c1]; refine hQ _ _ _ _ (by kernel_rfl) ?_; clear hQ hP Q) | (refine gwC ?_ ?_ <;> (intro hb; first | (cases hb; done) | skip)))
   refine ⟨.inr rfl,by simp [Tryd.results37],keep_of G0F (by simp [jb]) (by (intro k hk; first | rfl | (simp (disch := omega) only [addB,List.mem_cons,List.not_mem_nil,or_false,upd_other,hpL_cons,hpL_nil,if_neg,updL] <;> done)))⟩
  | false =>
   repeat' (first | refine gwA ?_ | ((first | refine gwR [] ?_ | refine gwD [] ?_); intro Q hQ hP; simp [hC,hY,jb,hbx,htp,h0,h1,h2,h3,h4,h5,c0,c1]; refine hQ _ _ _ _ (by kernel_rfl) ?_; clear hQ hP Q) | (refine gwC ?_ ?_ <;> (intro hb; first | (cases hb; done) | skip)))
   refine ⟨.inr rfl,by simp [Tryd.results37],keep_of G0F (by simp [jb]) (by (intro k hk; first | rfl | (simp (disch := omega) only [addB,List.mem_cons,List.not_mem_nil,or_false,upd_other,hpL_cons,hpL_nil,if_neg,updL] <;> done)))⟩
 | false =>
  repeat' (first | refine gwA ?_ | ((first | refine gwR [] ?_ | refine gwD [] ?_); intro Q hQ hP; simp [hC,hY,jb,hbx,htp,h0,h1,h2,h3,h4,h5,c0]; refine hQ _ _ _ _ (by kernel_rfl) ?_; clear hQ hP Q) | (refine gwC ?_ ?_ <;> (intro hb; first | (cases hb; done) | skip)))
  refine ⟨.inr rfl,by simp [Tryd.results37],keep_of G0F (by simp [jb]) (by (intro k hk; first | rfl | (simp (disch := omega) only [addB,List.mem_cons,List.not_mem_nil,or_false,upd_other,hpL_cons,hpL_nil,if_neg,updL] <;> done)))⟩
theorem jb_rn {m:Int} {ρ:Nat → Nat}:(jb m).rn ρ = jb m := by simp [jb,Blk.rn,renF,ren0]
def ixSt (b:Blk) (off n cap:Nat) (bx tp:Int) (i:Nat):GS :=
 ⟨tsL [(0,.slice (some ⟨100,off,none⟩) n cap),(1,.func (.func 37) #[] #[.pointer (some ⟨108,0,none⟩),.pointer (some ⟨116,0,none⟩)]),(7,.int .i64 n),(8,.int .i64 i)],
 hpL G0 [(100,b),(108,jb bx),(116,jb tp)],300,0⟩
def ixL (b:Blk) (bx tp:Int):List (Nat × Blk) := [(100,b),(108,jb bx),(116,jb tp)]
theorem ixL_ok {b:Blk} (hb:b.fx) (bx tp:Int):LOk (ixL b bx tp) 200 := ⟨by simp [ixL],by simp [ixL,keys],by
 simp only [ixL,List.mem_cons,List.not_mem_nil,or_false,forall_eq_or_imp,forall_eq]
 exact ⟨Blk.fx_ids hb _,by simp [jb,ids_lit,idsF,ids0],by simp [jb,ids_lit,idsF,ids0]⟩⟩
theorem ix_fun (b:Blk) (off n cap:Nat) (f:Nat → Int) (h:SB b off n f) (bx tp:Int) (hbx:i64 bx) (htp:i64 tp) (N:Nat) (hN:N ≤ n) (hlt:∀ i,i < N → inB bx tp f i = true) (hend:N = n ∨ inB bx tp f N = false) :
  Fun Tryd.prog G0 50 #[.slice (some ⟨100,off,none⟩) n cap,.func (.func 37) #[] #[.pointer (some ⟨108,0,none⟩),.pointer (some ⟨116,0,none⟩)]] (hpL G0 (ixL b bx tp)) (keys (ixL b bx tp)) (.ret (.int .i64 (if N = n then -1 else N)) []) := by
 refine fun_ofL (B := 200) G0F Tryd.func50 rfl Tryd.call50 (ixL_ok h.fx bx tp) ?_ (by simp) (by simp) (by simp) (by simp [Tryd.ntmps50]) (by omega) ?_
 ·simp [idsV,idsA,idsF,ids0,keys,ixL]
 intro C hC hC0 hY
 have hnn := h.nn
 unfold ixL
 repeat' (first | refine gwA ?_ | ((first | refine gwR [] ?_ | refine gwD [] ?_); intro Q hQ hP; simp [hC,hY]; refine hQ _ _ _ _ (by kernel_rfl) ?_; clear hQ hP Q) | (refine gwC ?_ ?_ <;> (intro hb; first | (cases hb; done) | skip)))
 refine GW_for N (ixSt b off n cap bx tp) ?_ ?_ ?_
 ·refine weakL _ 300 hC G0F (m0 := [(100,b),(108,jb bx),(116,jb tp)]) hC0 (by omega) ?_ ?_ ?_
  ·simp [idsV,idsA,idsF,ids0,dom]
  ·have hi := fun D => Blk.fx_ids h.fx D
   simp [ids_lit,idsF,ids0,jb,hi]
  ·simp
 ·intro i hi
  have hin:i < n := by omega
  have hi':(i:Int) < n := by omega
  have hz:(0:Int) ≤ i := by omega
  have hs:Int.bmod ((i:Int) + 1) 18446744073709551616 = ((i + 1:Nat):Int) := by rw [bm (by omega) (by omega)]; rfl
  have hld := h.body hin
  have hq := hlt i hi
  unfold inB at hq
  rw [Bool.and_eq_true] at hq
  obtain ⟨q1,q2⟩ := hq
  unfold ixSt
  repeat' (first | refine gwA ?_ | ((first | refine gwR [37] ?_ | refine gwD [37] ?_); intro Q hQ hP; simp [hC,hY,hi,hi',hz,hs,hld,q1,q2,jb]; (repeat ((first | (refine heapK_mv (wi1_fun bx tp _ _ _ _ _ _ hbx htp (h.i hin 0 (by omega)) (h.i hin 1 (by omega)) (h.i hin 2 (by omega)) (h.i hin 3 (by omega)) (h.i hin 4 (by omega)) (h.i hin 5 (by omega))) G0F (B := 200) ⟨by simp,by simp [keys],by simp [jb,ids_lit,idsF,ids0]⟩ (fun k => if k = 100 then 108 else if k = 108 then 116 else k) (fun k hk => (if_neg (by omega)).trans (if_neg (by omega))) (by simp [ren,renA,renF,ren0]) (by simp) (by simp [jb,Blk.rn,renF,ren0]) (by simp [keys]) (by simp [keys]; rfl) ?_)); try simp [hC,hY,hi,hi',hz,hs,hld,q1,q2,jb])); refine hQ _ _ _ _ (by kernel_rfl) ?_; clear hQ hP Q) | (refine gwC ?_ ?_ <;> (intro hb; first | (cases hb; done) | skip)))
  refine weakL _ 300 hC G0F (m0 := [(100,b),(108,jb bx),(116,jb tp)]) hC0 (by omega) ?_ ?_ ?_
  ·simp [idsV,idsA,idsF,ids0,dom,hs]
  ·have hi := fun D => Blk.fx_ids h.fx D
   simp [ids_lit,idsF,ids0,jb,hi]
  ·simp [jb]
 ·by_cases hNn:N = n
  ·subst hNn
   simp only [if_true]
   unfold ixSt
   repeat' (first | refine gwA ?_ | ((first | refine gwR [] ?_ | refine gwD [] ?_); intro Q hQ hP; simp [hC,hY]; refine hQ _ _ _ _ (by kernel_rfl) ?_; clear hQ hP Q) | (refine gwC ?_ ?_ <;> (intro hb; first | (cases hb; done) | skip)))
   refine ⟨.inr rfl,by simp [Tryd.results50],kpS G0F⟩
  ·have hin:N < n := by omega
   have hi':(N:Int) < n := by omega
   have hz:(0:Int) ≤ N := by omega
   have hld := h.body hin
   have hq := hend.resolve_left hNn
   unfold inB at hq
   rw [if_neg hNn]
   unfold ixSt
   cases q1:inV bx (f (6 * N)) (f (6 * N + 1)) (f (6 * N + 2)) with
   | false =>
    repeat' (first | refine gwA ?_ | ((first | refine gwR [37] ?_ | refine gwD [37] ?_); intro Q hQ hP; simp [hC,hY,hin,hi',hz,hld,q1,jb]; (repeat ((first | (refine heapK_mv (wi1_fun bx tp _ _ _ _ _ _ hbx htp (h.i hin 0 (by omega)) (h.i hin 1 (by omega)) (h.i hin 2 (by omega)) (h.i hin 3 (by omega)) (h.i hin 4 (by omega)) (h.i hin 5 (by omega))) G0F (B := 200) ⟨by simp,by simp [keys],by simp [jb,ids_lit,idsF,ids0]⟩ (fun k => if k = 100 then 108 else if k = 108 then 116 else k) (fun k hk => (if_neg (by omega)).trans (if_neg (by omega))) (by simp [ren,renA,renF,ren0]) (by simp) (by simp [jb,Blk.rn,renF,ren0]) (by simp [keys]) (by simp [keys]; rfl) ?_)); try simp [hC,hY,hin,hi',hz,hld,q1,jb])); refine hQ _ _ _ _ (by kernel_rfl) ?_; clear hQ hP Q) | (refine gwC ?_ ?_ <;> (intro hb; first | (cases hb; done) | skip)))
    refine ⟨.inr rfl,by simp [Tryd.results50],keep_of G0F (by simp [jb]) (by (intro k hk; first | rfl | (simp (disch := omega) only [addB,List.mem_cons,List.not_mem_nil,or_false,upd_other,hpL_cons,hpL_nil,if_neg,updL] <;> done)))⟩
   | true =>
    have q2:inV tp (f (6 * N + 3)) (f (6 * N + 4)) (f (6 * N + 5)) = false := by rw [q1] at hq; simpa using hq
    repeat' (first | refine gwA ?_ | ((first | refine gwR [37] ?_ | refine gwD [37] ?_); intro Q hQ hP; simp [hC,hY,hin,hi',hz,hld,q1,q2,jb]; (repeat ((first | (refine heapK_mv (wi1_fun bx tp _ _ _ _ _ _ hbx htp (h.i hin 0 (by omega)) (h.i hin 1 (by omega)) (h.i hin 2 (by omega)) (h.i hin 3 (by omega)) (h.i hin 4 (by omega)) (h.i hin 5 (by omega))) G0F (B := 200) ⟨by simp,by simp [keys],by simp [jb,ids_lit,idsF,ids0]⟩ (fun k => if k = 100 then 108 else if k = 108 then 116 else k) (fun k hk => (if_neg (by omega)).trans (if_neg (by omega))) (by simp [ren,renA,renF,ren0]) (by simp) (by simp [jb,Blk.rn,renF,ren0]) (by simp [keys]) (by simp [keys]; rfl) ?_)); try simp [hC,hY,hin,hi',hz,hld,q1,q2,jb])); refine hQ _ _ _ _ (by kernel_rfl) ?_; clear hQ hP Q) | (refine gwC ?_ ?_ <;> (intro hb; first | (cases hb; done) | skip)))
    refine ⟨.inr rfl,by simp [Tryd.results50],keep_of G0F (by simp [jb]) (by (intro k hk; first | rfl | (simp (disch := omega) only [addB,List.mem_cons,List.not_mem_nil,or_false,upd_other,hpL_cons,hpL_nil,if_neg,updL] <;> done)))⟩
def allB (bx tp:Int) (f:Nat → Int) (n:Nat):Bool := (List.range n).all (inB bx tp f)
theorem allB_iff {bx tp:Int} {f:Nat → Int} {n:Nat}:allB bx tp f n = true ↔ ∀ i,i < n → inB bx tp f i = true := by simp [allB]
theorem allB_lead {bx tp:Int} {f:Nat → Int} {n N:Nat} (hN:N ≤ n) (hlt:∀ i,i < N → inB bx tp f i = true) (hend:N = n ∨ inB bx tp f N = false):allB bx tp f n = decide (N = n) := by
 by_cases h:N = n
 ·subst h; rw [decide_eq_true rfl]; exact allB_iff.2 hlt
 ·rw [decide_eq_false h]
  cases hb:allB bx tp f n with
  | false => rfl
  | true => have := allB_iff.1 hb N (by omega); rw [hend.resolve_left h] at this; cases this
theorem leadB (p:Nat → Bool) (m:Nat):∃ N,N ≤ m ∧ (∀ i,i < N → p i = true) ∧ (N = m ∨ p N = false) := by
 obtain ⟨N,h1,h2,h3⟩ := lead (fun i => p i = true) m
 exact ⟨N,h1,h2,h3.imp id (fun h => by simpa using h)⟩
theorem cf_fun (b:Blk) (off n cap:Nat) (f:Nat → Int) (h:SB b off n f) (bx tp:Int) (hbx:i64 bx) (htp:i64 tp) :
  Fun Tryd.prog G0 36 #[.slice (some ⟨100,off,none⟩) n cap,.func (.func 37) #[] #[.pointer (some ⟨108,0,none⟩),.pointer (some ⟨116,0,none⟩)]] (hpL G0 (ixL b bx tp)) (keys (ixL b bx tp)) (.ret (.bool !(allB bx tp f n)) []) := by
 refine fun_ofL (B := 200) G0F Tryd.func36 rfl Tryd.call36 (ixL_ok h.fx bx tp) ?_ (by simp) (by simp) (by simp) (by simp [Tryd.ntmps36]) (by omega) ?_
 ·simp [idsV,idsA,idsF,ids0,keys,ixL]
 intro C hC hC0 hY
 obtain ⟨N,hN,hlt,hend⟩ := leadB (inB bx tp f) n
 rw [allB_lead hN hlt hend]
 have hr := fun ρ => Blk.fx_rn h.fx ρ
 unfold ixL
 by_cases hNn:N = n
 ·have hNn':(decide (N = n)) = true := decide_eq_true hNn
  rw [hNn']
  repeat' (first | refine gwA ?_ | ((first | refine gwR [50] ?_ | refine gwD [50] ?_); intro Q hQ hP; simp [hC,hY,hNn]; (repeat ((first | (refine heapK_mv (ix_fun b off n cap f h bx tp hbx htp N hN hlt hend) G0F (B := 200) (ixL_ok h.fx bx tp) (fun k => k) (fun k hk => rfl) (by simp [ren,renA,renF,ren0]) (by simp) (by simp [ixL,jb,Blk.rn_id]) (by simp [keys]) (by simp [keys,ixL]; rfl) ?_)); try simp [hC,hY,hNn])); refine hQ _ _ _ _ (by kernel_rfl) ?_; clear hQ hP Q) | (refine gwC ?_ ?_ <;> (intro hb; first | (cases hb; done) | skip)))
  refine ⟨.inr rfl,by simp [Tryd.results36],keep_of G0F (by simp [jb]) (by (intro k hk; first | rfl | (simp (disch := omega) only [addB,List.mem_cons,List.not_mem_nil,or_false,upd_other,hpL_cons,hpL_nil,if_neg,updL] <;> done)))⟩
 ·have hNn':(decide (N = n)) = false := decide_eq_false hNn
  have hz:(0:Int) ≤ N := by omega
  rw [hNn']
  repeat' (first | refine gwA ?_ | ((first | refine gwR [50] ?_ | refine gwD [50] ?_); intro Q hQ hP; simp [hC,hY,hNn,hz]; (repeat ((first | (refine heapK_mv (ix_fun b off n cap f h bx tp hbx htp N hN hlt hend) G0F (B := 200) (ixL_ok h.fx bx tp) (fun k => k) (fun k hk => rfl) (by simp [ren,renA,renF,ren0]) (by simp) (by simp [ixL,jb,Blk.rn_id]) (by simp [keys]) (by simp [keys,ixL]; rfl) ?_)); try simp [hC,hY,hNn,hz])); refine hQ _ _ _ _ (by kernel_rfl) ?_; clear hQ hP Q) | (refine gwC ?_ ?_ <;> (intro hb; first | (cases hb; done) | skip)))
  refine ⟨.inr rfl,by simp [Tryd.results36],keep_of G0F (by simp [jb]) (by (intro k hk; first | rfl | (simp (disch := omega) only [addB,List.mem_cons,List.not_mem_nil,or_false,upd_other,hpL_cons,hpL_nil,if_neg,updL] <;> done)))⟩
theorem oneL_ok {b:Blk} (hb:b.fx):LOk [(100,b)] 200 := ⟨by simp,by simp [keys],by
 simp only [List.mem_singleton,forall_eq]
 exact Blk.fx_ids hb _⟩
theorem swi_fun (b:Blk) (off n cap:Nat) (f:Nat → Int) (h:SB b off n f) (st bx tp:Int) (hbx:i64 bx) (htp:i64 tp) :
  Fun Tryd.prog G0 26 #[.agg #[.int .i64 st,.slice (some ⟨100,off,none⟩) n cap],.int .i64 bx,.int .i64 tp] (hpL G0 [(100,b)]) (keys [(100,b)]) (.ret (.bool (allB bx tp f n)) []) := by
 refine fun_ofL (B := 200) G0F Tryd.func26 rfl Tryd.call26 (oneL_ok h.fx) ?_ (by simp) (by simp) (by simp) (by simp [Tryd.ntmps26]) (by omega) ?_
 ·simp [idsV,idsA,idsF,ids0,keys]
 intro C hC hC0 hY
 have hr := fun ρ => Blk.fx_rn h.fx ρ
 repeat' (first | refine gwA ?_ | ((first | refine gwR [36] ?_ | refine gwD [36] ?_); intro Q hQ hP; simp [hC,hY]; (repeat ((first | (refine heapK_mv (cf_fun b off n cap f h bx tp hbx htp) G0F (B := 200) (ixL_ok h.fx bx tp) (fun k => if k = 108 then 208 else if k = 116 then 216 else k) (fun k hk => (if_neg (by omega)).trans (if_neg (by omega))) (by simp [ren,renA,renF,ren0]) (by simp) (by simp [ixL,hr,jb_rn]; simp [jb]) (by simp [keys,ixL]) (by simp [keys,ixL]; rfl) ?_)); try simp [hC,hY])); refine hQ _ _ _ _ (by kernel_rfl) ?_; clear hQ hP Q) | (refine gwC ?_ ?_ <;> (intro hb; first | (cases hb; done) | skip)))
 refine ⟨.inr rfl,by simp [Tryd.results26],keep_of G0F (by simp [jb]) (by (intro k hk; first | rfl | (simp (disch := omega) only [addB,List.mem_cons,List.not_mem_nil,or_false,upd_other,hpL_cons,hpL_nil,if_neg,updL] <;> done)))⟩
def stB (st:Int):Bool := decide (-1073741824 ≤ st ∧ st ≤ 1073741824)
theorem stB_max (st:Int) (hs:i64 st):stB st = (decide ((if st < Int.bmod (-st) 18446744073709551616 then Int.bmod (-st) 18446744073709551616 else st) ≤ 1073741824) && decide (-1073741824 ≤ st)) := by
 have h1 := hs.1
 have h2 := hs.2
 unfold stB
 rw [Bool.eq_iff_iff]
 simp only [Bool.and_eq_true,decide_eq_true_eq]
 rw [Int.bmod_def]
 split <;> split <;> omega
def rightB (st:Int) (f:Nat → Int) (n:Nat):Bool := stB st && decide (1 ≤ n ∧ n ≤ 4) && allB 1048576 65536 f n
theorem i64_box:i64 1048576 := by unfold i64; omega
theorem i64_top:i64 65536 := by unfold i64; omega
theorem rig_fun (b:Blk) (off n cap:Nat) (f:Nat → Int) (h:SB b off n f) (st:Int) (hs:i64 st) :
  Fun Tryd.prog G0 18 #[.agg #[.int .i64 st,.slice (some ⟨100,off,none⟩) n cap]] (hpL G0 [(100,b)]) (keys [(100,b)]) (.ret (.bool (rightB st f n)) []) := by
 refine fun_ofL (B := 200) G0F Tryd.func18 rfl Tryd.call18 (oneL_ok h.fx) ?_ (by simp) (by simp) (by simp) (by simp [Tryd.ntmps18]) (by omega) ?_
 ·simp [idsV,idsA,idsF,ids0,keys]
 intro C hC hC0 hY
 have hr := fun ρ => Blk.fx_rn h.fx ρ
 obtain ⟨m,hm⟩:∃ m,(if st < Int.bmod (-st) 18446744073709551616 then Int.bmod (-st) 18446744073709551616 else st) = m := ⟨_,rfl⟩
 have key := stB_max st hs
 rw [hm] at key
 unfold rightB
 rw [key]
 by_cases c0:m ≤ 1073741824
 ·by_cases c1:-1073741824 ≤ st
  ·by_cases c2:0 < n
   ·by_cases c3:n ≤ 4
    ·have c4:(n:Int) ≤ 4 := by omega
     have e:decide (1 ≤ n ∧ n ≤ 4) = true := decide_eq_true (by omega)
     rw [decide_eq_true c0,decide_eq_true c1,e]
     repeat' (first | refine gwA ?_ | ((first | refine gwR [26] ?_ | refine gwD [26] ?_); intro Q hQ hP; simp [hC,hY,hm,c0,c1,c2,c3,c4]; (repeat ((first | (refine heapK_mv (swi_fun b off n cap f h st 1048576 65536 i64_box i64_top) G0F (B := 200) (oneL_ok h.fx) (fun k => k) (fun k hk => rfl) (by simp [ren,renA,renF,ren0]) (by simp) (by simp [hr]) (by simp [keys]) (by simp [keys]; rfl) ?_)); try simp [hC,hY,hm,c0,c1,c2,c3,c4])); refine hQ _ _ _ _ (by kernel_rfl) ?_; clear hQ hP Q) | (refine gwC ?_ ?_ <;> (intro hb; first | (cases hb; done) | skip)))
     refine ⟨.inr rfl,by simp [Tryd.results18],kpS G0F⟩
    ·have c4:¬ (n:Int) ≤ 4 := by omega
     have e:decide (1 ≤ n ∧ n ≤ 4) = false := decide_eq_false (by omega)
     rw [decide_eq_true c0,decide_eq_true c1,e]
     repeat' (first | refine gwA ?_ | ((first | refine gwR [] ?_ | refine gwD [] ?_); intro Q hQ hP; simp [hC,hY,hm,c0,c1,c2,c3,c4]; refine hQ _ _ _ _ (by kernel_rfl) ?_; clear hQ hP Q) | (refine gwC ?_ ?_ <;> (intro hb; first | (cases hb; done) | skip)))
     refine ⟨.inr rfl,by simp [Tryd.results18],kpS G0F⟩
   ·have e:decide (1 ≤ n ∧ n ≤ 4) = false := decide_eq_false (by omega)
    rw [decide_eq_true c0,decide_eq_true c1,e]
    repeat' (first | refine gwA ?_ | ((first | refine gwR [] ?_ | refine gwD [] ?_); intro Q hQ hP; simp [hC,hY,hm,c0,c1,c2]; refine hQ _ _ _ _ (by kernel_rfl) ?_; clear hQ hP Q) | (refine gwC ?_ ?_ <;> (intro hb; first | (cases hb; done) | skip)))
    refine ⟨.inr rfl,by simp [Tryd.results18],kpS G0F⟩
  ·rw [decide_eq_true c0,decide_eq_false c1]
   repeat' (first | refine gwA ?_ | ((first | refine gwR [] ?_ | refine gwD [] ?_); intro Q hQ hP; simp [hC,hY,hm,c0,c1]; refine hQ _ _ _ _ (by kernel_rfl) ?_; clear hQ hP Q) | (refine gwC ?_ ?_ <;> (intro hb; first | (cases hb; done) | skip)))
   refine ⟨.inr rfl,by simp [Tryd.results18],kpS G0F⟩
 ·rw [decide_eq_false c0]
  repeat' (first | refine gwA ?_ | ((first | refine gwR [] ?_ | refine gwD [] ?_); intro Q hQ hP; simp [hC,hY,hm,c0]; refine hQ _ _ _ _ (by kernel_rfl) ?_; clear hQ hP Q) | (refine gwC ?_ ?_ <;> (intro hb; first | (cases hb; done) | skip)))
  refine ⟨.inr rfl,by simp [Tryd.results18],kpS G0F⟩
theorem SB.int {b:Blk} {off n:Nat} {f:Nat → Int} (h:SB b off n f) {i:Nat} (hi:i < n) {q:Nat} (hq:q < 6):loadK Tryd.prog 3 b (off + i * 6 + q) = some (.int .i64 (f (6 * i + q))) := by
 have hbrd := Blk.fx_rd h.fx
 have := loadK_rd1 (P := Tryd.prog) (T := 3) (j := 6 * i + q) (tyAgg_of Tryd.isAgg3) h.rd (by omega)
 rw [show off + i * 6 + q = off + (6 * i + q) by omega,this]
def w10St (b:Blk) (off n cap:Nat) (st:Int) (i:Nat):GS :=
 ⟨tsL [(1,.int .i64 1048576),(2,.int .i64 65536),(3,.pointer (some ⟨200,0,none⟩)),(7,.int .i64 i)],
 hpL G0 [(200,⟨#[.int .i64 st,.slice (some ⟨100,off,none⟩) n cap],.ty 27⟩),(100,b)],400,0⟩
theorem inB_cases {f:Nat → Int} {i:Nat}:inB 1048576 65536 f i = true ↔ ((-1048576 ≤ f (6 * i) ∧ f (6 * i) ≤ 1048576) ∧ (-1048576 ≤ f (6 * i + 1) ∧ f (6 * i + 1) ≤ 1048576) ∧ (-1048576 ≤ f (6 * i + 2) ∧ f (6 * i + 2) ≤ 1048576)) ∧ (-65536 ≤ f (6 * i + 3) ∧ f (6 * i + 3) ≤ 65536) ∧ (-65536 ≤ f (6 * i + 4) ∧ f (6 * i + 4) ≤ 65536) ∧ (-65536 ≤ f (6 * i + 5) ∧ f (6 * i + 5) ≤ 65536) := by
 unfold inB inV inW
 simp only [Bool.and_eq_true,decide_eq_true_eq]
 omega
set_option maxHeartbeats 4000000 in
set_option maxRecDepth 20000 in
theorem w10_fun (b:Blk) (off n cap:Nat) (f:Nat → Int) (h:SB b off n f) (st:Int) :
  Fun Tryd.prog G0 19 #[.agg #[.int .i64 st,.slice (some ⟨100,off,none⟩) n cap],.int .i64 1048576,.int .i64 65536] (hpL G0 [(100,b)]) (keys [(100,b)]) (.ret (.bool (allB 1048576 65536 f n)) []) := by
 refine fun_ofL (B := 200) G0F Tryd.func19 rfl Tryd.call19 (oneL_ok h.fx) ?_ (by simp) (by simp) (by simp) (by simp [Tryd.ntmps19]) (by omega) ?_
 ·simp [idsV,idsA,idsF,ids0,keys]
 intro C hC hC0 hY
 obtain ⟨N,hN,hlt,hend⟩ := leadB (inB 1048576 65536 f) n
 have hnn := h.nn
 rw [allB_lead hN hlt hend]
 repeat' (first | refine gwA ?_ | ((first | refine gwR [] ?_ | refine gwD [] ?_); intro Q hQ hP; simp [hC,hY]; refine hQ _ _ _ _ (by kernel_rfl) ?_; clear hQ hP Q) | (refine gwC ?_ ?_ <;> (intro hb; first | (cases hb; done) | skip)))
 refine GW_for N (w10St b off n cap st) ?_ ?_ ?_
 ·refine weakL _ 400 hC G0F (m0 := [(100,b)]) hC0 (by omega) ?_ ?_ ?_
  ·simp [idsV,idsA,idsF,ids0,dom]
  ·have hi := fun D => Blk.fx_ids h.fx D
   simp [ids_lit,idsF,ids0,hi,dom]
  ·simp
 ·intro i hi
  have hin:i < n := by omega
  have hi':(i:Int) < n := by omega
  have hz:(0:Int) ≤ i := by omega
  have hs:Int.bmod ((i:Int) + 1) 18446744073709551616 = ((i + 1:Nat):Int) := by rw [bm (by omega) (by omega)]; rfl
  have l0 := h.int hin (q := 0) (by omega)
  have l1 := h.int hin (q := 1) (by omega)
  have l2 := h.int hin (q := 2) (by omega)
  have l3 := h.int hin (q := 3) (by omega)
  have l4 := h.int hin (q := 4) (by omega)
  have l5 := h.int hin (q := 5) (by omega)
  simp only [Nat.add_zero] at l0
  obtain ⟨⟨⟨a0,b0⟩,⟨a1,b1⟩,⟨a2,b2⟩⟩,⟨a3,b3⟩,⟨a4,b4⟩,⟨a5,b5⟩⟩ := inB_cases.1 (hlt i hi)
  replace a0 := Int.not_lt.2 a0
  replace a1 := Int.not_lt.2 a1
  replace a2 := Int.not_lt.2 a2
  replace a3 := Int.not_lt.2 a3
  replace a4 := Int.not_lt.2 a4
  replace a5 := Int.not_lt.2 a5
  replace b0 := Int.not_lt.2 b0
  replace b1 := Int.not_lt.2 b1
  replace b2 := Int.not_lt.2 b2
  replace b3 := Int.not_lt.2 b3
  replace b4 := Int.not_lt.2 b4
  replace b5 := Int.not_lt.2 b5
  unfold w10St
  repeat' (first | refine GWL_start ?_ | refine GWL_step ?_ | refine gwA ?_ | ((first | refine gwR [] ?_ | refine gwD [] ?_); intro Q hQ hP; simp [hC,hY,hi,hin,hi',hz,hs,l0,l1,l2,l3,l4,l5,a0,a1,a2,a3,a4,a5,b0,b1,b2,b3,b4,b5]; refine hQ _ _ _ _ (by kernel_rfl) ?_; clear hQ hP Q) | (refine gwC ?_ ?_ <;> (intro hb; first | (cases hb; done) | skip)))
  refine weakL _ 400 hC G0F (m0 := [(100,b)]) hC0 (by omega) ?_ ?_ ?_
  ·simp [idsV,idsA,idsF,ids0,dom,hs]
  ·have hi := fun D => Blk.fx_ids h.fx D
   simp [ids_lit,idsF,ids0,hi,dom]
  ·simp
 ·by_cases hNn:N = n
  ·rw [decide_eq_true hNn]
   subst hNn
   unfold w10St
   repeat' (first | refine gwA ?_ | ((first | refine gwR [] ?_ | refine gwD [] ?_); intro Q hQ hP; simp [hC,hY]; refine hQ _ _ _ _ (by kernel_rfl) ?_; clear hQ hP Q) | (refine gwC ?_ ?_ <;> (intro hb; first | (cases hb; done) | skip)))
   refine ⟨.inr rfl,by simp [Tryd.results19],kpS G0F⟩
  ·rw [decide_eq_false hNn]
   have hin:N < n := by omega
   have hi':(N:Int) < n := by omega
   have hz:(0:Int) ≤ N := by omega
   have l0 := h.int hin (q := 0) (by omega)
   have l1 := h.int hin (q := 1) (by omega)
   have l2 := h.int hin (q := 2) (by omega)
   have l3 := h.int hin (q := 3) (by omega)
   have l4 := h.int hin (q := 4) (by omega)
   have l5 := h.int hin (q := 5) (by omega)
   simp only [Nat.add_zero] at l0
   have hbad:¬ inB 1048576 65536 f N = true := by rw [hend.resolve_left hNn]; simp
   rw [inB_cases] at hbad
   unfold w10St
   by_cases a0:f (6 * N) < -1048576
   ·
    repeat' (first | refine GWL_start ?_ | refine GWL_step ?_ | refine gwA ?_ | ((first | refine gwR [] ?_ | refine gwD [] ?_); intro Q hQ hP; simp [hC,hY,hin,hi',hz,l0,l1,l2,l3,l4,l5,a0]; refine hQ _ _ _ _ (by kernel_rfl) ?_; clear hQ hP Q) | (refine gwC ?_ ?_ <;> (intro hb; first | (cases hb; done) | skip)))
    refine ⟨.inr rfl,by simp [Tryd.results19],kpS G0F⟩
   by_cases b0:1048576 < f (6 * N)
   ·
    repeat' (first | refine GWL_start ?_ | refine GWL_step ?_ | refine gwA ?_ | ((first | refine gwR [] ?_ | refine gwD [] ?_); intro Q hQ hP; simp [hC,hY,hin,hi',hz,l0,l1,l2,l3,l4,l5,a0,b0]; refine hQ _ _ _ _ (by kernel_rfl) ?_; clear hQ hP Q) | (refine gwC ?_ ?_ <;> (intro hb; first | (cases hb; done) | skip)))
    refine ⟨.inr rfl,by simp [Tryd.results19],kpS G0F⟩
   by_cases a3:f (6 * N + 3) < -65536
   ·
    repeat' (first | refine GWL_start ?_ | refine GWL_step ?_ | refine gwA ?_ | ((first | refine gwR [] ?_ | refine gwD [] ?_); intro Q hQ hP; simp [hC,hY,hin,hi',hz,l0,l1,l2,l3,l4,l5,a0,b0,a3]; refine hQ _ _ _ _ (by kernel_rfl) ?_; clear hQ hP Q) | (refine gwC ?_ ?_ <;> (intro hb; first | (cases hb; done) | skip)))
    refine ⟨.inr rfl,by simp [Tryd.results19],kpS G0F⟩
   by_cases b3:65536 < f (6 * N + 3)
   ·
    repeat' (first | refine GWL_start ?_ | refine GWL_step ?_ | refine gwA ?_ | ((first | refine gwR [] ?_ | refine gwD [] ?_); intro Q hQ hP; simp [hC,hY,hin,hi',hz,l0,l1,l2,l3,l4,l5,a0,b0,a3,b3]; refine hQ _ _ _ _ (by kernel_rfl) ?_; clear hQ hP Q) | (refine gwC ?_ ?_ <;> (intro hb; first | (cases hb; done) | skip)))
    refine ⟨.inr rfl,by simp [Tryd.results19],kpS G0F⟩
   by_cases a1:f (6 * N + 1) < -1048576
   ·
    repeat' (first | refine GWL_start ?_ | refine GWL_step ?_ | refine gwA ?_ | ((first | refine gwR [] ?_ | refine gwD [] ?_); intro Q hQ hP; simp [hC,hY,hin,hi',hz,l0,l1,l2,l3,l4,l5,a0,b0,a3,b3,a1]; refine hQ _ _ _ _ (by kernel_rfl) ?_; clear hQ hP Q) | (refine gwC ?_ ?_ <;> (intro hb; first | (cases hb; done) | skip)))
    refine ⟨.inr rfl,by simp [Tryd.results19],kpS G0F⟩
   by_cases b1:1048576 < f (6 * N + 1)
   ·
    repeat' (first | refine GWL_start ?_ | refine GWL_step ?_ | refine gwA ?_ | ((first | refine gwR [] ?_ | refine gwD [] ?_); intro Q hQ hP; simp [hC,hY,hin,hi',hz,l0,l1,l2,l3,l4,l5,a0,b0,a3,b3,a1,b1]; refine hQ _ _ _ _ (by kernel_rfl) ?_; clear hQ hP Q) | (refine gwC ?_ ?_ <;> (intro hb; first | (cases hb; done) | skip)))
    refine ⟨.inr rfl,by simp [Tryd.results19],kpS G0F⟩
   by_cases a4:f (6 * N + 4) < -65536
   ·
    repeat' (first | refine GWL_start ?_ | refine GWL_step ?_ | refine gwA ?_ | ((first | refine gwR [] ?_ | refine gwD [] ?_); intro Q hQ hP; simp [hC,hY,hin,hi',hz,l0,l1,l2,l3,l4,l5,a0,b0,a3,b3,a1,b1,a4]; refine hQ _ _ _ _ (by kernel_rfl) ?_; clear hQ hP Q) | (refine gwC ?_ ?_ <;> (intro hb; first | (cases hb; done) | skip)))
    refine ⟨.inr rfl,by simp [Tryd.results19],kpS G0F⟩
   by_cases b4:65536 < f (6 * N + 4)
   ·
    repeat' (first | refine GWL_start ?_ | refine GWL_step ?_ | refine gwA ?_ | ((first | refine gwR [] ?_ | refine gwD [] ?_); intro Q hQ hP; simp [hC,hY,hin,hi',hz,l0,l1,l2,l3,l4,l5,a0,b0,a3,b3,a1,b1,a4,b4]; refine hQ _ _ _ _ (by kernel_rfl) ?_; clear hQ hP Q) | (refine gwC ?_ ?_ <;> (intro hb; first | (cases hb; done) | skip)))
    refine ⟨.inr rfl,by simp [Tryd.results19],kpS G0F⟩
   by_cases a2:f (6 * N + 2) < -1048576
   ·
    repeat' (first | refine GWL_start ?_ | refine GWL_step ?_ | refine gwA ?_ | ((first | refine gwR [] ?_ | refine gwD [] ?_); intro Q hQ hP; simp [hC,hY,hin,hi',hz,l0,l1,l2,l3,l4,l5,a0,b0,a3,b3,a1,b1,a4,b4,a2]; refine hQ _ _ _ _ (by kernel_rfl) ?_; clear hQ hP Q) | (refine gwC ?_ ?_ <;> (intro hb; first | (cases hb; done) | skip)))
    refine ⟨.inr rfl,by simp [Tryd.results19],kpS G0F⟩
   by_cases b2:1048576 < f (6 * N + 2)
   ·
    repeat' (first | refine GWL_start ?_ | refine GWL_step ?_ | refine gwA ?_ | ((first | refine gwR [] ?_ | refine gwD [] ?_); intro Q hQ hP; simp [hC,hY,hin,hi',hz,l0,l1,l2,l3,l4,l5,a0,b0,a3,b3,a1,b1,a4,b4,a2,b2]; refine hQ _ _ _ _ (by kernel_rfl) ?_; clear hQ hP Q) | (refine gwC ?_ ?_ <;> (intro hb; first | (cases hb; done) | skip)))
    refine ⟨.inr rfl,by simp [Tryd.results19],kpS G0F⟩
   by_cases a5:f (6 * N + 5) < -65536
   ·
    repeat' (first | refine GWL_start ?_ | refine GWL_step ?_ | refine gwA ?_ | ((first | refine gwR [] ?_ | refine gwD [] ?_); intro Q hQ hP; simp [hC,hY,hin,hi',hz,l0,l1,l2,l3,l4,l5,a0,b0,a3,b3,a1,b1,a4,b4,a2,b2,a5]; refine hQ _ _ _ _ (by kernel_rfl) ?_; clear hQ hP Q) | (refine gwC ?_ ?_ <;> (intro hb; first | (cases hb; done) | skip)))
    refine ⟨.inr rfl,by simp [Tryd.results19],kpS G0F⟩
   by_cases b5:65536 < f (6 * N + 5)
   ·
    repeat' (first | refine GWL_start ?_ | refine GWL_step ?_ | refine gwA ?_ | ((first | refine gwR [] ?_ | refine gwD [] ?_); intro Q hQ hP; simp [hC,hY,hin,hi',hz,l0,l1,l2,l3,l4,l5,a0,b0,a3,b3,a1,b1,a4,b4,a2,b2,a5,b5]; refine hQ _ _ _ _ (by kernel_rfl) ?_; clear hQ hP Q) | (refine gwC ?_ ?_ <;> (intro hb; first | (cases hb; done) | skip)))
    refine ⟨.inr rfl,by simp [Tryd.results19],kpS G0F⟩
   exfalso
   omega
theorem rig10_fun (b:Blk) (off n cap:Nat) (f:Nat → Int) (h:SB b off n f) (st:Int) :
  Fun Tryd.prog G0 8 #[.agg #[.int .i64 st,.slice (some ⟨100,off,none⟩) n cap]] (hpL G0 [(100,b)]) (keys [(100,b)]) (.ret (.bool (rightB st f n)) []) := by
 refine fun_ofL (B := 200) G0F Tryd.func8 rfl Tryd.call8 (oneL_ok h.fx) ?_ (by simp) (by simp) (by simp) (by simp [Tryd.ntmps8]) (by omega) ?_
 ·simp [idsV,idsA,idsF,ids0,keys]
 intro C hC hC0 hY
 have hr := fun ρ => Blk.fx_rn h.fx ρ
 unfold rightB
 by_cases c0:-1073741824 ≤ st
 ·by_cases c1:st ≤ 1073741824
  ·have es:stB st = true := decide_eq_true ⟨c0,c1⟩
   rw [es]
   by_cases c2:1 ≤ n
   ·have c2':(1:Int) ≤ n := by omega
    have c2'':0 < n := by omega
    by_cases c3:n ≤ 4
    ·have c4:(n:Int) ≤ 4 := by omega
     have e:decide (1 ≤ n ∧ n ≤ 4) = true := decide_eq_true (by omega)
     rw [e]
     repeat' (first | refine gwA ?_ | ((first | refine gwR [19] ?_ | refine gwD [19] ?_); intro Q hQ hP; simp [hC,hY,c0,c1,c2,c2',c2'',c3,c4]; (repeat ((first | (refine heapK_mv (w10_fun b off n cap f h st) G0F (B := 200) (oneL_ok h.fx) (fun k => k) (fun k hk => rfl) (by simp [ren,renA,renF,ren0]) (by simp) (by simp [hr]) (by simp [keys]) (by simp [keys]; rfl) ?_)); try simp [hC,hY,c0,c1,c2,c2',c2'',c3,c4])); refine hQ _ _ _ _ (by kernel_rfl) ?_; clear hQ hP Q) | (refine gwC ?_ ?_ <;> (intro hb; first | (cases hb; done) | skip)))
     refine ⟨.inr rfl,by simp [Tryd.results8],kpS G0F⟩
    ·have c4:¬ (n:Int) ≤ 4 := by omega
     have e:decide (1 ≤ n ∧ n ≤ 4) = false := decide_eq_false (by omega)
     rw [e]
     repeat' (first | refine gwA ?_ | ((first | refine gwR [] ?_ | refine gwD [] ?_); intro Q hQ hP; simp [hC,hY,c0,c1,c2,c2',c2'',c3,c4]; refine hQ _ _ _ _ (by kernel_rfl) ?_; clear hQ hP Q) | (refine gwC ?_ ?_ <;> (intro hb; first | (cases hb; done) | skip)))
     refine ⟨.inr rfl,by simp [Tryd.results8],kpS G0F⟩
   ·have c2':¬ (1:Int) ≤ n := by omega
    have c2'':¬ 0 < n := by omega
    have c2''':n = 0 := by omega
    have e:decide (1 ≤ n ∧ n ≤ 4) = false := decide_eq_false (by omega)
    rw [e]
    repeat' (first | refine gwA ?_ | ((first | refine gwR [] ?_ | refine gwD [] ?_); intro Q hQ hP; simp [hC,hY,c0,c1,c2,c2',c2'',c2''']; refine hQ _ _ _ _ (by kernel_rfl) ?_; clear hQ hP Q) | (refine gwC ?_ ?_ <;> (intro hb; first | (cases hb; done) | skip)))
    refine ⟨.inr rfl,by simp [Tryd.results8],kpS G0F⟩
  ·have es:stB st = false := decide_eq_false (by omega)
   rw [es]
   repeat' (first | refine gwA ?_ | ((first | refine gwR [] ?_ | refine gwD [] ?_); intro Q hQ hP; simp [hC,hY,c0,c1]; refine hQ _ _ _ _ (by kernel_rfl) ?_; clear hQ hP Q) | (refine gwC ?_ ?_ <;> (intro hb; first | (cases hb; done) | skip)))
   refine ⟨.inr rfl,by simp [Tryd.results8],kpS G0F⟩
 ·have es:stB st = false := decide_eq_false (by omega)
  rw [es]
  repeat' (first | refine gwA ?_ | ((first | refine gwR [] ?_ | refine gwD [] ?_); intro Q hQ hP; simp [hC,hY,c0]; refine hQ _ _ _ _ (by kernel_rfl) ?_; clear hQ hP Q) | (refine gwC ?_ ?_ <;> (intro hb; first | (cases hb; done) | skip)))
  refine ⟨.inr rfl,by simp [Tryd.results8],kpS G0F⟩
def OwnR (nk n:Nat) (f:Nat → Int) (v:Value) (ns:List (Nat × Blk)):Prop := ∃ (c M:Nat) (g:Nat → Int),n ≤ c ∧ 6 * n ≤ M ∧ (∀ j,j < 6 * n → g j = f j) ∧ v = .slice (some ⟨nk,0,none⟩) n c ∧ ns = [(nk,⟨fa M .i64 g,.ty 38⟩)]
theorem fa_fx (M:Nat) (g:Nat → Int) (T:TypeId):Blk.fx ⟨fa M .i64 g,.ty T⟩ := fun x hx => by
 obtain ⟨m,rfl⟩ := fa_mem hx; rfl
theorem own_fit {b:Blk} {n:Nat} {f:Nat → Int} (v:Value) (ns:List (Nat × Blk)) (h:OwnR 1000 n f v ns):idsV (extD (fun k => k ∈ keys [(100,b)]) ns) v ∧ (∀ p ∈ ns,200 ≤ p.1 ∧ p.2.ids (extD (fun k => k ∈ keys [(100,b)]) ns)) ∧ (∀ k b c,(k,b) ∈ ns → (k,c) ∈ ns → b = c) := by
 obtain ⟨c,M,g,h1,h2,h3,rfl,rfl⟩ := h
 refine ⟨by simp [idsV,idsA,idsF,ids0,extD,keys],?_,?_⟩
 ·simp only [List.mem_singleton,forall_eq]
  exact ⟨by omega,Blk.fx_ids (fa_fx _ _ _) _⟩
 ·intro k b c h1 h2
  simp at h1 h2
  rw [h1.2,h2.2]
theorem clone_fun (b:Blk) (off n cap:Nat) (f:Nat → Int) (h:SB b off n f) (hcap:n ≤ cap) :
  FunS Tryd.prog G0 25 #[.slice (some ⟨100,off,none⟩) n cap] (hpL G0 [(100,b)]) (keys [(100,b)]) (OwnR 1000 n f) := by
 refine newS_ofL (B := 200) G0F Tryd.func25 rfl Tryd.call25 (oneL_ok h.fx) ?_ own_fit (by simp [Tryd.ntmps25]) (by omega) ?_
 ·simp [idsV,idsA,idsF,ids0,keys]
 intro C hC hC0 hY
 have hnn := h.nn
 have hbrd := Blk.fx_rd h.fx
 repeat' (first | refine gwA ?_ | ((first | refine gwR [] ?_ | refine gwD [] ?_); intro Q hQ hP; simp [hC,hY]; refine hQ _ _ _ _ (by kernel_rfl) ?_; clear hQ hP Q) | (refine gwC ?_ ?_ <;> (intro hb; first | (cases hb; done) | skip)))
 refine GW_list ?_
 simp only [Array.toList]
 refine GL_bs0 rfl (by simp) rfl Tryd.underlying25 (tySize_of Tryd.sizeOf38) ?_
 refine GL_walk 1 [] rfl (by simp) (by kernel_rfl) ?_; intro q hq; simp [hC,hY]; refine hq _ _ _ _ ?_; clear hq q
 simp only [wT,List.length_cons,List.length_nil,Nat.reduceAdd]
 by_cases hn0:n = 0
 ·subst hn0
  refine GL_appZ (p := some (224,0)) (q := some (100,off)) rfl (by simp) rfl Tryd.underlying25 (tySize_of Tryd.sizeOf38) (by simp; rfl) (by simp; rfl) (Nat.le_refl _) ?_
  refine GL_walk 1 [] rfl (by simp) (by kernel_rfl) ?_; intro q hq; simp [hC,hY,putT]; refine hq _ _ _ _ ?_; clear hq q
  simp only [wT,List.length_cons,List.length_nil,Nat.reduceAdd]
  refine GL_nil ?_
  repeat' (first | refine gwA ?_ | ((first | refine gwR [] ?_ | refine gwD [] ?_); intro Q hQ hP; simp [hC,hY]; refine hQ _ _ _ _ (by kernel_rfl) ?_; clear hQ hP Q) | (refine gwC ?_ ?_ <;> (intro hb; first | (cases hb; done) | skip)))
  refine ⟨.inr trivial,kpS G0F,_,_,fun k => if k = 1000 then 224 else k,⟨0,0,f,Nat.le_refl _,by omega,fun _ _ => rfl,rfl,rfl⟩,fun k hk => if_neg (by omega),by simp,by simp,by simp [Tryd.results25,ren,renA,renF,ren0],?_⟩
  simp [fa,Blk.rn]
 ·refine GL_app0 (p := some ⟨224,0,none⟩) (j := 100) (b2 := b) (off2 := off) (m := n) (m' := cap) (nw := (fa (6 * n) .i64 f).toList) (sz := 6) (by' := 48) (z := .agg #[.int .i64 0,.int .i64 0,.int .i64 0,.int .i64 0,.int .i64 0,.int .i64 0]) rfl (by simp) rfl Tryd.underlying25 (tySize_of Tryd.sizeOf38) ?_ ?_ ?_ ?_ ?_ (rdI_nw h.rd) fa_list_flat (fun q x hx => ?_) (by omega) (by simp; omega) (by unfold maxLen; omega) (by omega) (fun cap' hc' => ?_)
  ·kernel_rfl
  ·kernel_rfl
  ·simp
  ·simp
  ·simp
  ·have := zc_mem hx
   simp [Value.cells] at this
   subst this
   rfl
  ·rw [zeros_fa (k := .i64) (by simp),app_new]
   refine GL_walk 1 [] rfl (by simp) (by kernel_rfl) ?_; intro q hq; simp [hC,hY,putT]; refine hq _ _ _ _ ?_; clear hq q
   simp only [wT,List.length_cons,List.length_nil,Nat.reduceAdd]
   refine GL_nil ?_
   repeat' (first | refine gwA ?_ | ((first | refine gwR [] ?_ | refine gwD [] ?_); intro Q hQ hP; simp [hC,hY]; refine hQ _ _ _ _ (by kernel_rfl) ?_; clear hQ hP Q) | (refine gwC ?_ ?_ <;> (intro hb; first | (cases hb; done) | skip)))
   refine ⟨.inr trivial,kpS G0F,_,_,fun k => if k = 1000 then 224 + 16 else k,⟨cap',6 * n + (cap' - n) * 6,catN f (6 * n) 0 f,hc',?_,?_,rfl,rfl⟩,fun k hk => if_neg (by omega),by simp,by simp,by simp [Tryd.results25,ren,renA,renF,ren0],?_⟩
   ·omega
   ·intro j hj
    unfold catN
    rw [if_pos (by omega)]
   ·simp only [List.mem_singleton,forall_eq]
    rw [fa_rn]
    simp
def OwnS (nk:Nat) (st:Int) (n:Nat) (f:Nat → Int) (v:Value) (ns:List (Nat × Blk)):Prop := ∃ (c M:Nat) (g:Nat → Int),n ≤ c ∧ 6 * n ≤ M ∧ (∀ j,j < 6 * n → g j = f j) ∧ v = .agg #[.int .i64 st,.slice (some ⟨nk,0,none⟩) n c] ∧ ns = [(nk,⟨fa M .i64 g,.ty 38⟩)]
theorem owns_fit {b:Blk} {st:Int} {n:Nat} {f:Nat → Int} (v:Value) (ns:List (Nat × Blk)) (h:OwnS 1000 st n f v ns):idsV (extD (fun k => k ∈ keys [(100,b)]) ns) v ∧ (∀ p ∈ ns,200 ≤ p.1 ∧ p.2.ids (extD (fun k => k ∈ keys [(100,b)]) ns)) ∧ (∀ k b c,(k,b) ∈ ns → (k,c) ∈ ns → b = c) := by
 obtain ⟨c,M,g,h1,h2,h3,rfl,rfl⟩ := h
 refine ⟨by simp [idsV,idsA,idsF,ids0,extD,keys],?_,?_⟩
 ·simp only [List.mem_singleton,forall_eq]
  exact ⟨by omega,Blk.fx_ids (fa_fx _ _ _) _⟩
 ·intro k b c h1 h2
  simp at h1 h2
  rw [h1.2,h2.2]
theorem FunS.own1 {fn:FuncId} {args:Array Value} {b:Blk} {R:Value → List (Nat × Blk) → Prop} (h:FunS Tryd.prog G0 fn args (hpL G0 [(100,b)]) (keys [(100,b)]) R) (hb:b.fx) (nk:Nat) (hnk:200 ≤ nk) (hR:∀ v ns,R v ns → ∀ k ∈ keys ns,k = 1000) (ha:args.map (ren fun k => if k = 1000 then nk else k) = args) :
  FunS Tryd.prog G0 fn args (hpL G0 [(100,b)]) [100] (RR (fun k => if k = 1000 then nk else k) R) := by
 have h0 := h.rn (fun k => if k = 1000 then nk else k) G0F (oneL_ok hb).low (hp' := hpL G0 [(100,b)]) (rn_ofL (oneL_ok hb) _ (fun k hk => if_neg (by omega)) (oneL_ok hb).low (by
  simp only [List.mem_singleton,forall_eq]
  refine ⟨by simp,?_⟩
  rw [Blk.fx_rn hb]; simp) (by simp [keys])) (fun v ns hr k hk => by
  rw [hR v ns hr k hk,if_pos rfl]
  refine ⟨by omega,fun hd => hd ?_⟩
  simp [rst,keys,show ¬ nk = 100 by omega,show ¬ nk < 100 by omega]) (fun v ns hr k hk l hl _ => by rw [hR v ns hr k hk,hR v ns hr l hl])
 rw [ha] at h0
 simpa [keys] using h0
theorem ownR_rr (nk n:Nat) (f:Nat → Int):RR (fun k => if k = 1000 then nk else k) (OwnR 1000 n f) = OwnR nk n f := by
 funext v ns
 apply propext
 constructor
 ·rintro ⟨v0,ns0,⟨c,M,g,h1,h2,h3,rfl,rfl⟩,rfl,rfl⟩
  exact ⟨c,M,g,h1,h2,h3,by simp [ren,renA,renF,ren0],by simp [rnL,fa_rn]⟩
 ·rintro ⟨c,M,g,h1,h2,h3,rfl,rfl⟩
  exact ⟨_,_,⟨c,M,g,h1,h2,h3,rfl,rfl⟩,by simp [ren,renA,renF,ren0],by simp [rnL,fa_rn]⟩
theorem clone_at (nk:Nat) (hnk:200 ≤ nk) (b:Blk) (off n cap:Nat) (f:Nat → Int) (h:SB b off n f) (hcap:n ≤ cap) :
  FunS Tryd.prog G0 25 #[.slice (some ⟨100,off,none⟩) n cap] (hpL G0 [(100,b)]) [100] (OwnR nk n f) := by
 have := (clone_fun b off n cap f h hcap).own1 h.fx nk hnk (fun v ns hR k hk => by
  obtain ⟨c,M,g,h1,h2,h3,rfl,rfl⟩ := hR; simpa [keys] using hk) (by simp [ren,renA,renF,ren0])
 rwa [ownR_rr] at this
theorem own_fun (b:Blk) (off n cap:Nat) (f:Nat → Int) (h:SB b off n f) (hcap:n ≤ cap) (st:Int) :
  FunS Tryd.prog G0 15 #[.agg #[.int .i64 st,.slice (some ⟨100,off,none⟩) n cap]] (hpL G0 [(100,b)]) (keys [(100,b)]) (OwnS 1000 st n f) := by
 refine newS_ofL (B := 200) G0F Tryd.func15 rfl Tryd.call15 (oneL_ok h.fx) ?_ owns_fit (by simp [Tryd.ntmps15]) (by omega) ?_
 ·simp [idsV,idsA,idsF,ids0,keys]
 intro C hC hC0 hY
 repeat' (first | refine gwA ?_ | ((first | refine gwR [] ?_ | refine gwD [] ?_); intro Q hQ hP; simp [hC,hY]; refine hQ _ _ _ _ (by kernel_rfl) ?_; clear hQ hP Q) | (refine gwC ?_ ?_ <;> (intro hb; first | (cases hb; done) | skip)))
 refine GW_list ?_
 simp only [Array.toList]
 refine GL_walk 2 [] rfl (by simp) (by kernel_rfl) ?_; intro q hq; simp [hC,hY]; refine hq _ _ _ _ ?_; clear hq q
 simp only [wT,List.length_cons,List.length_nil,Nat.reduceAdd]
 refine GL_callS (f := .func 25) (args := #[.slice (some ⟨100,off,none⟩) n cap]) (cap := #[]) rfl (by simp) rfl rfl (by simp [okT]) (by simp [gev]) (by simp) (by simp [okX,junk]) (by simp [gev]) (hC.symm ▸ clone_at 232 (by omega) b off n cap f h hcap) (by simp) (by rw [← hC]; (intro k hk; first | rfl | (simp (disch := omega) only [addB,List.mem_cons,List.not_mem_nil,or_false,upd_other,hpL_cons,hpL_nil,if_neg,updL] <;> done))) ?_ ?_
 ·rintro v ns ⟨c,M,g,h1,h2,h3,rfl,rfl⟩
  simp [keys]
 ·rintro v ns ⟨c,M,g,h1,h2,h3,rfl,rfl⟩
  refine GL_walk 2 [] rfl (by simp) (by kernel_rfl) ?_; intro q hq; simp [hC,hY,putT,updL]; refine hq _ _ _ _ ?_; clear hq q
  simp only [wT,List.length_cons,List.length_nil,Nat.reduceAdd]
  refine GL_nil ?_
  repeat' (first | refine gwA ?_ | ((first | refine gwR [] ?_ | refine gwD [] ?_); intro Q hQ hP; simp [hC,hY]; refine hQ _ _ _ _ (by kernel_rfl) ?_; clear hQ hP Q) | (refine gwC ?_ ?_ <;> (intro hb; first | (cases hb; done) | skip)))
  refine ⟨.inr trivial,kpS G0F,_,_,fun k => if k = 1000 then 232 else k,⟨c,M,g,h1,h2,h3,rfl,rfl⟩,fun k hk => if_neg (by omega),by simp,by simp,by simp [Tryd.results15,ren,renA,renF,ren0],?_⟩
  simp [fa_rn]
theorem own10_fun (b:Blk) (off n cap:Nat) (f:Nat → Int) (h:SB b off n f) (hcap:n ≤ cap) (st:Int) :
  FunS Tryd.prog G0 11 #[.agg #[.int .i64 st,.slice (some ⟨100,off,none⟩) n cap]] (hpL G0 [(100,b)]) (keys [(100,b)]) (OwnS 1000 st n f) := by
 refine newS_ofL (B := 200) G0F Tryd.func11 rfl Tryd.call11 (oneL_ok h.fx) ?_ owns_fit (by simp [Tryd.ntmps11]) (by omega) ?_
 ·simp [idsV,idsA,idsF,ids0,keys]
 intro C hC hC0 hY
 have hnn := h.nn
 have hbrd := Blk.fx_rd h.fx
 repeat' (first | refine gwA ?_ | ((first | refine gwR [] ?_ | refine gwD [] ?_); intro Q hQ hP; simp [hC,hY]; refine hQ _ _ _ _ (by kernel_rfl) ?_; clear hQ hP Q) | (refine gwC ?_ ?_ <;> (intro hb; first | (cases hb; done) | skip)))
 refine GW_list ?_
 simp only [Array.toList]
 refine GL_bs0 rfl (by simp) rfl Tryd.underlying25 (tySize_of Tryd.sizeOf38) ?_
 refine GL_walk 2 [] rfl (by simp) (by kernel_rfl) ?_; intro q hq; simp [hC,hY]; refine hq _ _ _ _ ?_; clear hq q
 simp only [wT,List.length_cons,List.length_nil,Nat.reduceAdd]
 by_cases hn0:n = 0
 ·subst hn0
  refine GL_appZ (p := some (216,0)) (q := some (100,off)) rfl (by simp) rfl Tryd.underlying25 (tySize_of Tryd.sizeOf38) (by simp; rfl) (by simp; rfl) (Nat.le_refl _) ?_
  refine GL_walk 2 [] rfl (by simp) (by kernel_rfl) ?_; intro q hq; simp [hC,hY,putT]; refine hq _ _ _ _ ?_; clear hq q
  simp only [wT,List.length_cons,List.length_nil,Nat.reduceAdd]
  refine GL_nil ?_
  repeat' (first | refine gwA ?_ | ((first | refine gwR [] ?_ | refine gwD [] ?_); intro Q hQ hP; simp [hC,hY]; refine hQ _ _ _ _ (by kernel_rfl) ?_; clear hQ hP Q) | (refine gwC ?_ ?_ <;> (intro hb; first | (cases hb; done) | skip)))
  refine ⟨.inr trivial,kpS G0F,_,_,fun k => if k = 1000 then 216 else k,⟨0,0,f,Nat.le_refl _,by omega,fun _ _ => rfl,rfl,rfl⟩,fun k hk => if_neg (by omega),by simp,by simp,by simp [Tryd.results11,ren,renA,renF,ren0],?_⟩
  simp [fa,Blk.rn]
 ·refine GL_app0 (p := some ⟨216,0,none⟩) (j := 100) (b2 := b) (off2 := off) (m := n) (m' := cap) (nw := (fa (6 * n) .i64 f).toList) (sz := 6) (by' := 48) (z := .agg #[.int .i64 0,.int .i64 0,.int .i64 0,.int .i64 0,.int .i64 0,.int .i64 0]) rfl (by simp) rfl Tryd.underlying25 (tySize_of Tryd.sizeOf38) ?_ ?_ ?_ ?_ ?_ (rdI_nw h.rd) fa_list_flat (fun q x hx => ?_) (by omega) (by simp; omega) (by unfold maxLen; omega) (by omega) (fun cap' hc' => ?_)
  ·kernel_rfl
  ·kernel_rfl
  ·simp
  ·simp
  ·simp
  ·have := zc_mem hx
   simp [Value.cells] at this
   subst this
   rfl
  ·rw [zeros_fa (k := .i64) (by simp),app_new]
   refine GL_walk 2 [] rfl (by simp) (by kernel_rfl) ?_; intro q hq; simp [hC,hY,putT]; refine hq _ _ _ _ ?_; clear hq q
   simp only [wT,List.length_cons,List.length_nil,Nat.reduceAdd]
   refine GL_nil ?_
   repeat' (first | refine gwA ?_ | ((first | refine gwR [] ?_ | refine gwD [] ?_); intro Q hQ hP; simp [hC,hY]; refine hQ _ _ _ _ (by kernel_rfl) ?_; clear hQ hP Q) | (refine gwC ?_ ?_ <;> (intro hb; first | (cases hb; done) | skip)))
   refine ⟨.inr trivial,kpS G0F,_,_,fun k => if k = 1000 then 216 + 24 else k,⟨cap',6 * n + (cap' - n) * 6,catN f (6 * n) 0 f,hc',?_,?_,rfl,rfl⟩,fun k hk => if_neg (by omega),by simp,by simp,by simp [Tryd.results11,ren,renA,renF,ren0],?_⟩
   ·omega
   ·intro j hj
    unfold catN
    rw [if_pos (by omega)]
   ·simp only [List.mem_singleton,forall_eq]
    rw [fa_rn]
    simp
theorem clone_nil:Ret Tryd.prog G0 25 #[.slice none 0 0] (.slice none 0 0) := by
 refine ret_of G0F Tryd.func25 rfl Tryd.call25 (by simp) (by simp) (by simp [Tryd.ntmps25]) ?_
 intro C hC hC0 hY
 repeat' (first | refine gwA ?_ | ((first | refine gwR [] ?_ | refine gwD [] ?_); intro Q hQ hP; simp [hC,hY]; refine hQ _ _ _ _ (by kernel_rfl) ?_; clear hQ hP Q) | (refine gwC ?_ ?_ <;> (intro hb; first | (cases hb; done) | skip)))
 refine ⟨.inr trivial,?_⟩
 simp [Tryd.results25]
@[simp] theorem cloneN (K:Value → Prop):callK Tryd.prog G0 25 #[.slice none 0 0] K ↔ K (.slice none 0 0) := callK_iff G0W (by kernel_rfl) clone_nil
theorem own_nil (st:Int):Ret Tryd.prog G0 15 #[.agg #[.int .i64 st,.slice none 0 0]] (.agg #[.int .i64 st,.slice none 0 0]) := by
 refine ret_of G0F Tryd.func15 rfl Tryd.call15 (by simp) (by simp) (by simp [Tryd.ntmps15]) ?_
 intro C hC hC0 hY
 repeat' (first | refine gwA ?_ | ((first | refine gwR [] ?_ | refine gwD [] ?_); intro Q hQ hP; simp [hC,hY]; refine hQ _ _ _ _ (by kernel_rfl) ?_; clear hQ hP Q) | (refine gwC ?_ ?_ <;> (intro hb; first | (cases hb; done) | skip)))
 refine ⟨.inr trivial,?_⟩
 simp [Tryd.results15]
theorem nilL_ok:LOk [] 200 := ⟨by simp,by simp [keys],by simp⟩
def dwE (f:Nat → Int) (p q:Int) (i:Nat):Int := wyE (f (6 * i + 3)) (f (6 * i + 4)) (f (6 * i + 5)) p q
def dwV (f:Nat → Int) (p q:Int) (i j:Nat):Int := eaV (dwE f p q i) (d1V (f (6 * i + 3 + j)) p q)
def stB' (st:Int) (k off n cap:Nat):Blk := ⟨#[.int .i64 st,.slice (some ⟨k,off,none⟩) n cap],.ty 27⟩
end Go.Gy
namespace Go.Gy
set_option linter.unusedSimpArgs false
set_option linter.unusedVariables false
open Go Go.RowKit Go.Proofs
end Go.Gy
namespace Go.Gy
open Go Go.RowKit Go.Proofs
theorem inV_iff {m x y z:Int}:inV m x y z = true ↔ inW m x ∧ inW m y ∧ inW m z := by unfold inV; exact decide_eq_true_iff
theorem right_n {st:Int} {f:Nat → Int} {n:Nat} (h:rightB st f n = true):(-1073741824 ≤ st ∧ st ≤ 1073741824) ∧ (1 ≤ n ∧ n ≤ 4) ∧ ∀ i,i < n → inB 1048576 65536 f i = true := by
 unfold rightB stB at h
 simp only [Bool.and_eq_true,decide_eq_true_eq] at h
 exact ⟨h.1.1,h.1.2,allB_iff.1 h.2⟩
theorem right_b {st:Int} {f:Nat → Int} {n:Nat} (h:rightB st f n = true) {i:Nat} (hi:i < n):(inW 1048576 (f (6 * i)) ∧ inW 1048576 (f (6 * i + 1)) ∧ inW 1048576 (f (6 * i + 2))) ∧ (inW 65536 (f (6 * i + 3)) ∧ inW 65536 (f (6 * i + 4)) ∧ inW 65536 (f (6 * i + 5))) := by
 have := (right_n h).2.2 i hi
 unfold inB at this
 rw [Bool.and_eq_true,inV_iff,inV_iff] at this
 exact this
def mvG (g f:Nat → Int) (p q:Int) (i j:Nat):Int := if j < 6 * i ∧ j % 6 < 3 then f j + dwV f p q (j / 6) (j % 6) else g j
end Go.Gy
namespace Go.Gy
set_option linter.unusedSimpArgs false
set_option linter.unusedVariables false
open Go Go.RowKit Go.Proofs
end Go.Gy
namespace Go.Gy
set_option linter.unusedSimpArgs false
set_option linter.unusedVariables false
open Go Go.RowKit Go.Proofs
@[simp] theorem smap:strMap Tryd.prog 89 = true := by kernel_rfl
def wiB (n lo hi:Int):Bool := decide (lo ≤ n ∧ n ≤ hi)
theorem cwi_ret (n lo hi:Int):Ret Tryd.prog G0 63 #[.int .i64 n,.int .i64 lo,.int .i64 hi] (.bool (wiB n lo hi)) := by
 refine ret_of G0F Tryd.func63 rfl Tryd.call63 rfl (by simp) (by simp [Tryd.ntmps63]) ?_
 intro C hC hC0 hY
 unfold wiB
 by_cases c0:lo ≤ n
 ·by_cases c1:n ≤ hi
  ·rw [decide_eq_true ⟨c0,c1⟩]
   (repeat' (first | refine gwA ?_ | ((first | refine gwR [] ?_ | refine gwD [] ?_); intro Q hQ hP; simp [hC,hY,c0,c1]; refine hQ _ _ _ _ (by kernel_rfl) ?_; clear hQ hP Q) | (refine gwC ?_ ?_ <;> (intro hb; first | (cases hb; done) | skip))))
   refine ⟨.inr trivial,?_⟩
   simp [Tryd.results63]
  ·rw [decide_eq_false (by omega)]
   (repeat' (first | refine gwA ?_ | ((first | refine gwR [] ?_ | refine gwD [] ?_); intro Q hQ hP; simp [hC,hY,c0,c1]; refine hQ _ _ _ _ (by kernel_rfl) ?_; clear hQ hP Q) | (refine gwC ?_ ?_ <;> (intro hb; first | (cases hb; done) | skip))))
   refine ⟨.inr trivial,?_⟩
   simp [Tryd.results63]
 ·rw [decide_eq_false (by omega)]
  (repeat' (first | refine gwA ?_ | ((first | refine gwR [] ?_ | refine gwD [] ?_); intro Q hQ hP; simp [hC,hY,c0]; refine hQ _ _ _ _ (by kernel_rfl) ?_; clear hQ hP Q) | (refine gwC ?_ ?_ <;> (intro hb; first | (cases hb; done) | skip))))
  refine ⟨.inr trivial,?_⟩
  simp [Tryd.results63]
@[simp] theorem cwi (n lo hi:Int) (K:Value → Prop):callK Tryd.prog G0 63 #[.int .i64 n,.int .i64 lo,.int .i64 hi] K ↔ K (.bool (wiB n lo hi)) := callK_iff G0W (by kernel_rfl) (cwi_ret n lo hi)
def NumR (nk:Nat) (a m:Int) (v:Value) (ns:List (Nat × Blk)):Prop := v = .func (.func 62) #[] #[.pointer (some ⟨nk,0,none⟩),.pointer (some ⟨nk + 1,0,none⟩)] ∧ ns = [(nk,jb a),(nk + 1,jb m)]
theorem num_fun (a m:Int):FunS Tryd.prog G0 61 #[.int .i64 a,.int .i64 m] (hpL G0 []) (keys []) (NumR 1000 a m) := by
 refine newS_ofL (B := 200) G0F Tryd.func61 rfl Tryd.call61 ⟨by simp,by simp [keys],by simp⟩ ?_ ?_ (by simp [Tryd.ntmps61]) (by omega) ?_
 ·simp [idsV,idsA,idsF,ids0,keys]
 ·rintro v ns ⟨rfl,rfl⟩
  refine ⟨by simp [idsV,idsA,idsF,ids0,extD,keys],by simp [jb,ids_lit,idsF,ids0],?_⟩
  intro k b c h1 h2
  simp at h1 h2
  rcases h1 with ⟨e1,rfl⟩ | ⟨e1,rfl⟩ <;> rcases h2 with ⟨e2,rfl⟩ | ⟨e2,rfl⟩ <;> first | rfl | omega
 intro C hC hC0 hY
 repeat' (first | refine gwA ?_ | ((first | refine gwR [] ?_ | refine gwD [] ?_); intro Q hQ hP; simp [hC,hY]; refine hQ _ _ _ _ (by kernel_rfl) ?_; clear hQ hP Q) | (refine gwC ?_ ?_ <;> (intro hb; first | (cases hb; done) | skip)))
 refine ⟨.inr trivial,kpS G0F,_,_,fun k => if k = 1000 then 200 else if k = 1001 then 208 else k,⟨rfl,rfl⟩,fun k hk => ?_,by simp,by simp,by simp [Tryd.results61,ren,renA,renF,ren0],?_⟩
 ·dsimp only
  rw [if_neg (by omega),if_neg (by omega)]
 ·simp [jb_rn]
  simp [jb]
theorem numR_rr {nk nk':Nat} {a m:Int} {ρ:Nat → Nat} (h0:ρ nk = nk') (h1:ρ (nk + 1) = nk' + 1):RR ρ (NumR nk a m) = NumR nk' a m := by
 funext v ns
 apply propext
 constructor
 ·rintro ⟨v0,ns0,⟨rfl,rfl⟩,rfl,rfl⟩
  exact ⟨by simp [ren,renA,renF,ren0,h0,h1],by simp [rnL,jb_rn,h0,h1]⟩
 ·rintro ⟨rfl,rfl⟩
  exact ⟨_,_,⟨rfl,rfl⟩,by simp [ren,renA,renF,ren0,h0,h1],by simp [rnL,jb_rn,h0,h1]⟩
def up2 (nk k:Nat):Nat := if 1000 ≤ k then (if k < 1002 then k - 1000 + nk else k) else k
theorem num_at (nk:Nat) (hnk:200 ≤ nk) (a m:Int):FunS Tryd.prog G0 61 #[.int .i64 a,.int .i64 m] (hpL G0 []) [] (NumR nk a m) := by
 have e2:∀ j,j < 2 → up2 nk (1000 + j) = nk + j := fun j hj => by unfold up2; rw [if_pos (by omega),if_pos (by omega)]; omega
 have hk2:∀ v ns,NumR 1000 a m v ns → ∀ k ∈ keys ns,∃ j,j < 2 ∧ k = 1000 + j := by
  rintro v ns ⟨rfl,rfl⟩ k hk
  simp [keys] at hk
  rcases hk with rfl | rfl
  ·exact ⟨0,by omega,rfl⟩
  ·exact ⟨1,by omega,rfl⟩
 have h0 := (num_fun a m).rn (up2 nk) G0F nilL_ok.low (hp' := hpL G0 []) (rn_ofL nilL_ok _ (fun k hk => by unfold up2; rw [if_neg (by omega)]) nilL_ok.low (by simp) (by simp [keys])) (fun v ns hR k hk => by
  obtain ⟨j,hj,rfl⟩ := hk2 v ns hR k hk
  rw [e2 j hj]
  refine ⟨by omega,fun hd => hd ?_⟩
  simp [rst,keys]
  intro h4
  omega) (fun v ns hR k hk l hl e => by
  obtain ⟨j,hj,rfl⟩ := hk2 v ns hR k hk
  obtain ⟨i,hi,rfl⟩ := hk2 v ns hR l hl
  rw [e2 j hj,e2 i hi] at e
  omega)
 rw [numR_rr (e2 0 (by omega)) (e2 1 (by omega))] at h0
 simpa [keys,ren,renA,renF,ren0] using h0
theorem numR_key {nk:Nat} {a m:Int} {v:Value} {ns:List (Nat × Blk)} (h:NumR nk a m v ns):∀ k ∈ keys ns,nk ≤ k ∧ k < nk + 2 := by
 obtain ⟨rfl,rfl⟩ := h
 intro k hk
 simp [keys] at hk
 omega
theorem cn1_fun (a m:Int):Fun Tryd.prog G0 62 #[.pointer (some ⟨100,0,none⟩),.pointer (some ⟨108,0,none⟩)] (hpL G0 [(100,jb a),(108,jb m)]) (keys [(100,jb a),(108,jb m)]) (.ret (.bool (wiB a 1 m)) []) := by
 refine fun_ofL (B := 200) G0F Tryd.func62 rfl Tryd.call62 ⟨by simp,by simp [keys],by simp [jb,ids_lit,idsF,ids0]⟩ ?_ (by simp) (by simp) (by simp) (by simp [Tryd.ntmps62]) (by omega) ?_
 ·simp [idsV,idsA,idsF,ids0,keys]
 intro C hC hC0 hY
 repeat' (first | refine gwA ?_ | ((first | refine gwR [] ?_ | refine gwD [] ?_); intro Q hQ hP; simp [hC,hY,jb]; refine hQ _ _ _ _ (by kernel_rfl) ?_; clear hQ hP Q) | (refine gwC ?_ ?_ <;> (intro hb; first | (cases hb; done) | skip)))
 refine ⟨.inr rfl,by simp [Tryd.results62],keep_of G0F (by simp [jb]) (by (intro k hk; first | rfl | (simp (disch := omega) only [addB,List.mem_cons,List.not_mem_nil,or_false,upd_other,hpL_cons,hpL_nil,if_neg,updL] <;> done)))⟩
def cfB (sl:Value) (g bx tp nr md:Int):Blk := ⟨#[sl,.int .i64 g,.int .i64 bx,.int .i64 tp,.int .i64 nr,.int .i64 md],.ty 24⟩
def cfV (sl:Value) (g bx tp nr md:Int):Value := .agg #[sl,.int .i64 g,.int .i64 bx,.int .i64 tp,.int .i64 nr,.int .i64 md]
theorem cm_ret (m:Int):Ret Tryd.prog G0 66 #[.int .i64 m] (.bool !(wiB m 1 1024)) := by
 refine ret_of G0F Tryd.func66 rfl Tryd.call66 rfl (by simp) (by simp [Tryd.ntmps66]) ?_
 intro C hC hC0 hY
 repeat' (first | refine gwA ?_ | ((first | refine gwR [] ?_ | refine gwD [] ?_); intro Q hQ hP; simp [hC,hY]; refine hQ _ _ _ _ (by kernel_rfl) ?_; clear hQ hP Q) | (refine gwC ?_ ?_ <;> (intro hb; first | (cases hb; done) | skip)))
 refine ⟨.inr trivial,?_⟩
 simp [Tryd.results66]
@[simp] theorem cm1 (m:Int) (K:Value → Prop):callK Tryd.prog G0 66 #[.int .i64 m] K ↔ K (.bool !(wiB m 1 1024)) := callK_iff G0W (by kernel_rfl) (cm_ret m)
structure MB (b:Blk) (off n:Nat) (f:Nat → Int):Prop where
 rd:rdI b off n f
 fx:b.fx
 i6:∀ j,j < n → i64 (f j)
 nn:n ≤ 17592186044416
theorem MB.at {b:Blk} {off n:Nat} {f:Nat → Int} (h:MB b off n f) {i:Nat} (hi:i < n):loadK Tryd.prog 3 b (off + i) = some (.int .i64 (f i)) := by
 have hbrd := Blk.fx_rd h.fx
 exact loadK_rd1 (P := Tryd.prog) (T := 3) (j := i) (tyAgg_of Tryd.isAgg3) h.rd hi
def cixSt (b:Blk) (off n cap:Nat) (i:Nat):GS :=
 ⟨tsL [(0,.slice (some ⟨100,off,none⟩) n cap),(1,.func (.func 66) #[] #[]),(7,.int .i64 n),(8,.int .i64 i)],hpL G0 [(100,b)],300,0⟩
def allM (f:Nat → Int) (n:Nat):Bool := (List.range n).all fun i => wiB (f i) 1 1024
theorem cix_fun (b:Blk) (off n cap:Nat) (f:Nat → Int) (h:MB b off n f) (N:Nat) (hN:N ≤ n) (hlt:∀ i,i < N → wiB (f i) 1 1024 = true) (hend:N = n ∨ wiB (f N) 1 1024 = false) :
  Fun Tryd.prog G0 80 #[.slice (some ⟨100,off,none⟩) n cap,.func (.func 66) #[] #[]] (hpL G0 [(100,b)]) (keys [(100,b)]) (.ret (.int .i64 (if N = n then -1 else N)) []) := by
 refine fun_ofL (B := 200) G0F Tryd.func80 rfl Tryd.call80 (oneL_ok h.fx) ?_ (by simp) (by simp) (by simp) (by simp [Tryd.ntmps80]) (by omega) ?_
 ·simp [idsV,idsA,idsF,ids0,keys]
 intro C hC hC0 hY
 have hnn := h.nn
 have hid := fun D => Blk.fx_ids h.fx D
 repeat' (first | refine gwA ?_ | ((first | refine gwR [] ?_ | refine gwD [] ?_); intro Q hQ hP; simp [hC,hY]; refine hQ _ _ _ _ (by kernel_rfl) ?_; clear hQ hP Q) | (refine gwC ?_ ?_ <;> (intro hb; first | (cases hb; done) | skip)))
 refine GW_for N (cixSt b off n cap) ?_ ?_ ?_
 ·refine weakL _ 300 hC G0F (m0 := [(100,b)]) hC0 (by omega) ?_ ?_ ?_
  ·simp [idsV,idsA,idsF,ids0,dom]
  ·simp [hid]
  ·simp
 ·intro i hi
  have hin:i < n := by omega
  have hi':(i:Int) < n := by omega
  have hz:(0:Int) ≤ i := by omega
  have hs:Int.bmod ((i:Int) + 1) 18446744073709551616 = ((i + 1:Nat):Int) := by rw [bm (by omega) (by omega)]; rfl
  have hld := h.at hin
  have hq := hlt i hi
  unfold cixSt
  repeat' (first | refine gwA ?_ | ((first | refine gwR [] ?_ | refine gwD [] ?_); intro Q hQ hP; simp [hC,hY,hi,hin,hi',hz,hs,hld,hq]; refine hQ _ _ _ _ (by kernel_rfl) ?_; clear hQ hP Q) | (refine gwC ?_ ?_ <;> (intro hb; first | (cases hb; done) | skip)))
  refine weakL _ 300 hC G0F (m0 := [(100,b)]) hC0 (by omega) ?_ ?_ ?_
  ·simp [idsV,idsA,idsF,ids0,dom,hs]
  ·simp [hid]
  ·simp
 ·by_cases hNn:N = n
  ·subst hNn
   simp only [if_true]
   unfold cixSt
   repeat' (first | refine gwA ?_ | ((first | refine gwR [] ?_ | refine gwD [] ?_); intro Q hQ hP; simp [hC,hY]; refine hQ _ _ _ _ (by kernel_rfl) ?_; clear hQ hP Q) | (refine gwC ?_ ?_ <;> (intro hb; first | (cases hb; done) | skip)))
   refine ⟨.inr rfl,by simp [Tryd.results80],kpS G0F⟩
  ·have hin:N < n := by omega
   have hi':(N:Int) < n := by omega
   have hz:(0:Int) ≤ N := by omega
   have hld := h.at hin
   have hq := hend.resolve_left hNn
   rw [if_neg hNn]
   unfold cixSt
   repeat' (first | refine gwA ?_ | ((first | refine gwR [] ?_ | refine gwD [] ?_); intro Q hQ hP; simp [hC,hY,hin,hi',hz,hld,hq]; refine hQ _ _ _ _ (by kernel_rfl) ?_; clear hQ hP Q) | (refine gwC ?_ ?_ <;> (intro hb; first | (cases hb; done) | skip)))
   refine ⟨.inr rfl,by simp [Tryd.results80],kpS G0F⟩
theorem ccf_fun (b:Blk) (off n cap:Nat) (f:Nat → Int) (h:MB b off n f) :
  Fun Tryd.prog G0 65 #[.slice (some ⟨100,off,none⟩) n cap,.func (.func 66) #[] #[]] (hpL G0 [(100,b)]) (keys [(100,b)]) (.ret (.bool !(allM f n)) []) := by
 refine fun_ofL (B := 200) G0F Tryd.func65 rfl Tryd.call65 (oneL_ok h.fx) ?_ (by simp) (by simp) (by simp) (by simp [Tryd.ntmps65]) (by omega) ?_
 ·simp [idsV,idsA,idsF,ids0,keys]
 intro C hC hC0 hY
 have hr := fun ρ => Blk.fx_rn h.fx ρ
 obtain ⟨N,hN,hlt,hend⟩ := leadB (fun i => wiB (f i) 1 1024) n
 by_cases hNn:N = n
 ·have e:allM f n = true := by unfold allM; rw [← hNn]; simpa using hlt
  rw [e]
  repeat' (first | refine gwA ?_ | ((first | refine gwR [80] ?_ | refine gwD [80] ?_); intro Q hQ hP; simp [hC,hY,hNn]; (repeat ((first | (refine heapK_mv (cix_fun b off n cap f h N hN hlt hend) G0F (B := 200) (oneL_ok h.fx) (fun k => k) (fun k hk => rfl) (by simp [ren,renA,renF,ren0]) (by simp) (by simp [hr]) (by simp [keys]) (by simp [keys]; rfl) ?_)); try simp [hC,hY,hNn])); refine hQ _ _ _ _ (by kernel_rfl) ?_; clear hQ hP Q) | (refine gwC ?_ ?_ <;> (intro hb; first | (cases hb; done) | skip)))
  refine ⟨.inr rfl,by simp [Tryd.results65],kpS G0F⟩
 ·have e:allM f n = false := by
   unfold allM
   rw [List.all_eq_false]
   exact ⟨N,by simp; omega,by simpa using hend.resolve_left hNn⟩
  have hz:(0:Int) ≤ N := by omega
  rw [e]
  repeat' (first | refine gwA ?_ | ((first | refine gwR [80] ?_ | refine gwD [80] ?_); intro Q hQ hP; simp [hC,hY,hNn,hz]; (repeat ((first | (refine heapK_mv (cix_fun b off n cap f h N hN hlt hend) G0F (B := 200) (oneL_ok h.fx) (fun k => k) (fun k hk => rfl) (by simp [ren,renA,renF,ren0]) (by simp) (by simp [hr]) (by simp [keys]) (by simp [keys]; rfl) ?_)); try simp [hC,hY,hNn,hz])); refine hQ _ _ _ _ (by kernel_rfl) ?_; clear hQ hP Q) | (refine gwC ?_ ?_ <;> (intro hb; first | (cases hb; done) | skip)))
  refine ⟨.inr rfl,by simp [Tryd.results65],kpS G0F⟩
def cmL (b:Blk) (off n cap:Nat) (g bx tp nr md:Int):List (Nat × Blk) := [(100,b),(108,cfB (.slice (some ⟨100,off,none⟩) n cap) g bx tp nr md)]
theorem cmL_ok {b:Blk} (hb:b.fx) (off n cap:Nat) (g bx tp nr md:Int):LOk (cmL b off n cap g bx tp nr md) 200 := ⟨by simp [cmL],by simp [cmL,keys],by
 simp only [cmL,List.mem_cons,List.not_mem_nil,or_false,forall_eq_or_imp,forall_eq]
 exact ⟨Blk.fx_ids hb _,by simp [cfB,ids_lit,idsF,ids0,keys]⟩⟩
theorem cm2_fun (b:Blk) (off n cap:Nat) (f:Nat → Int) (h:MB b off n f) (g bx tp nr md:Int) :
  Fun Tryd.prog G0 64 #[.pointer (some ⟨108,0,none⟩)] (hpL G0 (cmL b off n cap g bx tp nr md)) (keys (cmL b off n cap g bx tp nr md)) (.ret (.bool (allM f n)) []) := by
 refine fun_ofL (B := 200) G0F Tryd.func64 rfl Tryd.call64 (cmL_ok h.fx off n cap g bx tp nr md) ?_ (by simp) (by simp) (by simp) (by simp [Tryd.ntmps64]) (by omega) ?_
 ·simp [idsV,idsA,idsF,ids0,keys,cmL]
 intro C hC hC0 hY
 have hr := fun ρ => Blk.fx_rn h.fx ρ
 unfold cmL cfB
 repeat' (first | refine gwA ?_ | ((first | refine gwR [65] ?_ | refine gwD [65] ?_); intro Q hQ hP; simp [hC,hY]; (repeat ((first | (refine heapK_mv (ccf_fun b off n cap f h) G0F (B := 200) (oneL_ok h.fx) (fun k => k) (fun k hk => rfl) (by simp [ren,renA,renF,ren0]) (by simp) (by simp [hr]) (by simp [keys]) (by simp [keys]; rfl) ?_)); try simp [hC,hY])); refine hQ _ _ _ _ (by kernel_rfl) ?_; clear hQ hP Q) | (refine gwC ?_ ?_ <;> (intro hb; first | (cases hb; done) | skip)))
 refine ⟨.inr rfl,by simp [Tryd.results64],kpS G0F⟩
theorem cm3_fun (b:Blk) (off n cap:Nat) (hb:b.fx) (g bx tp nr md:Int) :
  Fun Tryd.prog G0 67 #[.pointer (some ⟨108,0,none⟩)] (hpL G0 (cmL b off n cap g bx tp nr md)) (keys (cmL b off n cap g bx tp nr md)) (.ret (.bool (wiB md 0 4)) []) := by
 refine fun_ofL (B := 200) G0F Tryd.func67 rfl Tryd.call67 (cmL_ok hb off n cap g bx tp nr md) ?_ (by simp) (by simp) (by simp) (by simp [Tryd.ntmps67]) (by omega) ?_
 ·simp [idsV,idsA,idsF,ids0,keys,cmL]
 intro C hC hC0 hY
 unfold cmL cfB
 repeat' (first | refine gwA ?_ | ((first | refine gwR [] ?_ | refine gwD [] ?_); intro Q hQ hP; simp [hC,hY]; refine hQ _ _ _ _ (by kernel_rfl) ?_; clear hQ hP Q) | (refine gwC ?_ ?_ <;> (intro hb; first | (cases hb; done) | skip)))
 refine ⟨.inr rfl,by simp [Tryd.results67],kpS G0F⟩
end Go.Gy
