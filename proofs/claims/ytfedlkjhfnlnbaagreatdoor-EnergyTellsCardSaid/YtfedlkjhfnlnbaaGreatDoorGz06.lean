/-
  Lemmas of this claim, in their order (GyCB, GyCC, GyCD, GyCE, GyCF, GyLE, GyLG, GyLH, GyEF, GyLJ, GyNA, GyEK, GyEN, GyEO, GyES, GyET, GyEC, GyLI).
  Conditions: those of each theorem.
-/
import Derived.Test.YtfedlkjhfnlnbaaGreatDoorGz05
namespace Go.Gy
set_option linter.unusedSimpArgs false
set_option linter.unusedVariables false
open Go Go.RowKit Go.Proofs
def mT (sl : Value) (n : Nat) (g bx tp nr : Int) : List (Nat × Nat × Value) := [(0, 4, .map (some 224)),
  (1, 5, .func (.func 122) #[] #[]),
  (2, 6, .pointer (some ⟨200, 0, none⟩)),
  (3, 7, sl),
  (4, 8, .int .i64 n),
  (5, 9, .func (.func 123) #[] #[.pointer (some ⟨264, 0, none⟩), .pointer (some ⟨265, 0, none⟩)]),
  (7, 10, .func (.func 125) #[] #[.pointer (some ⟨200, 0, none⟩)]),
  (9, 11, .func (.func 122) #[] #[]),
  (10, 12, .pointer (some ⟨200, 1, none⟩)),
  (11, 13, .int .i64 g),
  (12, 14, .func (.func 123) #[] #[.pointer (some ⟨320, 0, none⟩), .pointer (some ⟨321, 0, none⟩)]),
  (14, 15, .func (.func 122) #[] #[]),
  (15, 16, .pointer (some ⟨200, 2, none⟩)),
  (16, 17, .int .i64 bx),
  (17, 18, .func (.func 123) #[] #[.pointer (some ⟨360, 0, none⟩), .pointer (some ⟨361, 0, none⟩)]),
  (19, 19, .func (.func 122) #[] #[]),
  (20, 20, .pointer (some ⟨200, 3, none⟩)),
  (21, 21, .int .i64 tp),
  (22, 22, .func (.func 123) #[] #[.pointer (some ⟨400, 0, none⟩), .pointer (some ⟨401, 0, none⟩)]),
  (24, 23, .func (.func 122) #[] #[]),
  (25, 24, .pointer (some ⟨200, 4, none⟩)),
  (26, 25, .int .i64 nr),
  (27, 26, .pointer (some ⟨200, 2, none⟩)),
  (28, 27, .int .i64 bx),
  (29, 28, .int .i64 (Int.bmod (2 * bx) 18446744073709551616)),
  (30, 29, .func (.func 123) #[] #[.pointer (some ⟨464, 0, none⟩), .pointer (some ⟨465, 0, none⟩)]),
  (32, 30, .func (.func 128) #[] #[.pointer (some ⟨200, 0, none⟩)]),
  (34, 31, .map (some 224)),
  (35, 2, .map (some 224))]
def mI : List (Nat × ByteArray × Value) := [(6, ⟨#[98, 111, 100, 105, 101, 115]⟩, .func (.func 123) #[] #[.pointer (some ⟨264, 0, none⟩), .pointer (some ⟨265, 0, none⟩)]),
  (8, ⟨#[109, 97, 115, 115]⟩, .func (.func 125) #[] #[.pointer (some ⟨200, 0, none⟩)]),
  (13, ⟨#[99, 111, 110, 115, 116, 97, 110, 116]⟩, .func (.func 123) #[] #[.pointer (some ⟨320, 0, none⟩), .pointer (some ⟨321, 0, none⟩)]),
  (18, ⟨#[98, 111, 120]⟩, .func (.func 123) #[] #[.pointer (some ⟨360, 0, none⟩), .pointer (some ⟨361, 0, none⟩)]),
  (23, ⟨#[116, 111, 112]⟩, .func (.func 123) #[] #[.pointer (some ⟨400, 0, none⟩), .pointer (some ⟨401, 0, none⟩)]),
  (31, ⟨#[110, 101, 97, 114]⟩, .func (.func 123) #[] #[.pointer (some ⟨464, 0, none⟩), .pointer (some ⟨465, 0, none⟩)]),
  (33, ⟨#[109, 101, 116, 104, 111, 100]⟩, .func (.func 128) #[] #[.pointer (some ⟨200, 0, none⟩)])]
def mX (n : Nat) (g bx tp nr : Int) : List (Nat × Nat × Blk) := [(5, 264, jb (n : Int)), (5, 265, jb 4),
  (12, 320, jb g), (12, 321, jb 1048576),
  (17, 360, jb bx), (17, 361, jb 1048576),
  (22, 400, jb tp), (22, 401, jb 65536),
  (30, 464, jb nr), (30, 465, jb (Int.bmod (2 * bx) 18446744073709551616))]
structure MI (b : Blk) (sl : Value) (n : Nat) (g bx tp nr md : Int) (listed : Array Bool) (ts : Nat → Value) (hp : Hp) : Prop where
 t1 : ts 1 = .pointer (some ⟨200, 0, none⟩)
 t3 : ts 3 = .func (.func 122) #[] #[]
 tm : ∀ p ∈ mT sl n g bx tp nr, listed[p.1]? = some true → ts p.2.1 = p.2.2
 low : ∀ k, k < 100 → hp k = G0 k
 b : hp 100 = some b
 c : hp 200 = some (cfB sl g bx tp nr md)
 bx : ∀ q ∈ mX n g bx tp nr, listed[q.1]? = some true → hp q.2.1 = some q.2.2
 mp : listed[0]? = some true → ∃ l, hp 224 = some (mpB l) ∧ (∀ p ∈ l, ∃ q ∈ mI, p = q.2 ∧ listed[q.1]? = some true) ∧ ∀ q ∈ mI, listed[q.1]? = some true → findL q.2.1 l = some q.2.2
 i0 : ∀ q ∈ mI, listed[q.1]? = some true → listed[0]? = some true
theorem set_keep {listed : Array Bool} {i j : Nat} (h : listed[j]? = some true) : (listed.setIfInBounds i true)[j]? = some true := by
 rw [Array.getElem?_setIfInBounds]
 split
 ·split
  ·rfl
  ·rename_i e hlt
   subst e
   exact absurd (Array.getElem?_eq_some_iff.1 h).1 hlt
 ·exact h
theorem set_get {listed : Array Bool} {i j : Nat} (h : (listed.setIfInBounds i true)[j]? = some true) : j = i ∨ listed[j]? = some true := by
 rw [Array.getElem?_setIfInBounds] at h
 by_cases e : i = j
 ·exact .inl e.symm
 ·rw [if_neg e] at h; exact .inr h
theorem mT_tmp (sl : Value) (n : Nat) (g bx tp nr : Int) : ∀ p ∈ mT sl n g bx tp nr, ∀ q ∈ mT sl n g bx tp nr, p.1 = q.1 ∨ p.2.1 = q.2.1 → p = q := by
 intro p hp q hq
 simp only [mT, List.mem_cons, List.not_mem_nil, or_false] at hp hq
 rcases hp with rfl | rfl | rfl | rfl | rfl | rfl | rfl | rfl | rfl | rfl | rfl | rfl | rfl | rfl | rfl | rfl | rfl | rfl | rfl | rfl | rfl | rfl | rfl | rfl | rfl | rfl | rfl | rfl | rfl <;> rcases hq with rfl | rfl | rfl | rfl | rfl | rfl | rfl | rfl | rfl | rfl | rfl | rfl | rfl | rfl | rfl | rfl | rfl | rfl | rfl | rfl | rfl | rfl | rfl | rfl | rfl | rfl | rfl | rfl | rfl <;> simp
theorem mT_13 (sl : Value) (n : Nat) (g bx tp nr : Int) : ∀ p ∈ mT sl n g bx tp nr, p.2.1 ≠ 1 ∧ p.2.1 ≠ 3 := by simp [mT]
theorem mT_mI (sl : Value) (n : Nat) (g bx tp nr : Int) : ∀ p ∈ mT sl n g bx tp nr, ∀ q ∈ mI, p.1 ≠ q.1 := by simp [mT, mI]
theorem mI_key : ∀ p ∈ mI, ∀ q ∈ mI, p.1 = q.1 ∨ (p.2.1 == q.2.1) = false := by
 intro p hp q hq
 simp only [mI, List.mem_cons, List.not_mem_nil, or_false] at hp hq
 rcases hp with rfl | rfl | rfl | rfl | rfl | rfl | rfl <;> rcases hq with rfl | rfl | rfl | rfl | rfl | rfl | rfl <;> first | exact .inl rfl | (right; decide +kernel)
theorem mI_one : ∀ p ∈ mI, ∀ q ∈ mI, p.1 = q.1 → p = q := by
 intro p hp q hq
 simp only [mI, List.mem_cons, List.not_mem_nil, or_false] at hp hq
 rcases hp with rfl | rfl | rfl | rfl | rfl | rfl | rfl <;> rcases hq with rfl | rfl | rfl | rfl | rfl | rfl | rfl <;> simp
theorem mI_self : ∀ p ∈ mI, (p.2.1 == p.2.1) = true := by
 intro p hp
 simp only [mI, List.mem_cons, List.not_mem_nil, or_false] at hp
 rcases hp with rfl | rfl | rfl | rfl | rfl | rfl | rfl <;> decide +kernel
section
variable {b : Blk} {sl : Value} {n : Nat} {g bx tp nr md : Int} {listed : Array Bool} {ts : Nat → Value} {hp : Hp}
theorem MI.tmp (h : MI b sl n g bx tp nr md listed ts hp) {i t : Nat} {v : Value} (hm : (i, t, v) ∈ mT sl n g bx tp nr) (hx : ∀ q ∈ mX n g bx tp nr, q.1 ≠ i) (hi : i ≠ 0) : MI b sl n g bx tp nr md (listed.setIfInBounds i true) (upd ts t v) hp := by
 have h13 := mT_13 sl n g bx tp nr _ hm
 refine ⟨by rw [upd_other _ _ (fun e => h13.1 e.symm)]; exact h.t1, by rw [upd_other _ _ (fun e => h13.2 e.symm)]; exact h.t3, fun p hp hl => ?_, h.low, h.b, h.c, fun q hq hl => ?_, fun hl => ?_, fun q hq hl => (set_get hl).elim (fun e1 => absurd e1.symm (mT_mI sl n g bx tp nr _ hm q hq)) fun h1 => set_keep (h.i0 q hq h1)⟩
 ·by_cases e : p.2.1 = t
  ·have := mT_tmp sl n g bx tp nr p hp _ hm (.inr e)
   subst this
   exact upd_same _ _ _
  ·rw [upd_other _ _ e]
   rcases set_get hl with e1 | h1
   ·exact absurd (congrArg (fun x => x.2.1) (mT_tmp sl n g bx tp nr p hp _ hm (.inl e1))) e
   ·exact h.tm p hp h1
 ·rcases set_get hl with e1 | h1
  ·exact absurd e1 (hx q hq)
  ·exact h.bx q hq h1
 ·rcases set_get hl with e1 | h1
  ·exact absurd e1.symm hi
  ·obtain ⟨l, l1, l2, l3⟩ := h.mp h1
   refine ⟨l, l1, fun p hp => ?_, fun q hq hl2 => ?_⟩
   ·obtain ⟨q, hq, e, h2⟩ := l2 p hp
    refine ⟨q, hq, e, ?_⟩
    rw [Array.getElem?_setIfInBounds, if_neg (fun e => mT_mI sl n g bx tp nr _ hm q hq e)]
    exact h2
   ·rcases set_get hl2 with e1 | h2
    ·exact absurd e1.symm (mT_mI sl n g bx tp nr _ hm q hq)
    ·exact l3 q hq h2
theorem MI.mkm (h : MI b sl n g bx tp nr md listed ts hp) (h0 : listed[0]? = some false) : MI b sl n g bx tp nr md (listed.setIfInBounds 0 true) (upd ts 4 (.map (some 224))) (upd hp 224 (some (mpB []))) := by
 have hm : (0, 4, Value.map (some 224)) ∈ mT sl n g bx tp nr := by simp [mT]
 refine ⟨by rw [upd_other _ _ (by omega)]; exact h.t1, by rw [upd_other _ _ (by omega)]; exact h.t3, fun p hp hl => ?_, fun k hk => by rw [upd_other _ _ (by omega)]; exact h.low k hk, by rw [upd_other _ _ (by omega)]; exact h.b, by rw [upd_other _ _ (by omega)]; exact h.c, fun q hq hl => ?_, fun _ => ⟨[], upd_same _ _ _, by simp, fun q hq hl => ?_⟩, fun q hq hl => by simp [Array.getElem?_setIfInBounds, (Array.getElem?_eq_some_iff.1 h0).1]⟩
 ·by_cases e : p.2.1 = 4
  ·have := mT_tmp sl n g bx tp nr p hp _ hm (.inr e)
   subst this
   exact upd_same _ _ _
  ·rw [upd_other _ _ e]
   rcases set_get hl with e1 | h1
   ·exact absurd (congrArg (fun x => x.2.1) (mT_tmp sl n g bx tp nr p hp _ hm (.inl e1))) e
   ·exact h.tm p hp h1
 ·have hq2 : q.1 ≠ 0 ∧ q.2.1 ≠ 224 := (show ∀ q ∈ mX n g bx tp nr, q.1 ≠ 0 ∧ q.2.1 ≠ 224 by simp [mX]) q hq
  rw [upd_other _ _ hq2.2]
  rcases set_get hl with e1 | h1
  ·exact absurd e1 hq2.1
  ·exact h.bx q hq h1
 ·have hq2 : q.1 ≠ 0 := (show ∀ q ∈ mI, q.1 ≠ 0 by simp [mI]) q hq
  rcases set_get hl with e1 | h1
  ·exact absurd e1 hq2
  ·rw [h.i0 q hq h1] at h0; cases h0
theorem MI.call (h : MI b sl n g bx tp nr md listed ts hp) {i t nk : Nat} {v : Value} {a m : Int} (hm : (i, t, v) ∈ mT sl n g bx tp nr) (hnk : 225 ≤ nk) (hi : i ≠ 0) (hx : ∀ q ∈ mX n g bx tp nr, (q.1 = i → (q.2.1 = nk ∧ q.2.2 = jb a) ∨ (q.2.1 = nk + 1 ∧ q.2.2 = jb m)) ∧ (q.1 ≠ i → q.2.1 ≠ nk ∧ q.2.1 ≠ nk + 1)) :
  MI b sl n g bx tp nr md (listed.setIfInBounds i true) (upd ts t v) (upd (upd hp nk (some (jb a))) (nk + 1) (some (jb m))) := by
 have h13 := mT_13 sl n g bx tp nr _ hm
 refine ⟨by rw [upd_other _ _ (fun e => h13.1 e.symm)]; exact h.t1, by rw [upd_other _ _ (fun e => h13.2 e.symm)]; exact h.t3, fun p hp hl => ?_, fun k hk => by rw [upd_other _ _ (by omega), upd_other _ _ (by omega)]; exact h.low k hk, by rw [upd_other _ _ (by omega), upd_other _ _ (by omega)]; exact h.b, by rw [upd_other _ _ (by omega), upd_other _ _ (by omega)]; exact h.c, fun q hq hl => ?_, fun hl => ?_, fun q hq hl => (set_get hl).elim (fun e1 => absurd e1.symm (mT_mI sl n g bx tp nr _ hm q hq)) fun h1 => set_keep (h.i0 q hq h1)⟩
 ·by_cases e : p.2.1 = t
  ·have := mT_tmp sl n g bx tp nr p hp _ hm (.inr e)
   subst this
   exact upd_same _ _ _
  ·rw [upd_other _ _ e]
   rcases set_get hl with e1 | h1
   ·exact absurd (congrArg (fun x => x.2.1) (mT_tmp sl n g bx tp nr p hp _ hm (.inl e1))) e
   ·exact h.tm p hp h1
 ·by_cases e : q.1 = i
  ·rcases (hx q hq).1 e with ⟨e1, e2⟩ | ⟨e1, e2⟩
   ·rw [e1, e2, upd_other _ _ (by omega), upd_same]
   ·rw [e1, e2, upd_same]
  ·obtain ⟨e1, e2⟩ := (hx q hq).2 e
   rw [upd_other _ _ e2, upd_other _ _ e1]
   rcases set_get hl with e3 | h1
   ·exact absurd e3 e
   ·exact h.bx q hq h1
 ·rcases set_get hl with e1 | h1
  ·exact absurd e1.symm hi
  ·obtain ⟨l, l1, l2, l3⟩ := h.mp h1
   refine ⟨l, by rw [upd_other _ _ (by omega), upd_other _ _ (by omega)]; exact l1, fun p hp => ?_, fun q hq hl2 => ?_⟩
   ·obtain ⟨q, hq, e, h2⟩ := l2 p hp
    refine ⟨q, hq, e, ?_⟩
    rw [Array.getElem?_setIfInBounds, if_neg (fun e => mT_mI sl n g bx tp nr _ hm q hq e)]
    exact h2
   ·rcases set_get hl2 with e1 | h2
    ·exact absurd e1.symm (mT_mI sl n g bx tp nr _ hm q hq)
    ·exact l3 q hq h2
theorem findL_app {s : ByteArray} {v : Value} {k : ByteArray} : ∀ (l : List (ByteArray × Value)), findL k (l ++ [(s, v)]) = match findL k l with | some u => some u | none => if (k == s) = true then some v else none
 | [] => rfl
 | p :: l => by
  simp only [List.cons_append, findL]
  split
  ·rfl
  ·exact findL_app l
theorem MI.fresh (h : MI b sl n g bx tp nr md listed ts hp) {i : Nat} {s : ByteArray} {v : Value} (hm : (i, s, v) ∈ mI) (hi : listed[i]? = some false) {l : List (ByteArray × Value)} (hl : ∀ p ∈ l, ∃ q ∈ mI, p = q.2 ∧ listed[q.1]? = some true) : findL s l = none := by
 induction l with
 | nil => rfl
 | cons p l ih =>
  simp only [findL]
  obtain ⟨q, hq, e, h2⟩ := hl p (by simp)
  have : (s == p.1) = false := by
   rw [e]
   rcases mI_key _ hm q hq with e1 | e1
   ·have e1 : i = q.1 := e1
    rw [← e1, hi] at h2
    cases h2
   ·exact e1
  rw [this]
  exact ih fun p hp => hl p (List.mem_cons_of_mem _ hp)
theorem MI.ins (h : MI b sl n g bx tp nr md listed ts hp) {i : Nat} {s : ByteArray} {v : Value} (hm : (i, s, v) ∈ mI) (hlt : i < listed.size) {l : List (ByteArray × Value)} (hl : ∀ p ∈ l, ∃ q ∈ mI, p = q.2 ∧ listed[q.1]? = some true) (hf : ∀ q ∈ mI, listed[q.1]? = some true → findL q.2.1 l = some q.2.2) (hn : findL s l = none) (h00 : listed[0]? = some true) :
  MI b sl n g bx tp nr md (listed.setIfInBounds i true) ts (upd hp 224 (some (mpB (l ++ [(s, v)])))) := by
 refine ⟨h.t1, h.t3, fun p hp hl => ?_, fun k hk => by rw [upd_other _ _ (by omega)]; exact h.low k hk, by rw [upd_other _ _ (by omega)]; exact h.b, by rw [upd_other _ _ (by omega)]; exact h.c, fun q hq hl => ?_, fun _ => ⟨_, upd_same _ _ _, fun p hp => ?_, fun q hq hl2 => ?_⟩, fun q hq hl => set_keep h00⟩
 ·rcases set_get hl with e1 | h1
  ·exact absurd e1 (mT_mI sl n g bx tp nr p hp _ hm)
  ·exact h.tm p hp h1
 ·have hq2 : q.2.1 ≠ 224 := (show ∀ q ∈ mX n g bx tp nr, q.2.1 ≠ 224 by simp [mX]) q hq
  have hq3 : ∀ p ∈ mI, q.1 ≠ p.1 := (show ∀ q ∈ mX n g bx tp nr, ∀ p ∈ mI, q.1 ≠ p.1 by simp [mX, mI]) q hq
  rw [upd_other _ _ hq2]
  rcases set_get hl with e1 | h1
  ·exact absurd e1 (hq3 _ hm)
  ·exact h.bx q hq h1
 ·rcases List.mem_append.1 hp with hp | hp
  ·obtain ⟨q, hq, e, h2⟩ := hl p hp
   refine ⟨q, hq, e, ?_⟩
   exact set_keep h2
  ·simp only [List.mem_singleton] at hp
   subst hp
   refine ⟨_, hm, rfl, ?_⟩
   simp [Array.getElem?_setIfInBounds, hlt]
 ·rw [findL_app]
  rcases set_get hl2 with e1 | h2
  ·have := mI_one q hq _ hm e1
   subst this
   simp only [hn]
   rw [mI_self _ hm]
   rfl
  ·rw [hf q hq h2]
end
def mV (nk : Nat) : List (ByteArray × Value) := [(⟨#[98, 111, 100, 105, 101, 115]⟩, .func (.func 123) #[] #[.pointer (some ⟨nk + 2, 0, none⟩), .pointer (some ⟨nk + 3, 0, none⟩)]),
  (⟨#[109, 97, 115, 115]⟩, .func (.func 125) #[] #[.pointer (some ⟨nk + 1, 0, none⟩)]),
  (⟨#[99, 111, 110, 115, 116, 97, 110, 116]⟩, .func (.func 123) #[] #[.pointer (some ⟨nk + 4, 0, none⟩), .pointer (some ⟨nk + 5, 0, none⟩)]),
  (⟨#[98, 111, 120]⟩, .func (.func 123) #[] #[.pointer (some ⟨nk + 6, 0, none⟩), .pointer (some ⟨nk + 7, 0, none⟩)]),
  (⟨#[116, 111, 112]⟩, .func (.func 123) #[] #[.pointer (some ⟨nk + 8, 0, none⟩), .pointer (some ⟨nk + 9, 0, none⟩)]),
  (⟨#[110, 101, 97, 114]⟩, .func (.func 123) #[] #[.pointer (some ⟨nk + 10, 0, none⟩), .pointer (some ⟨nk + 11, 0, none⟩)]),
  (⟨#[109, 101, 116, 104, 111, 100]⟩, .func (.func 128) #[] #[.pointer (some ⟨nk + 1, 0, none⟩)])]
def mNs (nk : Nat) (l : List (ByteArray × Value)) (sl : Value) (n : Nat) (g bx tp nr md : Int) : List (Nat × Blk) := [(nk, mpB l), (nk + 1, cfB sl g bx tp nr md), (nk + 2, jb (n : Int)), (nk + 3, jb 4), (nk + 4, jb g), (nk + 5, jb 1048576), (nk + 6, jb bx), (nk + 7, jb 1048576), (nk + 8, jb tp), (nk + 9, jb 65536), (nk + 10, jb nr), (nk + 11, jb (Int.bmod (2 * bx) 18446744073709551616))]
def MustsR (nk : Nat) (sl : Value) (n : Nat) (g bx tp nr md : Int) (v : Value) (ns : List (Nat × Blk)) : Prop := ∃ l, v = .map (some nk) ∧ ns = mNs nk l sl n g bx tp nr md ∧ (∀ p ∈ l, p ∈ mV nk) ∧ ∀ q ∈ mV nk, findL q.1 l = some q.2
theorem findL_map {s : ByteArray} {h : Value → Value} : ∀ l : List (ByteArray × Value), findL s (l.map fun p => (p.1, h p.2)) = (findL s l).map h
 | [] => rfl
 | p :: l => by
  simp only [List.map_cons, findL]
  split
  ·rfl
  ·exact findL_map l
theorem mpB_rn (ρ : Nat → Nat) (l : List (ByteArray × Value)) : (mpB l).rn ρ = mpB (l.map fun p => (p.1, renF ρ p.2)) := by
 unfold mpB Blk.rn mpC
 simp only [List.map_toArray, List.map_flatMap, List.flatMap_map, List.map_cons, List.map_nil]
 rfl
def mR (k : Nat) : Nat := if k = 1000 then 224 else if k = 1001 then 200 else if k = 1002 then 264 else if k = 1003 then 265 else if k = 1004 then 320 else if k = 1005 then 321 else if k = 1006 then 360 else if k = 1007 then 361 else if k = 1008 then 400 else if k = 1009 then 401 else if k = 1010 then 464 else if k = 1011 then 465 else k
def mS (k : Nat) : Nat := if k = 224 then 1000 else if k = 200 then 1001 else if k = 264 then 1002 else if k = 265 then 1003 else if k = 320 then 1004 else if k = 321 then 1005 else if k = 360 then 1006 else if k = 361 then 1007 else if k = 400 then 1008 else if k = 401 then 1009 else if k = 464 then 1010 else if k = 465 then 1011 else k
set_option maxRecDepth 8000 in
set_option maxHeartbeats 8000000 in
theorem musts_fun (b : Blk) (hb : b.fx) (off n cap : Nat) (g bx tp nr md : Int) :
  FunS Tryz.prog G0 105 #[cfV (.slice (some ⟨100, off, none⟩) n cap) g bx tp nr md] (hpL G0 [(100, b)]) (keys [(100, b)]) (MustsR 1000 (.slice (some ⟨100, off, none⟩) n cap) n g bx tp nr md) := by
 refine newS_ofL (B := 200) G0F Tryz.func105 rfl Tryz.call105 (oneL_ok hb) ?_ ?_ (by simp [Tryz.ntmps105]) (by omega) ?_
 ·simp [idsV, idsA, idsF, ids0, keys, cfV]
 ·rintro v ns ⟨l, rfl, rfl, hl, _⟩
  have hl2 : ∀ D : Nat → Prop, (∀ k, 1000 ≤ k → k < 1012 → D k) → (mpB l).ids D := fun D hD => mpB_ids.2 fun p hp => by
   have := hl p hp
   simp only [mV, List.mem_cons, List.not_mem_nil, or_false] at this
   rcases this with rfl | rfl | rfl | rfl | rfl | rfl | rfl <;> simp [idsF, ids0, hD]
  refine ⟨by simp [idsV, idsA, idsF, ids0, extD, keys, mNs], ?_, ?_⟩
  ·intro p hp
   simp only [mNs, List.mem_cons, List.not_mem_nil, or_false] at hp
   have hD : ∀ k, 1000 ≤ k → k < 1012 → extD (fun k => k ∈ keys [(100, b)]) (mNs 1000 l (.slice (some ⟨100, off, none⟩) n cap) n g bx tp nr md) k := fun k hk1 hk2 => .inr (by
    simp only [mNs, keys, List.map_cons, List.map_nil, List.mem_cons, List.not_mem_nil, or_false]
    omega)
   rcases hp with rfl | rfl | rfl | rfl | rfl | rfl | rfl | rfl | rfl | rfl | rfl | rfl
   ·exact ⟨by omega, hl2 _ hD⟩
   ·exact ⟨by omega, by simp [cfB, ids_lit, idsF, ids0, extD, keys]⟩
   all_goals exact ⟨by omega, by simp [jb, ids_lit, idsF, ids0]⟩
  ·intro k b c h1 h2
   simp only [mNs, List.mem_cons, List.not_mem_nil, or_false, Prod.mk.injEq] at h1 h2
   rcases h1 with ⟨e1, rfl⟩ | ⟨e1, rfl⟩ | ⟨e1, rfl⟩ | ⟨e1, rfl⟩ | ⟨e1, rfl⟩ | ⟨e1, rfl⟩ | ⟨e1, rfl⟩ | ⟨e1, rfl⟩ | ⟨e1, rfl⟩ | ⟨e1, rfl⟩ | ⟨e1, rfl⟩ | ⟨e1, rfl⟩ <;> rcases h2 with ⟨e2, rfl⟩ | ⟨e2, rfl⟩ | ⟨e2, rfl⟩ | ⟨e2, rfl⟩ | ⟨e2, rfl⟩ | ⟨e2, rfl⟩ | ⟨e2, rfl⟩ | ⟨e2, rfl⟩ | ⟨e2, rfl⟩ | ⟨e2, rfl⟩ | ⟨e2, rfl⟩ | ⟨e2, rfl⟩ <;> first | rfl | omega
 intro C hC hC0 hY
 unfold cfV
 repeat' (first | refine gwA ?_ | ((first | refine gwR [] ?_ | refine gwD [] ?_); intro Q hQ hP; simp [hC, hY]; refine hQ _ _ _ _ (by kernel_rfl) ?_; clear hQ hP Q) | (refine gwC ?_ ?_ <;> (intro hb; first | (cases hb; done) | skip)))
 refine GW_any follows ?_
 simp only [Array.toList, List.length_cons, List.length_nil, Nat.reduceAdd]
 obtain ⟨sl, hsl⟩ : ∃ sl, Value.slice (some ⟨100, off, none⟩) n cap = sl := ⟨_, rfl⟩
 refine GA_ind (MI b sl n g bx tp nr md) (fun listed ts hp hs hr hI => ?_) (fun fuel listed ts hp i hs hi hdep h hk => ?_) _ _ _ _ (by simp) (by decide +kernel) ?_
 ·have hall := ready_nil hs (by kernel_rfl) hr
  have hall : ∀ i, i < 36 → listed[i]? = some true := fun i hi => hall i (by simpa using hi)
  obtain ⟨l, l1, l2, l3⟩ := hI.mp (hall 0 (by omega))
  have h2 := hI.tm (35, 2, .map (some 224)) (by simp [mT]) (hall 35 (by omega))
  have hinv : ∀ q ∈ mI, renF mR (renF mS q.2.2) = q.2.2 := by simp [mI, renF, ren0, mR, mS]
  have hcan : ∀ q ∈ mI, (q.2.1, renF mS q.2.2) ∈ mV 1000 := by simp [mI, mV, renF, ren0, mS]
  have hfind : ∀ q ∈ mV 1000, ∃ p ∈ mI, p.2.1 = q.1 ∧ renF mS p.2.2 = q.2 ∧ p.1 < 36 := by
   intro q hq
   simp only [mV, List.mem_cons, List.not_mem_nil, or_false] at hq
   rcases hq with rfl | rfl | rfl | rfl | rfl | rfl | rfl
   ·exact ⟨(6, ⟨#[98, 111, 100, 105, 101, 115]⟩, .func (.func 123) #[] #[.pointer (some ⟨264, 0, none⟩), .pointer (some ⟨265, 0, none⟩)]), by simp [mI], rfl, by simp [renF, ren0, mS], by omega⟩
   ·exact ⟨(8, ⟨#[109, 97, 115, 115]⟩, .func (.func 125) #[] #[.pointer (some ⟨200, 0, none⟩)]), by simp [mI], rfl, by simp [renF, ren0, mS], by omega⟩
   ·exact ⟨(13, ⟨#[99, 111, 110, 115, 116, 97, 110, 116]⟩, .func (.func 123) #[] #[.pointer (some ⟨320, 0, none⟩), .pointer (some ⟨321, 0, none⟩)]), by simp [mI], rfl, by simp [renF, ren0, mS], by omega⟩
   ·exact ⟨(18, ⟨#[98, 111, 120]⟩, .func (.func 123) #[] #[.pointer (some ⟨360, 0, none⟩), .pointer (some ⟨361, 0, none⟩)]), by simp [mI], rfl, by simp [renF, ren0, mS], by omega⟩
   ·exact ⟨(23, ⟨#[116, 111, 112]⟩, .func (.func 123) #[] #[.pointer (some ⟨400, 0, none⟩), .pointer (some ⟨401, 0, none⟩)]), by simp [mI], rfl, by simp [renF, ren0, mS], by omega⟩
   ·exact ⟨(31, ⟨#[110, 101, 97, 114]⟩, .func (.func 123) #[] #[.pointer (some ⟨464, 0, none⟩), .pointer (some ⟨465, 0, none⟩)]), by simp [mI], rfl, by simp [renF, ren0, mS], by omega⟩
   ·exact ⟨(33, ⟨#[109, 101, 116, 104, 111, 100]⟩, .func (.func 128) #[] #[.pointer (some ⟨200, 0, none⟩)]), by simp [mI], rfl, by simp [renF, ren0, mS], by omega⟩
  simp only [thenG_normal]
  refine GW_ret ?_
  refine ⟨.inr rfl, keep_of G0F (by simp [hI.b]) (fun k hk => (hI.low k hk).trans (hpL_low (by simp) hk).symm), _, _, mR, ⟨l.map fun p => (p.1, renF mS p.2), rfl, rfl, fun p hp => ?_, fun q hq => ?_⟩, fun k hk => ?_, ?_, ?_, ?_, ?_⟩
  ·obtain ⟨p0, hp0, rfl⟩ := List.mem_map.1 hp
   obtain ⟨q, hq, rfl, _⟩ := l2 p0 hp0
   exact hcan q hq
  ·obtain ⟨p, hp, e1, e2, hlt⟩ := hfind q hq
   rw [findL_map, ← e1, l3 p hp (hall _ hlt), ← e2]
   rfl
  ·unfold mR
   iterate 12 rw [if_neg (by omega)]
  ·simp [mNs, mR]
  ·simp [mNs, mR]
  ·simp [Tryz.results105, h2, ren, renA, renF, ren0, mR]
   rfl
  ·subst hsl
   have hbx := hI.bx
   have hm : (mpB (l.map fun p => (p.1, renF mS p.2))).rn mR = mpB l := by
    rw [mpB_rn, List.map_map]
    congr 1
    conv => rhs; rw [← List.map_id l]
    refine List.map_congr_left fun p hp => ?_
    obtain ⟨q, hq, rfl, _⟩ := l2 p hp
    simp only [Function.comp_def, id]
    rw [hinv q hq]
   intro p hp
   simp only [mNs, List.mem_cons, List.not_mem_nil, or_false] at hp
   rcases hp with rfl | rfl | rfl | rfl | rfl | rfl | rfl | rfl | rfl | rfl | rfl | rfl
   ·show hp (mR 1000) = some ((mpB _).rn mR)
    rw [hm]
    exact l1
   ·show hp 200 = some ((cfB _ g bx tp nr md).rn mR)
    rw [hI.c]
    simp [cfB, Blk.rn, renF, ren0, mR]
   ·show hp 264 = some ((jb (n : Int)).rn mR)
    rw [jb_rn]
    exact hbx (5, 264, jb (n : Int)) (by simp [mX]) (hall 5 (by omega))
   ·show hp 265 = some ((jb 4).rn mR)
    rw [jb_rn]
    exact hbx (5, 265, jb 4) (by simp [mX]) (hall 5 (by omega))
   ·show hp 320 = some ((jb g).rn mR)
    rw [jb_rn]
    exact hbx (12, 320, jb g) (by simp [mX]) (hall 12 (by omega))
   ·show hp 321 = some ((jb 1048576).rn mR)
    rw [jb_rn]
    exact hbx (12, 321, jb 1048576) (by simp [mX]) (hall 12 (by omega))
   ·show hp 360 = some ((jb bx).rn mR)
    rw [jb_rn]
    exact hbx (17, 360, jb bx) (by simp [mX]) (hall 17 (by omega))
   ·show hp 361 = some ((jb 1048576).rn mR)
    rw [jb_rn]
    exact hbx (17, 361, jb 1048576) (by simp [mX]) (hall 17 (by omega))
   ·show hp 400 = some ((jb tp).rn mR)
    rw [jb_rn]
    exact hbx (22, 400, jb tp) (by simp [mX]) (hall 22 (by omega))
   ·show hp 401 = some ((jb 65536).rn mR)
    rw [jb_rn]
    exact hbx (22, 401, jb 65536) (by simp [mX]) (hall 22 (by omega))
   ·show hp 464 = some ((jb nr).rn mR)
    rw [jb_rn]
    exact hbx (30, 464, jb nr) (by simp [mX]) (hall 30 (by omega))
   ·show hp 465 = some ((jb (Int.bmod (2 * bx) 18446744073709551616)).rn mR)
    rw [jb_rn]
    exact hbx (30, 465, jb (Int.bmod (2 * bx) 18446744073709551616)) (by simp [mX]) (hall 30 (by omega))
 ·have hlt : i < 36 := by
   have := (Array.getElem?_eq_some_iff.1 hi).1
   rw [hs] at this
   simpa using this
  subst hsl
  obtain rfl | rfl | rfl | rfl | rfl | rfl | rfl | rfl | rfl | rfl | rfl | rfl | rfl | rfl | rfl | rfl | rfl | rfl | rfl | rfl | rfl | rfl | rfl | rfl | rfl | rfl | rfl | rfl | rfl | rfl | rfl | rfl | rfl | rfl | rfl | rfl : i = 0 ∨ i = 1 ∨ i = 2 ∨ i = 3 ∨ i = 4 ∨ i = 5 ∨ i = 6 ∨ i = 7 ∨ i = 8 ∨ i = 9 ∨ i = 10 ∨ i = 11 ∨ i = 12 ∨ i = 13 ∨ i = 14 ∨ i = 15 ∨ i = 16 ∨ i = 17 ∨ i = 18 ∨ i = 19 ∨ i = 20 ∨ i = 21 ∨ i = 22 ∨ i = 23 ∨ i = 24 ∨ i = 25 ∨ i = 26 ∨ i = 27 ∨ i = 28 ∨ i = 29 ∨ i = 30 ∨ i = 31 ∨ i = 32 ∨ i = 33 ∨ i = 34 ∨ i = 35 := by omega
  ·-- 0 map
   have f0 := h.t1
   have f1 := h.t3
   refine GO_walk [] rfl (by kernel_rfl) (by first | assumption | simp) ?_; intro q hq; simp [hC, hY, f0, f1]; refine hq _ _ _ _ ?_; clear hq q
   exact hk _ _ (h.mkm hi)
  ·-- 1 mv
   have f0 := h.t1
   have f1 := h.t3
   refine GO_walk [] rfl (by kernel_rfl) (by first | assumption | simp) ?_; intro q hq; simp [hC, hY, f0, f1]; refine hq _ _ _ _ ?_; clear hq q
   exact hk _ _ (h.tmp (i := 1) (t := 5) (by simp [mT]) (by simp [mX]) (by omega))
  ·-- 2 fa
   have f0 := h.t1
   have f1 := h.t3
   refine GO_walk [] rfl (by kernel_rfl) (by first | assumption | simp) ?_; intro q hq; simp [hC, hY, f0, f1]; refine hq _ _ _ _ ?_; clear hq q
   exact hk _ _ (h.tmp (i := 2) (t := 6) (by simp [mT]) (by simp [mX]) (by omega))
  ·-- 3 ld
   have hd : ∀ j ∈ [2], listed[j]? = some true := by
    have hd0 := hdep _ rfl
    simp [Region.binds] at hd0
    simp [hd0]
   have f0 := h.t1
   have f1 := h.t3
   have f2 := h.tm (2, 6, .pointer (some ⟨200, 0, none⟩)) (by simp [mT]) (hd 2 (by simp))
   have fc := h.c
   unfold cfB at fc
   refine GO_walk [] rfl (by kernel_rfl) (by first | assumption | simp) ?_; intro q hq; simp [hC, hY, f0, f1, f2, fc]; refine hq _ _ _ _ ?_; clear hq q
   exact hk _ _ (h.tmp (i := 3) (t := 7) (by simp [mT]) (by simp [mX]) (by omega))
  ·-- 4 len
   have hd : ∀ j ∈ [3], listed[j]? = some true := by
    have hd0 := hdep _ rfl
    simp [Region.binds] at hd0
    simp [hd0]
   have f0 := h.t1
   have f1 := h.t3
   have f2 := h.tm (3, 7, .slice (some ⟨100, off, none⟩) n cap) (by simp [mT]) (hd 3 (by simp))
   refine GO_walk [] rfl (by kernel_rfl) (by first | assumption | simp) ?_; intro q hq; simp [hC, hY, f0, f1, f2]; refine hq _ _ _ _ ?_; clear hq q
   exact hk _ _ (h.tmp (i := 4) (t := 8) (by simp [mT]) (by simp [mX]) (by omega))
  ·-- 5 call
   have hd : ∀ j ∈ [1, 4], listed[j]? = some true := by
    have hd0 := hdep _ rfl
    simp [Region.binds] at hd0
    simp [hd0]
   have f0 := h.t1
   have f1 := h.t3
   have f2 := h.tm (1, 5, .func (.func 122) #[] #[]) (by simp [mT]) (hd 1 (by simp))
   have f3 := h.tm (4, 8, .int .i64 n) (by simp [mT]) (hd 4 (by simp))
   refine GO_callL (f := .tmp 5) (cap := #[]) hC (num_at 264 (by omega) (n : Int) 4) rfl hi rfl (by simp [Tryz.ntmps105]) rfl rfl (by simp [okT, f0, f1, f2, f3]) (by simp [gev, f0, f1, f2, f3]) (by simp) (by simp [okX, junk, f0, f1, f2, f3]) (by simp [gev, f0, f1, f2, f3]) (by simp) (fun q hq => (h.low q hq).symm ▸ (by simp)) ?_ ?_
   ·intro v ns hV k hk
    have := numR_key hV k hk
    omega
   rintro v ns ⟨rfl, rfl⟩
   exact hk _ _ (h.call (i := 5) (t := 9) (by simp [mT]) (by omega) (by omega) (by simp [mX]))
  ·-- 6 ins
   have hd : ∀ j ∈ [0, 5], listed[j]? = some true := by
    have hd0 := hdep _ rfl
    simp [Region.binds] at hd0
    simp [hd0]
   have f0 := h.t1
   have f1 := h.t3
   have f2 := h.tm (0, 4, .map (some 224)) (by simp [mT]) (hd 0 (by simp))
   have f3 := h.tm (5, 9, .func (.func 123) #[] #[.pointer (some ⟨264, 0, none⟩), .pointer (some ⟨265, 0, none⟩)]) (by simp [mT]) (hd 5 (by simp))
   obtain ⟨l, l1, l2, l3⟩ := h.mp (hd 0 (by simp))
   have hm : (6, ⟨#[98, 111, 100, 105, 101, 115]⟩, .func (.func 123) #[] #[.pointer (some ⟨264, 0, none⟩), .pointer (some ⟨265, 0, none⟩)]) ∈ mI := by simp [mI]
   have hn := h.fresh hm hi l2
   refine GO_walk [] rfl (by kernel_rfl) (by first | assumption | simp) ?_; intro q hq; simp [hC, hY, f0, f1, f2, f3, l1, hn]; refine hq _ _ _ _ ?_; clear hq q
   exact hk _ _ (h.ins hm (Array.getElem?_eq_some_iff.1 hi).1 l2 l3 hn (hd 0 (by simp)))
  ·-- 7 mk
   have f0 := h.t1
   have f1 := h.t3
   refine GO_walk [] rfl (by kernel_rfl) (by first | assumption | simp) ?_; intro q hq; simp [hC, hY, f0, f1]; refine hq _ _ _ _ ?_; clear hq q
   exact hk _ _ (h.tmp (i := 7) (t := 10) (by simp [mT]) (by simp [mX]) (by omega))
  ·-- 8 ins
   have hd : ∀ j ∈ [0, 7], listed[j]? = some true := by
    have hd0 := hdep _ rfl
    simp [Region.binds] at hd0
    simp [hd0]
   have f0 := h.t1
   have f1 := h.t3
   have f2 := h.tm (0, 4, .map (some 224)) (by simp [mT]) (hd 0 (by simp))
   have f3 := h.tm (7, 10, .func (.func 125) #[] #[.pointer (some ⟨200, 0, none⟩)]) (by simp [mT]) (hd 7 (by simp))
   obtain ⟨l, l1, l2, l3⟩ := h.mp (hd 0 (by simp))
   have hm : (8, ⟨#[109, 97, 115, 115]⟩, .func (.func 125) #[] #[.pointer (some ⟨200, 0, none⟩)]) ∈ mI := by simp [mI]
   have hn := h.fresh hm hi l2
   refine GO_walk [] rfl (by kernel_rfl) (by first | assumption | simp) ?_; intro q hq; simp [hC, hY, f0, f1, f2, f3, l1, hn]; refine hq _ _ _ _ ?_; clear hq q
   exact hk _ _ (h.ins hm (Array.getElem?_eq_some_iff.1 hi).1 l2 l3 hn (hd 0 (by simp)))
  ·-- 9 mv
   have f0 := h.t1
   have f1 := h.t3
   refine GO_walk [] rfl (by kernel_rfl) (by first | assumption | simp) ?_; intro q hq; simp [hC, hY, f0, f1]; refine hq _ _ _ _ ?_; clear hq q
   exact hk _ _ (h.tmp (i := 9) (t := 11) (by simp [mT]) (by simp [mX]) (by omega))
  ·-- 10 fa
   have f0 := h.t1
   have f1 := h.t3
   refine GO_walk [] rfl (by kernel_rfl) (by first | assumption | simp) ?_; intro q hq; simp [hC, hY, f0, f1]; refine hq _ _ _ _ ?_; clear hq q
   exact hk _ _ (h.tmp (i := 10) (t := 12) (by simp [mT]) (by simp [mX]) (by omega))
  ·-- 11 ld
   have hd : ∀ j ∈ [10], listed[j]? = some true := by
    have hd0 := hdep _ rfl
    simp [Region.binds] at hd0
    simp [hd0]
   have f0 := h.t1
   have f1 := h.t3
   have f2 := h.tm (10, 12, .pointer (some ⟨200, 1, none⟩)) (by simp [mT]) (hd 10 (by simp))
   have fc := h.c
   unfold cfB at fc
   refine GO_walk [] rfl (by kernel_rfl) (by first | assumption | simp) ?_; intro q hq; simp [hC, hY, f0, f1, f2, fc]; refine hq _ _ _ _ ?_; clear hq q
   exact hk _ _ (h.tmp (i := 11) (t := 13) (by simp [mT]) (by simp [mX]) (by omega))
  ·-- 12 call
   have hd : ∀ j ∈ [9, 11], listed[j]? = some true := by
    have hd0 := hdep _ rfl
    simp [Region.binds] at hd0
    simp [hd0]
   have f0 := h.t1
   have f1 := h.t3
   have f2 := h.tm (9, 11, .func (.func 122) #[] #[]) (by simp [mT]) (hd 9 (by simp))
   have f3 := h.tm (11, 13, .int .i64 g) (by simp [mT]) (hd 11 (by simp))
   refine GO_callL (f := .tmp 11) (cap := #[]) hC (num_at 320 (by omega) g 1048576) rfl hi rfl (by simp [Tryz.ntmps105]) rfl rfl (by simp [okT, f0, f1, f2, f3]) (by simp [gev, f0, f1, f2, f3]) (by simp) (by simp [okX, junk, f0, f1, f2, f3]) (by simp [gev, f0, f1, f2, f3]) (by simp) (fun q hq => (h.low q hq).symm ▸ (by simp)) ?_ ?_
   ·intro v ns hV k hk
    have := numR_key hV k hk
    omega
   rintro v ns ⟨rfl, rfl⟩
   exact hk _ _ (h.call (i := 12) (t := 14) (by simp [mT]) (by omega) (by omega) (by simp [mX]))
  ·-- 13 ins
   have hd : ∀ j ∈ [0, 12], listed[j]? = some true := by
    have hd0 := hdep _ rfl
    simp [Region.binds] at hd0
    simp [hd0]
   have f0 := h.t1
   have f1 := h.t3
   have f2 := h.tm (0, 4, .map (some 224)) (by simp [mT]) (hd 0 (by simp))
   have f3 := h.tm (12, 14, .func (.func 123) #[] #[.pointer (some ⟨320, 0, none⟩), .pointer (some ⟨321, 0, none⟩)]) (by simp [mT]) (hd 12 (by simp))
   obtain ⟨l, l1, l2, l3⟩ := h.mp (hd 0 (by simp))
   have hm : (13, ⟨#[99, 111, 110, 115, 116, 97, 110, 116]⟩, .func (.func 123) #[] #[.pointer (some ⟨320, 0, none⟩), .pointer (some ⟨321, 0, none⟩)]) ∈ mI := by simp [mI]
   have hn := h.fresh hm hi l2
   refine GO_walk [] rfl (by kernel_rfl) (by first | assumption | simp) ?_; intro q hq; simp [hC, hY, f0, f1, f2, f3, l1, hn]; refine hq _ _ _ _ ?_; clear hq q
   exact hk _ _ (h.ins hm (Array.getElem?_eq_some_iff.1 hi).1 l2 l3 hn (hd 0 (by simp)))
  ·-- 14 mv
   have f0 := h.t1
   have f1 := h.t3
   refine GO_walk [] rfl (by kernel_rfl) (by first | assumption | simp) ?_; intro q hq; simp [hC, hY, f0, f1]; refine hq _ _ _ _ ?_; clear hq q
   exact hk _ _ (h.tmp (i := 14) (t := 15) (by simp [mT]) (by simp [mX]) (by omega))
  ·-- 15 fa
   have f0 := h.t1
   have f1 := h.t3
   refine GO_walk [] rfl (by kernel_rfl) (by first | assumption | simp) ?_; intro q hq; simp [hC, hY, f0, f1]; refine hq _ _ _ _ ?_; clear hq q
   exact hk _ _ (h.tmp (i := 15) (t := 16) (by simp [mT]) (by simp [mX]) (by omega))
  ·-- 16 ld
   have hd : ∀ j ∈ [15], listed[j]? = some true := by
    have hd0 := hdep _ rfl
    simp [Region.binds] at hd0
    simp [hd0]
   have f0 := h.t1
   have f1 := h.t3
   have f2 := h.tm (15, 16, .pointer (some ⟨200, 2, none⟩)) (by simp [mT]) (hd 15 (by simp))
   have fc := h.c
   unfold cfB at fc
   refine GO_walk [] rfl (by kernel_rfl) (by first | assumption | simp) ?_; intro q hq; simp [hC, hY, f0, f1, f2, fc]; refine hq _ _ _ _ ?_; clear hq q
   exact hk _ _ (h.tmp (i := 16) (t := 17) (by simp [mT]) (by simp [mX]) (by omega))
  ·-- 17 call
   have hd : ∀ j ∈ [14, 16], listed[j]? = some true := by
    have hd0 := hdep _ rfl
    simp [Region.binds] at hd0
    simp [hd0]
   have f0 := h.t1
   have f1 := h.t3
   have f2 := h.tm (14, 15, .func (.func 122) #[] #[]) (by simp [mT]) (hd 14 (by simp))
   have f3 := h.tm (16, 17, .int .i64 bx) (by simp [mT]) (hd 16 (by simp))
   refine GO_callL (f := .tmp 15) (cap := #[]) hC (num_at 360 (by omega) bx 1048576) rfl hi rfl (by simp [Tryz.ntmps105]) rfl rfl (by simp [okT, f0, f1, f2, f3]) (by simp [gev, f0, f1, f2, f3]) (by simp) (by simp [okX, junk, f0, f1, f2, f3]) (by simp [gev, f0, f1, f2, f3]) (by simp) (fun q hq => (h.low q hq).symm ▸ (by simp)) ?_ ?_
   ·intro v ns hV k hk
    have := numR_key hV k hk
    omega
   rintro v ns ⟨rfl, rfl⟩
   exact hk _ _ (h.call (i := 17) (t := 18) (by simp [mT]) (by omega) (by omega) (by simp [mX]))
  ·-- 18 ins
   have hd : ∀ j ∈ [0, 17], listed[j]? = some true := by
    have hd0 := hdep _ rfl
    simp [Region.binds] at hd0
    simp [hd0]
   have f0 := h.t1
   have f1 := h.t3
   have f2 := h.tm (0, 4, .map (some 224)) (by simp [mT]) (hd 0 (by simp))
   have f3 := h.tm (17, 18, .func (.func 123) #[] #[.pointer (some ⟨360, 0, none⟩), .pointer (some ⟨361, 0, none⟩)]) (by simp [mT]) (hd 17 (by simp))
   obtain ⟨l, l1, l2, l3⟩ := h.mp (hd 0 (by simp))
   have hm : (18, ⟨#[98, 111, 120]⟩, .func (.func 123) #[] #[.pointer (some ⟨360, 0, none⟩), .pointer (some ⟨361, 0, none⟩)]) ∈ mI := by simp [mI]
   have hn := h.fresh hm hi l2
   refine GO_walk [] rfl (by kernel_rfl) (by first | assumption | simp) ?_; intro q hq; simp [hC, hY, f0, f1, f2, f3, l1, hn]; refine hq _ _ _ _ ?_; clear hq q
   exact hk _ _ (h.ins hm (Array.getElem?_eq_some_iff.1 hi).1 l2 l3 hn (hd 0 (by simp)))
  ·-- 19 mv
   have f0 := h.t1
   have f1 := h.t3
   refine GO_walk [] rfl (by kernel_rfl) (by first | assumption | simp) ?_; intro q hq; simp [hC, hY, f0, f1]; refine hq _ _ _ _ ?_; clear hq q
   exact hk _ _ (h.tmp (i := 19) (t := 19) (by simp [mT]) (by simp [mX]) (by omega))
  ·-- 20 fa
   have f0 := h.t1
   have f1 := h.t3
   refine GO_walk [] rfl (by kernel_rfl) (by first | assumption | simp) ?_; intro q hq; simp [hC, hY, f0, f1]; refine hq _ _ _ _ ?_; clear hq q
   exact hk _ _ (h.tmp (i := 20) (t := 20) (by simp [mT]) (by simp [mX]) (by omega))
  ·-- 21 ld
   have hd : ∀ j ∈ [20], listed[j]? = some true := by
    have hd0 := hdep _ rfl
    simp [Region.binds] at hd0
    simp [hd0]
   have f0 := h.t1
   have f1 := h.t3
   have f2 := h.tm (20, 20, .pointer (some ⟨200, 3, none⟩)) (by simp [mT]) (hd 20 (by simp))
   have fc := h.c
   unfold cfB at fc
   refine GO_walk [] rfl (by kernel_rfl) (by first | assumption | simp) ?_; intro q hq; simp [hC, hY, f0, f1, f2, fc]; refine hq _ _ _ _ ?_; clear hq q
   exact hk _ _ (h.tmp (i := 21) (t := 21) (by simp [mT]) (by simp [mX]) (by omega))
  ·-- 22 call
   have hd : ∀ j ∈ [19, 21], listed[j]? = some true := by
    have hd0 := hdep _ rfl
    simp [Region.binds] at hd0
    simp [hd0]
   have f0 := h.t1
   have f1 := h.t3
   have f2 := h.tm (19, 19, .func (.func 122) #[] #[]) (by simp [mT]) (hd 19 (by simp))
   have f3 := h.tm (21, 21, .int .i64 tp) (by simp [mT]) (hd 21 (by simp))
   refine GO_callL (f := .tmp 19) (cap := #[]) hC (num_at 400 (by omega) tp 65536) rfl hi rfl (by simp [Tryz.ntmps105]) rfl rfl (by simp [okT, f0, f1, f2, f3]) (by simp [gev, f0, f1, f2, f3]) (by simp) (by simp [okX, junk, f0, f1, f2, f3]) (by simp [gev, f0, f1, f2, f3]) (by simp) (fun q hq => (h.low q hq).symm ▸ (by simp)) ?_ ?_
   ·intro v ns hV k hk
    have := numR_key hV k hk
    omega
   rintro v ns ⟨rfl, rfl⟩
   exact hk _ _ (h.call (i := 22) (t := 22) (by simp [mT]) (by omega) (by omega) (by simp [mX]))
  ·-- 23 ins
   have hd : ∀ j ∈ [0, 22], listed[j]? = some true := by
    have hd0 := hdep _ rfl
    simp [Region.binds] at hd0
    simp [hd0]
   have f0 := h.t1
   have f1 := h.t3
   have f2 := h.tm (0, 4, .map (some 224)) (by simp [mT]) (hd 0 (by simp))
   have f3 := h.tm (22, 22, .func (.func 123) #[] #[.pointer (some ⟨400, 0, none⟩), .pointer (some ⟨401, 0, none⟩)]) (by simp [mT]) (hd 22 (by simp))
   obtain ⟨l, l1, l2, l3⟩ := h.mp (hd 0 (by simp))
   have hm : (23, ⟨#[116, 111, 112]⟩, .func (.func 123) #[] #[.pointer (some ⟨400, 0, none⟩), .pointer (some ⟨401, 0, none⟩)]) ∈ mI := by simp [mI]
   have hn := h.fresh hm hi l2
   refine GO_walk [] rfl (by kernel_rfl) (by first | assumption | simp) ?_; intro q hq; simp [hC, hY, f0, f1, f2, f3, l1, hn]; refine hq _ _ _ _ ?_; clear hq q
   exact hk _ _ (h.ins hm (Array.getElem?_eq_some_iff.1 hi).1 l2 l3 hn (hd 0 (by simp)))
  ·-- 24 mv
   have f0 := h.t1
   have f1 := h.t3
   refine GO_walk [] rfl (by kernel_rfl) (by first | assumption | simp) ?_; intro q hq; simp [hC, hY, f0, f1]; refine hq _ _ _ _ ?_; clear hq q
   exact hk _ _ (h.tmp (i := 24) (t := 23) (by simp [mT]) (by simp [mX]) (by omega))
  ·-- 25 fa
   have f0 := h.t1
   have f1 := h.t3
   refine GO_walk [] rfl (by kernel_rfl) (by first | assumption | simp) ?_; intro q hq; simp [hC, hY, f0, f1]; refine hq _ _ _ _ ?_; clear hq q
   exact hk _ _ (h.tmp (i := 25) (t := 24) (by simp [mT]) (by simp [mX]) (by omega))
  ·-- 26 ld
   have hd : ∀ j ∈ [25], listed[j]? = some true := by
    have hd0 := hdep _ rfl
    simp [Region.binds] at hd0
    simp [hd0]
   have f0 := h.t1
   have f1 := h.t3
   have f2 := h.tm (25, 24, .pointer (some ⟨200, 4, none⟩)) (by simp [mT]) (hd 25 (by simp))
   have fc := h.c
   unfold cfB at fc
   refine GO_walk [] rfl (by kernel_rfl) (by first | assumption | simp) ?_; intro q hq; simp [hC, hY, f0, f1, f2, fc]; refine hq _ _ _ _ ?_; clear hq q
   exact hk _ _ (h.tmp (i := 26) (t := 25) (by simp [mT]) (by simp [mX]) (by omega))
  ·-- 27 fa
   have f0 := h.t1
   have f1 := h.t3
   refine GO_walk [] rfl (by kernel_rfl) (by first | assumption | simp) ?_; intro q hq; simp [hC, hY, f0, f1]; refine hq _ _ _ _ ?_; clear hq q
   exact hk _ _ (h.tmp (i := 27) (t := 26) (by simp [mT]) (by simp [mX]) (by omega))
  ·-- 28 ld
   have hd : ∀ j ∈ [27], listed[j]? = some true := by
    have hd0 := hdep _ rfl
    simp [Region.binds] at hd0
    simp [hd0]
   have f0 := h.t1
   have f1 := h.t3
   have f2 := h.tm (27, 26, .pointer (some ⟨200, 2, none⟩)) (by simp [mT]) (hd 27 (by simp))
   have fc := h.c
   unfold cfB at fc
   refine GO_walk [] rfl (by kernel_rfl) (by first | assumption | simp) ?_; intro q hq; simp [hC, hY, f0, f1, f2, fc]; refine hq _ _ _ _ ?_; clear hq q
   exact hk _ _ (h.tmp (i := 28) (t := 27) (by simp [mT]) (by simp [mX]) (by omega))
  ·-- 29 mul
   have hd : ∀ j ∈ [28], listed[j]? = some true := by
    have hd0 := hdep _ rfl
    simp [Region.binds] at hd0
    simp [hd0]
   have f0 := h.t1
   have f1 := h.t3
   have f2 := h.tm (28, 27, .int .i64 bx) (by simp [mT]) (hd 28 (by simp))
   refine GO_walk [] rfl (by kernel_rfl) (by first | assumption | simp) ?_; intro q hq; simp [hC, hY, f0, f1, f2]; refine hq _ _ _ _ ?_; clear hq q
   exact hk _ _ (h.tmp (i := 29) (t := 28) (by simp [mT]) (by simp [mX]) (by omega))
  ·-- 30 call
   have hd : ∀ j ∈ [24, 26, 29], listed[j]? = some true := by
    have hd0 := hdep _ rfl
    simp [Region.binds] at hd0
    simp [hd0]
   have f0 := h.t1
   have f1 := h.t3
   have f2 := h.tm (24, 23, .func (.func 122) #[] #[]) (by simp [mT]) (hd 24 (by simp))
   have f3 := h.tm (26, 25, .int .i64 nr) (by simp [mT]) (hd 26 (by simp))
   have f4 := h.tm (29, 28, .int .i64 (Int.bmod (2 * bx) 18446744073709551616)) (by simp [mT]) (hd 29 (by simp))
   refine GO_callL (f := .tmp 23) (cap := #[]) hC (num_at 464 (by omega) nr (Int.bmod (2 * bx) 18446744073709551616)) rfl hi rfl (by simp [Tryz.ntmps105]) rfl rfl (by simp [okT, f0, f1, f2, f3, f4]) (by simp [gev, f0, f1, f2, f3, f4]) (by simp) (by simp [okX, junk, f0, f1, f2, f3, f4]) (by simp [gev, f0, f1, f2, f3, f4]) (by simp) (fun q hq => (h.low q hq).symm ▸ (by simp)) ?_ ?_
   ·intro v ns hV k hk
    have := numR_key hV k hk
    omega
   rintro v ns ⟨rfl, rfl⟩
   exact hk _ _ (h.call (i := 30) (t := 29) (by simp [mT]) (by omega) (by omega) (by simp [mX]))
  ·-- 31 ins
   have hd : ∀ j ∈ [0, 30], listed[j]? = some true := by
    have hd0 := hdep _ rfl
    simp [Region.binds] at hd0
    simp [hd0]
   have f0 := h.t1
   have f1 := h.t3
   have f2 := h.tm (0, 4, .map (some 224)) (by simp [mT]) (hd 0 (by simp))
   have f3 := h.tm (30, 29, .func (.func 123) #[] #[.pointer (some ⟨464, 0, none⟩), .pointer (some ⟨465, 0, none⟩)]) (by simp [mT]) (hd 30 (by simp))
   obtain ⟨l, l1, l2, l3⟩ := h.mp (hd 0 (by simp))
   have hm : (31, ⟨#[110, 101, 97, 114]⟩, .func (.func 123) #[] #[.pointer (some ⟨464, 0, none⟩), .pointer (some ⟨465, 0, none⟩)]) ∈ mI := by simp [mI]
   have hn := h.fresh hm hi l2
   refine GO_walk [] rfl (by kernel_rfl) (by first | assumption | simp) ?_; intro q hq; simp [hC, hY, f0, f1, f2, f3, l1, hn]; refine hq _ _ _ _ ?_; clear hq q
   exact hk _ _ (h.ins hm (Array.getElem?_eq_some_iff.1 hi).1 l2 l3 hn (hd 0 (by simp)))
  ·-- 32 mk
   have f0 := h.t1
   have f1 := h.t3
   refine GO_walk [] rfl (by kernel_rfl) (by first | assumption | simp) ?_; intro q hq; simp [hC, hY, f0, f1]; refine hq _ _ _ _ ?_; clear hq q
   exact hk _ _ (h.tmp (i := 32) (t := 30) (by simp [mT]) (by simp [mX]) (by omega))
  ·-- 33 ins
   have hd : ∀ j ∈ [0, 32], listed[j]? = some true := by
    have hd0 := hdep _ rfl
    simp [Region.binds] at hd0
    simp [hd0]
   have f0 := h.t1
   have f1 := h.t3
   have f2 := h.tm (0, 4, .map (some 224)) (by simp [mT]) (hd 0 (by simp))
   have f3 := h.tm (32, 30, .func (.func 128) #[] #[.pointer (some ⟨200, 0, none⟩)]) (by simp [mT]) (hd 32 (by simp))
   obtain ⟨l, l1, l2, l3⟩ := h.mp (hd 0 (by simp))
   have hm : (33, ⟨#[109, 101, 116, 104, 111, 100]⟩, .func (.func 128) #[] #[.pointer (some ⟨200, 0, none⟩)]) ∈ mI := by simp [mI]
   have hn := h.fresh hm hi l2
   refine GO_walk [] rfl (by kernel_rfl) (by first | assumption | simp) ?_; intro q hq; simp [hC, hY, f0, f1, f2, f3, l1, hn]; refine hq _ _ _ _ ?_; clear hq q
   exact hk _ _ (h.ins hm (Array.getElem?_eq_some_iff.1 hi).1 l2 l3 hn (hd 0 (by simp)))
  ·-- 34 mv
   have hd : ∀ j ∈ [0], listed[j]? = some true := by
    have hd0 := hdep _ rfl
    simp [Region.binds] at hd0
    simp [hd0]
   have f0 := h.t1
   have f1 := h.t3
   have f2 := h.tm (0, 4, .map (some 224)) (by simp [mT]) (hd 0 (by simp))
   refine GO_walk [] rfl (by kernel_rfl) (by first | assumption | simp) ?_; intro q hq; simp [hC, hY, f0, f1, f2]; refine hq _ _ _ _ ?_; clear hq q
   exact hk _ _ (h.tmp (i := 34) (t := 31) (by simp [mT]) (by simp [mX]) (by omega))
  ·-- 35 asg
   have hd : ∀ j ∈ [34], listed[j]? = some true := by
    have hd0 := hdep _ rfl
    simp [Region.binds] at hd0
    simp [hd0]
   have f0 := h.t1
   have f1 := h.t3
   have f2 := h.tm (34, 31, .map (some 224)) (by simp [mT]) (hd 34 (by simp))
   refine GO_walk [] rfl (by kernel_rfl) (by first | assumption | simp) ?_; intro q hq; simp [hC, hY, f0, f1, f2]; refine hq _ _ _ _ ?_; clear hq q
   exact hk _ _ (h.tmp (i := 35) (t := 2) (by simp [mT]) (by simp [mX]) (by omega))
 ·have hno : ∀ j, (Array.replicate 36 false)[j]? ≠ some true := fun j => by
   rw [Array.getElem?_replicate]
   split <;> simp
  exact ⟨by simp, by simp, fun p hp hl => absurd hl (hno _), fun k hk => by rw [upd_other _ _ (by omega)]; exact hpL_low (by simp) hk, by simp, by simp [cfB, hsl], fun q hq hl => absurd hl (hno _), fun hl => absurd hl (hno _), fun q hq hl => absurd hl (hno _)⟩
def whyS (n : Nat) (f : Nat → Int) (g bx tp nr md : Int) : ByteArray :=
 if wiB n 1 4 = false then ⟨#[98, 111, 100, 105, 101, 115]⟩ else if allM f n = false then ⟨#[109, 97, 115, 115]⟩ else if wiB g 1 1048576 = false then ⟨#[99, 111, 110, 115, 116, 97, 110, 116]⟩ else if wiB bx 1 1048576 = false then ⟨#[98, 111, 120]⟩ else
  if wiB tp 1 65536 = false then ⟨#[116, 111, 112]⟩ else if wiB nr 1 (Int.bmod (2 * bx) 18446744073709551616) = false then ⟨#[110, 101, 97, 114]⟩ else if wiB md 0 4 = false then ⟨#[109, 101, 116, 104, 111, 100]⟩ else ⟨#[]⟩
def mQ (nk k : Nat) : Nat := if 1000 ≤ k then (if k < 1012 then k - 1000 + nk else k) else k
theorem mustsR_key {nk n : Nat} {sl : Value} {g bx tp nr md : Int} {v : Value} {ns : List (Nat × Blk)} (h : MustsR nk sl n g bx tp nr md v ns) : ∀ k ∈ keys ns, nk ≤ k ∧ k < nk + 12 := by
 obtain ⟨l, rfl, rfl, _⟩ := h
 intro k hk
 simp [keys, mNs] at hk
 omega
theorem mQ_at (nk j : Nat) (hj : j < 12) : mQ nk (1000 + j) = nk + j := by
 unfold mQ
 rw [if_pos (by omega), if_pos (by omega)]
 omega
theorem mQ_low (nk k : Nat) (hk : k < 1000) : mQ nk k = k := by
 unfold mQ
 rw [if_neg (by omega)]
theorem musts_rr {nk n off cap : Nat} {g bx tp nr md : Int} {v : Value} {ns : List (Nat × Blk)} (h : RR (mQ nk) (MustsR 1000 (.slice (some ⟨100, off, none⟩) n cap) n g bx tp nr md) v ns) : MustsR nk (.slice (some ⟨100, off, none⟩) n cap) n g bx tp nr md v ns := by
 obtain ⟨v0, ns0, ⟨l, rfl, rfl, hl, hf⟩, rfl, rfl⟩ := h
 have e := mQ_at nk
 have e0 := e 0 (by omega)
 have e1 := e 1 (by omega)
 have e2 := e 2 (by omega)
 have e3 := e 3 (by omega)
 have e4 := e 4 (by omega)
 have e5 := e 5 (by omega)
 have e6 := e 6 (by omega)
 have e7 := e 7 (by omega)
 have e8 := e 8 (by omega)
 have e9 := e 9 (by omega)
 have e10 := e 10 (by omega)
 have e11 := e 11 (by omega)
 simp only [Nat.reduceAdd, Nat.add_zero] at e0 e1 e2 e3 e4 e5 e6 e7 e8 e9 e10 e11
 have h100 := mQ_low nk 100 (by omega)
 have hmv : ∀ q ∈ mV 1000, (q.1, renF (mQ nk) q.2) ∈ mV nk := by
  simp [mV, renF, ren0, e1, e2, e3, e4, e5, e6, e7, e8, e9, e10, e11]
 have hvm : ∀ q ∈ mV nk, ∃ p ∈ mV 1000, p.1 = q.1 ∧ renF (mQ nk) p.2 = q.2 := by
  simp [mV, renF, ren0, e1, e2, e3, e4, e5, e6, e7, e8, e9, e10, e11]
 refine ⟨l.map fun p => (p.1, renF (mQ nk) p.2), by simp [ren, renA, renF, ren0, e0], ?_, fun p hp => ?_, fun q hq => ?_⟩
 ·have hc : (cfB (.slice (some ⟨100, off, none⟩) n cap) g bx tp nr md).rn (mQ nk) = cfB (.slice (some ⟨100, off, none⟩) n cap) g bx tp nr md := by simp [cfB, Blk.rn, renF, ren0, h100]
  simp only [rnL, mNs, List.map_cons, List.map_nil, mpB_rn, jb_rn, hc, Nat.reduceAdd, e0, e1, e2, e3, e4, e5, e6, e7, e8, e9, e10, e11]
 ·obtain ⟨p0, hp0, rfl⟩ := List.mem_map.1 hp
  exact hmv _ (hl _ hp0)
 ·obtain ⟨p, hp, h1, h2⟩ := hvm q hq
  rw [findL_map, ← h1, hf p hp, ← h2]
  rfl
theorem musts_at (nk : Nat) (hnk : 200 ≤ nk) (b : Blk) (hb : b.fx) (off n cap : Nat) (g bx tp nr md : Int) :
  FunS Tryz.prog G0 105 #[cfV (.slice (some ⟨100, off, none⟩) n cap) g bx tp nr md] (hpL G0 [(100, b)]) [100] (RR (mQ nk) (MustsR 1000 (.slice (some ⟨100, off, none⟩) n cap) n g bx tp nr md)) := by
 have hr := fun ρ => Blk.fx_rn hb ρ
 have h100 := mQ_low nk 100 (by omega)
 refine (musts_fun b hb off n cap g bx tp nr md).mvL G0F (oneL_ok hb) (mQ nk) (fun k hk => mQ_low nk k (by omega)) (by simp [cfV, ren, renA, renF, ren0, h100]) (by simp [keys, h100]) rfl (oneL_ok hb).low (by simp [h100, hr]) (by simp [keys]) (fun v ns hV k hk => ?_) (fun v ns hV k hk l hl e => ?_)
 ·have h1 := mustsR_key hV k hk
  obtain ⟨j, hj, rfl⟩ : ∃ j, j < 12 ∧ k = 1000 + j := ⟨k - 1000, by omega, by omega⟩
  rw [mQ_at nk j hj]
  simp
  omega
 ·have h1 := mustsR_key hV k hk
  have h2 := mustsR_key hV l hl
  obtain ⟨j, hj, rfl⟩ : ∃ j, j < 12 ∧ k = 1000 + j := ⟨k - 1000, by omega, by omega⟩
  obtain ⟨i, hi, rfl⟩ : ∃ j, j < 12 ∧ l = 1000 + j := ⟨l - 1000, by omega, by omega⟩
  rw [mQ_at nk j hj, mQ_at nk i hi] at e
  omega
set_option maxRecDepth 8000 in
set_option maxHeartbeats 16000000 in
theorem why_fun (b : Blk) (off n cap : Nat) (f : Nat → Int) (h : MB b off n f) (g bx tp nr md : Int) :
  Fun Tryz.prog G0 88 #[cfV (.slice (some ⟨100, off, none⟩) n cap) g bx tp nr md] (hpL G0 [(100, b)]) (keys [(100, b)]) (.ret (.string (whyS n f g bx tp nr md)) []) := by
 refine fun_ofL (B := 200) G0F Tryz.func88 rfl Tryz.call88 (oneL_ok h.fx) ?_ (by simp) (by simp) (by simp) (by simp [Tryz.ntmps88]) (by omega) ?_
 ·simp [idsV, idsA, idsF, ids0, keys, cfV]
 intro C hC hC0 hY
 have hr := fun ρ => Blk.fx_rn h.fx ρ
 unfold cfV
 repeat' (first | refine gwA ?_ | ((first | refine gwR [] ?_ | refine gwD [] ?_); intro Q hQ hP; simp [hC, hY]; refine hQ _ _ _ _ (by kernel_rfl) ?_; clear hQ hP Q) | (refine gwC ?_ ?_ <;> (intro hb; first | (cases hb; done) | skip)))
 refine GW_list ?_
 simp only [Array.toList]
 refine GL_walk 1 [] rfl (by simp) (by kernel_rfl) ?_; intro q hq; simp [hC, hY]; refine hq _ _ _ _ ?_; clear hq q
 simp only [wT, List.length_cons, List.length_nil, Nat.reduceAdd]
 refine GL_callW 8 (f := .func 105) (cap := #[]) hC (musts_at 224 (by omega) b h.fx off n cap g bx tp nr md) rfl (by simp) rfl rfl (by simp [okT]) (by simp [gev]) (by simp) (by simp [okX, junk]) (by simp [gev, cfV]) (by simp) (by (intro k hk; first | rfl | (simp (disch := omega) only [addB, List.mem_cons, List.not_mem_nil, or_false, upd_other, hpL_cons, hpL_nil, if_neg, updL] <;> done))) (fun v ns hV k hk => by have := mustsR_key (musts_rr hV) k hk; omega) ?_
 intro v ns hV
 obtain ⟨l, rfl, rfl, _, hf⟩ := musts_rr hV
 refine GL_walk 1 [] rfl (by simp) (by kernel_rfl) ?_; intro q hq; simp [hC, hY, putT, updL, mNs]; refine hq _ _ _ _ ?_; clear hq q
 simp only [wT, List.length_cons, List.length_nil, Nat.reduceAdd]
 refine GL_nil ?_
 have f0 : findL ⟨#[98, 111, 100, 105, 101, 115]⟩ l = some (.func (.func 123) #[] #[.pointer (some ⟨226, 0, none⟩), .pointer (some ⟨227, 0, none⟩)]) := hf (⟨#[98, 111, 100, 105, 101, 115]⟩, _) (by simp [mV])
 have f1 : findL ⟨#[109, 97, 115, 115]⟩ l = some (.func (.func 125) #[] #[.pointer (some ⟨225, 0, none⟩)]) := hf (⟨#[109, 97, 115, 115]⟩, _) (by simp [mV])
 have f2 : findL ⟨#[99, 111, 110, 115, 116, 97, 110, 116]⟩ l = some (.func (.func 123) #[] #[.pointer (some ⟨228, 0, none⟩), .pointer (some ⟨229, 0, none⟩)]) := hf (⟨#[99, 111, 110, 115, 116, 97, 110, 116]⟩, _) (by simp [mV])
 have f3 : findL ⟨#[98, 111, 120]⟩ l = some (.func (.func 123) #[] #[.pointer (some ⟨230, 0, none⟩), .pointer (some ⟨231, 0, none⟩)]) := hf (⟨#[98, 111, 120]⟩, _) (by simp [mV])
 have f4 : findL ⟨#[116, 111, 112]⟩ l = some (.func (.func 123) #[] #[.pointer (some ⟨232, 0, none⟩), .pointer (some ⟨233, 0, none⟩)]) := hf (⟨#[116, 111, 112]⟩, _) (by simp [mV])
 have f5 : findL ⟨#[110, 101, 97, 114]⟩ l = some (.func (.func 123) #[] #[.pointer (some ⟨234, 0, none⟩), .pointer (some ⟨235, 0, none⟩)]) := hf (⟨#[110, 101, 97, 114]⟩, _) (by simp [mV])
 have f6 : findL ⟨#[109, 101, 116, 104, 111, 100]⟩ l = some (.func (.func 128) #[] #[.pointer (some ⟨225, 0, none⟩)]) := hf (⟨#[109, 101, 116, 104, 111, 100]⟩, _) (by simp [mV])
 cases c0 : wiB n 1 4 with
 | false =>
  have e : whyS n f g bx tp nr md = ⟨#[98, 111, 100, 105, 101, 115]⟩ := by unfold whyS; simp only [c0, Bool.true_eq_false, if_true, if_false, reduceCtorEq]
  rw [e]
  repeat' (first | refine GWL_start ?_ | refine GWL_step ?_ | refine gwA ?_ | ((first | refine gwR [123, 125, 128] ?_ | refine gwD [123, 125, 128] ?_); intro Q hQ hP; simp [hC, hY, f0, c0, cnB]; (repeat ((first | (refine heapK_mv (cn1_fun n 4) G0F (B := 200) ⟨by simp, by simp [keys], by simp [jb, ids_lit, idsF, ids0]⟩ (fun k => if k = 100 then 226 else if k = 108 then 227 else k) (fun k hk => (if_neg (by omega)).trans (if_neg (by omega))) ?_ (by simp) (by simp [jb_rn]) (by simp [keys]) (by simp [keys]; rfl) ?_; focus (simp [ren, renA, renF, ren0]; done))); try simp [hC, hY, f0, c0, cnB])); refine hQ _ _ _ _ (by kernel_rfl) ?_; clear hQ hP Q) | (refine gwC ?_ ?_ <;> (intro hb; first | (cases hb; done) | skip)))
  refine ⟨.inr rfl, by simp [Tryz.results88], kpS G0F⟩
 | true =>
  cases c1 : allM f n with
  | false =>
   have e : whyS n f g bx tp nr md = ⟨#[109, 97, 115, 115]⟩ := by unfold whyS; simp only [c0, c1, Bool.true_eq_false, if_true, if_false, reduceCtorEq]
   rw [e]
   repeat' (first | refine GWL_start ?_ | refine GWL_step ?_ | refine gwA ?_ | ((first | refine gwR [123, 125, 128] ?_ | refine gwD [123, 125, 128] ?_); intro Q hQ hP; simp [hC, hY, f0, f1, c0, c1, cnB]; (repeat ((first | (refine heapK_mv (cn1_fun n 4) G0F (B := 200) ⟨by simp, by simp [keys], by simp [jb, ids_lit, idsF, ids0]⟩ (fun k => if k = 100 then 226 else if k = 108 then 227 else k) (fun k hk => (if_neg (by omega)).trans (if_neg (by omega))) ?_ (by simp) (by simp [jb_rn]) (by simp [keys]) (by simp [keys]; rfl) ?_; focus (simp [ren, renA, renF, ren0]; done)) | (refine heapK_mv (cm2_fun b off n cap f h g bx tp nr md) G0F (B := 200) (cmL_ok h.fx off n cap g bx tp nr md) (fun k => if k = 108 then 225 else k) (fun k hk => if_neg (by omega)) ?_ (by simp) (by simp [cmL, hr]; simp [cfB, Blk.rn, renF, ren0]) (by simp [keys, cmL]) (by simp [keys, cmL]; rfl) ?_; focus (simp [ren, renA, renF, ren0]; done))); try simp [hC, hY, f0, f1, c0, c1, cnB])); refine hQ _ _ _ _ (by kernel_rfl) ?_; clear hQ hP Q) | (refine gwC ?_ ?_ <;> (intro hb; first | (cases hb; done) | skip)))
   refine ⟨.inr rfl, by simp [Tryz.results88], kpS G0F⟩
  | true =>
   cases c2 : wiB g 1 1048576 with
   | false =>
    have e : whyS n f g bx tp nr md = ⟨#[99, 111, 110, 115, 116, 97, 110, 116]⟩ := by unfold whyS; simp only [c0, c1, c2, Bool.true_eq_false, if_true, if_false, reduceCtorEq]
    rw [e]
    repeat' (first | refine GWL_start ?_ | refine GWL_step ?_ | refine gwA ?_ | ((first | refine gwR [123, 125, 128] ?_ | refine gwD [123, 125, 128] ?_); intro Q hQ hP; simp [hC, hY, f0, f1, f2, c0, c1, c2, cnB]; (repeat ((first | (refine heapK_mv (cn1_fun n 4) G0F (B := 200) ⟨by simp, by simp [keys], by simp [jb, ids_lit, idsF, ids0]⟩ (fun k => if k = 100 then 226 else if k = 108 then 227 else k) (fun k hk => (if_neg (by omega)).trans (if_neg (by omega))) ?_ (by simp) (by simp [jb_rn]) (by simp [keys]) (by simp [keys]; rfl) ?_; focus (simp [ren, renA, renF, ren0]; done)) | (refine heapK_mv (cm2_fun b off n cap f h g bx tp nr md) G0F (B := 200) (cmL_ok h.fx off n cap g bx tp nr md) (fun k => if k = 108 then 225 else k) (fun k hk => if_neg (by omega)) ?_ (by simp) (by simp [cmL, hr]; simp [cfB, Blk.rn, renF, ren0]) (by simp [keys, cmL]) (by simp [keys, cmL]; rfl) ?_; focus (simp [ren, renA, renF, ren0]; done)) | (refine heapK_mv (cn1_fun g 1048576) G0F (B := 200) ⟨by simp, by simp [keys], by simp [jb, ids_lit, idsF, ids0]⟩ (fun k => if k = 100 then 228 else if k = 108 then 229 else k) (fun k hk => (if_neg (by omega)).trans (if_neg (by omega))) ?_ (by simp) (by simp [jb_rn]) (by simp [keys]) (by simp [keys]; rfl) ?_; focus (simp [ren, renA, renF, ren0]; done))); try simp [hC, hY, f0, f1, f2, c0, c1, c2, cnB])); refine hQ _ _ _ _ (by kernel_rfl) ?_; clear hQ hP Q) | (refine gwC ?_ ?_ <;> (intro hb; first | (cases hb; done) | skip)))
    refine ⟨.inr rfl, by simp [Tryz.results88], kpS G0F⟩
   | true =>
    cases c3 : wiB bx 1 1048576 with
    | false =>
     have e : whyS n f g bx tp nr md = ⟨#[98, 111, 120]⟩ := by unfold whyS; simp only [c0, c1, c2, c3, Bool.true_eq_false, if_true, if_false, reduceCtorEq]
     rw [e]
     repeat' (first | refine GWL_start ?_ | refine GWL_step ?_ | refine gwA ?_ | ((first | refine gwR [123, 125, 128] ?_ | refine gwD [123, 125, 128] ?_); intro Q hQ hP; simp [hC, hY, f0, f1, f2, f3, c0, c1, c2, c3, cnB]; (repeat ((first | (refine heapK_mv (cn1_fun n 4) G0F (B := 200) ⟨by simp, by simp [keys], by simp [jb, ids_lit, idsF, ids0]⟩ (fun k => if k = 100 then 226 else if k = 108 then 227 else k) (fun k hk => (if_neg (by omega)).trans (if_neg (by omega))) ?_ (by simp) (by simp [jb_rn]) (by simp [keys]) (by simp [keys]; rfl) ?_; focus (simp [ren, renA, renF, ren0]; done)) | (refine heapK_mv (cm2_fun b off n cap f h g bx tp nr md) G0F (B := 200) (cmL_ok h.fx off n cap g bx tp nr md) (fun k => if k = 108 then 225 else k) (fun k hk => if_neg (by omega)) ?_ (by simp) (by simp [cmL, hr]; simp [cfB, Blk.rn, renF, ren0]) (by simp [keys, cmL]) (by simp [keys, cmL]; rfl) ?_; focus (simp [ren, renA, renF, ren0]; done)) | (refine heapK_mv (cn1_fun g 1048576) G0F (B := 200) ⟨by simp, by simp [keys], by simp [jb, ids_lit, idsF, ids0]⟩ (fun k => if k = 100 then 228 else if k = 108 then 229 else k) (fun k hk => (if_neg (by omega)).trans (if_neg (by omega))) ?_ (by simp) (by simp [jb_rn]) (by simp [keys]) (by simp [keys]; rfl) ?_; focus (simp [ren, renA, renF, ren0]; done)) | (refine heapK_mv (cn1_fun bx 1048576) G0F (B := 200) ⟨by simp, by simp [keys], by simp [jb, ids_lit, idsF, ids0]⟩ (fun k => if k = 100 then 230 else if k = 108 then 231 else k) (fun k hk => (if_neg (by omega)).trans (if_neg (by omega))) ?_ (by simp) (by simp [jb_rn]) (by simp [keys]) (by simp [keys]; rfl) ?_; focus (simp [ren, renA, renF, ren0]; done))); try simp [hC, hY, f0, f1, f2, f3, c0, c1, c2, c3, cnB])); refine hQ _ _ _ _ (by kernel_rfl) ?_; clear hQ hP Q) | (refine gwC ?_ ?_ <;> (intro hb; first | (cases hb; done) | skip)))
     refine ⟨.inr rfl, by simp [Tryz.results88], kpS G0F⟩
    | true =>
     cases c4 : wiB tp 1 65536 with
     | false =>
      have e : whyS n f g bx tp nr md = ⟨#[116, 111, 112]⟩ := by unfold whyS; simp only [c0, c1, c2, c3, c4, Bool.true_eq_false, if_true, if_false, reduceCtorEq]
      rw [e]
      repeat' (first | refine GWL_start ?_ | refine GWL_step ?_ | refine gwA ?_ | ((first | refine gwR [123, 125, 128] ?_ | refine gwD [123, 125, 128] ?_); intro Q hQ hP; simp [hC, hY, f0, f1, f2, f3, f4, c0, c1, c2, c3, c4, cnB]; (repeat ((first | (refine heapK_mv (cn1_fun n 4) G0F (B := 200) ⟨by simp, by simp [keys], by simp [jb, ids_lit, idsF, ids0]⟩ (fun k => if k = 100 then 226 else if k = 108 then 227 else k) (fun k hk => (if_neg (by omega)).trans (if_neg (by omega))) ?_ (by simp) (by simp [jb_rn]) (by simp [keys]) (by simp [keys]; rfl) ?_; focus (simp [ren, renA, renF, ren0]; done)) | (refine heapK_mv (cm2_fun b off n cap f h g bx tp nr md) G0F (B := 200) (cmL_ok h.fx off n cap g bx tp nr md) (fun k => if k = 108 then 225 else k) (fun k hk => if_neg (by omega)) ?_ (by simp) (by simp [cmL, hr]; simp [cfB, Blk.rn, renF, ren0]) (by simp [keys, cmL]) (by simp [keys, cmL]; rfl) ?_; focus (simp [ren, renA, renF, ren0]; done)) | (refine heapK_mv (cn1_fun g 1048576) G0F (B := 200) ⟨by simp, by simp [keys], by simp [jb, ids_lit, idsF, ids0]⟩ (fun k => if k = 100 then 228 else if k = 108 then 229 else k) (fun k hk => (if_neg (by omega)).trans (if_neg (by omega))) ?_ (by simp) (by simp [jb_rn]) (by simp [keys]) (by simp [keys]; rfl) ?_; focus (simp [ren, renA, renF, ren0]; done)) | (refine heapK_mv (cn1_fun bx 1048576) G0F (B := 200) ⟨by simp, by simp [keys], by simp [jb, ids_lit, idsF, ids0]⟩ (fun k => if k = 100 then 230 else if k = 108 then 231 else k) (fun k hk => (if_neg (by omega)).trans (if_neg (by omega))) ?_ (by simp) (by simp [jb_rn]) (by simp [keys]) (by simp [keys]; rfl) ?_; focus (simp [ren, renA, renF, ren0]; done)) | (refine heapK_mv (cn1_fun tp 65536) G0F (B := 200) ⟨by simp, by simp [keys], by simp [jb, ids_lit, idsF, ids0]⟩ (fun k => if k = 100 then 232 else if k = 108 then 233 else k) (fun k hk => (if_neg (by omega)).trans (if_neg (by omega))) ?_ (by simp) (by simp [jb_rn]) (by simp [keys]) (by simp [keys]; rfl) ?_; focus (simp [ren, renA, renF, ren0]; done))); try simp [hC, hY, f0, f1, f2, f3, f4, c0, c1, c2, c3, c4, cnB])); refine hQ _ _ _ _ (by kernel_rfl) ?_; clear hQ hP Q) | (refine gwC ?_ ?_ <;> (intro hb; first | (cases hb; done) | skip)))
      refine ⟨.inr rfl, by simp [Tryz.results88], kpS G0F⟩
     | true =>
      cases c5 : wiB nr 1 (Int.bmod (2 * bx) 18446744073709551616) with
      | false =>
       have e : whyS n f g bx tp nr md = ⟨#[110, 101, 97, 114]⟩ := by unfold whyS; simp only [c0, c1, c2, c3, c4, c5, Bool.true_eq_false, if_true, if_false, reduceCtorEq]
       rw [e]
       repeat' (first | refine GWL_start ?_ | refine GWL_step ?_ | refine gwA ?_ | ((first | refine gwR [123, 125, 128] ?_ | refine gwD [123, 125, 128] ?_); intro Q hQ hP; simp [hC, hY, f0, f1, f2, f3, f4, f5, c0, c1, c2, c3, c4, c5, cnB]; (repeat ((first | (refine heapK_mv (cn1_fun n 4) G0F (B := 200) ⟨by simp, by simp [keys], by simp [jb, ids_lit, idsF, ids0]⟩ (fun k => if k = 100 then 226 else if k = 108 then 227 else k) (fun k hk => (if_neg (by omega)).trans (if_neg (by omega))) ?_ (by simp) (by simp [jb_rn]) (by simp [keys]) (by simp [keys]; rfl) ?_; focus (simp [ren, renA, renF, ren0]; done)) | (refine heapK_mv (cm2_fun b off n cap f h g bx tp nr md) G0F (B := 200) (cmL_ok h.fx off n cap g bx tp nr md) (fun k => if k = 108 then 225 else k) (fun k hk => if_neg (by omega)) ?_ (by simp) (by simp [cmL, hr]; simp [cfB, Blk.rn, renF, ren0]) (by simp [keys, cmL]) (by simp [keys, cmL]; rfl) ?_; focus (simp [ren, renA, renF, ren0]; done)) | (refine heapK_mv (cn1_fun g 1048576) G0F (B := 200) ⟨by simp, by simp [keys], by simp [jb, ids_lit, idsF, ids0]⟩ (fun k => if k = 100 then 228 else if k = 108 then 229 else k) (fun k hk => (if_neg (by omega)).trans (if_neg (by omega))) ?_ (by simp) (by simp [jb_rn]) (by simp [keys]) (by simp [keys]; rfl) ?_; focus (simp [ren, renA, renF, ren0]; done)) | (refine heapK_mv (cn1_fun bx 1048576) G0F (B := 200) ⟨by simp, by simp [keys], by simp [jb, ids_lit, idsF, ids0]⟩ (fun k => if k = 100 then 230 else if k = 108 then 231 else k) (fun k hk => (if_neg (by omega)).trans (if_neg (by omega))) ?_ (by simp) (by simp [jb_rn]) (by simp [keys]) (by simp [keys]; rfl) ?_; focus (simp [ren, renA, renF, ren0]; done)) | (refine heapK_mv (cn1_fun tp 65536) G0F (B := 200) ⟨by simp, by simp [keys], by simp [jb, ids_lit, idsF, ids0]⟩ (fun k => if k = 100 then 232 else if k = 108 then 233 else k) (fun k hk => (if_neg (by omega)).trans (if_neg (by omega))) ?_ (by simp) (by simp [jb_rn]) (by simp [keys]) (by simp [keys]; rfl) ?_; focus (simp [ren, renA, renF, ren0]; done)) | (refine heapK_mv (cn1_fun nr (Int.bmod (2 * bx) 18446744073709551616)) G0F (B := 200) ⟨by simp, by simp [keys], by simp [jb, ids_lit, idsF, ids0]⟩ (fun k => if k = 100 then 234 else if k = 108 then 235 else k) (fun k hk => (if_neg (by omega)).trans (if_neg (by omega))) ?_ (by simp) (by simp [jb_rn]) (by simp [keys]) (by simp [keys]; rfl) ?_; focus (simp [ren, renA, renF, ren0]; done))); try simp [hC, hY, f0, f1, f2, f3, f4, f5, c0, c1, c2, c3, c4, c5, cnB])); refine hQ _ _ _ _ (by kernel_rfl) ?_; clear hQ hP Q) | (refine gwC ?_ ?_ <;> (intro hb; first | (cases hb; done) | skip)))
       refine ⟨.inr rfl, by simp [Tryz.results88], kpS G0F⟩
      | true =>
       cases c6 : wiB md 0 4 with
       | false =>
        have e : whyS n f g bx tp nr md = ⟨#[109, 101, 116, 104, 111, 100]⟩ := by unfold whyS; simp only [c0, c1, c2, c3, c4, c5, c6, Bool.true_eq_false, if_true, if_false, reduceCtorEq]
        rw [e]
        repeat' (first | refine GWL_start ?_ | refine GWL_step ?_ | refine gwA ?_ | ((first | refine gwR [123, 125, 128] ?_ | refine gwD [123, 125, 128] ?_); intro Q hQ hP; simp [hC, hY, f0, f1, f2, f3, f4, f5, f6, c0, c1, c2, c3, c4, c5, c6, cnB]; (repeat ((first | (refine heapK_mv (cn1_fun n 4) G0F (B := 200) ⟨by simp, by simp [keys], by simp [jb, ids_lit, idsF, ids0]⟩ (fun k => if k = 100 then 226 else if k = 108 then 227 else k) (fun k hk => (if_neg (by omega)).trans (if_neg (by omega))) ?_ (by simp) (by simp [jb_rn]) (by simp [keys]) (by simp [keys]; rfl) ?_; focus (simp [ren, renA, renF, ren0]; done)) | (refine heapK_mv (cm2_fun b off n cap f h g bx tp nr md) G0F (B := 200) (cmL_ok h.fx off n cap g bx tp nr md) (fun k => if k = 108 then 225 else k) (fun k hk => if_neg (by omega)) ?_ (by simp) (by simp [cmL, hr]; simp [cfB, Blk.rn, renF, ren0]) (by simp [keys, cmL]) (by simp [keys, cmL]; rfl) ?_; focus (simp [ren, renA, renF, ren0]; done)) | (refine heapK_mv (cn1_fun g 1048576) G0F (B := 200) ⟨by simp, by simp [keys], by simp [jb, ids_lit, idsF, ids0]⟩ (fun k => if k = 100 then 228 else if k = 108 then 229 else k) (fun k hk => (if_neg (by omega)).trans (if_neg (by omega))) ?_ (by simp) (by simp [jb_rn]) (by simp [keys]) (by simp [keys]; rfl) ?_; focus (simp [ren, renA, renF, ren0]; done)) | (refine heapK_mv (cn1_fun bx 1048576) G0F (B := 200) ⟨by simp, by simp [keys], by simp [jb, ids_lit, idsF, ids0]⟩ (fun k => if k = 100 then 230 else if k = 108 then 231 else k) (fun k hk => (if_neg (by omega)).trans (if_neg (by omega))) ?_ (by simp) (by simp [jb_rn]) (by simp [keys]) (by simp [keys]; rfl) ?_; focus (simp [ren, renA, renF, ren0]; done)) | (refine heapK_mv (cn1_fun tp 65536) G0F (B := 200) ⟨by simp, by simp [keys], by simp [jb, ids_lit, idsF, ids0]⟩ (fun k => if k = 100 then 232 else if k = 108 then 233 else k) (fun k hk => (if_neg (by omega)).trans (if_neg (by omega))) ?_ (by simp) (by simp [jb_rn]) (by simp [keys]) (by simp [keys]; rfl) ?_; focus (simp [ren, renA, renF, ren0]; done)) | (refine heapK_mv (cn1_fun nr (Int.bmod (2 * bx) 18446744073709551616)) G0F (B := 200) ⟨by simp, by simp [keys], by simp [jb, ids_lit, idsF, ids0]⟩ (fun k => if k = 100 then 234 else if k = 108 then 235 else k) (fun k hk => (if_neg (by omega)).trans (if_neg (by omega))) ?_ (by simp) (by simp [jb_rn]) (by simp [keys]) (by simp [keys]; rfl) ?_; focus (simp [ren, renA, renF, ren0]; done)) | (refine heapK_mv (cm3_fun b off n cap h.fx g bx tp nr md) G0F (B := 200) (cmL_ok h.fx off n cap g bx tp nr md) (fun k => if k = 108 then 225 else k) (fun k hk => if_neg (by omega)) ?_ (by simp) (by simp [cmL, hr]; simp [cfB, Blk.rn, renF, ren0]) (by simp [keys, cmL]) (by simp [keys, cmL]; rfl) ?_; focus (simp [ren, renA, renF, ren0]; done))); try simp [hC, hY, f0, f1, f2, f3, f4, f5, f6, c0, c1, c2, c3, c4, c5, c6, cnB])); refine hQ _ _ _ _ (by kernel_rfl) ?_; clear hQ hP Q) | (refine gwC ?_ ?_ <;> (intro hb; first | (cases hb; done) | skip)))
        refine ⟨.inr rfl, by simp [Tryz.results88], kpS G0F⟩
       | true =>
        have e : whyS n f g bx tp nr md = ⟨#[]⟩ := by unfold whyS; simp only [c0, c1, c2, c3, c4, c5, c6, Bool.true_eq_false, if_true, if_false, reduceCtorEq]
        rw [e]
        repeat' (first | refine GWL_start ?_ | refine GWL_step ?_ | refine gwA ?_ | ((first | refine gwR [123, 125, 128] ?_ | refine gwD [123, 125, 128] ?_); intro Q hQ hP; simp [hC, hY, f0, f1, f2, f3, f4, f5, f6, c0, c1, c2, c3, c4, c5, c6, cnB]; (repeat ((first | (refine heapK_mv (cn1_fun n 4) G0F (B := 200) ⟨by simp, by simp [keys], by simp [jb, ids_lit, idsF, ids0]⟩ (fun k => if k = 100 then 226 else if k = 108 then 227 else k) (fun k hk => (if_neg (by omega)).trans (if_neg (by omega))) ?_ (by simp) (by simp [jb_rn]) (by simp [keys]) (by simp [keys]; rfl) ?_; focus (simp [ren, renA, renF, ren0]; done)) | (refine heapK_mv (cm2_fun b off n cap f h g bx tp nr md) G0F (B := 200) (cmL_ok h.fx off n cap g bx tp nr md) (fun k => if k = 108 then 225 else k) (fun k hk => if_neg (by omega)) ?_ (by simp) (by simp [cmL, hr]; simp [cfB, Blk.rn, renF, ren0]) (by simp [keys, cmL]) (by simp [keys, cmL]; rfl) ?_; focus (simp [ren, renA, renF, ren0]; done)) | (refine heapK_mv (cn1_fun g 1048576) G0F (B := 200) ⟨by simp, by simp [keys], by simp [jb, ids_lit, idsF, ids0]⟩ (fun k => if k = 100 then 228 else if k = 108 then 229 else k) (fun k hk => (if_neg (by omega)).trans (if_neg (by omega))) ?_ (by simp) (by simp [jb_rn]) (by simp [keys]) (by simp [keys]; rfl) ?_; focus (simp [ren, renA, renF, ren0]; done)) | (refine heapK_mv (cn1_fun bx 1048576) G0F (B := 200) ⟨by simp, by simp [keys], by simp [jb, ids_lit, idsF, ids0]⟩ (fun k => if k = 100 then 230 else if k = 108 then 231 else k) (fun k hk => (if_neg (by omega)).trans (if_neg (by omega))) ?_ (by simp) (by simp [jb_rn]) (by simp [keys]) (by simp [keys]; rfl) ?_; focus (simp [ren, renA, renF, ren0]; done)) | (refine heapK_mv (cn1_fun tp 65536) G0F (B := 200) ⟨by simp, by simp [keys], by simp [jb, ids_lit, idsF, ids0]⟩ (fun k => if k = 100 then 232 else if k = 108 then 233 else k) (fun k hk => (if_neg (by omega)).trans (if_neg (by omega))) ?_ (by simp) (by simp [jb_rn]) (by simp [keys]) (by simp [keys]; rfl) ?_; focus (simp [ren, renA, renF, ren0]; done)) | (refine heapK_mv (cn1_fun nr (Int.bmod (2 * bx) 18446744073709551616)) G0F (B := 200) ⟨by simp, by simp [keys], by simp [jb, ids_lit, idsF, ids0]⟩ (fun k => if k = 100 then 234 else if k = 108 then 235 else k) (fun k hk => (if_neg (by omega)).trans (if_neg (by omega))) ?_ (by simp) (by simp [jb_rn]) (by simp [keys]) (by simp [keys]; rfl) ?_; focus (simp [ren, renA, renF, ren0]; done)) | (refine heapK_mv (cm3_fun b off n cap h.fx g bx tp nr md) G0F (B := 200) (cmL_ok h.fx off n cap g bx tp nr md) (fun k => if k = 108 then 225 else k) (fun k hk => if_neg (by omega)) ?_ (by simp) (by simp [cmL, hr]; simp [cfB, Blk.rn, renF, ren0]) (by simp [keys, cmL]) (by simp [keys, cmL]; rfl) ?_; focus (simp [ren, renA, renF, ren0]; done))); try simp [hC, hY, f0, f1, f2, f3, f4, f5, f6, c0, c1, c2, c3, c4, c5, c6, cnB])); refine hQ _ _ _ _ (by kernel_rfl) ?_; clear hQ hP Q) | (refine gwC ?_ ?_ <;> (intro hb; first | (cases hb; done) | skip)))
        refine ⟨.inr rfl, by simp [Tryz.results88], kpS G0F⟩
def cfOk (n : Nat) (f : Nat → Int) (g bx tp nr md : Int) : Bool := wiB n 1 4 && (allM f n && (wiB g 1 1048576 && (wiB bx 1 1048576 && (wiB tp 1 65536 && (wiB nr 1 (Int.bmod (2 * bx) 18446744073709551616) && (wiB md 0 4))))))
set_option maxRecDepth 8000 in
set_option maxHeartbeats 8000000 in
theorem musts0_fun (b : Blk) (hb : b.fx) (g bx tp nr md : Int) :
  FunS Tryz.prog G0 105 #[cfV (.slice none 0 0) g bx tp nr md] (hpL G0 [(100, b)]) (keys [(100, b)]) (MustsR 1000 (.slice none 0 0) 0 g bx tp nr md) := by
 refine newS_ofL (B := 200) G0F Tryz.func105 rfl Tryz.call105 (oneL_ok hb) ?_ ?_ (by simp [Tryz.ntmps105]) (by omega) ?_
 ·simp [idsV, idsA, idsF, ids0, keys, cfV]
 ·rintro v ns ⟨l, rfl, rfl, hl, _⟩
  have hl2 : ∀ D : Nat → Prop, (∀ k, 1000 ≤ k → k < 1012 → D k) → (mpB l).ids D := fun D hD => mpB_ids.2 fun p hp => by
   have := hl p hp
   simp only [mV, List.mem_cons, List.not_mem_nil, or_false] at this
   rcases this with rfl | rfl | rfl | rfl | rfl | rfl | rfl <;> simp [idsF, ids0, hD]
  refine ⟨by simp [idsV, idsA, idsF, ids0, extD, keys, mNs], ?_, ?_⟩
  ·intro p hp
   simp only [mNs, List.mem_cons, List.not_mem_nil, or_false] at hp
   have hD : ∀ k, 1000 ≤ k → k < 1012 → extD (fun k => k ∈ keys [(100, b)]) (mNs 1000 l (.slice none 0 0) 0 g bx tp nr md) k := fun k hk1 hk2 => .inr (by
    simp only [mNs, keys, List.map_cons, List.map_nil, List.mem_cons, List.not_mem_nil, or_false]
    omega)
   rcases hp with rfl | rfl | rfl | rfl | rfl | rfl | rfl | rfl | rfl | rfl | rfl | rfl
   ·exact ⟨by omega, hl2 _ hD⟩
   ·exact ⟨by omega, by simp [cfB, ids_lit, idsF, ids0, extD, keys]⟩
   all_goals exact ⟨by omega, by simp [jb, ids_lit, idsF, ids0]⟩
  ·intro k b c h1 h2
   simp only [mNs, List.mem_cons, List.not_mem_nil, or_false, Prod.mk.injEq] at h1 h2
   rcases h1 with ⟨e1, rfl⟩ | ⟨e1, rfl⟩ | ⟨e1, rfl⟩ | ⟨e1, rfl⟩ | ⟨e1, rfl⟩ | ⟨e1, rfl⟩ | ⟨e1, rfl⟩ | ⟨e1, rfl⟩ | ⟨e1, rfl⟩ | ⟨e1, rfl⟩ | ⟨e1, rfl⟩ | ⟨e1, rfl⟩ <;> rcases h2 with ⟨e2, rfl⟩ | ⟨e2, rfl⟩ | ⟨e2, rfl⟩ | ⟨e2, rfl⟩ | ⟨e2, rfl⟩ | ⟨e2, rfl⟩ | ⟨e2, rfl⟩ | ⟨e2, rfl⟩ | ⟨e2, rfl⟩ | ⟨e2, rfl⟩ | ⟨e2, rfl⟩ | ⟨e2, rfl⟩ <;> first | rfl | omega
 intro C hC hC0 hY
 unfold cfV
 repeat' (first | refine gwA ?_ | ((first | refine gwR [] ?_ | refine gwD [] ?_); intro Q hQ hP; simp [hC, hY]; refine hQ _ _ _ _ (by kernel_rfl) ?_; clear hQ hP Q) | (refine gwC ?_ ?_ <;> (intro hb; first | (cases hb; done) | skip)))
 refine GW_any follows ?_
 simp only [Array.toList, List.length_cons, List.length_nil, Nat.reduceAdd]
 obtain ⟨sl, hsl⟩ : ∃ sl, Value.slice none 0 0 = sl := ⟨_, rfl⟩
 refine GA_ind (MI b sl 0 g bx tp nr md) (fun listed ts hp hs hr hI => ?_) (fun fuel listed ts hp i hs hi hdep h hk => ?_) _ _ _ _ (by simp) (by decide +kernel) ?_
 ·have hall := ready_nil hs (by kernel_rfl) hr
  have hall : ∀ i, i < 36 → listed[i]? = some true := fun i hi => hall i (by simpa using hi)
  obtain ⟨l, l1, l2, l3⟩ := hI.mp (hall 0 (by omega))
  have h2 := hI.tm (35, 2, .map (some 224)) (by simp [mT]) (hall 35 (by omega))
  have hinv : ∀ q ∈ mI, renF mR (renF mS q.2.2) = q.2.2 := by simp [mI, renF, ren0, mR, mS]
  have hcan : ∀ q ∈ mI, (q.2.1, renF mS q.2.2) ∈ mV 1000 := by simp [mI, mV, renF, ren0, mS]
  have hfind : ∀ q ∈ mV 1000, ∃ p ∈ mI, p.2.1 = q.1 ∧ renF mS p.2.2 = q.2 ∧ p.1 < 36 := by
   intro q hq
   simp only [mV, List.mem_cons, List.not_mem_nil, or_false] at hq
   rcases hq with rfl | rfl | rfl | rfl | rfl | rfl | rfl
   ·exact ⟨(6, ⟨#[98, 111, 100, 105, 101, 115]⟩, .func (.func 123) #[] #[.pointer (some ⟨264, 0, none⟩), .pointer (some ⟨265, 0, none⟩)]), by simp [mI], rfl, by simp [renF, ren0, mS], by omega⟩
   ·exact ⟨(8, ⟨#[109, 97, 115, 115]⟩, .func (.func 125) #[] #[.pointer (some ⟨200, 0, none⟩)]), by simp [mI], rfl, by simp [renF, ren0, mS], by omega⟩
   ·exact ⟨(13, ⟨#[99, 111, 110, 115, 116, 97, 110, 116]⟩, .func (.func 123) #[] #[.pointer (some ⟨320, 0, none⟩), .pointer (some ⟨321, 0, none⟩)]), by simp [mI], rfl, by simp [renF, ren0, mS], by omega⟩
   ·exact ⟨(18, ⟨#[98, 111, 120]⟩, .func (.func 123) #[] #[.pointer (some ⟨360, 0, none⟩), .pointer (some ⟨361, 0, none⟩)]), by simp [mI], rfl, by simp [renF, ren0, mS], by omega⟩
   ·exact ⟨(23, ⟨#[116, 111, 112]⟩, .func (.func 123) #[] #[.pointer (some ⟨400, 0, none⟩), .pointer (some ⟨401, 0, none⟩)]), by simp [mI], rfl, by simp [renF, ren0, mS], by omega⟩
   ·exact ⟨(31, ⟨#[110, 101, 97, 114]⟩, .func (.func 123) #[] #[.pointer (some ⟨464, 0, none⟩), .pointer (some ⟨465, 0, none⟩)]), by simp [mI], rfl, by simp [renF, ren0, mS], by omega⟩
   ·exact ⟨(33, ⟨#[109, 101, 116, 104, 111, 100]⟩, .func (.func 128) #[] #[.pointer (some ⟨200, 0, none⟩)]), by simp [mI], rfl, by simp [renF, ren0, mS], by omega⟩
  simp only [thenG_normal]
  refine GW_ret ?_
  refine ⟨.inr rfl, keep_of G0F (by simp [hI.b]) (fun k hk => (hI.low k hk).trans (hpL_low (by simp) hk).symm), _, _, mR, ⟨l.map fun p => (p.1, renF mS p.2), rfl, rfl, fun p hp => ?_, fun q hq => ?_⟩, fun k hk => ?_, ?_, ?_, ?_, ?_⟩
  ·obtain ⟨p0, hp0, rfl⟩ := List.mem_map.1 hp
   obtain ⟨q, hq, rfl, _⟩ := l2 p0 hp0
   exact hcan q hq
  ·obtain ⟨p, hp, e1, e2, hlt⟩ := hfind q hq
   rw [findL_map, ← e1, l3 p hp (hall _ hlt), ← e2]
   rfl
  ·unfold mR
   iterate 12 rw [if_neg (by omega)]
  ·simp [mNs, mR]
  ·simp [mNs, mR]
  ·simp [Tryz.results105, h2, ren, renA, renF, ren0, mR]
   rfl
  ·subst hsl
   have hbx := hI.bx
   have hm : (mpB (l.map fun p => (p.1, renF mS p.2))).rn mR = mpB l := by
    rw [mpB_rn, List.map_map]
    congr 1
    conv => rhs; rw [← List.map_id l]
    refine List.map_congr_left fun p hp => ?_
    obtain ⟨q, hq, rfl, _⟩ := l2 p hp
    simp only [Function.comp_def, id]
    rw [hinv q hq]
   intro p hp
   simp only [mNs, List.mem_cons, List.not_mem_nil, or_false] at hp
   rcases hp with rfl | rfl | rfl | rfl | rfl | rfl | rfl | rfl | rfl | rfl | rfl | rfl
   ·show hp (mR 1000) = some ((mpB _).rn mR)
    rw [hm]
    exact l1
   ·show hp 200 = some ((cfB _ g bx tp nr md).rn mR)
    rw [hI.c]
    simp [cfB, Blk.rn, renF, ren0, mR]
   ·show hp 264 = some ((jb ((0 : Nat) : Int)).rn mR)
    rw [jb_rn]
    exact hbx (5, 264, jb ((0 : Nat) : Int)) (by simp [mX]) (hall 5 (by omega))
   ·show hp 265 = some ((jb 4).rn mR)
    rw [jb_rn]
    exact hbx (5, 265, jb 4) (by simp [mX]) (hall 5 (by omega))
   ·show hp 320 = some ((jb g).rn mR)
    rw [jb_rn]
    exact hbx (12, 320, jb g) (by simp [mX]) (hall 12 (by omega))
   ·show hp 321 = some ((jb 1048576).rn mR)
    rw [jb_rn]
    exact hbx (12, 321, jb 1048576) (by simp [mX]) (hall 12 (by omega))
   ·show hp 360 = some ((jb bx).rn mR)
    rw [jb_rn]
    exact hbx (17, 360, jb bx) (by simp [mX]) (hall 17 (by omega))
   ·show hp 361 = some ((jb 1048576).rn mR)
    rw [jb_rn]
    exact hbx (17, 361, jb 1048576) (by simp [mX]) (hall 17 (by omega))
   ·show hp 400 = some ((jb tp).rn mR)
    rw [jb_rn]
    exact hbx (22, 400, jb tp) (by simp [mX]) (hall 22 (by omega))
   ·show hp 401 = some ((jb 65536).rn mR)
    rw [jb_rn]
    exact hbx (22, 401, jb 65536) (by simp [mX]) (hall 22 (by omega))
   ·show hp 464 = some ((jb nr).rn mR)
    rw [jb_rn]
    exact hbx (30, 464, jb nr) (by simp [mX]) (hall 30 (by omega))
   ·show hp 465 = some ((jb (Int.bmod (2 * bx) 18446744073709551616)).rn mR)
    rw [jb_rn]
    exact hbx (30, 465, jb (Int.bmod (2 * bx) 18446744073709551616)) (by simp [mX]) (hall 30 (by omega))
 ·have hlt : i < 36 := by
   have := (Array.getElem?_eq_some_iff.1 hi).1
   rw [hs] at this
   simpa using this
  subst hsl
  obtain rfl | rfl | rfl | rfl | rfl | rfl | rfl | rfl | rfl | rfl | rfl | rfl | rfl | rfl | rfl | rfl | rfl | rfl | rfl | rfl | rfl | rfl | rfl | rfl | rfl | rfl | rfl | rfl | rfl | rfl | rfl | rfl | rfl | rfl | rfl | rfl : i = 0 ∨ i = 1 ∨ i = 2 ∨ i = 3 ∨ i = 4 ∨ i = 5 ∨ i = 6 ∨ i = 7 ∨ i = 8 ∨ i = 9 ∨ i = 10 ∨ i = 11 ∨ i = 12 ∨ i = 13 ∨ i = 14 ∨ i = 15 ∨ i = 16 ∨ i = 17 ∨ i = 18 ∨ i = 19 ∨ i = 20 ∨ i = 21 ∨ i = 22 ∨ i = 23 ∨ i = 24 ∨ i = 25 ∨ i = 26 ∨ i = 27 ∨ i = 28 ∨ i = 29 ∨ i = 30 ∨ i = 31 ∨ i = 32 ∨ i = 33 ∨ i = 34 ∨ i = 35 := by omega
  ·-- 0 map
   have f0 := h.t1
   have f1 := h.t3
   refine GO_walk [] rfl (by kernel_rfl) (by first | assumption | simp) ?_; intro q hq; simp [hC, hY, f0, f1]; refine hq _ _ _ _ ?_; clear hq q
   exact hk _ _ (h.mkm hi)
  ·-- 1 mv
   have f0 := h.t1
   have f1 := h.t3
   refine GO_walk [] rfl (by kernel_rfl) (by first | assumption | simp) ?_; intro q hq; simp [hC, hY, f0, f1]; refine hq _ _ _ _ ?_; clear hq q
   exact hk _ _ (h.tmp (i := 1) (t := 5) (by simp [mT]) (by simp [mX]) (by omega))
  ·-- 2 fa
   have f0 := h.t1
   have f1 := h.t3
   refine GO_walk [] rfl (by kernel_rfl) (by first | assumption | simp) ?_; intro q hq; simp [hC, hY, f0, f1]; refine hq _ _ _ _ ?_; clear hq q
   exact hk _ _ (h.tmp (i := 2) (t := 6) (by simp [mT]) (by simp [mX]) (by omega))
  ·-- 3 ld
   have hd : ∀ j ∈ [2], listed[j]? = some true := by
    have hd0 := hdep _ rfl
    simp [Region.binds] at hd0
    simp [hd0]
   have f0 := h.t1
   have f1 := h.t3
   have f2 := h.tm (2, 6, .pointer (some ⟨200, 0, none⟩)) (by simp [mT]) (hd 2 (by simp))
   have fc := h.c
   unfold cfB at fc
   refine GO_walk [] rfl (by kernel_rfl) (by first | assumption | simp) ?_; intro q hq; simp [hC, hY, f0, f1, f2, fc]; refine hq _ _ _ _ ?_; clear hq q
   exact hk _ _ (h.tmp (i := 3) (t := 7) (by simp [mT]) (by simp [mX]) (by omega))
  ·-- 4 len
   have hd : ∀ j ∈ [3], listed[j]? = some true := by
    have hd0 := hdep _ rfl
    simp [Region.binds] at hd0
    simp [hd0]
   have f0 := h.t1
   have f1 := h.t3
   have f2 := h.tm (3, 7, .slice none 0 0) (by simp [mT]) (hd 3 (by simp))
   refine GO_walk [] rfl (by kernel_rfl) (by first | assumption | simp) ?_; intro q hq; simp [hC, hY, f0, f1, f2]; refine hq _ _ _ _ ?_; clear hq q
   exact hk _ _ (h.tmp (i := 4) (t := 8) (by simp [mT]) (by simp [mX]) (by omega))
  ·-- 5 call
   have hd : ∀ j ∈ [1, 4], listed[j]? = some true := by
    have hd0 := hdep _ rfl
    simp [Region.binds] at hd0
    simp [hd0]
   have f0 := h.t1
   have f1 := h.t3
   have f2 := h.tm (1, 5, .func (.func 122) #[] #[]) (by simp [mT]) (hd 1 (by simp))
   have f3 := h.tm (4, 8, .int .i64 ((0 : Nat) : Int)) (by simp [mT]) (hd 4 (by simp))
   refine GO_callL (f := .tmp 5) (cap := #[]) hC (num_at 264 (by omega) ((0 : Nat) : Int) 4) rfl hi rfl (by simp [Tryz.ntmps105]) rfl rfl (by simp [okT, f0, f1, f2, f3]) (by simp [gev, f0, f1, f2, f3]) (by simp) (by simp [okX, junk, f0, f1, f2, f3]) (by simp [gev, f0, f1, f2, f3]) (by simp) (fun q hq => (h.low q hq).symm ▸ (by simp)) ?_ ?_
   ·intro v ns hV k hk
    have := numR_key hV k hk
    omega
   rintro v ns ⟨rfl, rfl⟩
   exact hk _ _ (h.call (i := 5) (t := 9) (by simp [mT]) (by omega) (by omega) (by simp [mX]))
  ·-- 6 ins
   have hd : ∀ j ∈ [0, 5], listed[j]? = some true := by
    have hd0 := hdep _ rfl
    simp [Region.binds] at hd0
    simp [hd0]
   have f0 := h.t1
   have f1 := h.t3
   have f2 := h.tm (0, 4, .map (some 224)) (by simp [mT]) (hd 0 (by simp))
   have f3 := h.tm (5, 9, .func (.func 123) #[] #[.pointer (some ⟨264, 0, none⟩), .pointer (some ⟨265, 0, none⟩)]) (by simp [mT]) (hd 5 (by simp))
   obtain ⟨l, l1, l2, l3⟩ := h.mp (hd 0 (by simp))
   have hm : (6, ⟨#[98, 111, 100, 105, 101, 115]⟩, .func (.func 123) #[] #[.pointer (some ⟨264, 0, none⟩), .pointer (some ⟨265, 0, none⟩)]) ∈ mI := by simp [mI]
   have hn := h.fresh hm hi l2
   refine GO_walk [] rfl (by kernel_rfl) (by first | assumption | simp) ?_; intro q hq; simp [hC, hY, f0, f1, f2, f3, l1, hn]; refine hq _ _ _ _ ?_; clear hq q
   exact hk _ _ (h.ins hm (Array.getElem?_eq_some_iff.1 hi).1 l2 l3 hn (hd 0 (by simp)))
  ·-- 7 mk
   have f0 := h.t1
   have f1 := h.t3
   refine GO_walk [] rfl (by kernel_rfl) (by first | assumption | simp) ?_; intro q hq; simp [hC, hY, f0, f1]; refine hq _ _ _ _ ?_; clear hq q
   exact hk _ _ (h.tmp (i := 7) (t := 10) (by simp [mT]) (by simp [mX]) (by omega))
  ·-- 8 ins
   have hd : ∀ j ∈ [0, 7], listed[j]? = some true := by
    have hd0 := hdep _ rfl
    simp [Region.binds] at hd0
    simp [hd0]
   have f0 := h.t1
   have f1 := h.t3
   have f2 := h.tm (0, 4, .map (some 224)) (by simp [mT]) (hd 0 (by simp))
   have f3 := h.tm (7, 10, .func (.func 125) #[] #[.pointer (some ⟨200, 0, none⟩)]) (by simp [mT]) (hd 7 (by simp))
   obtain ⟨l, l1, l2, l3⟩ := h.mp (hd 0 (by simp))
   have hm : (8, ⟨#[109, 97, 115, 115]⟩, .func (.func 125) #[] #[.pointer (some ⟨200, 0, none⟩)]) ∈ mI := by simp [mI]
   have hn := h.fresh hm hi l2
   refine GO_walk [] rfl (by kernel_rfl) (by first | assumption | simp) ?_; intro q hq; simp [hC, hY, f0, f1, f2, f3, l1, hn]; refine hq _ _ _ _ ?_; clear hq q
   exact hk _ _ (h.ins hm (Array.getElem?_eq_some_iff.1 hi).1 l2 l3 hn (hd 0 (by simp)))
  ·-- 9 mv
   have f0 := h.t1
   have f1 := h.t3
   refine GO_walk [] rfl (by kernel_rfl) (by first | assumption | simp) ?_; intro q hq; simp [hC, hY, f0, f1]; refine hq _ _ _ _ ?_; clear hq q
   exact hk _ _ (h.tmp (i := 9) (t := 11) (by simp [mT]) (by simp [mX]) (by omega))
  ·-- 10 fa
   have f0 := h.t1
   have f1 := h.t3
   refine GO_walk [] rfl (by kernel_rfl) (by first | assumption | simp) ?_; intro q hq; simp [hC, hY, f0, f1]; refine hq _ _ _ _ ?_; clear hq q
   exact hk _ _ (h.tmp (i := 10) (t := 12) (by simp [mT]) (by simp [mX]) (by omega))
  ·-- 11 ld
   have hd : ∀ j ∈ [10], listed[j]? = some true := by
    have hd0 := hdep _ rfl
    simp [Region.binds] at hd0
    simp [hd0]
   have f0 := h.t1
   have f1 := h.t3
   have f2 := h.tm (10, 12, .pointer (some ⟨200, 1, none⟩)) (by simp [mT]) (hd 10 (by simp))
   have fc := h.c
   unfold cfB at fc
   refine GO_walk [] rfl (by kernel_rfl) (by first | assumption | simp) ?_; intro q hq; simp [hC, hY, f0, f1, f2, fc]; refine hq _ _ _ _ ?_; clear hq q
   exact hk _ _ (h.tmp (i := 11) (t := 13) (by simp [mT]) (by simp [mX]) (by omega))
  ·-- 12 call
   have hd : ∀ j ∈ [9, 11], listed[j]? = some true := by
    have hd0 := hdep _ rfl
    simp [Region.binds] at hd0
    simp [hd0]
   have f0 := h.t1
   have f1 := h.t3
   have f2 := h.tm (9, 11, .func (.func 122) #[] #[]) (by simp [mT]) (hd 9 (by simp))
   have f3 := h.tm (11, 13, .int .i64 g) (by simp [mT]) (hd 11 (by simp))
   refine GO_callL (f := .tmp 11) (cap := #[]) hC (num_at 320 (by omega) g 1048576) rfl hi rfl (by simp [Tryz.ntmps105]) rfl rfl (by simp [okT, f0, f1, f2, f3]) (by simp [gev, f0, f1, f2, f3]) (by simp) (by simp [okX, junk, f0, f1, f2, f3]) (by simp [gev, f0, f1, f2, f3]) (by simp) (fun q hq => (h.low q hq).symm ▸ (by simp)) ?_ ?_
   ·intro v ns hV k hk
    have := numR_key hV k hk
    omega
   rintro v ns ⟨rfl, rfl⟩
   exact hk _ _ (h.call (i := 12) (t := 14) (by simp [mT]) (by omega) (by omega) (by simp [mX]))
  ·-- 13 ins
   have hd : ∀ j ∈ [0, 12], listed[j]? = some true := by
    have hd0 := hdep _ rfl
    simp [Region.binds] at hd0
    simp [hd0]
   have f0 := h.t1
   have f1 := h.t3
   have f2 := h.tm (0, 4, .map (some 224)) (by simp [mT]) (hd 0 (by simp))
   have f3 := h.tm (12, 14, .func (.func 123) #[] #[.pointer (some ⟨320, 0, none⟩), .pointer (some ⟨321, 0, none⟩)]) (by simp [mT]) (hd 12 (by simp))
   obtain ⟨l, l1, l2, l3⟩ := h.mp (hd 0 (by simp))
   have hm : (13, ⟨#[99, 111, 110, 115, 116, 97, 110, 116]⟩, .func (.func 123) #[] #[.pointer (some ⟨320, 0, none⟩), .pointer (some ⟨321, 0, none⟩)]) ∈ mI := by simp [mI]
   have hn := h.fresh hm hi l2
   refine GO_walk [] rfl (by kernel_rfl) (by first | assumption | simp) ?_; intro q hq; simp [hC, hY, f0, f1, f2, f3, l1, hn]; refine hq _ _ _ _ ?_; clear hq q
   exact hk _ _ (h.ins hm (Array.getElem?_eq_some_iff.1 hi).1 l2 l3 hn (hd 0 (by simp)))
  ·-- 14 mv
   have f0 := h.t1
   have f1 := h.t3
   refine GO_walk [] rfl (by kernel_rfl) (by first | assumption | simp) ?_; intro q hq; simp [hC, hY, f0, f1]; refine hq _ _ _ _ ?_; clear hq q
   exact hk _ _ (h.tmp (i := 14) (t := 15) (by simp [mT]) (by simp [mX]) (by omega))
  ·-- 15 fa
   have f0 := h.t1
   have f1 := h.t3
   refine GO_walk [] rfl (by kernel_rfl) (by first | assumption | simp) ?_; intro q hq; simp [hC, hY, f0, f1]; refine hq _ _ _ _ ?_; clear hq q
   exact hk _ _ (h.tmp (i := 15) (t := 16) (by simp [mT]) (by simp [mX]) (by omega))
  ·-- 16 ld
   have hd : ∀ j ∈ [15], listed[j]? = some true := by
    have hd0 := hdep _ rfl
    simp [Region.binds] at hd0
    simp [hd0]
   have f0 := h.t1
   have f1 := h.t3
   have f2 := h.tm (15, 16, .pointer (some ⟨200, 2, none⟩)) (by simp [mT]) (hd 15 (by simp))
   have fc := h.c
   unfold cfB at fc
   refine GO_walk [] rfl (by kernel_rfl) (by first | assumption | simp) ?_; intro q hq; simp [hC, hY, f0, f1, f2, fc]; refine hq _ _ _ _ ?_; clear hq q
   exact hk _ _ (h.tmp (i := 16) (t := 17) (by simp [mT]) (by simp [mX]) (by omega))
  ·-- 17 call
   have hd : ∀ j ∈ [14, 16], listed[j]? = some true := by
    have hd0 := hdep _ rfl
    simp [Region.binds] at hd0
    simp [hd0]
   have f0 := h.t1
   have f1 := h.t3
   have f2 := h.tm (14, 15, .func (.func 122) #[] #[]) (by simp [mT]) (hd 14 (by simp))
   have f3 := h.tm (16, 17, .int .i64 bx) (by simp [mT]) (hd 16 (by simp))
   refine GO_callL (f := .tmp 15) (cap := #[]) hC (num_at 360 (by omega) bx 1048576) rfl hi rfl (by simp [Tryz.ntmps105]) rfl rfl (by simp [okT, f0, f1, f2, f3]) (by simp [gev, f0, f1, f2, f3]) (by simp) (by simp [okX, junk, f0, f1, f2, f3]) (by simp [gev, f0, f1, f2, f3]) (by simp) (fun q hq => (h.low q hq).symm ▸ (by simp)) ?_ ?_
   ·intro v ns hV k hk
    have := numR_key hV k hk
    omega
   rintro v ns ⟨rfl, rfl⟩
   exact hk _ _ (h.call (i := 17) (t := 18) (by simp [mT]) (by omega) (by omega) (by simp [mX]))
  ·-- 18 ins
   have hd : ∀ j ∈ [0, 17], listed[j]? = some true := by
    have hd0 := hdep _ rfl
    simp [Region.binds] at hd0
    simp [hd0]
   have f0 := h.t1
   have f1 := h.t3
   have f2 := h.tm (0, 4, .map (some 224)) (by simp [mT]) (hd 0 (by simp))
   have f3 := h.tm (17, 18, .func (.func 123) #[] #[.pointer (some ⟨360, 0, none⟩), .pointer (some ⟨361, 0, none⟩)]) (by simp [mT]) (hd 17 (by simp))
   obtain ⟨l, l1, l2, l3⟩ := h.mp (hd 0 (by simp))
   have hm : (18, ⟨#[98, 111, 120]⟩, .func (.func 123) #[] #[.pointer (some ⟨360, 0, none⟩), .pointer (some ⟨361, 0, none⟩)]) ∈ mI := by simp [mI]
   have hn := h.fresh hm hi l2
   refine GO_walk [] rfl (by kernel_rfl) (by first | assumption | simp) ?_; intro q hq; simp [hC, hY, f0, f1, f2, f3, l1, hn]; refine hq _ _ _ _ ?_; clear hq q
   exact hk _ _ (h.ins hm (Array.getElem?_eq_some_iff.1 hi).1 l2 l3 hn (hd 0 (by simp)))
  ·-- 19 mv
   have f0 := h.t1
   have f1 := h.t3
   refine GO_walk [] rfl (by kernel_rfl) (by first | assumption | simp) ?_; intro q hq; simp [hC, hY, f0, f1]; refine hq _ _ _ _ ?_; clear hq q
   exact hk _ _ (h.tmp (i := 19) (t := 19) (by simp [mT]) (by simp [mX]) (by omega))
  ·-- 20 fa
   have f0 := h.t1
   have f1 := h.t3
   refine GO_walk [] rfl (by kernel_rfl) (by first | assumption | simp) ?_; intro q hq; simp [hC, hY, f0, f1]; refine hq _ _ _ _ ?_; clear hq q
   exact hk _ _ (h.tmp (i := 20) (t := 20) (by simp [mT]) (by simp [mX]) (by omega))
  ·-- 21 ld
   have hd : ∀ j ∈ [20], listed[j]? = some true := by
    have hd0 := hdep _ rfl
    simp [Region.binds] at hd0
    simp [hd0]
   have f0 := h.t1
   have f1 := h.t3
   have f2 := h.tm (20, 20, .pointer (some ⟨200, 3, none⟩)) (by simp [mT]) (hd 20 (by simp))
   have fc := h.c
   unfold cfB at fc
   refine GO_walk [] rfl (by kernel_rfl) (by first | assumption | simp) ?_; intro q hq; simp [hC, hY, f0, f1, f2, fc]; refine hq _ _ _ _ ?_; clear hq q
   exact hk _ _ (h.tmp (i := 21) (t := 21) (by simp [mT]) (by simp [mX]) (by omega))
  ·-- 22 call
   have hd : ∀ j ∈ [19, 21], listed[j]? = some true := by
    have hd0 := hdep _ rfl
    simp [Region.binds] at hd0
    simp [hd0]
   have f0 := h.t1
   have f1 := h.t3
   have f2 := h.tm (19, 19, .func (.func 122) #[] #[]) (by simp [mT]) (hd 19 (by simp))
   have f3 := h.tm (21, 21, .int .i64 tp) (by simp [mT]) (hd 21 (by simp))
   refine GO_callL (f := .tmp 19) (cap := #[]) hC (num_at 400 (by omega) tp 65536) rfl hi rfl (by simp [Tryz.ntmps105]) rfl rfl (by simp [okT, f0, f1, f2, f3]) (by simp [gev, f0, f1, f2, f3]) (by simp) (by simp [okX, junk, f0, f1, f2, f3]) (by simp [gev, f0, f1, f2, f3]) (by simp) (fun q hq => (h.low q hq).symm ▸ (by simp)) ?_ ?_
   ·intro v ns hV k hk
    have := numR_key hV k hk
    omega
   rintro v ns ⟨rfl, rfl⟩
   exact hk _ _ (h.call (i := 22) (t := 22) (by simp [mT]) (by omega) (by omega) (by simp [mX]))
  ·-- 23 ins
   have hd : ∀ j ∈ [0, 22], listed[j]? = some true := by
    have hd0 := hdep _ rfl
    simp [Region.binds] at hd0
    simp [hd0]
   have f0 := h.t1
   have f1 := h.t3
   have f2 := h.tm (0, 4, .map (some 224)) (by simp [mT]) (hd 0 (by simp))
   have f3 := h.tm (22, 22, .func (.func 123) #[] #[.pointer (some ⟨400, 0, none⟩), .pointer (some ⟨401, 0, none⟩)]) (by simp [mT]) (hd 22 (by simp))
   obtain ⟨l, l1, l2, l3⟩ := h.mp (hd 0 (by simp))
   have hm : (23, ⟨#[116, 111, 112]⟩, .func (.func 123) #[] #[.pointer (some ⟨400, 0, none⟩), .pointer (some ⟨401, 0, none⟩)]) ∈ mI := by simp [mI]
   have hn := h.fresh hm hi l2
   refine GO_walk [] rfl (by kernel_rfl) (by first | assumption | simp) ?_; intro q hq; simp [hC, hY, f0, f1, f2, f3, l1, hn]; refine hq _ _ _ _ ?_; clear hq q
   exact hk _ _ (h.ins hm (Array.getElem?_eq_some_iff.1 hi).1 l2 l3 hn (hd 0 (by simp)))
  ·-- 24 mv
   have f0 := h.t1
   have f1 := h.t3
   refine GO_walk [] rfl (by kernel_rfl) (by first | assumption | simp) ?_; intro q hq; simp [hC, hY, f0, f1]; refine hq _ _ _ _ ?_; clear hq q
   exact hk _ _ (h.tmp (i := 24) (t := 23) (by simp [mT]) (by simp [mX]) (by omega))
  ·-- 25 fa
   have f0 := h.t1
   have f1 := h.t3
   refine GO_walk [] rfl (by kernel_rfl) (by first | assumption | simp) ?_; intro q hq; simp [hC, hY, f0, f1]; refine hq _ _ _ _ ?_; clear hq q
   exact hk _ _ (h.tmp (i := 25) (t := 24) (by simp [mT]) (by simp [mX]) (by omega))
  ·-- 26 ld
   have hd : ∀ j ∈ [25], listed[j]? = some true := by
    have hd0 := hdep _ rfl
    simp [Region.binds] at hd0
    simp [hd0]
   have f0 := h.t1
   have f1 := h.t3
   have f2 := h.tm (25, 24, .pointer (some ⟨200, 4, none⟩)) (by simp [mT]) (hd 25 (by simp))
   have fc := h.c
   unfold cfB at fc
   refine GO_walk [] rfl (by kernel_rfl) (by first | assumption | simp) ?_; intro q hq; simp [hC, hY, f0, f1, f2, fc]; refine hq _ _ _ _ ?_; clear hq q
   exact hk _ _ (h.tmp (i := 26) (t := 25) (by simp [mT]) (by simp [mX]) (by omega))
  ·-- 27 fa
   have f0 := h.t1
   have f1 := h.t3
   refine GO_walk [] rfl (by kernel_rfl) (by first | assumption | simp) ?_; intro q hq; simp [hC, hY, f0, f1]; refine hq _ _ _ _ ?_; clear hq q
   exact hk _ _ (h.tmp (i := 27) (t := 26) (by simp [mT]) (by simp [mX]) (by omega))
  ·-- 28 ld
   have hd : ∀ j ∈ [27], listed[j]? = some true := by
    have hd0 := hdep _ rfl
    simp [Region.binds] at hd0
    simp [hd0]
   have f0 := h.t1
   have f1 := h.t3
   have f2 := h.tm (27, 26, .pointer (some ⟨200, 2, none⟩)) (by simp [mT]) (hd 27 (by simp))
   have fc := h.c
   unfold cfB at fc
   refine GO_walk [] rfl (by kernel_rfl) (by first | assumption | simp) ?_; intro q hq; simp [hC, hY, f0, f1, f2, fc]; refine hq _ _ _ _ ?_; clear hq q
   exact hk _ _ (h.tmp (i := 28) (t := 27) (by simp [mT]) (by simp [mX]) (by omega))
  ·-- 29 mul
   have hd : ∀ j ∈ [28], listed[j]? = some true := by
    have hd0 := hdep _ rfl
    simp [Region.binds] at hd0
    simp [hd0]
   have f0 := h.t1
   have f1 := h.t3
   have f2 := h.tm (28, 27, .int .i64 bx) (by simp [mT]) (hd 28 (by simp))
   refine GO_walk [] rfl (by kernel_rfl) (by first | assumption | simp) ?_; intro q hq; simp [hC, hY, f0, f1, f2]; refine hq _ _ _ _ ?_; clear hq q
   exact hk _ _ (h.tmp (i := 29) (t := 28) (by simp [mT]) (by simp [mX]) (by omega))
  ·-- 30 call
   have hd : ∀ j ∈ [24, 26, 29], listed[j]? = some true := by
    have hd0 := hdep _ rfl
    simp [Region.binds] at hd0
    simp [hd0]
   have f0 := h.t1
   have f1 := h.t3
   have f2 := h.tm (24, 23, .func (.func 122) #[] #[]) (by simp [mT]) (hd 24 (by simp))
   have f3 := h.tm (26, 25, .int .i64 nr) (by simp [mT]) (hd 26 (by simp))
   have f4 := h.tm (29, 28, .int .i64 (Int.bmod (2 * bx) 18446744073709551616)) (by simp [mT]) (hd 29 (by simp))
   refine GO_callL (f := .tmp 23) (cap := #[]) hC (num_at 464 (by omega) nr (Int.bmod (2 * bx) 18446744073709551616)) rfl hi rfl (by simp [Tryz.ntmps105]) rfl rfl (by simp [okT, f0, f1, f2, f3, f4]) (by simp [gev, f0, f1, f2, f3, f4]) (by simp) (by simp [okX, junk, f0, f1, f2, f3, f4]) (by simp [gev, f0, f1, f2, f3, f4]) (by simp) (fun q hq => (h.low q hq).symm ▸ (by simp)) ?_ ?_
   ·intro v ns hV k hk
    have := numR_key hV k hk
    omega
   rintro v ns ⟨rfl, rfl⟩
   exact hk _ _ (h.call (i := 30) (t := 29) (by simp [mT]) (by omega) (by omega) (by simp [mX]))
  ·-- 31 ins
   have hd : ∀ j ∈ [0, 30], listed[j]? = some true := by
    have hd0 := hdep _ rfl
    simp [Region.binds] at hd0
    simp [hd0]
   have f0 := h.t1
   have f1 := h.t3
   have f2 := h.tm (0, 4, .map (some 224)) (by simp [mT]) (hd 0 (by simp))
   have f3 := h.tm (30, 29, .func (.func 123) #[] #[.pointer (some ⟨464, 0, none⟩), .pointer (some ⟨465, 0, none⟩)]) (by simp [mT]) (hd 30 (by simp))
   obtain ⟨l, l1, l2, l3⟩ := h.mp (hd 0 (by simp))
   have hm : (31, ⟨#[110, 101, 97, 114]⟩, .func (.func 123) #[] #[.pointer (some ⟨464, 0, none⟩), .pointer (some ⟨465, 0, none⟩)]) ∈ mI := by simp [mI]
   have hn := h.fresh hm hi l2
   refine GO_walk [] rfl (by kernel_rfl) (by first | assumption | simp) ?_; intro q hq; simp [hC, hY, f0, f1, f2, f3, l1, hn]; refine hq _ _ _ _ ?_; clear hq q
   exact hk _ _ (h.ins hm (Array.getElem?_eq_some_iff.1 hi).1 l2 l3 hn (hd 0 (by simp)))
  ·-- 32 mk
   have f0 := h.t1
   have f1 := h.t3
   refine GO_walk [] rfl (by kernel_rfl) (by first | assumption | simp) ?_; intro q hq; simp [hC, hY, f0, f1]; refine hq _ _ _ _ ?_; clear hq q
   exact hk _ _ (h.tmp (i := 32) (t := 30) (by simp [mT]) (by simp [mX]) (by omega))
  ·-- 33 ins
   have hd : ∀ j ∈ [0, 32], listed[j]? = some true := by
    have hd0 := hdep _ rfl
    simp [Region.binds] at hd0
    simp [hd0]
   have f0 := h.t1
   have f1 := h.t3
   have f2 := h.tm (0, 4, .map (some 224)) (by simp [mT]) (hd 0 (by simp))
   have f3 := h.tm (32, 30, .func (.func 128) #[] #[.pointer (some ⟨200, 0, none⟩)]) (by simp [mT]) (hd 32 (by simp))
   obtain ⟨l, l1, l2, l3⟩ := h.mp (hd 0 (by simp))
   have hm : (33, ⟨#[109, 101, 116, 104, 111, 100]⟩, .func (.func 128) #[] #[.pointer (some ⟨200, 0, none⟩)]) ∈ mI := by simp [mI]
   have hn := h.fresh hm hi l2
   refine GO_walk [] rfl (by kernel_rfl) (by first | assumption | simp) ?_; intro q hq; simp [hC, hY, f0, f1, f2, f3, l1, hn]; refine hq _ _ _ _ ?_; clear hq q
   exact hk _ _ (h.ins hm (Array.getElem?_eq_some_iff.1 hi).1 l2 l3 hn (hd 0 (by simp)))
  ·-- 34 mv
   have hd : ∀ j ∈ [0], listed[j]? = some true := by
    have hd0 := hdep _ rfl
    simp [Region.binds] at hd0
    simp [hd0]
   have f0 := h.t1
   have f1 := h.t3
   have f2 := h.tm (0, 4, .map (some 224)) (by simp [mT]) (hd 0 (by simp))
   refine GO_walk [] rfl (by kernel_rfl) (by first | assumption | simp) ?_; intro q hq; simp [hC, hY, f0, f1, f2]; refine hq _ _ _ _ ?_; clear hq q
   exact hk _ _ (h.tmp (i := 34) (t := 31) (by simp [mT]) (by simp [mX]) (by omega))
  ·-- 35 asg
   have hd : ∀ j ∈ [34], listed[j]? = some true := by
    have hd0 := hdep _ rfl
    simp [Region.binds] at hd0
    simp [hd0]
   have f0 := h.t1
   have f1 := h.t3
   have f2 := h.tm (34, 31, .map (some 224)) (by simp [mT]) (hd 34 (by simp))
   refine GO_walk [] rfl (by kernel_rfl) (by first | assumption | simp) ?_; intro q hq; simp [hC, hY, f0, f1, f2]; refine hq _ _ _ _ ?_; clear hq q
   exact hk _ _ (h.tmp (i := 35) (t := 2) (by simp [mT]) (by simp [mX]) (by omega))
 ·have hno : ∀ j, (Array.replicate 36 false)[j]? ≠ some true := fun j => by
   rw [Array.getElem?_replicate]
   split <;> simp
  exact ⟨by simp, by simp, fun p hp hl => absurd hl (hno _), fun k hk => by rw [upd_other _ _ (by omega)]; exact hpL_low (by simp) hk, by simp, by simp [cfB, hsl], fun q hq hl => absurd hl (hno _), fun hl => absurd hl (hno _), fun q hq hl => absurd hl (hno _)⟩
theorem musts0_rr {nk : Nat} {g bx tp nr md : Int} {v : Value} {ns : List (Nat × Blk)} (h : RR (mQ nk) (MustsR 1000 (.slice none 0 0) 0 g bx tp nr md) v ns) : MustsR nk (.slice none 0 0) 0 g bx tp nr md v ns := by
 obtain ⟨v0, ns0, ⟨l, rfl, rfl, hl, hf⟩, rfl, rfl⟩ := h
 have e := mQ_at nk
 have e0 := e 0 (by omega)
 have e1 := e 1 (by omega)
 have e2 := e 2 (by omega)
 have e3 := e 3 (by omega)
 have e4 := e 4 (by omega)
 have e5 := e 5 (by omega)
 have e6 := e 6 (by omega)
 have e7 := e 7 (by omega)
 have e8 := e 8 (by omega)
 have e9 := e 9 (by omega)
 have e10 := e 10 (by omega)
 have e11 := e 11 (by omega)
 simp only [Nat.reduceAdd, Nat.add_zero] at e0 e1 e2 e3 e4 e5 e6 e7 e8 e9 e10 e11
 have h100 := mQ_low nk 100 (by omega)
 have hmv : ∀ q ∈ mV 1000, (q.1, renF (mQ nk) q.2) ∈ mV nk := by
  simp [mV, renF, ren0, e1, e2, e3, e4, e5, e6, e7, e8, e9, e10, e11]
 have hvm : ∀ q ∈ mV nk, ∃ p ∈ mV 1000, p.1 = q.1 ∧ renF (mQ nk) p.2 = q.2 := by
  simp [mV, renF, ren0, e1, e2, e3, e4, e5, e6, e7, e8, e9, e10, e11]
 refine ⟨l.map fun p => (p.1, renF (mQ nk) p.2), by simp [ren, renA, renF, ren0, e0], ?_, fun p hp => ?_, fun q hq => ?_⟩
 ·have hc : (cfB (.slice none 0 0) g bx tp nr md).rn (mQ nk) = cfB (.slice none 0 0) g bx tp nr md := by simp [cfB, Blk.rn, renF, ren0, h100]
  simp only [rnL, mNs, List.map_cons, List.map_nil, mpB_rn, jb_rn, hc, Nat.reduceAdd, e0, e1, e2, e3, e4, e5, e6, e7, e8, e9, e10, e11]
 ·obtain ⟨p0, hp0, rfl⟩ := List.mem_map.1 hp
  exact hmv _ (hl _ hp0)
 ·obtain ⟨p, hp, h1, h2⟩ := hvm q hq
  rw [findL_map, ← h1, hf p hp, ← h2]
  rfl
theorem musts0_at (nk : Nat) (hnk : 200 ≤ nk) (b : Blk) (hb : b.fx) (g bx tp nr md : Int) :
  FunS Tryz.prog G0 105 #[cfV (.slice none 0 0) g bx tp nr md] (hpL G0 [(100, b)]) [100] (RR (mQ nk) (MustsR 1000 (.slice none 0 0) 0 g bx tp nr md)) := by
 have hr := fun ρ => Blk.fx_rn hb ρ
 have h100 := mQ_low nk 100 (by omega)
 refine (musts0_fun b hb g bx tp nr md).mvL G0F (oneL_ok hb) (mQ nk) (fun k hk => mQ_low nk k (by omega)) (by simp [cfV, ren, renA, renF, ren0, h100]) (by simp [keys, h100]) rfl (oneL_ok hb).low (by simp [h100, hr]) (by simp [keys]) (fun v ns hV k hk => ?_) (fun v ns hV k hk l hl e => ?_)
 ·have h1 := mustsR_key hV k hk
  obtain ⟨j, hj, rfl⟩ : ∃ j, j < 12 ∧ k = 1000 + j := ⟨k - 1000, by omega, by omega⟩
  rw [mQ_at nk j hj]
  simp
  omega
 ·have h1 := mustsR_key hV k hk
  have h2 := mustsR_key hV l hl
  obtain ⟨j, hj, rfl⟩ : ∃ j, j < 12 ∧ k = 1000 + j := ⟨k - 1000, by omega, by omega⟩
  obtain ⟨i, hi, rfl⟩ : ∃ j, j < 12 ∧ l = 1000 + j := ⟨l - 1000, by omega, by omega⟩
  rw [mQ_at nk j hj, mQ_at nk i hi] at e
  omega
set_option maxRecDepth 8000 in
set_option maxHeartbeats 16000000 in
theorem why0_fun (b : Blk) (hb : b.fx) (g bx tp nr md : Int) :
  Fun Tryz.prog G0 88 #[cfV (.slice none 0 0) g bx tp nr md] (hpL G0 [(100, b)]) (keys [(100, b)]) (.ret (.string (⟨#[98, 111, 100, 105, 101, 115]⟩)) []) := by
 refine fun_ofL (B := 200) G0F Tryz.func88 rfl Tryz.call88 (oneL_ok hb) ?_ (by simp) (by simp) (by simp) (by simp [Tryz.ntmps88]) (by omega) ?_
 ·simp [idsV, idsA, idsF, ids0, keys, cfV]
 intro C hC hC0 hY
 have hr := fun ρ => Blk.fx_rn hb ρ
 unfold cfV
 repeat' (first | refine gwA ?_ | ((first | refine gwR [] ?_ | refine gwD [] ?_); intro Q hQ hP; simp [hC, hY]; refine hQ _ _ _ _ (by kernel_rfl) ?_; clear hQ hP Q) | (refine gwC ?_ ?_ <;> (intro hb; first | (cases hb; done) | skip)))
 refine GW_list ?_
 simp only [Array.toList]
 refine GL_walk 1 [] rfl (by simp) (by kernel_rfl) ?_; intro q hq; simp [hC, hY]; refine hq _ _ _ _ ?_; clear hq q
 simp only [wT, List.length_cons, List.length_nil, Nat.reduceAdd]
 refine GL_callW 8 (f := .func 105) (cap := #[]) hC (musts0_at 224 (by omega) b hb g bx tp nr md) rfl (by simp) rfl rfl (by simp [okT]) (by simp [gev]) (by simp) (by simp [okX, junk]) (by simp [gev, cfV]) (by simp) (by (intro k hk; first | rfl | (simp (disch := omega) only [addB, List.mem_cons, List.not_mem_nil, or_false, upd_other, hpL_cons, hpL_nil, if_neg, updL] <;> done))) (fun v ns hV k hk => by have := mustsR_key (musts0_rr hV) k hk; omega) ?_
 intro v ns hV
 obtain ⟨l, rfl, rfl, _, hf⟩ := musts0_rr hV
 refine GL_walk 1 [] rfl (by simp) (by kernel_rfl) ?_; intro q hq; simp [hC, hY, putT, updL, mNs]; refine hq _ _ _ _ ?_; clear hq q
 simp only [wT, List.length_cons, List.length_nil, Nat.reduceAdd]
 refine GL_nil ?_
 have f0 : findL ⟨#[98, 111, 100, 105, 101, 115]⟩ l = some (.func (.func 123) #[] #[.pointer (some ⟨226, 0, none⟩), .pointer (some ⟨227, 0, none⟩)]) := hf (⟨#[98, 111, 100, 105, 101, 115]⟩, _) (by simp [mV])
 have c0 : wiB 0 1 4 = false := by decide +kernel
 repeat' (first | refine GWL_start ?_ | refine GWL_step ?_ | refine gwA ?_ | ((first | refine gwR [123, 125, 128] ?_ | refine gwD [123, 125, 128] ?_); intro Q hQ hP; simp [hC, hY, f0, c0, cnB]; (repeat ((first | (refine heapK_mv (cn1_fun 0 4) G0F (B := 200) ⟨by simp, by simp [keys], by simp [jb, ids_lit, idsF, ids0]⟩ (fun k => if k = 100 then 226 else if k = 108 then 227 else k) (fun k hk => (if_neg (by omega)).trans (if_neg (by omega))) ?_ (by simp) (by simp [jb_rn]) (by simp [keys]) (by simp [keys]; rfl) ?_; focus (simp [ren, renA, renF, ren0]; done))); try simp [hC, hY, f0, c0, cnB])); refine hQ _ _ _ _ (by kernel_rfl) ?_; clear hQ hP Q) | (refine gwC ?_ ?_ <;> (intro hb; first | (cases hb; done) | skip)))
 refine ⟨.inr rfl, by simp [Tryz.results88], kpS G0F⟩
def isStr : Value → Bool
 | .string _ => true
 | _ => false
def strV : Value → ByteArray
 | .string s => s
 | _ => ⟨#[]⟩
def sneB (a b : ByteArray) : Bool := !(a.toList == b.toList)
@[simp] theorem isStr_s (s : ByteArray) : isStr (.string s) = true := rfl
@[simp] theorem strV_s (s : ByteArray) : strV (.string s) = s := rfl
theorem isStr_of {v : Value} (h : isStr v = true) : v = .string (strV v) := by
 unfold isStr at h
 split at h
 ·rfl
 ·cases h
@[simp] theorem bin2_str (P : Program) (op : BinOp) (T : TypeId) (a b : ByteArray) : bin2 P op T (.string a) (.string b) = none := by cases op <;> rfl
@[simp] theorem binX_strne {dst : Option Tmp} {x y : Operand} {T : TypeId} {ps : String} {af : Array Edge} {g : Option (Nat × Bool)} {ts : Nat → Value} {hp : Hp} {C : Eff → Prop} (h : isStr (gev ts x) = true) (h2 : isStr (gev ts y) = true) (hx : okX ts hp x) (hy : okX ts hp y) :
  binX Tryz.prog none ⟨dst, .binOp .neq 9 x y 9, T, ps, af, g⟩ ts hp C ↔ C (val (.bool (sneB (strV (gev ts x)) (strV (gev ts y)))) []) := by
 have e1 := isStr_of h
 have e2 := isStr_of h2
 refine pureV_iff (K := fun v => C (val v [])) ?_ rfl fun W => ?_
 ·intro z hz
  simp [Op.operands] at hz
  rcases hz with rfl | rfl
  ·exact ⟨hx, by rw [e1]; rfl⟩
  ·exact ⟨hy, by rw [e2]; rfl⟩
 ·generalize strV (gev ts x) = a at e1 ⊢
  generalize strV (gev ts y) = b at e2 ⊢
  have hg : (eqGuard .neq 9 x y (.string a) (.string b)).run Tryz.prog W = .ok () W := by unfold eqGuard; split <;> rfl
  simp only [execOp, e1, e2, Sem.run_bind, hg, Result.andThen_ok, binOp, Op.stringOp, Sem.run_pure, strV_s]
  simp [sneB]
theorem whyS_ne2 (n : Nat) (f : Nat → Int) (g bx tp nr md : Int) : sneB (whyS n f g bx tp nr md) ⟨#[]⟩ = !(cfOk n f g bx tp nr md) := by
 unfold whyS cfOk sneB
 rcases Bool.eq_false_or_eq_true (wiB n 1 4) with c | c <;> simp only [c, Bool.false_and, Bool.true_and, if_true, Bool.true_eq_false, if_false, Bool.not_false] <;> try decide +kernel
 rcases Bool.eq_false_or_eq_true (allM f n) with c | c <;> simp only [c, Bool.false_and, Bool.true_and, if_true, Bool.true_eq_false, if_false, Bool.not_false] <;> try decide +kernel
 rcases Bool.eq_false_or_eq_true (wiB g 1 1048576) with c | c <;> simp only [c, Bool.false_and, Bool.true_and, if_true, Bool.true_eq_false, if_false, Bool.not_false] <;> try decide +kernel
 rcases Bool.eq_false_or_eq_true (wiB bx 1 1048576) with c | c <;> simp only [c, Bool.false_and, Bool.true_and, if_true, Bool.true_eq_false, if_false, Bool.not_false] <;> try decide +kernel
 rcases Bool.eq_false_or_eq_true (wiB tp 1 65536) with c | c <;> simp only [c, Bool.false_and, Bool.true_and, if_true, Bool.true_eq_false, if_false, Bool.not_false] <;> try decide +kernel
 rcases Bool.eq_false_or_eq_true (wiB nr 1 (Int.bmod (2 * bx) 18446744073709551616)) with c | c <;> simp only [c, Bool.false_and, Bool.true_and, if_true, Bool.true_eq_false, if_false, Bool.not_false] <;> try decide +kernel
 rcases Bool.eq_false_or_eq_true (wiB md 0 4) with c | c <;> simp only [c, Bool.false_and, Bool.true_and, if_true, Bool.true_eq_false, if_false, Bool.not_false] <;> try decide +kernel
theorem check_fun (b : Blk) (off n cap : Nat) (f : Nat → Int) (h : MB b off n f) (g bx tp nr md : Int) :
  Fun Tryz.prog G0 65 #[cfV (.slice (some ⟨100, off, none⟩) n cap) g bx tp nr md] (hpL G0 [(100, b)]) (keys [(100, b)]) (.ret (.int .i64 (if cfOk n f g bx tp nr md = true then 0 else 110)) []) := by
 refine fun_ofL (B := 200) G0F Tryz.func65 rfl Tryz.call65 (oneL_ok h.fx) ?_ (by simp) (by simp) (by simp) (by simp [Tryz.ntmps65]) (by omega) ?_
 ·simp [idsV, idsA, idsF, ids0, keys, cfV]
 intro C hC hC0 hY
 have hr := fun ρ => Blk.fx_rn h.fx ρ
 have hne := whyS_ne2 n f g bx tp nr md
 cases hc : cfOk n f g bx tp nr md with
 | true =>
  rw [hc] at hne
  unfold cfV
  repeat' (first | refine gwA ?_ | ((first | refine gwR [88] ?_ | refine gwD [88] ?_); intro Q hQ hP; simp [hC, hY, hne]; (repeat ((first | (refine heapK_mv (why_fun b off n cap f h g bx tp nr md) G0F (B := 200) (oneL_ok h.fx) (fun k => k) (fun k hk => rfl) (by simp [ren, renA, renF, ren0, cfV]) (by simp) (by simp [hr]) (by simp [keys]) (by simp [keys]; rfl) ?_)); try simp [hC, hY, hne])); refine hQ _ _ _ _ (by kernel_rfl) ?_; clear hQ hP Q) | (refine gwC ?_ ?_ <;> (intro hb; first | (cases hb; done) | skip)))
  refine ⟨.inr rfl, by simp [Tryz.results65], kpS G0F⟩
 | false =>
  rw [hc] at hne
  unfold cfV
  repeat' (first | refine gwA ?_ | ((first | refine gwR [88] ?_ | refine gwD [88] ?_); intro Q hQ hP; simp [hC, hY, hne]; (repeat ((first | (refine heapK_mv (why_fun b off n cap f h g bx tp nr md) G0F (B := 200) (oneL_ok h.fx) (fun k => k) (fun k hk => rfl) (by simp [ren, renA, renF, ren0, cfV]) (by simp) (by simp [hr]) (by simp [keys]) (by simp [keys]; rfl) ?_)); try simp [hC, hY, hne])); refine hQ _ _ _ _ (by kernel_rfl) ?_; clear hQ hP Q) | (refine gwC ?_ ?_ <;> (intro hb; first | (cases hb; done) | skip)))
  refine ⟨.inr rfl, by simp [Tryz.results65], kpS G0F⟩
theorem check0_fun (b : Blk) (hb : b.fx) (g bx tp nr md : Int) :
  Fun Tryz.prog G0 65 #[cfV (.slice none 0 0) g bx tp nr md] (hpL G0 [(100, b)]) (keys [(100, b)]) (.ret (.int .i64 110) []) := by
 refine fun_ofL (B := 200) G0F Tryz.func65 rfl Tryz.call65 (oneL_ok hb) ?_ (by simp) (by simp) (by simp) (by simp [Tryz.ntmps65]) (by omega) ?_
 ·simp [idsV, idsA, idsF, ids0, keys, cfV]
 intro C hC hC0 hY
 have hr := fun ρ => Blk.fx_rn hb ρ
 have hne : sneB ⟨#[98, 111, 100, 105, 101, 115]⟩ ⟨#[]⟩ = true := by decide +kernel
 unfold cfV
 repeat' (first | refine gwA ?_ | ((first | refine gwR [88] ?_ | refine gwD [88] ?_); intro Q hQ hP; simp [hC, hY, hne]; (repeat ((first | (refine heapK_mv (why0_fun b hb g bx tp nr md) G0F (B := 200) (oneL_ok hb) (fun k => k) (fun k hk => rfl) (by simp [ren, renA, renF, ren0, cfV]) (by simp) (by simp [hr]) (by simp [keys]) (by simp [keys]; rfl) ?_)); try simp [hC, hY, hne])); refine hQ _ _ _ _ (by kernel_rfl) ?_; clear hQ hP Q) | (refine gwC ?_ ?_ <;> (intro hb; first | (cases hb; done) | skip)))
 refine ⟨.inr rfl, by simp [Tryz.results65], kpS G0F⟩
end Go.Gy
namespace Go.Gy
set_option linter.unusedSimpArgs false
set_option linter.unusedVariables false
open Go Go.RowKit
structure TI (N : List (Nat × Nat)) (V : Nat → Value) (X : List (Nat × Nat)) (Bk : Nat → Blk) (ts0 : Nat → Value) (hp0 : Hp) (listed : Array Bool) (ts : Nat → Value) (hp : Hp) : Prop where
 t0 : ∀ t, t ∉ N.map Prod.snd → ts t = ts0 t
 tm : ∀ p ∈ N, listed[p.1]? = some true → ts p.2 = V p.1
 h0 : ∀ k, k ∉ X.map Prod.snd → hp k = hp0 k
 bx : ∀ q ∈ X, listed[q.1]? = some true → hp q.2 = some (Bk q.1)
theorem ti_set {listed : Array Bool} {i j : Nat} (h : (listed.setIfInBounds i true)[j]? = some true) : j = i ∨ listed[j]? = some true := by
 rw [Array.getElem?_setIfInBounds] at h
 split at h
 ·rename_i e; exact .inl e.symm
 ·exact .inr h
theorem ti_snd {N : List (Nat × Nat)} (h : (N.map Prod.snd).Nodup) {p q : Nat × Nat} (hp : p ∈ N) (hq : q ∈ N) (e : p.2 = q.2) : p = q := by
 induction N with
 | nil => cases hp
 | cons a l ih =>
  simp only [List.map_cons, List.nodup_cons] at h
  rcases List.mem_cons.1 hp with rfl | hp1 <;> rcases List.mem_cons.1 hq with rfl | hq1
  ·rfl
  ·exact absurd (List.mem_map.2 ⟨q, hq1, e.symm⟩) h.1
  ·exact absurd (List.mem_map.2 ⟨p, hp1, e⟩) h.1
  ·exact ih h.2 hp1 hq1
theorem ti_fst {N : List (Nat × Nat)} (h : (N.map Prod.fst).Nodup) {p q : Nat × Nat} (hp : p ∈ N) (hq : q ∈ N) (e : p.1 = q.1) : p = q := by
 induction N with
 | nil => cases hp
 | cons a l ih =>
  simp only [List.map_cons, List.nodup_cons] at h
  rcases List.mem_cons.1 hp with rfl | hp1 <;> rcases List.mem_cons.1 hq with rfl | hq1
  ·rfl
  ·exact absurd (List.mem_map.2 ⟨q, hq1, e.symm⟩) h.1
  ·exact absurd (List.mem_map.2 ⟨p, hp1, e⟩) h.1
  ·exact ih h.2 hp1 hq1
section
variable {N X : List (Nat × Nat)} {V : Nat → Value} {Bk : Nat → Blk} {ts0 ts : Nat → Value} {hp0 hp : Hp} {listed : Array Bool}
theorem TI.tmp (hN1 : (N.map Prod.fst).Nodup) (hN2 : (N.map Prod.snd).Nodup) (h : TI N V X Bk ts0 hp0 listed ts hp) {i t : Nat} {v : Value} (hm : (i, t) ∈ N) (hv : V i = v) (hx : i ∉ X.map Prod.fst) : TI N V X Bk ts0 hp0 (listed.setIfInBounds i true) (upd ts t v) hp := by
 refine ⟨fun u hu => ?_, fun p hp1 hl => ?_, h.h0, fun q hq hl => ?_⟩
 ·rw [upd_other _ _ (fun e => hu (List.mem_map.2 ⟨_, hm, e.symm⟩))]
  exact h.t0 u hu
 ·by_cases e : p.2 = t
  ·have := ti_snd hN2 hp1 hm e
   subst this
   rw [← hv]
   exact upd_same _ _ _
  ·rw [upd_other _ _ e]
   rcases ti_set hl with e1 | h1
   ·exact absurd (congrArg Prod.snd (ti_fst hN1 hp1 hm e1)) e
   ·exact h.tm p hp1 h1
 ·rcases ti_set hl with e1 | h1
  ·exact absurd (List.mem_map.2 ⟨q, hq, e1⟩) hx
  ·exact h.bx q hq h1
theorem TI.new (hN1 : (N.map Prod.fst).Nodup) (hN2 : (N.map Prod.snd).Nodup) (hX1 : (X.map Prod.fst).Nodup) (hX2 : (X.map Prod.snd).Nodup) (h : TI N V X Bk ts0 hp0 listed ts hp) {i t k : Nat} {v : Value} {b : Blk} (hm : (i, t) ∈ N) (hv : V i = v) (hx : (i, k) ∈ X) (hb : Bk i = b) : TI N V X Bk ts0 hp0 (listed.setIfInBounds i true) (upd ts t v) (upd hp k (some b)) := by
 refine ⟨fun u hu => ?_, fun p hp1 hl => ?_, fun u hu => ?_, fun q hq hl => ?_⟩
 ·rw [upd_other _ _ (fun e => hu (List.mem_map.2 ⟨_, hm, e.symm⟩))]
  exact h.t0 u hu
 ·by_cases e : p.2 = t
  ·have := ti_snd hN2 hp1 hm e
   subst this
   rw [← hv]
   exact upd_same _ _ _
  ·rw [upd_other _ _ e]
   rcases ti_set hl with e1 | h1
   ·exact absurd (congrArg Prod.snd (ti_fst hN1 hp1 hm e1)) e
   ·exact h.tm p hp1 h1
 ·rw [upd_other _ _ (fun e => hu (List.mem_map.2 ⟨_, hx, e.symm⟩))]
  exact h.h0 u hu
 ·by_cases e : q.2 = k
  ·have := ti_snd hX2 hq hx e
   subst this
   rw [← hb]
   exact upd_same _ _ _
  ·rw [upd_other _ _ e]
   rcases ti_set hl with e1 | h1
   ·exact absurd (congrArg Prod.snd (ti_fst hX1 hq hx e1)) e
   ·exact h.bx q hq h1
end
section
variable {P : Program} {C : Ctx} {n : Nat} {d : List Deferred} {ro : Option Nat} {K : Exit → GS → Prop}
end
structure TJ (N X D : List (Nat × Nat)) (V : Nat → Value) (Bk : Nat → Blk) (ts0 : Nat → Value) (hp0 : Hp) (listed : Array Bool) (ts : Nat → Value) (hp : Hp) : Prop where
 t0 : ∀ t, t ∉ N.map Prod.snd → ts t = ts0 t
 tm : ∀ p ∈ N, listed[p.1]? = some true → ts p.2 = V p.1
 h0 : ∀ k, (∀ q ∈ X, q.2 = k → listed[q.1]? ≠ some true) → hp k = hp0 k
 bx : ∀ q ∈ X, listed[q.1]? = some true → (∀ q' ∈ X, q'.2 = q.2 → q.1 < q'.1 → listed[q'.1]? ≠ some true) → hp q.2 = some (Bk q.1)
 cl : ∀ p ∈ D, listed[p.1]? = some true → listed[p.2]? = some true
theorem tj_set {listed : Array Bool} {i j : Nat} (hi : listed[i]? = some false) : (listed.setIfInBounds i true)[j]? = some true ↔ j = i ∨ listed[j]? = some true := by
 rw [Array.getElem?_setIfInBounds]
 have := (Array.getElem?_eq_some_iff.1 hi).1
 split
 ·rename_i e
  subst e
  simp [this]
 ·rename_i e
  exact ⟨.inr, fun h => h.resolve_left fun x => e x.symm⟩
section
variable {N X D : List (Nat × Nat)} {V : Nat → Value} {Bk : Nat → Blk} {ts0 ts : Nat → Value} {hp0 hp : Hp} {listed : Array Bool}
theorem TJ.ext (h : TJ N X D V Bk ts0 hp0 listed ts hp) {k : Nat} (hk : k ∉ X.map Prod.snd) : hp k = hp0 k := h.h0 k fun q hq e => absurd (List.mem_map.2 ⟨q, hq, e⟩) hk
theorem TJ.put (hN1 : (N.map Prod.fst).Nodup) (hN2 : (N.map Prod.snd).Nodup) (h : TJ N X D V Bk ts0 hp0 listed ts hp) {i t : Nat} {v : Value} (hi : listed[i]? = some false) (hm : (i, t) ∈ N) (hv : V i = v) : (∀ u, u ∉ N.map Prod.snd → upd ts t v u = ts0 u) ∧ ∀ p ∈ N, (listed.setIfInBounds i true)[p.1]? = some true → upd ts t v p.2 = V p.1 := by
 refine ⟨fun u hu => ?_, fun p hp1 hl => ?_⟩
 ·rw [upd_other _ _ (fun e => hu (List.mem_map.2 ⟨_, hm, e.symm⟩))]
  exact h.t0 u hu
 ·by_cases e : p.2 = t
  ·have := ti_snd hN2 hp1 hm e
   subst this
   rw [← hv]
   exact upd_same _ _ _
  ·rw [upd_other _ _ e]
   rcases (tj_set hi).1 hl with e1 | h1
   ·exact absurd (congrArg Prod.snd (ti_fst hN1 hp1 hm e1)) e
   ·exact h.tm p hp1 h1
theorem TJ.cls (h : TJ N X D V Bk ts0 hp0 listed ts hp) {i : Nat} (hi : listed[i]? = some false) (hd : ∀ p ∈ D, p.1 = i → listed[p.2]? = some true) : ∀ p ∈ D, (listed.setIfInBounds i true)[p.1]? = some true → (listed.setIfInBounds i true)[p.2]? = some true := fun p hp1 hl =>
 (tj_set hi).2 (.inr (((tj_set hi).1 hl).elim (hd p hp1) (h.cl p hp1)))
theorem TJ.tmp (hN1 : (N.map Prod.fst).Nodup) (hN2 : (N.map Prod.snd).Nodup) (h : TJ N X D V Bk ts0 hp0 listed ts hp) {i t : Nat} {v : Value} (hi : listed[i]? = some false) (hd : ∀ p ∈ D, p.1 = i → listed[p.2]? = some true) (hm : (i, t) ∈ N) (hv : V i = v) (hx : i ∉ X.map Prod.fst) : TJ N X D V Bk ts0 hp0 (listed.setIfInBounds i true) (upd ts t v) hp := by
 obtain ⟨a, b⟩ := h.put hN1 hN2 hi hm hv
 refine ⟨a, b, fun k hk => h.h0 k fun q hq e hl => hk q hq e ((tj_set hi).2 (.inr hl)), fun q hq hl hl2 => ?_, h.cls hi hd⟩
 rcases (tj_set hi).1 hl with e1 | h1
 ·exact absurd (List.mem_map.2 ⟨q, hq, e1⟩) hx
 ·exact h.bx q hq h1 fun q' hq' e hlt hl' => hl2 q' hq' e hlt ((tj_set hi).2 (.inr hl'))
theorem TJ.blk (hX1 : (X.map Prod.fst).Nodup) (h : TJ N X D V Bk ts0 hp0 listed ts hp) {i k : Nat} {b : Blk} (hi : listed[i]? = some false) (hx : (i, k) ∈ X) (hb : Bk i = b) (ho : ∀ q ∈ X, q.2 = k → i < q.1 → (q.1, i) ∈ D) :
  (∀ u, (∀ q ∈ X, q.2 = u → (listed.setIfInBounds i true)[q.1]? ≠ some true) → upd hp k (some b) u = hp0 u) ∧ ∀ q ∈ X, (listed.setIfInBounds i true)[q.1]? = some true → (∀ q' ∈ X, q'.2 = q.2 → q.1 < q'.1 → (listed.setIfInBounds i true)[q'.1]? ≠ some true) → upd hp k (some b) q.2 = some (Bk q.1) := by
 refine ⟨fun u hu => ?_, fun q hq hl hl2 => ?_⟩
 ·rw [upd_other _ _ (fun e => hu _ hx e.symm ((tj_set hi).2 (.inl rfl)))]
  exact h.h0 u fun q hq e hl => hu q hq e ((tj_set hi).2 (.inr hl))
 ·by_cases e : q.2 = k
  ·have e2 : q.1 = i := by
    rcases (tj_set hi).1 hl with e1 | h1
    ·exact e1
    ·rcases Nat.lt_trichotomy q.1 i with c | c | c
     ·exact absurd ((tj_set hi).2 (.inl rfl)) (hl2 _ hx e.symm c)
     ·exact c
     ·have := h.cl _ (ho q hq e c) h1
      rw [hi] at this
      cases this
   have := ti_fst hX1 hq hx e2
   subst this
   rw [← hb]
   exact upd_same _ _ _
  ·rw [upd_other _ _ e]
   rcases (tj_set hi).1 hl with e1 | h1
   ·exact absurd (congrArg Prod.snd (ti_fst hX1 hq hx e1)) e
   ·exact h.bx q hq h1 fun q' hq' e hlt hl' => hl2 q' hq' e hlt ((tj_set hi).2 (.inr hl'))
theorem TJ.new (hN1 : (N.map Prod.fst).Nodup) (hN2 : (N.map Prod.snd).Nodup) (hX1 : (X.map Prod.fst).Nodup) (h : TJ N X D V Bk ts0 hp0 listed ts hp) {i t k : Nat} {v : Value} {b : Blk} (hi : listed[i]? = some false) (hd : ∀ p ∈ D, p.1 = i → listed[p.2]? = some true) (hm : (i, t) ∈ N) (hv : V i = v) (hx : (i, k) ∈ X) (hb : Bk i = b) (ho : ∀ q ∈ X, q.2 = k → i < q.1 → (q.1, i) ∈ D) : TJ N X D V Bk ts0 hp0 (listed.setIfInBounds i true) (upd ts t v) (upd hp k (some b)) := by
 obtain ⟨a1, a2⟩ := h.put hN1 hN2 hi hm hv
 obtain ⟨b1, b2⟩ := h.blk hX1 hi hx hb ho
 exact ⟨a1, a2, b1, b2, h.cls hi hd⟩
end
structure LTwo (G : Hp) (L : List (Nat × Blk)) (ks : Nat) (b b2 : Blk) : Prop where
 ok : LOk L 200
 fx : ∀ p ∈ L, p.2.fx
 ka : (100, b) ∈ L
 kb : (ks, b2) ∈ L
 k8 : ks = 100 ∨ ks = 108
section
variable {G : Hp} {L : List (Nat × Blk)} {ks : Nat} {b b2 : Blk}
theorem LTwo.mem (h : LTwo G L ks b b2) (p : Nat × Blk) (hp : p ∈ L) : hpL G L p.1 = some p.2 := LOk.at h.ok.one p hp
theorem LTwo.a (h : LTwo G L ks b b2) : hpL G L 100 = some b := h.mem _ h.ka
theorem LTwo.s (h : LTwo G L ks b b2) : hpL G L ks = some b2 := h.mem _ h.kb
theorem LTwo.k1 (h : LTwo G L ks b b2) : 100 ≤ ks := (h.ok.big _ h.kb).1
theorem LTwo.k2 (h : LTwo G L ks b b2) : ks < 200 := (h.ok.big _ h.kb).2
theorem LTwo.ne (h : LTwo G L ks b b2) (k : Nat) (hk : 200 ≤ k) : (ks = k) = False := by
 have := h.k2
 simp only [eq_iff_iff, iff_false]
 omega
theorem LTwo.low (h : LTwo G L ks b b2) (k : Nat) (hk : k < 100) : hpL G L k = G k := h.ok.low k hk
theorem LTwo.ia (h : LTwo G L ks b b2) : 100 ∈ keys L := mem_keys.2 ⟨_, h.ka, rfl⟩
theorem LTwo.ib (h : LTwo G L ks b b2) : ks ∈ keys L := mem_keys.2 ⟨_, h.kb, rfl⟩
theorem LTwo.two {b b2 : Blk} (h : b.fx) (h2 : b2.fx) : LTwo G [(100, b), (108, b2)] 108 b b2 := by
 refine ⟨⟨by simp, by simp [keys], ?_⟩, ?_, by simp, by simp, .inr rfl⟩
 ·simp only [List.mem_cons, List.not_mem_nil, or_false, forall_eq_or_imp, forall_eq]
  exact ⟨Blk.fx_ids h _, Blk.fx_ids h2 _⟩
 ·simp only [List.mem_cons, List.not_mem_nil, or_false, forall_eq_or_imp, forall_eq]
  exact ⟨h, h2⟩
theorem LTwo.one {b : Blk} (h : b.fx) : LTwo G [(100, b)] 100 b b := by
 refine ⟨⟨by simp, by simp [keys], ?_⟩, ?_, by simp, by simp, .inl rfl⟩
 ·simp only [List.mem_cons, List.not_mem_nil, or_false, forall_eq]
  exact Blk.fx_ids h _
 ·simp only [List.mem_cons, List.not_mem_nil, or_false, forall_eq]
  exact h
end
theorem weakLL {C : Ctx} {G : Hp} {s : GS} {m L : List (Nat × Blk)} (l : List (Nat × Value)) (B : Nat) (hG : C.G = G) (hGF : GFlat G) (hL : LOk L 200) (hfx : ∀ p ∈ L, p.2.fx) (h0 : C.hp0 = hpL G L) (hB : 200 ≤ B) (hl : ∀ p ∈ l, s.ts p.1 = p.2 ∧ idsV (dom (hpL G (m ++ L))) p.2)
  (hm : ∀ p ∈ m, s.hp p.1 = some p.2 ∧ p.2.ids (dom (hpL G (m ++ L))) ∧ 200 ≤ p.1 ∧ p.1 < B) (hk : ∀ p ∈ L, s.hp p.1 = some p.2) : Weak C s ⟨tsL l, hpL G (m ++ L), B, s.yc⟩ := by
 refine weakL l B hG hGF h0 (by omega) hl (fun p hp => ?_) (fun p hp => ?_)
 ·rcases List.mem_append.1 hp with h | h
  ·have := hm p h
   exact ⟨this.1, this.2.1, by omega, this.2.2.2⟩
  ·have := hL.big p h
   exact ⟨hk p h, Blk.fx_ids (hfx p h) _, this.1, by omega⟩
 ·have hb := hL.big p hp
  refine ⟨hb.1, ?_⟩
  rw [hk p hp]
  have key : ∀ (m : List (Nat × Blk)), (∀ q ∈ m, 200 ≤ q.1) → hpL G (m ++ L) p.1 = some p.2 := by
   intro m
   induction m with
   | nil => intro _; exact LOk.at hL.one p hp
   | cons q m ih =>
    intro hq
    obtain ⟨k, c⟩ := q
    rw [List.cons_append, hpL_cons]
    have := hq (k, c) (by simp)
    simp only at this
    rw [if_neg (by omega)]
    exact ih fun q h => hq q (List.mem_cons_of_mem _ h)
  exact key m fun q hq => (hm q hq).2.2.1
theorem heapK_L {P : Program} {G : Hp} {L : List (Nat × Blk)} {f : FuncId} {args : Array Value} {v : Value} {hp : Hp} {nk : Nat} {K : Eff → Prop} (h : Fun P G f args (hpL G L) (keys L) (.ret v [])) (hL : LOk L 200) (hm : ∀ p ∈ L, hp p.1 = some p.2) (hK : K ((Res.ret v []).eff (keys L))) : heapK P G f args hp nk K := by
 refine heapK_of h (fun k hk => ?_) hL.low trivial hK
 obtain ⟨p, hp1, rfl⟩ := mem_keys.1 hk
 rw [LOk.at hL.one p hp1, hm p hp1]
theorem dom_app {G : Hp} {m L : List (Nat × Blk)} {k : Nat} (h : k ∈ keys L) : dom (hpL G (m ++ L)) k := by
 induction m with
 | nil =>
  obtain ⟨p, hp, rfl⟩ := mem_keys.1 h
  rw [List.nil_append]
  unfold dom
  induction L with
  | nil => cases hp
  | cons q L ih =>
   obtain ⟨k, c⟩ := q
   rw [hpL_cons]
   by_cases e : p.1 = k
   ·rw [if_pos e]; simp
   ·rw [if_neg e]
    refine ih ?_ ?_
    ·rcases List.mem_cons.1 hp with e1 | h1
     ·exact absurd (congrArg Prod.fst e1) e
     ·exact h1
    ·rcases List.mem_cons.1 hp with e1 | h1
     ·exact absurd (congrArg Prod.fst e1) e
     ·exact mem_keys.2 ⟨p, h1, rfl⟩
 | cons q m ih =>
  obtain ⟨j, c⟩ := q
  unfold dom
  rw [List.cons_append, hpL_cons]
  split
  ·simp
  ·exact ih
end Go.Gy
namespace Go.Gy
set_option linter.unusedSimpArgs false
set_option linter.unusedVariables false
open Go Go.RowKit Go.Proofs
def fitB (n n2 : Nat) (okc rt : Bool) : Bool := decide (n = n2) && (okc && rt)
set_option maxRecDepth 8000 in
set_option maxHeartbeats 2000000 in
theorem kFits_L (L : List (Nat × Blk)) (ks : Nat) (bm bs : Blk) (hT : LTwo G0 L ks bm bs) (off n cap off2 n2 cap2 : Nat) (fm fs : Nat → Int) (hm : MB bm off n fm) (hSb : SB bs off2 n2 fs) (g bx tp nr md st : Int) (hs : i64 st) :
  Fun Tryz.prog G0 34 #[cfV (.slice (some ⟨100, off, none⟩) n cap) g bx tp nr md, .agg #[.int .i64 st, .slice (some ⟨ks, off2, none⟩) n2 cap2]] (hpL G0 L) (keys L) (.ret (.bool (fitB n n2 (cfOk n fm g bx tp nr md) (rightB st fs n2))) []) := by
 refine fun_ofL (B := 200) G0F Tryz.func34 rfl Tryz.call34 hT.ok ?_ (by simp) (by simp) (by simp) (by simp [Tryz.ntmps34]) (by omega) ?_
 ·simp [idsV, idsA, idsF, ids0, hT.ia, hT.ib, cfV]
 intro C hC hC0 hY
 have hA := hT.a
 have hS := hT.s
 have hne := hT.ne
 have hLow := hT.low
 have hks := hT.k1
 have hks2 := hT.k2
 have hrm := fun ρ => Blk.fx_rn hm.fx ρ
 have hrs := fun ρ => Blk.fx_rn hSb.fx ρ
 have hck := check_fun bm off n cap fm hm g bx tp nr md
 have hri := rig_fun bs off2 n2 cap2 fs hSb st hs
 unfold fitB
 unfold cfV at hck ⊢
 by_cases hn : n = n2
 ·have hn' : (n : Int) = (n2 : Int) := by omega
  have hnb : ((n : Int) == (n2 : Int)) = true := by simpa using hn'
  rw [decide_eq_true hn]
  cases hc : cfOk n fm g bx tp nr md with
  | false =>
   rw [hc] at hck
   repeat' (first | refine gwA ?_ | ((first | refine gwR [65, 66] ?_ | refine gwD [65, 66] ?_); intro Q hQ hP; simp [hC, hY, hA, hS, hne, hn', hnb]; (repeat ((first | (refine heapK_mv hck G0F (B := 200) (oneL_ok hm.fx) (fun k => k) (fun k hk => rfl) (by simp [ren, renA, renF, ren0, cfV]) (by simp) (by simp [hrm, hA]) (by simp [keys]) (by simp [keys]; rfl) ?_)); try simp [hC, hY, hA, hS, hne, hn', hnb])); refine hQ _ _ _ _ (by kernel_rfl) ?_; clear hQ hP Q) | (refine gwC ?_ ?_ <;> (intro hb; first | (cases hb; done) | skip)))
   refine ⟨.inr rfl, by simp [Tryz.results34], kpT G0F⟩
  | true =>
   rw [hc] at hck
   repeat' (first | refine gwA ?_ | ((first | refine gwR [65, 66] ?_ | refine gwD [65, 66] ?_); intro Q hQ hP; simp [hC, hY, hA, hS, hne, hn', hnb]; (repeat ((first | (refine heapK_mv hck G0F (B := 200) (oneL_ok hm.fx) (fun k => k) (fun k hk => rfl) (by simp [ren, renA, renF, ren0, cfV]) (by simp) (by simp [hrm, hA]) (by simp [keys]) (by simp [keys]; rfl) ?_) | (refine heapK_mv hri G0F (B := 200) (oneL_ok hSb.fx) (fun k => if k = 100 then ks else k) (fun k hk => if_neg (by omega)) (by simp [ren, renA, renF, ren0]) (by simp) (by simp [hrs, hS, hne, hks]) (by simp [keys]) (by simp [keys]; rfl) ?_)); try simp [hC, hY, hA, hS, hne, hn', hnb])); refine hQ _ _ _ _ (by kernel_rfl) ?_; clear hQ hP Q) | (refine gwC ?_ ?_ <;> (intro hb; first | (cases hb; done) | skip)))
   refine ⟨.inr rfl, by simp [Tryz.results34], kpT G0F⟩
 ·have hn' : ¬ (n : Int) = (n2 : Int) := by omega
  have hnb : ((n : Int) == (n2 : Int)) = false := by simpa using hn'
  rw [decide_eq_false hn]
  repeat' (first | refine gwA ?_ | ((first | refine gwR [] ?_ | refine gwD [] ?_); intro Q hQ hP; simp [hC, hY, hA, hS, hne, hn', hnb]; refine hQ _ _ _ _ (by kernel_rfl) ?_; clear hQ hP Q) | (refine gwC ?_ ?_ <;> (intro hb; first | (cases hb; done) | skip)))
  refine ⟨.inr rfl, by simp [Tryz.results34], kpT G0F⟩
end Go.Gy
namespace Go.Gy
set_option linter.unusedSimpArgs false
set_option linter.unusedVariables false
open Go Go.RowKit
theorem weakRLL {C : Ctx} {G : Hp} {s : GS} {m L : List (Nat × Blk)} (ρ : Nat → Nat) (l : List (Nat × Value)) (B : Nat) (hG : C.G = G) (hGF : GFlat G) (hL : LOk L 200) (hfx : ∀ p ∈ L, p.2.fx) (h0 : C.hp0 = hpL G L) (hB : 200 ≤ B)
  (hl : ∀ p ∈ l, s.ts p.1 = ren ρ p.2 ∧ s.ts p.1 ≠ junk ∧ idsV (dom (hpL G (m ++ L))) p.2)
  (hm : ∀ p ∈ m, s.hp (ρ p.1) = some (p.2.rn ρ) ∧ p.2.ids (dom (hpL G (m ++ L))) ∧ 200 ≤ p.1 ∧ p.1 < B ∧ 200 ≤ ρ p.1)
  (hi : ∀ p ∈ m, ∀ q ∈ m, ρ p.1 = ρ q.1 → p.1 = q.1) (hid : ∀ k, k < 200 → ρ k = k) (hk : ∀ p ∈ L, s.hp p.1 = some p.2) : WeakR C ρ s ⟨tsL l, hpL G (m ++ L), B, s.yc⟩ := by
 refine weakRL ρ l B hG hGF h0 (by omega) hl (fun p hp => ?_) (fun p hp q hq e => ?_) (fun k hk => hid k (by omega)) (fun p hp => ?_)
 ·rcases List.mem_append.1 hp with h | h
  ·have := hm p h
   exact ⟨this.1, this.2.1, by omega, this.2.2.2.1, by omega⟩
  ·have hb := hL.big p h
   rw [hid p.1 hb.2, Blk.fx_rn (hfx p h) ρ]
   exact ⟨hk p h, Blk.fx_ids (hfx p h) _, hb.1, by omega, hb.1⟩
 ·rcases List.mem_append.1 hp with h | h <;> rcases List.mem_append.1 hq with h' | h'
  ·exact hi p h q h' e
  ·have := (hm p h).2.2.2.2
   have hb := hL.big q h'
   rw [hid q.1 hb.2] at e
   omega
  ·have := (hm q h').2.2.2.2
   have hb := hL.big p h
   rw [hid p.1 hb.2] at e
   omega
  ·rw [hid p.1 (hL.big p h).2, hid q.1 (hL.big q h').2] at e
   exact e
 ·have hb := hL.big p hp
  exact ⟨hb.1, dom_app (mem_keys.2 ⟨p, hp, rfl⟩), hid p.1 hb.2⟩
end Go.Gy
namespace Go.Gy
set_option linter.unusedSimpArgs false
set_option linter.unusedVariables false
open Go Go.RowKit Go.Proofs
theorem sub1_ret (x y : Int) : Ret Tryz.prog G0 110 #[.int .i64 x, .int .i64 y] (.int .i64 (Int.bmod (x - y) 18446744073709551616)) := by
 refine ret_of G0F Tryz.func110 rfl Tryz.call110 (by simp) (by simp) (by simp [Tryz.ntmps110]) ?_
 intro C hC hC0 hY
 repeat' (first | refine gwA ?_ | ((first | refine gwR [] ?_ | refine gwD [] ?_); intro Q hQ hP; simp [hC, hY]; refine hQ _ _ _ _ (by kernel_rfl) ?_; clear hQ hP Q) | (refine gwC ?_ ?_ <;> (intro hb; first | (cases hb; done) | skip)))
 refine ⟨.inr trivial, ?_⟩
 simp [Tryz.results110]
@[simp] theorem vsub1 (x y : Int) (K : Value → Prop) : callK Tryz.prog G0 110 #[.int .i64 x, .int .i64 y] K ↔ K (.int .i64 (Int.bmod (x - y) 18446744073709551616)) := callK_iff G0W (by kernel_rfl) (sub1_ret x y)
def subI (a b : Int) : Int := a - b
theorem fn_bs {a b : Int} (h1 : fnI a) (h2 : fnI b) : Int.bmod (a - b) 18446744073709551616 = a - b := by
 obtain ⟨h1, h3⟩ := h1
 obtain ⟨h2, h4⟩ := h2
 exact bm (by omega) (by omega)
theorem sub_ret (a0 a1 a2 b0 b1 b2 : Int) : Ret Tryz.prog G0 91 #[.agg #[.int .i64 a0, .int .i64 a1, .int .i64 a2], .agg #[.int .i64 b0, .int .i64 b1, .int .i64 b2]]
  (.tuple #[.agg #[.int .i64 (eaV (eaE subI a0 a1 a2 b0 b1 b2) (subI a0 b0)), .int .i64 (eaV (eaE subI a0 a1 a2 b0 b1 b2) (subI a1 b1)), .int .i64 (eaV (eaE subI a0 a1 a2 b0 b1 b2) (subI a2 b2))], .int .i64 (eaE subI a0 a1 a2 b0 b1 b2)]) := by
 refine ret_of G0F Tryz.func91 rfl Tryz.call91 (by simp) (by simp) (by simp [Tryz.ntmps91]) ?_
 intro C hC hC0 hY
 have he := fun K => veach 110 subI (fun x y K hx hy => by rw [vsub1, fn_bs hx hy]; rfl) a0 a1 a2 b0 b1 b2 K
 repeat' (first | refine gwA ?_ | ((first | refine gwR [] ?_ | refine gwD [] ?_); intro Q hQ hP; simp [hC, hY, he]; refine hQ _ _ _ _ (by kernel_rfl) ?_; clear hQ hP Q) | (refine gwC ?_ ?_ <;> (intro hb; first | (cases hb; done) | skip)))
 refine ⟨.inr trivial, ?_⟩
 simp [Tryz.results91]
@[simp] theorem vsub (a0 a1 a2 b0 b1 b2 : Int) (K : Value → Prop) : callK Tryz.prog G0 91 #[.agg #[.int .i64 a0, .int .i64 a1, .int .i64 a2], .agg #[.int .i64 b0, .int .i64 b1, .int .i64 b2]] K ↔
  K (.tuple #[.agg #[.int .i64 (eaV (eaE subI a0 a1 a2 b0 b1 b2) (subI a0 b0)), .int .i64 (eaV (eaE subI a0 a1 a2 b0 b1 b2) (subI a1 b1)), .int .i64 (eaV (eaE subI a0 a1 a2 b0 b1 b2) (subI a2 b2))], .int .i64 (eaE subI a0 a1 a2 b0 b1 b2)]) := callK_iff G0W (by kernel_rfl) (sub_ret a0 a1 a2 b0 b1 b2)
def dtE (a0 a1 a2 b0 b1 b2 : Int) : Int := if (fnI a0 ∧ fnI a1 ∧ fnI a2) ∧ fnI b0 ∧ fnI b1 ∧ fnI b2 then 0 else 20
def dtV (a0 a1 a2 b0 b1 b2 : Int) : Int := if (fnI a0 ∧ fnI a1 ∧ fnI a2) ∧ fnI b0 ∧ fnI b1 ∧ fnI b2 then a0 * b0 + a1 * b1 + a2 * b2 else 0
theorem fn_mul {a b : Int} (h1 : fnI a) (h2 : fnI b) : -288230376151711744 ≤ a * b ∧ a * b ≤ 288230376151711744 := by
 obtain ⟨h1, h3⟩ := h1
 obtain ⟨h2, h4⟩ := h2
 have h5 : (a * b).natAbs ≤ 536870912 * 536870912 := by
  rw [Int.natAbs_mul]
  exact Nat.mul_le_mul (by omega) (by omega)
 omega
def dtS (a0 a1 a2 b0 b1 b2 : Int) : Nat → Int
 | 0 => 0
 | 1 => a0 * b0
 | 2 => a0 * b0 + a1 * b1
 | _ => a0 * b0 + a1 * b1 + a2 * b2
def dtL (a0 a1 a2 b0 b1 b2 : Int) (i : Nat) : List (Nat × Blk) := [(200, ⟨#[.int .i64 a0, .int .i64 a1, .int .i64 a2], .ty 51⟩), (208, ⟨#[.int .i64 b0, .int .i64 b1, .int .i64 b2], .ty 51⟩), (216, jb (dtS a0 a1 a2 b0 b1 b2 i))]
set_option maxRecDepth 8000 in
theorem dot_ret (a0 a1 a2 b0 b1 b2 : Int) : Ret Tryz.prog G0 35 #[.agg #[.int .i64 a0, .int .i64 a1, .int .i64 a2], .agg #[.int .i64 b0, .int .i64 b1, .int .i64 b2]]
  (.tuple #[.int .i64 (dtV a0 a1 a2 b0 b1 b2), .int .i64 (dtE a0 a1 a2 b0 b1 b2)]) := by
 refine ret_of G0F Tryz.func35 rfl Tryz.call35 (by simp) (by simp) (by simp [Tryz.ntmps35]) ?_
 intro C hC hC0 hY
 obtain ⟨v, hv⟩ : ∃ v : Bool, v = true ↔ (fnI a0 ∧ fnI a1 ∧ fnI a2) ∧ fnI b0 ∧ fnI b1 ∧ fnI b2 := ⟨decide _, decide_eq_true_iff⟩
 cases v with
 | false =>
  have e : dtE a0 a1 a2 b0 b1 b2 = 20 := by unfold dtE; rw [if_neg]; intro h; exact absurd (hv.2 h) (by simp)
  have e2 : dtV a0 a1 a2 b0 b1 b2 = 0 := by unfold dtV; rw [if_neg]; intro h; exact absurd (hv.2 h) (by simp)
  rw [e, e2]
  repeat' (first | refine gwA ?_ | ((first | refine gwR [67] ?_ | refine gwD [67] ?_); intro Q hQ hP; simp [hC, hY]; (repeat ((first | (refine heapK_mv (fine2_fun a0 a1 a2 b0 b1 b2 _ hv) G0F (B := 200) ⟨by simp, by simp [keys], by simp [ids_lit, idsF, ids0]⟩ (fun k => if k = 100 then 248 else k) (fun k hk => if_neg (by omega)) (by simp [ren, renA, renF, ren0]) (by simp) (by simp [Blk.rn, renF, ren0]) (by simp [keys]) (by simp [keys]; rfl) ?_)); try simp [hC, hY])); refine hQ _ _ _ _ (by kernel_rfl) ?_; clear hQ hP Q) | (refine gwC ?_ ?_ <;> (intro hb; first | (cases hb; done) | skip)))
  refine ⟨.inr trivial, ?_⟩
  simp [Tryz.results35]
 | true =>
  have e : dtE a0 a1 a2 b0 b1 b2 = 0 := by unfold dtE; rw [if_pos]; exact hv.1 rfl
  have e2 : dtV a0 a1 a2 b0 b1 b2 = a0 * b0 + a1 * b1 + a2 * b2 := by unfold dtV; rw [if_pos]; exact hv.1 rfl
  rw [e, e2]
  repeat' (first | refine gwA ?_ | ((first | refine gwR [67,68] ?_ | refine gwD [67,68] ?_); intro Q hQ hP; simp [hC, hY]; (repeat ((first | (first | (refine heapK_mv (fine2_fun a0 a1 a2 b0 b1 b2 _ hv) G0F (B := 200) ⟨by simp, by simp [keys], by simp [ids_lit, idsF, ids0]⟩ (fun k => if k = 100 then 248 else k) (fun k hk => if_neg (by omega)) (by simp [ren, renA, renF, ren0]) (by simp) (by simp [Blk.rn, renF, ren0]) (by simp [keys]) (by simp [keys]; rfl) ?_) | refine heapK_of (vparts_new 280 288 1 1 #[.int .i64 a0, .int .i64 a1, .int .i64 a2] (by simp) (by omega) (by omega) (by omega) (by omega)) (by simp) (fun k hk => hpL_low (by simp) hk) (by simp [Res.at, keys]) ?_)); try simp [hC, hY])); refine hQ _ _ _ _ (by kernel_rfl) ?_; clear hQ hP Q) | (refine gwC ?_ ?_ <;> (intro hb; first | (cases hb; done) | skip)))
  obtain ⟨⟨f0, f1, f2⟩, g0, g1, g2⟩ := hv.1 rfl
  have m0 := fn_mul f0 g0
  have m1 := fn_mul f1 g1
  have m2 := fn_mul f2 g2
  have s0 : Int.bmod (a0 * b0) 18446744073709551616 = a0 * b0 := bm (by omega) (by omega)
  have s1 : Int.bmod (a1 * b1) 18446744073709551616 = a1 * b1 := bm (by omega) (by omega)
  have s2 : Int.bmod (a2 * b2) 18446744073709551616 = a2 * b2 := bm (by omega) (by omega)
  have s3 : Int.bmod (a0 * b0 + a1 * b1) 18446744073709551616 = a0 * b0 + a1 * b1 := bm (by omega) (by omega)
  have s4 : Int.bmod (a0 * b0 + a1 * b1 + a2 * b2) 18446744073709551616 = a0 * b0 + a1 * b1 + a2 * b2 := bm (by omega) (by omega)
  refine GW_rangeKL (G := G0) (f := 90) (rs := [288, 280]) (xs := xsV 3 (vf a0 a1 a2)) (caps := #[.pointer (some ⟨288, 0, none⟩)]) (m0 := []) [288, 280] G0F hC hC0 hY (by simp) ?_ (by simp [xsV]) (by simp [Tryz.ntmps35]) [(2, .pointer (some ⟨200, 0, none⟩)), (3, .pointer (some ⟨208, 0, none⟩)), (4, .pointer (some ⟨216, 0, none⟩)), (5, .int .i64 0)] [] (dtL a0 a1 a2 b0 b1 b2) 400 3 (by simp [xsV]) (by omega) (by simp) (by simp [dom]) ?_ (by simp) (by simp) (by simp [dtL, dtS, jb]) ?_ (by simp) ?_ ?_
  ·refine iterk_mv (m := pvL1 a0 a1 a2) (B := 200) (vparts1_itk a0 a1 a2) G0F ⟨by simp [pvL1], by simp [pvL1, keys], by simp [pvL1, ids_lit, idsF, ids0, keys]⟩ (fun k => if k = 100 then 288 else if k = 108 then 280 else k) (fun k hk => ?_) (by simp [ren0]) (by simp [pvL1, keys]) (by (intro k hk; first | rfl | (simp (disch := omega) only [addB, List.mem_cons, List.not_mem_nil, or_false, upd_other, hpL_cons, hpL_nil, if_neg, updL] <;> done))) ?_ ?_
   ·rw [if_neg (by omega), if_neg (by omega)]
   ·simp [pvL1, Blk.rn, renF, ren0]
   ·simp [pvL1, keys]
  ·intro k hk b hb
   simp only [List.mem_cons, List.not_mem_nil, or_false] at hk
   rcases hk with rfl | rfl
   ·simp at hb; subst hb; simp [ids_lit, idsF, ids0]
   ·simp at hb; subst hb; simp [ids_lit, idsF, ids0]
  ·intro i hi
   simp [dtL, jb, idsV, idsA, idsF, ids0, dom, ids_lit]
  ·intro i x hi hx C1 l hC1 hh1 hY1
   rw [xsV_at _ _ _ (by omega)] at hx
   simp only [Option.some.injEq] at hx
   subst hx
   clear hC hY
   have hC := hC1
   have hY := hY1
   have : i = 0 ∨ i = 1 ∨ i = 2 := by omega
   rcases this with rfl | rfl | rfl
   all_goals
    simp only [vf]
    unfold dtL
   all_goals
    repeat' (first | refine gwA ?_ | ((first | refine gwR [] ?_ | refine gwD [] ?_); intro Q hQ hP; simp [hC, hY, roundTs, dtS, jb]; refine hQ _ _ _ _ (by kernel_rfl) ?_; clear hQ hP Q) | (refine gwC ?_ ?_ <;> (intro hb; first | (cases hb; done) | skip)))
   all_goals
    intro C2 hC2 hh2 hY2
    clear hC hY
    have hC := hC2
    have hY := hY2
    repeat' (first | refine gwA ?_ | ((first | refine gwR [] ?_ | refine gwD [] ?_); intro Q hQ hP; simp [hC, hY, roundTs, s0, s1, s2, s3, s4, dtS, jb]; refine hQ _ _ _ _ (by kernel_rfl) ?_; clear hQ hP Q) | (refine gwC ?_ ?_ <;> (intro hb; first | (cases hb; done) | skip)))
   all_goals simp [dtS, jb, s0, s1, s2, s3, s4]
  ·left
   refine ⟨by simp [xsV], ?_⟩
   unfold dtL
   repeat' (first | refine gwA ?_ | ((first | refine gwR [] ?_ | refine gwD [] ?_); intro Q hQ hP; simp [hC, hY, addB, List.cons_append, List.nil_append, dtS, jb]; refine hQ _ _ _ _ (by kernel_rfl) ?_; clear hQ hP Q) | (refine gwC ?_ ?_ <;> (intro hb; first | (cases hb; done) | skip)))
   refine ⟨.inr trivial, ?_⟩
   simp [Tryz.results35]
@[simp] theorem vdot (a0 a1 a2 b0 b1 b2 : Int) (K : Value → Prop) : callK Tryz.prog G0 35 #[.agg #[.int .i64 a0, .int .i64 a1, .int .i64 a2], .agg #[.int .i64 b0, .int .i64 b1, .int .i64 b2]] K ↔ K (.tuple #[.int .i64 (dtV a0 a1 a2 b0 b1 b2), .int .i64 (dtE a0 a1 a2 b0 b1 b2)]) := callK_iff G0W (by kernel_rfl) (dot_ret a0 a1 a2 b0 b1 b2)
def f2E (a0 a1 a2 b0 b1 b2 : Int) : Int := eaE subI a0 a1 a2 b0 b1 b2
def f2V (a0 a1 a2 b0 b1 b2 : Int) : Int := if f2E a0 a1 a2 b0 b1 b2 = 0 then (a0 - b0) * (a0 - b0) + (a1 - b1) * (a1 - b1) + (a2 - b2) * (a2 - b2) else 0
theorem far2_ret (a0 a1 a2 b0 b1 b2 : Int) : Ret Tryz.prog G0 71 #[.agg #[.int .i64 a0, .int .i64 a1, .int .i64 a2], .agg #[.int .i64 b0, .int .i64 b1, .int .i64 b2]]
  (.tuple #[.int .i64 (f2V a0 a1 a2 b0 b1 b2), .int .i64 (f2E a0 a1 a2 b0 b1 b2)]) := by
 refine ret_of G0F Tryz.func71 rfl Tryz.call71 (by simp) (by simp) (by simp [Tryz.ntmps71]) ?_
 intro C hC hC0 hY
 have eV0 : ∀ z, eaV 0 z = z := fun z => by simp [eaV]
 by_cases h : ((fnI a0 ∧ fnI a1 ∧ fnI a2) ∧ fnI b0 ∧ fnI b1 ∧ fnI b2) ∧ fnI (subI a0 b0) ∧ fnI (subI a1 b1) ∧ fnI (subI a2 b2)
 ·have he : eaE subI a0 a1 a2 b0 b1 b2 = 0 := by unfold eaE; rw [if_pos h]
  have hd : dtE (subI a0 b0) (subI a1 b1) (subI a2 b2) (subI a0 b0) (subI a1 b1) (subI a2 b2) = 0 := by unfold dtE; rw [if_pos ⟨h.2, h.2⟩]
  have hv : dtV (subI a0 b0) (subI a1 b1) (subI a2 b2) (subI a0 b0) (subI a1 b1) (subI a2 b2) = f2V a0 a1 a2 b0 b1 b2 := by unfold dtV f2V f2E; rw [if_pos ⟨h.2, h.2⟩, he, if_pos rfl]; rfl
  have hF : f2E a0 a1 a2 b0 b1 b2 = 0 := he
  rw [hF]
  repeat' (first | refine gwA ?_ | ((first | refine gwR [] ?_ | refine gwD [] ?_); intro Q hQ hP; simp [hC, hY, he, eV0, hd, hv]; refine hQ _ _ _ _ (by kernel_rfl) ?_; clear hQ hP Q) | (refine gwC ?_ ?_ <;> (intro hb; first | (cases hb; done) | skip)))
  refine ⟨.inr trivial, ?_⟩
  simp [Tryz.results71]
 ·have he : eaE subI a0 a1 a2 b0 b1 b2 = 20 := by unfold eaE; rw [if_neg h]
  have hF : f2E a0 a1 a2 b0 b1 b2 = 20 := he
  have hv : f2V a0 a1 a2 b0 b1 b2 = 0 := by unfold f2V; rw [hF, if_neg (by omega)]
  rw [hF, hv]
  repeat' (first | refine gwA ?_ | ((first | refine gwR [] ?_ | refine gwD [] ?_); intro Q hQ hP; simp [hC, hY, he]; refine hQ _ _ _ _ (by kernel_rfl) ?_; clear hQ hP Q) | (refine gwC ?_ ?_ <;> (intro hb; first | (cases hb; done) | skip)))
  refine ⟨.inr trivial, ?_⟩
  simp [Tryz.results71]
@[simp] theorem vfar2 (a0 a1 a2 b0 b1 b2 : Int) (K : Value → Prop) : callK Tryz.prog G0 71 #[.agg #[.int .i64 a0, .int .i64 a1, .int .i64 a2], .agg #[.int .i64 b0, .int .i64 b1, .int .i64 b2]] K ↔ K (.tuple #[.int .i64 (f2V a0 a1 a2 b0 b1 b2), .int .i64 (f2E a0 a1 a2 b0 b1 b2)]) := callK_iff G0W (by kernel_rfl) (far2_ret a0 a1 a2 b0 b1 b2)
def kinF (fm fs : Nat → Int) (i : Nat) : Int := fm i * dtV (fs (6 * i + 3)) (fs (6 * i + 4)) (fs (6 * i + 5)) (fs (6 * i + 3)) (fs (6 * i + 4)) (fs (6 * i + 5))
def kinV (fm fs : Nat → Int) (n : Nat) : Int := sumN (kinF fm fs) n * 524288
def kinE (n n2 : Nat) (okc rt : Bool) : Int := if fitB n n2 okc rt = true then 0 else 2
def kinW (n n2 : Nat) (okc rt : Bool) (fm fs : Nat → Int) : Int := if fitB n n2 okc rt = true then kinV fm fs n2 else 0
theorem cfOk_mass {n : Nat} {f : Nat → Int} {g bx tp nr md : Int} (h : cfOk n f g bx tp nr md = true) {i : Nat} (hi : i < n) : 1 ≤ f i ∧ f i ≤ 1024 := by
 unfold cfOk at h
 simp only [Bool.and_eq_true] at h
 have h2 := h.2.1
 unfold allM at h2
 rw [List.all_eq_true] at h2
 have := h2 i (by simpa using hi)
 unfold wiB at this
 simpa using this
theorem cfOk_g {n : Nat} {f : Nat → Int} {g bx tp nr md : Int} (h : cfOk n f g bx tp nr md = true) : 1 ≤ g ∧ g ≤ 1048576 := by
 unfold cfOk at h
 simp only [Bool.and_eq_true] at h
 have := h.2.2.1
 unfold wiB at this
 simpa using this
theorem fitB_iff {n n2 : Nat} {okc rt : Bool} : fitB n n2 okc rt = true ↔ n = n2 ∧ okc = true ∧ rt = true := by
 unfold fitB
 simp
theorem sq_in {a m : Int} (h : inW m a) : 0 ≤ a * a ∧ a * a ≤ m * m := by
 obtain ⟨h0, h1, h2⟩ := h
 by_cases c : 0 ≤ a
 ·exact ⟨Int.mul_nonneg c c, Int.mul_le_mul h2 h2 c h0⟩
 ·rw [← Int.neg_mul_neg]
  exact ⟨Int.mul_nonneg (by omega) (by omega), Int.mul_le_mul (by omega) (by omega) (by omega) h0⟩
theorem dtV_in {a b c : Int} (h0 : inW 65536 a) (h1 : inW 65536 b) (h2 : inW 65536 c) : dtV a b c a b c = a * a + b * b + c * c ∧ 0 ≤ dtV a b c a b c ∧ dtV a b c a b c ≤ 12884901888 := by
 have e : dtV a b c a b c = a * a + b * b + c * c := by
  unfold dtV
  rw [if_pos]
  unfold inW at h0 h1 h2
  unfold fnI
  omega
 have s0 := sq_in h0
 have s1 := sq_in h1
 have s2 := sq_in h2
 rw [e]
 refine ⟨rfl, by omega, by omega⟩
theorem kinF_bd {n : Nat} {fm fs : Nat → Int} {st g bx tp nr md : Int} (hc : cfOk n fm g bx tp nr md = true) (hr : rightB st fs n = true) {i : Nat} (hi : i < n) : 0 ≤ kinF fm fs i ∧ kinF fm fs i ≤ 13194139533312 := by
 have h1 := cfOk_mass hc hi
 obtain ⟨_, h2, h3, h4⟩ := right_b hr hi
 obtain ⟨_, d0, d1⟩ := dtV_in h2 h3 h4
 unfold kinF
 exact ⟨Int.mul_nonneg (by omega) d0, Int.mul_le_mul h1.2 d1 d0 (by omega)⟩
def RowW (nk i : Nat) (x : Nat → Int) (sl : Value) (ns : List (Nat × Blk)) : Prop := (i = 0 ∧ sl = .slice none 0 0 ∧ ns = []) ∨ ∃ (c : Nat) (g : Nat → Int), 0 < i ∧ i ≤ c ∧ (∀ j, j < 4 * i → g j = wF x j) ∧ sl = .slice (some ⟨nk, 0, none⟩) i c ∧ ns = [(nk, wRow c g)]
def kiOwn (ks off n cap off2 n2 cap2 : Nat) (g bx tp nr md st : Int) : List (Nat × Blk) := [(200, cfB (.slice (some ⟨100, off, none⟩) n cap) g bx tp nr md), (208, stB' st ks off2 n2 cap2), (216, wb 0)]
def kiSt (L : List (Nat × Blk)) (ks off n cap off2 n2 cap2 : Nat) (g bx tp nr md st : Int) (i : Nat) (sl : Value) (ns : List (Nat × Blk)) : GS :=
 ⟨tsL [(2, .pointer (some ⟨200, 0, none⟩)), (3, .pointer (some ⟨208, 0, none⟩)), (4, .pointer (some ⟨216, 0, none⟩)), (5, .int .i64 0), (6, sl), (19, .slice (some ⟨ks, off2, none⟩) n2 cap2), (20, .int .i64 n2), (21, .int .i64 i)],
 hpL G0 ((kiOwn ks off n cap off2 n2 cap2 g bx tp nr md st ++ ns) ++ L), 300, 0⟩
def kiI (L : List (Nat × Blk)) (ks off n cap off2 n2 cap2 : Nat) (g bx tp nr md st : Int) (x : Nat → Int) (m : Nat) (s : GS) : Prop := ∃ i sl ns, i + m = n2 ∧ RowW 224 i x sl ns ∧ s = kiSt L ks off n cap off2 n2 cap2 g bx tp nr md st i sl ns
set_option maxRecDepth 8000 in
set_option maxHeartbeats 4000000 in
theorem ekin_L (L : List (Nat × Blk)) (ks : Nat) (bm bs : Blk) (hT : LTwo G0 L ks bm bs) (off n cap off2 n2 cap2 : Nat) (fm fs : Nat → Int) (hm : MB bm off n fm) (hSb : SB bs off2 n2 fs) (hcap : n ≤ cap) (hcap2 : n2 ≤ cap2) (g bx tp nr md st : Int) (hs : i64 st) :
  Fun Tryz.prog G0 9 #[cfV (.slice (some ⟨100, off, none⟩) n cap) g bx tp nr md, .agg #[.int .i64 st, .slice (some ⟨ks, off2, none⟩) n2 cap2]] (hpL G0 L) (keys L) (.ret (.tuple #[wd (kinW n n2 (cfOk n fm g bx tp nr md) (rightB st fs n2) fm fs), .int .i64 (kinE n n2 (cfOk n fm g bx tp nr md) (rightB st fs n2))]) []) := by
 refine fun_ofL (B := 200) G0F Tryz.func9 rfl Tryz.call9 hT.ok ?_ (flatV_ids (by simp)) (by simp) (by simp) (by simp [Tryz.ntmps9]) (by omega) ?_
 ·simp [idsV, idsA, idsF, ids0, hT.ia, hT.ib, cfV]
 intro C hC hC0 hY
 have hA := hT.a
 have hS := hT.s
 have hne := hT.ne
 have hLow := hT.low
 have hks := hT.k1
 have hks2 := hT.k2
 have hrm := fun ρ => Blk.fx_rn hm.fx ρ
 have hrs := fun ρ => Blk.fx_rn hSb.fx ρ
 have hfit := kFits_L L ks bm bs hT off n cap off2 n2 cap2 fm fs hm hSb g bx tp nr md st hs
 unfold kinW kinE
 cases hf : fitB n n2 (cfOk n fm g bx tp nr md) (rightB st fs n2) with
 | false =>
  rw [hf] at hfit
  unfold cfV at hfit ⊢
  repeat' (first | refine gwA ?_ | ((first | refine gwR [34] ?_ | refine gwD [34] ?_); intro Q hQ hP; simp [hC, hY, hA, hS, hne, wi_zero]; (repeat ((first | (refine heapK_L hfit hT.ok aMem ?_)); try simp [hC, hY, hA, hS, hne, wi_zero])); refine hQ _ _ _ _ (by kernel_rfl) ?_; clear hQ hP Q) | (refine gwC ?_ ?_ <;> (intro hb; first | (cases hb; done) | skip)))
  refine ⟨.inr rfl, by simp [Tryz.results9, wi_zero], kpT G0F⟩
 | true =>
  rw [hf] at hfit
  obtain ⟨hnn, hok, hrt⟩ := fitB_iff.1 hf
  subst hnn
  have hn4 := (right_n hrt).2.1
  unfold cfV at hfit ⊢
  repeat' (first | refine gwA ?_ | ((first | refine gwR [34] ?_ | refine gwD [34] ?_); intro Q hQ hP; simp [hC, hY, hA, hS, hne, wi_zero]; (repeat ((first | (refine heapK_L hfit hT.ok aMem ?_)); try simp [hC, hY, hA, hS, hne, wi_zero])); refine hQ _ _ _ _ (by kernel_rfl) ?_; clear hQ hP Q) | (refine gwC ?_ ?_ <;> (intro hb; first | (cases hb; done) | skip)))
  refine GW_loopR (kiI L ks off n cap off2 n cap2 g bx tp nr md st (kinF fm fs)) (m0 := n) (s0 := kiSt L ks off n cap off2 n cap2 g bx tp nr md st 0 (.slice none 0 0) []) ?_ ⟨0, _, _, by omega, .inl ⟨rfl, rfl, rfl⟩, rfl⟩ ?_
  ·refine weakLL _ 300 hC G0F hT.ok hT.fx hC0 (by omega) ?_ ?_ aMem
   ·simp [kiOwn, idsV, idsA, idsF, ids0, dom, hA, hS, hne]
   ·simp [kiOwn, cfB, stB', wb, ids_lit, idsF, ids0, dom, hA, hS, hne, wi_zero]
  rintro m _ ⟨i, sl, ns, him, hV, rfl⟩
  by_cases hm0 : m = 0
  ·obtain rfl : i = n := by omega
   rcases hV with ⟨h0, _, _⟩ | ⟨c, gg, hi0, hic, hg, rfl, rfl⟩
   ·exact absurd h0 (by omega)
   have hgi := fun D => Blk.fx_ids (wRow_fx c gg) D
   have hgr := fun ρ => Blk.fx_rn (wRow_fx c gg) ρ
   have hsum := wSum_fun c i gg (kinF fm fs) hic (by omega) hg fun j hj => by have := kinF_bd hok hrt hj; omega
   have hb := sumN_bd (f := kinF fm fs) (n := i) (lo := 0) (hi := 13194139533312) fun j hj => kinF_bd hok hrt hj
   have hb1 : sumN (kinF fm fs) i ≤ 4 * 13194139533312 := Int.le_trans hb.2 (Int.mul_le_mul_of_nonneg_right (by omega) (by omega))
   have hb0 : 0 ≤ sumN (kinF fm fs) i := by omega
   have w1 := wr_sz (wr_small hb0 (by omega))
   have w2 : sz 524288 = 524288 := by decide
   have i2 : i64 524288 := by decide
   have ek : kinV fm fs i = sumN (kinF fm fs) i * 524288 := rfl
   unfold wRow at hgi hgr hsum
   unfold kiSt kiOwn cfB stB' wb wRow
   repeat' (first | refine gwA ?_ | ((first | refine gwR [36] ?_ | refine gwD [36] ?_); intro Q hQ hP; simp [hC, hY, hA, hS, hne, w1, w2, i2, wi_zero]; (repeat ((first | (refine heapK_mv hsum G0F (B := 200) (wRow_ok c gg) (fun k => if k = 100 then 224 else k) (fun k hk => if_neg (by omega)) (by simp [ren, renA, renF, ren0]) (by simp) (by simp [hgr]) (by simp [keys]) (by simp [keys]; rfl) ?_)); try simp [hC, hY, hA, hS, hne, w1, w2, i2, wi_zero])); refine hQ _ _ _ _ (by kernel_rfl) ?_; clear hQ hP Q) | (refine gwC ?_ ?_ <;> (intro hb; first | (cases hb; done) | skip)))
   refine ⟨.inr rfl, by simp [Tryz.results9, ek], kpT G0F⟩
  ·have hin : i < n := by omega
   have hi' : (i : Int) < n := by omega
   have hz : (0 : Int) ≤ i := by omega
   have hs' : Int.bmod ((i : Int) + 1) 18446744073709551616 = ((i + 1 : Nat) : Int) := by rw [Go.Gy.bm (by omega) (by omega)]; rfl
   have hl := hSb.body hin
   have hml := hm.at hin
   have hkb := kinF_bd hok hrt hin
   have hkx : kinF fm fs i = fm i * dtV (fs (6 * i + 3)) (fs (6 * i + 4)) (fs (6 * i + 5)) (fs (6 * i + 3)) (fs (6 * i + 4)) (fs (6 * i + 5)) := rfl
   have hkb1 : Int.bmod (fm i * dtV (fs (6 * i + 3)) (fs (6 * i + 4)) (fs (6 * i + 5)) (fs (6 * i + 3)) (fs (6 * i + 4)) (fs (6 * i + 5))) 18446744073709551616 = kinF fm fs i := by rw [← hkx]; exact Go.Gy.bm (by omega) (by omega)
   have hki : i64 (kinF fm fs i) := ⟨by omega, by omega⟩
   rcases hV with ⟨rfl, rfl, rfl⟩ | ⟨c, gg, hi0, hic, hg, rfl, rfl⟩
   ·simp only [Nat.mul_zero, Nat.zero_mul, Nat.add_zero, Nat.zero_add] at hl hml hkb1
    unfold kiSt kiOwn cfB stB' wb
    repeat' (first | refine gwA ?_ | ((first | refine gwR [] ?_ | refine gwD [] ?_); intro Q hQ hP; simp [hC, hY, hA, hS, hne, hin, hi', hz, hs', hl, hml, wi_zero]; refine hQ _ _ _ _ (by kernel_rfl) ?_; clear hQ hP Q) | (refine gwC ?_ ?_ <;> (intro hb; first | (cases hb; done) | skip)))
    refine GW_list ?_
    simp only [Array.toList]
    refine GL_walk 10 [] rfl (by simp) (by kernel_rfl) ?_; intro q hq; simp [hC, hY, hA, hS, hne, hin, hi', hz, hs', hl, hml, hkb1, hki, wi_zero]; refine hq _ _ _ _ ?_; clear hq q
    simp only [wT, List.length_cons, List.length_nil, Nat.reduceAdd]
    refine GL_pushK .u64 (m := 4) (i := 0) (j := 508) (by' := 32) (z := .agg #[.int .u64 0, .int .u64 0, .int .u64 0, .int .u64 0]) (T2 := .ty 30) (G := wF (kinF fm fs)) (ev := fun u => wi (kinF fm fs 0) u) rfl (by simp) rfl Tryz.underlying61 (tySize_of Tryz.sizeOf30) (by kernel_rfl) (by kernel_rfl) (by omega) (by simp [Value.cells]) (by simp [Value.cells]) (by omega) (by omega) (.inl ⟨rfl, by simp⟩) (by simp) (by simp [fa_4]) (fun u hu => ?_) (by omega) ?_
    ·unfold wF
     rw [show (4 * 0 + u) / 4 = 0 by omega, show (4 * 0 + u) % 4 = u by omega]
    ·rintro k' c' g' hk' hk100 hc' hg'
     obtain rfl : k' = 516 := by
      rcases hk' with hk' | ⟨c, hk'⟩
      ·exact hk'
      ·simp at hk'
     refine GL_walk 1 [] rfl (by simp) (by kernel_rfl) ?_; intro q hq; simp [hC, hY, putT]; refine hq _ _ _ _ ?_; clear hq q
     simp only [wT, List.length_cons, List.length_nil, Nat.reduceAdd]
     refine GL_nil ?_
     repeat' (first | refine gwA ?_ | ((first | refine gwR [] ?_ | refine gwD [] ?_); intro Q hQ hP; simp [hC, hY, hs']; refine hQ _ _ _ _ (by kernel_rfl) ?_; clear hQ hP Q) | (refine gwC ?_ ?_ <;> (intro hb; first | (cases hb; done) | skip)))
     refine ⟨fun k => if k = 224 then 516 else k, kiSt L ks off n cap off2 n cap2 g bx tp nr md st (0 + 1) (.slice (some ⟨224, 0, none⟩) (0 + 1) c') [(224, wRow c' g')], n - (0 + 1), ?_, ⟨0 + 1, _, _, by omega, .inr ⟨c', g', by omega, hc', hg', rfl, rfl⟩, rfl⟩, by omega⟩
     have hfi := fun D => Blk.fx_ids (wRow_fx c' g') D
     have hfm := fun ρ => fx_map (show Blk.fx ⟨fa (4 * c') .u64 g', .ty 30⟩ from wRow_fx c' g') ρ
     unfold wRow at hfi
     refine weakRLL (s := GS.mk _ _ _ 0) _ _ 300 hC G0F hT.ok hT.fx hC0 (by omega) ?_ ?_ ?_ ?_ aMem
     ·simp [kiOwn, wRow, dom, junk, ren, renA, renF, ren0, idsV, idsA, idsF, ids0, hs', hA, hS, hne]
     ·simp [kiOwn, wRow, cfB, stB', wb, Blk.rn, renF, ren0, ids_lit, idsF, ids0, dom, hfi, hfm, hA, hS, hne, wi_zero]
     ·simp [kiOwn]
     ·intro k hk; simp <;> omega
   ·have hgi := fun D => Blk.fx_ids (wRow_fx c gg) D
    unfold wRow at hgi
    unfold kiSt kiOwn cfB stB' wb wRow
    repeat' (first | refine gwA ?_ | ((first | refine gwR [] ?_ | refine gwD [] ?_); intro Q hQ hP; simp [hC, hY, hA, hS, hne, hin, hi', hz, hs', hl, hml, wi_zero]; refine hQ _ _ _ _ (by kernel_rfl) ?_; clear hQ hP Q) | (refine gwC ?_ ?_ <;> (intro hb; first | (cases hb; done) | skip)))
    refine GW_list ?_
    simp only [Array.toList]
    refine GL_walk 10 [] rfl (by simp) (by kernel_rfl) ?_; intro q hq; simp [hC, hY, hA, hS, hne, hin, hi', hz, hs', hl, hml, hkb1, hki, wi_zero]; refine hq _ _ _ _ ?_; clear hq q
    simp only [wT, List.length_cons, List.length_nil, Nat.reduceAdd]
    refine GL_pushK .u64 (m := 4) (i := i) (j := 508) (by' := 32) (z := .agg #[.int .u64 0, .int .u64 0, .int .u64 0, .int .u64 0]) (T2 := .ty 30) (G := wF (kinF fm fs)) (ev := fun u => wi (kinF fm fs i) u) rfl (by simp) rfl Tryz.underlying61 (tySize_of Tryz.sizeOf30) (by kernel_rfl) (by kernel_rfl) (by omega) (by simp [Value.cells]) (by simp [Value.cells]) (by omega) (by omega) (.inr ⟨224, c, gg, by omega, by simp, by simp, hic, hg⟩) (by simp) (by simp [fa_4]) (fun u hu => ?_) (by omega) ?_
    ·unfold wF
     rw [show (4 * i + u) / 4 = i by omega, show (4 * i + u) % 4 = u by omega]
    ·rintro k' c' g' hk' hk100 hc' hg'
     have hk' : k' = 516 ∨ k' = 224 := by
      rcases hk' with hk' | ⟨c, hk'⟩
      ·exact .inl hk'
      ·simp at hk'; exact .inr hk'.1.symm
     rcases hk' with rfl | rfl
     ·
      refine GL_walk 1 [] rfl (by simp) (by kernel_rfl) ?_; intro q hq; simp [hC, hY, putT]; refine hq _ _ _ _ ?_; clear hq q
      simp only [wT, List.length_cons, List.length_nil, Nat.reduceAdd]
      refine GL_nil ?_
      repeat' (first | refine gwA ?_ | ((first | refine gwR [] ?_ | refine gwD [] ?_); intro Q hQ hP; simp [hC, hY, hs']; refine hQ _ _ _ _ (by kernel_rfl) ?_; clear hQ hP Q) | (refine gwC ?_ ?_ <;> (intro hb; first | (cases hb; done) | skip)))
      refine ⟨fun k => if k = 224 then 516 else k, kiSt L ks off n cap off2 n cap2 g bx tp nr md st (i + 1) (.slice (some ⟨224, 0, none⟩) (i + 1) c') [(224, wRow c' g')], n - (i + 1), ?_, ⟨i + 1, _, _, by omega, .inr ⟨c', g', by omega, hc', hg', rfl, rfl⟩, rfl⟩, by omega⟩
      have hfi := fun D => Blk.fx_ids (wRow_fx c' g') D
      have hfm := fun ρ => fx_map (show Blk.fx ⟨fa (4 * c') .u64 g', .ty 30⟩ from wRow_fx c' g') ρ
      unfold wRow at hfi
      refine weakRLL (s := GS.mk _ _ _ 0) _ _ 300 hC G0F hT.ok hT.fx hC0 (by omega) ?_ ?_ ?_ ?_ aMem
      ·simp [kiOwn, wRow, dom, junk, ren, renA, renF, ren0, idsV, idsA, idsF, ids0, hs', hA, hS, hne]
      ·simp [kiOwn, wRow, cfB, stB', wb, Blk.rn, renF, ren0, ids_lit, idsF, ids0, dom, hfi, hfm, hA, hS, hne, wi_zero]
      ·simp [kiOwn]
      ·intro k hk; simp <;> omega
     ·
      refine GL_walk 1 [] rfl (by simp) (by kernel_rfl) ?_; intro q hq; simp [hC, hY, putT]; refine hq _ _ _ _ ?_; clear hq q
      simp only [wT, List.length_cons, List.length_nil, Nat.reduceAdd]
      refine GL_nil ?_
      repeat' (first | refine gwA ?_ | ((first | refine gwR [] ?_ | refine gwD [] ?_); intro Q hQ hP; simp [hC, hY, hs']; refine hQ _ _ _ _ (by kernel_rfl) ?_; clear hQ hP Q) | (refine gwC ?_ ?_ <;> (intro hb; first | (cases hb; done) | skip)))
      refine ⟨fun k => k, kiSt L ks off n cap off2 n cap2 g bx tp nr md st (i + 1) (.slice (some ⟨224, 0, none⟩) (i + 1) c') [(224, wRow c' g')], n - (i + 1), ?_, ⟨i + 1, _, _, by omega, .inr ⟨c', g', by omega, hc', hg', rfl, rfl⟩, rfl⟩, by omega⟩
      have hfi := fun D => Blk.fx_ids (wRow_fx c' g') D
      have hfm := fun ρ => fx_map (show Blk.fx ⟨fa (4 * c') .u64 g', .ty 30⟩ from wRow_fx c' g') ρ
      unfold wRow at hfi
      refine weakRLL (s := GS.mk _ _ _ 0) _ _ 300 hC G0F hT.ok hT.fx hC0 (by omega) ?_ ?_ ?_ ?_ aMem
      ·simp [kiOwn, wRow, dom, junk, ren, renA, renF, ren0, idsV, idsA, idsF, ids0, hs', hA, hS, hne]
      ·simp [kiOwn, wRow, cfB, stB', wb, Blk.rn, renF, ren0, ids_lit, idsF, ids0, dom, hfi, hfm, hA, hS, hne, wi_zero]
      ·simp [kiOwn]
      ·intro k hk; simp <;> omega
theorem eBodyAt {b : Blk} {off n : Nat} {f : Nat → Int} (h : SB b off n f) (i : Nat) (hi : i < n) (o : Nat) (e : o = off + i * 6) : loadK Tryz.prog 53 b o = some (.agg #[.int .i64 (f (6 * i)), .int .i64 (f (6 * i + 1)), .int .i64 (f (6 * i + 2)), .int .i64 (f (6 * i + 3)), .int .i64 (f (6 * i + 4)), .int .i64 (f (6 * i + 5))]) := by rw [e]; exact h.body hi
theorem eMassAt {b : Blk} {off n : Nat} {f : Nat → Int} (h : MB b off n f) (i : Nat) (hi : i < n) (o : Nat) (e : o = off + i) : loadK Tryz.prog 3 b o = some (.int .i64 (f i)) := by rw [e]; exact h.at hi
def esqF (f : Nat → Int) (i j : Nat) : Int := f2V (f (6 * i)) (f (6 * i + 1)) (f (6 * i + 2)) (f (6 * j)) (f (6 * j + 1)) (f (6 * j + 2))
def epV (fm fs : Nat → Int) (i j : Nat) : Array Value := #[.agg #[.int .i64 (fm i), .int .i64 (fm j), .int .i64 (esqF fs i j)]]
def epXs (fm fs : Nat → Int) : Nat → List (Array Value)
 | 2 => [epV fm fs 1 0]
 | 3 => [epV fm fs 1 0, epV fm fs 2 0, epV fm fs 2 1]
 | 4 => [epV fm fs 1 0, epV fm fs 2 0, epV fm fs 2 1, epV fm fs 3 0, epV fm fs 3 1, epV fm fs 3 2]
 | _ => []
def enM (L : List (Nat × Blk)) (ks off n cap off2 n2 cap2 : Nat) (g bx tp nr md st : Int) : List (Nat × Blk) := (200, cfB (.slice (some ⟨100, off, none⟩) n cap) g bx tp nr md) :: (208, stB' st ks off2 n2 cap2) :: L
theorem enM_ok {L : List (Nat × Blk)} {ks : Nat} {bm bs : Blk} (hT : LTwo G0 L ks bm bs) (off n cap off2 n2 cap2 : Nat) (g bx tp nr md st : Int) : LOk (enM L ks off n cap off2 n2 cap2 g bx tp nr md st) 300 := by
 have hL := hT.ok
 refine ⟨?_, ?_, ?_⟩
 ·intro p hp
  rcases List.mem_cons.1 hp with rfl | hp
  ·simp
  ·rcases List.mem_cons.1 hp with rfl | hp
   ·simp
   ·have := hL.big p hp; omega
 ·have h2 : ∀ q, 200 ≤ q → q ∉ keys L := fun q hq h => by
   obtain ⟨p, hp, e⟩ := mem_keys.1 h
   have := hL.big p hp
   omega
  refine List.nodup_cons.2 ⟨fun h => ?_, List.nodup_cons.2 ⟨h2 208 (by omega), hL.one⟩⟩
  rcases List.mem_cons.1 h with e | h
  ·exact absurd e (by simp)
  ·exact h2 200 (by omega) h
 ·have h1 : 100 ∈ keys (enM L ks off n cap off2 n2 cap2 g bx tp nr md st) := List.mem_cons_of_mem _ (List.mem_cons_of_mem _ hT.ia)
  have h2 : ks ∈ keys (enM L ks off n cap off2 n2 cap2 g bx tp nr md st) := List.mem_cons_of_mem _ (List.mem_cons_of_mem _ hT.ib)
  intro p hp
  rcases List.mem_cons.1 hp with rfl | hp
  ·simp [cfB, ids_lit, idsF, ids0, h1]
  ·rcases List.mem_cons.1 hp with rfl | hp
   ·simp [stB', ids_lit, idsF, ids0, h2]
   ·exact Blk.fx_ids (hT.fx p hp) _
set_option maxRecDepth 20000 in
set_option maxHeartbeats 4000000 in
theorem epairs_it1 (L : List (Nat × Blk)) (ks : Nat) (bm bs : Blk) (hT : LTwo G0 L ks bm bs) (off cap off2 cap2 : Nat) (fm fs : Nat → Int) (hm : MB bm off 1 fm) (hSb : SB bs off2 1 fs) (hcap : 1 ≤ cap2) (g bx tp nr md st : Int) :
  IterK Tryz.prog G0 70 #[.pointer (some ⟨208, 0, none⟩), .pointer (some ⟨200, 0, none⟩)] (hpL G0 (enM L ks off 1 cap off2 1 cap2 g bx tp nr md st)) (keys (enM L ks off 1 cap off2 1 cap2 g bx tp nr md st)) (epXs fm fs 1) := by
 have hL := enM_ok hT off 1 cap off2 1 cap2 g bx tp nr md st
 have hlt : ∀ k, dom (hpL G0 (enM L ks off 1 cap off2 1 cap2 g bx tp nr md st)) k → k < 300 := fun k hk => Classical.byContradiction fun h1 => hk (hL.free G0F (by omega) k (by omega))
 refine iterk_ofL (B := 300) (v := .tuple #[]) G0F Tryz.func70 rfl Tryz.call70 hL ?_ (by simp [Tryz.ntmps70]) (by omega) ?_
 ·simp [idsV, idsA, idsF, ids0, enM, keys]
 intro C l stop hC hC0 hY
 have hA := hT.a
 have hS := hT.s
 have hne := hT.ne
 have hks := hT.k1
 have exs : epXs fm fs 1 = [] := rfl
 rw [exs] at hY ⊢
 have b0 := eBodyAt hSb 0 (by omega) (off2) (by omega)
 simp only [Nat.reduceMul, Nat.reduceAdd, Nat.mul_zero, Nat.zero_add] at b0
 have w0 := eMassAt hm 0 (by omega) (off) (by omega)
 unfold enM cfB stB'
 repeat' (first | refine GWL_start ?_ | refine GWL_step ?_ | refine gwA ?_ | ((first | refine gwR [] ?_ | refine gwD [] ?_); intro Q hQ hP; simp [hC, hY, hA, hS, hne, b0, w0]; (first | refine hQ _ _ _ _ (by rcases hT.k8 with h8 | h8 <;> subst h8 <;> kernel_rfl) ?_ | refine hP _ _ (by rcases hT.k8 with h8 | h8 <;> subst h8 <;> kernel_rfl) fun _ => ?_); clear hQ hP Q) | (refine gwC ?_ ?_ <;> (intro hb; first | (cases hb; done) | skip)))
 refine ⟨?_, ?_, ?_, fun k hk => ?_⟩
 ·simp
 ·simp [Tryz.results70]
 ·first | trivial | omega | (simp; done) | (simp; omega)
 ·have hk := hlt k hk
  first | rfl | (simp (disch := omega) only [upd_other] <;> rfl)
set_option maxRecDepth 20000 in
set_option maxHeartbeats 4000000 in
theorem epairs_it2 (L : List (Nat × Blk)) (ks : Nat) (bm bs : Blk) (hT : LTwo G0 L ks bm bs) (off cap off2 cap2 : Nat) (fm fs : Nat → Int) (hm : MB bm off 2 fm) (hSb : SB bs off2 2 fs) (hcap : 2 ≤ cap2) (g bx tp nr md st : Int) :
  IterK Tryz.prog G0 70 #[.pointer (some ⟨208, 0, none⟩), .pointer (some ⟨200, 0, none⟩)] (hpL G0 (enM L ks off 2 cap off2 2 cap2 g bx tp nr md st)) (keys (enM L ks off 2 cap off2 2 cap2 g bx tp nr md st)) (epXs fm fs 2) := by
 have hL := enM_ok hT off 2 cap off2 2 cap2 g bx tp nr md st
 have hlt : ∀ k, dom (hpL G0 (enM L ks off 2 cap off2 2 cap2 g bx tp nr md st)) k → k < 300 := fun k hk => Classical.byContradiction fun h1 => hk (hL.free G0F (by omega) k (by omega))
 refine iterk_ofL (B := 300) (v := .tuple #[]) G0F Tryz.func70 rfl Tryz.call70 hL ?_ (by simp [Tryz.ntmps70]) (by omega) ?_
 ·simp [idsV, idsA, idsF, ids0, enM, keys]
 intro C l stop hC hC0 hY
 have hA := hT.a
 have hS := hT.s
 have hne := hT.ne
 have hks := hT.k1
 have exs : epXs fm fs 2 = [#[.agg #[.int .i64 (fm 1), .int .i64 (fm 0), .int .i64 (f2V (fs 6) (fs 7) (fs 8) (fs 0) (fs 1) (fs 2))]]] := rfl
 rw [exs] at hY ⊢
 have k1 : 1 ≤ cap2 := by omega
 have j1 : (1 : Int) ≤ (cap2 : Int) := by omega
 have b0 := eBodyAt hSb 0 (by omega) (off2) (by omega)
 simp only [Nat.reduceMul, Nat.reduceAdd, Nat.mul_zero, Nat.zero_add] at b0
 have w0 := eMassAt hm 0 (by omega) (off) (by omega)
 have b1 := eBodyAt hSb 1 (by omega) (off2 + 6) (by omega)
 simp only [Nat.reduceMul, Nat.reduceAdd, Nat.mul_zero, Nat.zero_add] at b1
 have w1 := eMassAt hm 1 (by omega) (off + 1) (by omega)
 unfold enM cfB stB'
 by_cases hst : 1 ≤ stop
 ·have q0 : (0 != stop) = true := by simp; omega
  repeat' (first | refine GWL_start ?_ | refine GWL_step ?_ | refine gwA ?_ | ((first | refine gwR [] ?_ | refine gwD [] ?_); intro Q hQ hP; simp [hC, hY, hA, hS, hne, k1, j1, b0, w0, b1, w1, q0, hst]; (first | refine hQ _ _ _ _ (by rcases hT.k8 with h8 | h8 <;> subst h8 <;> kernel_rfl) ?_ | refine hP _ _ (by rcases hT.k8 with h8 | h8 <;> subst h8 <;> kernel_rfl) fun _ => ?_); clear hQ hP Q) | (refine gwC ?_ ?_ <;> (intro hb; first | (cases hb; done) | skip)))
  refine ⟨?_, ?_, ?_, fun k hk => ?_⟩
  ·simp
  ·simp [Tryz.results70]
  ·first | trivial | omega | (simp; done) | (simp; omega)
  ·have hk := hlt k hk
   first | rfl | (simp (disch := omega) only [upd_other] <;> rfl)
 ·have : stop = 0 := by omega
  rcases this with rfl
  all_goals
   repeat' (first | refine GWL_start ?_ | refine GWL_step ?_ | refine gwA ?_ | ((first | refine gwR [] ?_ | refine gwD [] ?_); intro Q hQ hP; simp [hC, hY, hA, hS, hne, k1, j1, b0, w0, b1, w1]; (first | refine hQ _ _ _ _ (by rcases hT.k8 with h8 | h8 <;> subst h8 <;> kernel_rfl) ?_ | refine hP _ _ (by rcases hT.k8 with h8 | h8 <;> subst h8 <;> kernel_rfl) fun _ => ?_); clear hQ hP Q) | (refine gwC ?_ ?_ <;> (intro hb; first | (cases hb; done) | skip)))
  all_goals
   refine ⟨?_, ?_, ?_, fun k hk => ?_⟩
   ·simp
   ·simp [Tryz.results70]
   ·first | trivial | omega | (simp; done) | (simp; omega)
   ·have hk := hlt k hk
    first | rfl | (simp (disch := omega) only [upd_other] <;> rfl)
set_option maxRecDepth 20000 in
set_option maxHeartbeats 4000000 in
theorem epairs_it3 (L : List (Nat × Blk)) (ks : Nat) (bm bs : Blk) (hT : LTwo G0 L ks bm bs) (off cap off2 cap2 : Nat) (fm fs : Nat → Int) (hm : MB bm off 3 fm) (hSb : SB bs off2 3 fs) (hcap : 3 ≤ cap2) (g bx tp nr md st : Int) :
  IterK Tryz.prog G0 70 #[.pointer (some ⟨208, 0, none⟩), .pointer (some ⟨200, 0, none⟩)] (hpL G0 (enM L ks off 3 cap off2 3 cap2 g bx tp nr md st)) (keys (enM L ks off 3 cap off2 3 cap2 g bx tp nr md st)) (epXs fm fs 3) := by
 have hL := enM_ok hT off 3 cap off2 3 cap2 g bx tp nr md st
 have hlt : ∀ k, dom (hpL G0 (enM L ks off 3 cap off2 3 cap2 g bx tp nr md st)) k → k < 300 := fun k hk => Classical.byContradiction fun h1 => hk (hL.free G0F (by omega) k (by omega))
 refine iterk_ofL (B := 300) (v := .tuple #[]) G0F Tryz.func70 rfl Tryz.call70 hL ?_ (by simp [Tryz.ntmps70]) (by omega) ?_
 ·simp [idsV, idsA, idsF, ids0, enM, keys]
 intro C l stop hC hC0 hY
 have hA := hT.a
 have hS := hT.s
 have hne := hT.ne
 have hks := hT.k1
 have exs : epXs fm fs 3 = [#[.agg #[.int .i64 (fm 1), .int .i64 (fm 0), .int .i64 (f2V (fs 6) (fs 7) (fs 8) (fs 0) (fs 1) (fs 2))]], #[.agg #[.int .i64 (fm 2), .int .i64 (fm 0), .int .i64 (f2V (fs 12) (fs 13) (fs 14) (fs 0) (fs 1) (fs 2))]], #[.agg #[.int .i64 (fm 2), .int .i64 (fm 1), .int .i64 (f2V (fs 12) (fs 13) (fs 14) (fs 6) (fs 7) (fs 8))]]] := rfl
 rw [exs] at hY ⊢
 have k1 : 1 ≤ cap2 := by omega
 have j1 : (1 : Int) ≤ (cap2 : Int) := by omega
 have k2 : 2 ≤ cap2 := by omega
 have j2 : (2 : Int) ≤ (cap2 : Int) := by omega
 have b0 := eBodyAt hSb 0 (by omega) (off2) (by omega)
 simp only [Nat.reduceMul, Nat.reduceAdd, Nat.mul_zero, Nat.zero_add] at b0
 have w0 := eMassAt hm 0 (by omega) (off) (by omega)
 have b1 := eBodyAt hSb 1 (by omega) (off2 + 6) (by omega)
 simp only [Nat.reduceMul, Nat.reduceAdd, Nat.mul_zero, Nat.zero_add] at b1
 have w1 := eMassAt hm 1 (by omega) (off + 1) (by omega)
 have b2 := eBodyAt hSb 2 (by omega) (off2 + 12) (by omega)
 simp only [Nat.reduceMul, Nat.reduceAdd, Nat.mul_zero, Nat.zero_add] at b2
 have w2 := eMassAt hm 2 (by omega) (off + 2) (by omega)
 unfold enM cfB stB'
 by_cases hst : 3 ≤ stop
 ·have q0 : (0 != stop) = true := by simp; omega
  have q1 : (1 != stop) = true := by simp; omega
  have l1 : 1 ≤ stop := by omega
  have q2 : (2 != stop) = true := by simp; omega
  have l2 : 2 ≤ stop := by omega
  repeat' (first | refine GWL_start ?_ | refine GWL_step ?_ | refine gwA ?_ | ((first | refine gwR [] ?_ | refine gwD [] ?_); intro Q hQ hP; simp [hC, hY, hA, hS, hne, k1, j1, k2, j2, b0, w0, b1, w1, b2, w2, q0, q1, l1, q2, l2, hst]; (first | refine hQ _ _ _ _ (by rcases hT.k8 with h8 | h8 <;> subst h8 <;> kernel_rfl) ?_ | refine hP _ _ (by rcases hT.k8 with h8 | h8 <;> subst h8 <;> kernel_rfl) fun _ => ?_); clear hQ hP Q) | (refine gwC ?_ ?_ <;> (intro hb; first | (cases hb; done) | skip)))
  refine ⟨?_, ?_, ?_, fun k hk => ?_⟩
  ·simp
  ·simp [Tryz.results70]
  ·first | trivial | omega | (simp; done) | (simp; omega)
  ·have hk := hlt k hk
   first | rfl | (simp (disch := omega) only [upd_other] <;> rfl)
 ·have : stop = 0 ∨ stop = 1 ∨ stop = 2 := by omega
  rcases this with rfl | rfl | rfl
  all_goals
   repeat' (first | refine GWL_start ?_ | refine GWL_step ?_ | refine gwA ?_ | ((first | refine gwR [] ?_ | refine gwD [] ?_); intro Q hQ hP; simp [hC, hY, hA, hS, hne, k1, j1, k2, j2, b0, w0, b1, w1, b2, w2]; (first | refine hQ _ _ _ _ (by rcases hT.k8 with h8 | h8 <;> subst h8 <;> kernel_rfl) ?_ | refine hP _ _ (by rcases hT.k8 with h8 | h8 <;> subst h8 <;> kernel_rfl) fun _ => ?_); clear hQ hP Q) | (refine gwC ?_ ?_ <;> (intro hb; first | (cases hb; done) | skip)))
  all_goals
   refine ⟨?_, ?_, ?_, fun k hk => ?_⟩
   ·simp
   ·simp [Tryz.results70]
   ·first | trivial | omega | (simp; done) | (simp; omega)
   ·have hk := hlt k hk
    first | rfl | (simp (disch := omega) only [upd_other] <;> rfl)
set_option maxRecDepth 20000 in
set_option maxHeartbeats 4000000 in
theorem epairs_it4 (L : List (Nat × Blk)) (ks : Nat) (bm bs : Blk) (hT : LTwo G0 L ks bm bs) (off cap off2 cap2 : Nat) (fm fs : Nat → Int) (hm : MB bm off 4 fm) (hSb : SB bs off2 4 fs) (hcap : 4 ≤ cap2) (g bx tp nr md st : Int) :
  IterK Tryz.prog G0 70 #[.pointer (some ⟨208, 0, none⟩), .pointer (some ⟨200, 0, none⟩)] (hpL G0 (enM L ks off 4 cap off2 4 cap2 g bx tp nr md st)) (keys (enM L ks off 4 cap off2 4 cap2 g bx tp nr md st)) (epXs fm fs 4) := by
 have hL := enM_ok hT off 4 cap off2 4 cap2 g bx tp nr md st
 have hlt : ∀ k, dom (hpL G0 (enM L ks off 4 cap off2 4 cap2 g bx tp nr md st)) k → k < 300 := fun k hk => Classical.byContradiction fun h1 => hk (hL.free G0F (by omega) k (by omega))
 refine iterk_ofL (B := 300) (v := .tuple #[]) G0F Tryz.func70 rfl Tryz.call70 hL ?_ (by simp [Tryz.ntmps70]) (by omega) ?_
 ·simp [idsV, idsA, idsF, ids0, enM, keys]
 intro C l stop hC hC0 hY
 have hA := hT.a
 have hS := hT.s
 have hne := hT.ne
 have hks := hT.k1
 have exs : epXs fm fs 4 = [#[.agg #[.int .i64 (fm 1), .int .i64 (fm 0), .int .i64 (f2V (fs 6) (fs 7) (fs 8) (fs 0) (fs 1) (fs 2))]], #[.agg #[.int .i64 (fm 2), .int .i64 (fm 0), .int .i64 (f2V (fs 12) (fs 13) (fs 14) (fs 0) (fs 1) (fs 2))]], #[.agg #[.int .i64 (fm 2), .int .i64 (fm 1), .int .i64 (f2V (fs 12) (fs 13) (fs 14) (fs 6) (fs 7) (fs 8))]], #[.agg #[.int .i64 (fm 3), .int .i64 (fm 0), .int .i64 (f2V (fs 18) (fs 19) (fs 20) (fs 0) (fs 1) (fs 2))]], #[.agg #[.int .i64 (fm 3), .int .i64 (fm 1), .int .i64 (f2V (fs 18) (fs 19) (fs 20) (fs 6) (fs 7) (fs 8))]], #[.agg #[.int .i64 (fm 3), .int .i64 (fm 2), .int .i64 (f2V (fs 18) (fs 19) (fs 20) (fs 12) (fs 13) (fs 14))]]] := rfl
 rw [exs] at hY ⊢
 have k1 : 1 ≤ cap2 := by omega
 have j1 : (1 : Int) ≤ (cap2 : Int) := by omega
 have k2 : 2 ≤ cap2 := by omega
 have j2 : (2 : Int) ≤ (cap2 : Int) := by omega
 have k3 : 3 ≤ cap2 := by omega
 have j3 : (3 : Int) ≤ (cap2 : Int) := by omega
 have b0 := eBodyAt hSb 0 (by omega) (off2) (by omega)
 simp only [Nat.reduceMul, Nat.reduceAdd, Nat.mul_zero, Nat.zero_add] at b0
 have w0 := eMassAt hm 0 (by omega) (off) (by omega)
 have b1 := eBodyAt hSb 1 (by omega) (off2 + 6) (by omega)
 simp only [Nat.reduceMul, Nat.reduceAdd, Nat.mul_zero, Nat.zero_add] at b1
 have w1 := eMassAt hm 1 (by omega) (off + 1) (by omega)
 have b2 := eBodyAt hSb 2 (by omega) (off2 + 12) (by omega)
 simp only [Nat.reduceMul, Nat.reduceAdd, Nat.mul_zero, Nat.zero_add] at b2
 have w2 := eMassAt hm 2 (by omega) (off + 2) (by omega)
 have b3 := eBodyAt hSb 3 (by omega) (off2 + 18) (by omega)
 simp only [Nat.reduceMul, Nat.reduceAdd, Nat.mul_zero, Nat.zero_add] at b3
 have w3 := eMassAt hm 3 (by omega) (off + 3) (by omega)
 unfold enM cfB stB'
 by_cases hst : 6 ≤ stop
 ·have q0 : (0 != stop) = true := by simp; omega
  have q1 : (1 != stop) = true := by simp; omega
  have l1 : 1 ≤ stop := by omega
  have q2 : (2 != stop) = true := by simp; omega
  have l2 : 2 ≤ stop := by omega
  have q3 : (3 != stop) = true := by simp; omega
  have l3 : 3 ≤ stop := by omega
  have q4 : (4 != stop) = true := by simp; omega
  have l4 : 4 ≤ stop := by omega
  have q5 : (5 != stop) = true := by simp; omega
  have l5 : 5 ≤ stop := by omega
  repeat' (first | refine GWL_start ?_ | refine GWL_step ?_ | refine gwA ?_ | ((first | refine gwR [] ?_ | refine gwD [] ?_); intro Q hQ hP; simp [hC, hY, hA, hS, hne, k1, j1, k2, j2, k3, j3, b0, w0, b1, w1, b2, w2, b3, w3, q0, q1, l1, q2, l2, q3, l3, q4, l4, q5, l5, hst]; (first | refine hQ _ _ _ _ (by rcases hT.k8 with h8 | h8 <;> subst h8 <;> kernel_rfl) ?_ | refine hP _ _ (by rcases hT.k8 with h8 | h8 <;> subst h8 <;> kernel_rfl) fun _ => ?_); clear hQ hP Q) | (refine gwC ?_ ?_ <;> (intro hb; first | (cases hb; done) | skip)))
  refine ⟨?_, ?_, ?_, fun k hk => ?_⟩
  ·simp
  ·simp [Tryz.results70]
  ·first | trivial | omega | (simp; done) | (simp; omega)
  ·have hk := hlt k hk
   first | rfl | (simp (disch := omega) only [upd_other] <;> rfl)
 ·have : stop = 0 ∨ stop = 1 ∨ stop = 2 ∨ stop = 3 ∨ stop = 4 ∨ stop = 5 := by omega
  rcases this with rfl | rfl | rfl | rfl | rfl | rfl
  all_goals
   repeat' (first | refine GWL_start ?_ | refine GWL_step ?_ | refine gwA ?_ | ((first | refine gwR [] ?_ | refine gwD [] ?_); intro Q hQ hP; simp [hC, hY, hA, hS, hne, k1, j1, k2, j2, k3, j3, b0, w0, b1, w1, b2, w2, b3, w3]; (first | refine hQ _ _ _ _ (by rcases hT.k8 with h8 | h8 <;> subst h8 <;> kernel_rfl) ?_ | refine hP _ _ (by rcases hT.k8 with h8 | h8 <;> subst h8 <;> kernel_rfl) fun _ => ?_); clear hQ hP Q) | (refine gwC ?_ ?_ <;> (intro hb; first | (cases hb; done) | skip)))
  all_goals
   refine ⟨?_, ?_, ?_, fun k hk => ?_⟩
   ·simp
   ·simp [Tryz.results70]
   ·first | trivial | omega | (simp; done) | (simp; omega)
   ·have hk := hlt k hk
    first | rfl | (simp (disch := omega) only [upd_other] <;> rfl)
def EPairsR (nk ks off n cap off2 n2 cap2 : Nat) (g bx tp nr md st : Int) (v : Value) (ns : List (Nat × Blk)) : Prop :=
 v = .func (.func 70) #[] #[.pointer (some ⟨nk + 1, 0, none⟩), .pointer (some ⟨nk, 0, none⟩)] ∧ ns = [(nk, cfB (.slice (some ⟨100, off, none⟩) n cap) g bx tp nr md), (nk + 1, stB' st ks off2 n2 cap2)]
theorem epairsR_key {nk ks off n cap off2 n2 cap2 : Nat} {g bx tp nr md st : Int} {v : Value} {ns : List (Nat × Blk)} (h : EPairsR nk ks off n cap off2 n2 cap2 g bx tp nr md st v ns) : ∀ k ∈ keys ns, nk ≤ k ∧ k < nk + 2 := by
 obtain ⟨rfl, rfl⟩ := h
 intro k hk
 simp [keys] at hk
 omega
theorem epairs_L (L : List (Nat × Blk)) (ks : Nat) (bm bs : Blk) (hT : LTwo G0 L ks bm bs) (off n cap off2 n2 cap2 : Nat) (g bx tp nr md st : Int) :
  FunS Tryz.prog G0 37 #[cfV (.slice (some ⟨100, off, none⟩) n cap) g bx tp nr md, .agg #[.int .i64 st, .slice (some ⟨ks, off2, none⟩) n2 cap2]] (hpL G0 L) (keys L) (EPairsR 1000 ks off n cap off2 n2 cap2 g bx tp nr md st) := by
 refine newS_ofL (B := 200) G0F Tryz.func37 rfl Tryz.call37 hT.ok ?_ ?_ (by simp [Tryz.ntmps37]) (by omega) ?_
 ·simp [idsV, idsA, idsF, ids0, hT.ia, hT.ib, cfV]
 ·rintro v ns ⟨rfl, rfl⟩
  have ha : extD (fun k => k ∈ keys L) [(1000, cfB (.slice (some ⟨100, off, none⟩) n cap) g bx tp nr md), (1000 + 1, stB' st ks off2 n2 cap2)] 100 := .inl hT.ia
  have hb : extD (fun k => k ∈ keys L) [(1000, cfB (.slice (some ⟨100, off, none⟩) n cap) g bx tp nr md), (1000 + 1, stB' st ks off2 n2 cap2)] ks := .inl hT.ib
  refine ⟨by simp [idsV, idsA, idsF, ids0, extD, keys], ?_, ?_⟩
  ·intro p hp
   simp only [List.mem_cons, List.not_mem_nil, or_false] at hp
   rcases hp with rfl | rfl
   ·exact ⟨by omega, by simp [cfB, ids_lit, idsF, ids0]; exact ha⟩
   ·exact ⟨by omega, by simp [stB', ids_lit, idsF, ids0]; exact hb⟩
  ·intro k b c h1 h2
   simp at h1 h2
   rcases h1 with ⟨e1, rfl⟩ | ⟨e1, rfl⟩ <;> rcases h2 with ⟨e2, rfl⟩ | ⟨e2, rfl⟩ <;> first | rfl | omega
 intro C hC hC0 hY
 have hA := hT.a
 have hS := hT.s
 have hne := hT.ne
 have hLow := hT.low
 have hks := hT.k1
 have hks2 := hT.k2
 unfold cfV
 repeat' (first | refine gwA ?_ | ((first | refine gwR [] ?_ | refine gwD [] ?_); intro Q hQ hP; simp [hC, hY, hA, hS, hne]; refine hQ _ _ _ _ (by kernel_rfl) ?_; clear hQ hP Q) | (refine gwC ?_ ?_ <;> (intro hb; first | (cases hb; done) | skip)))
 refine ⟨.inr trivial, kpT G0F, _, _, fun k => if k = 1000 then 200 else if k = 1001 then 208 else k, ⟨rfl, rfl⟩, fun k hk => ?_, by simp, by simp, by simp [Tryz.results37, ren, renA, renF, ren0], ?_⟩
 ·dsimp only
  rw [if_neg (by omega), if_neg (by omega)]
 ·have h1 : ¬ ks = 1000 := by omega
  have h2 : ¬ ks = 1001 := by omega
  simp [cfB, stB', Blk.rn, renF, ren0, h1, h2]
theorem eless_fun (t a : Int) : Fun Tryz.prog G0 41 #[wd a, .pointer (some ⟨100, 0, none⟩)] (hpL G0 [(100, wb t)]) (keys [(100, wb t)]) (.ret (wd (t - a)) []) := by
 refine fun_ofL (B := 200) G0F Tryz.func41 rfl Tryz.call41 ⟨by simp, by simp [keys], by simp [wb, ids_lit, idsF, ids0]⟩ ?_ (flatV_ids (by simp)) (by simp) (by simp) (by simp [Tryz.ntmps41]) (by omega) ?_
 ·intro x hx
  simp only [List.mem_toArray, List.mem_cons, List.not_mem_nil, or_false] at hx
  rcases hx with rfl | rfl
  ·exact flatV_ids (by simp)
  ·simp [idsV, idsA, idsF, ids0, keys]
 intro C hC hC0 hY
 repeat' (first | refine gwA ?_ | ((first | refine gwR [] ?_ | refine gwD [] ?_); intro Q hQ hP; simp [hC, hY, wb]; refine hQ _ _ _ _ (by kernel_rfl) ?_; clear hQ hP Q) | (refine gwC ?_ ?_ <;> (intro hb; first | (cases hb; done) | skip)))
 refine ⟨.inr rfl, by simp [Tryz.results41], keep_of G0F (by simp [wb]) (by (intro k hk; first | rfl | (simp (disch := omega) only [addB, List.mem_cons, List.not_mem_nil, or_false, upd_other, hpL_cons, hpL_nil, if_neg, updL] <;> done)))⟩
theorem epairsR_rr {nk nk' ks off n cap off2 n2 cap2 : Nat} {g bx tp nr md st : Int} {ρ : Nat → Nat} (h100 : ρ 100 = 100) (hk : ρ ks = ks) (h0 : ρ nk = nk') (h1 : ρ (nk + 1) = nk' + 1) :
  RR ρ (EPairsR nk ks off n cap off2 n2 cap2 g bx tp nr md st) = EPairsR nk' ks off n cap off2 n2 cap2 g bx tp nr md st := by
 funext v ns
 apply propext
 constructor
 ·rintro ⟨v0, ns0, ⟨rfl, rfl⟩, rfl, rfl⟩
  exact ⟨by simp [ren, renA, renF, ren0, h0, h1], by simp [rnL, cfB, stB', Blk.rn, renF, ren0, h100, hk, h0, h1]⟩
 ·rintro ⟨rfl, rfl⟩
  exact ⟨_, _, ⟨rfl, rfl⟩, by simp [ren, renA, renF, ren0, h0, h1], by simp [rnL, cfB, stB', Blk.rn, renF, ren0, h100, hk, h0, h1]⟩
theorem epairs_at (nk : Nat) (hnk : 200 ≤ nk) (L : List (Nat × Blk)) (ks : Nat) (bm bs : Blk) (hT : LTwo G0 L ks bm bs) (off n cap off2 n2 cap2 : Nat) (g bx tp nr md st : Int) :
  FunS Tryz.prog G0 37 #[cfV (.slice (some ⟨100, off, none⟩) n cap) g bx tp nr md, .agg #[.int .i64 st, .slice (some ⟨ks, off2, none⟩) n2 cap2]] (hpL G0 L) (keys L) (EPairsR nk ks off n cap off2 n2 cap2 g bx tp nr md st) := by
 have e2 : ∀ j, j < 2 → up2 nk (1000 + j) = nk + j := fun j hj => by unfold up2; rw [if_pos (by omega), if_pos (by omega)]; omega
 have hlow : ∀ k, k < 1000 → up2 nk k = k := fun k hk => by unfold up2; rw [if_neg (by omega)]
 have hk2 := hT.k2
 have hid : ∀ k ∈ keys L, up2 nk k = k := fun k hk => by
  obtain ⟨p, hp, rfl⟩ := mem_keys.1 hk
  have := hT.ok.big p hp
  exact hlow _ (by omega)
 have hkk : ∀ v ns, EPairsR 1000 ks off n cap off2 n2 cap2 g bx tp nr md st v ns → ∀ k ∈ keys ns, ∃ j, j < 2 ∧ k = 1000 + j := by
  intro v ns hV k hk
  have := epairsR_key hV k hk
  exact ⟨k - 1000, by omega, by omega⟩
 refine (epairs_L L ks bm bs hT off n cap off2 n2 cap2 g bx tp nr md st).mvL (hp' := hpL G0 L) (rs' := keys L) G0F hT.ok (up2 nk) (fun k hk => hlow k (by omega)) ?_ ?_ (epairsR_rr (hlow _ (by omega)) (hlow _ (by omega)) (e2 0 (by omega)) (e2 1 (by omega))) hT.ok.low ?_ ?_ (fun v ns hV k hk => ?_) (fun v ns hV k hk l hl e => ?_)
 ·simp [cfV, ren, renA, renF, ren0, hlow 100 (by omega), hlow ks (by omega)]
 ·rw [List.map_congr_left hid]; simp
 ·intro p hp
  have hb := hT.ok.big p hp
  rw [hlow p.1 (by omega), Blk.fx_rn (hT.fx p hp)]
  exact ⟨hb.1, hT.mem p hp⟩
 ·intro k hk l hl e
  rw [hid k hk, hid l hl] at e
  exact e
 ·obtain ⟨j, hj, rfl⟩ := hkk v ns hV k hk
  rw [e2 j hj]
  refine ⟨by omega, fun h => ?_⟩
  obtain ⟨p, hp, e⟩ := mem_keys.1 h
  have := hT.ok.big p hp
  omega
 ·obtain ⟨j, hj, rfl⟩ := hkk v ns hV k hk
  obtain ⟨i, hi, rfl⟩ := hkk v ns hV l hl
  rw [e2 j hj, e2 i hi] at e
  omega
def epIx : Nat → List (Nat × Nat)
 | 2 => [(1, 0)]
 | 3 => [(1, 0), (2, 0), (2, 1)]
 | 4 => [(1, 0), (2, 0), (2, 1), (3, 0), (3, 1), (3, 2)]
 | _ => []
theorem epXs_map (fm fs : Nat → Int) {n : Nat} (hn : 1 ≤ n ∧ n ≤ 4) : epXs fm fs n = (epIx n).map fun p => epV fm fs p.1 p.2 := by
 have : n = 1 ∨ n = 2 ∨ n = 3 ∨ n = 4 := by omega
 rcases this with rfl | rfl | rfl | rfl <;> rfl
theorem epIx_lt {n : Nat} {p : Nat × Nat} (h : p ∈ epIx n) : p.2 < p.1 ∧ p.1 < n := by
 unfold epIx at h
 split at h <;> simp at h
 ·subst h; simp
 ·rcases h with rfl | rfl | rfl <;> simp
 ·rcases h with rfl | rfl | rfl | rfl | rfl | rfl <;> simp
def pS (F : Nat → Nat → Int) : List (Nat × Nat) → Int
 | [] => 0
 | p :: l => F p.1 p.2 + pS F l
theorem pS_app (F : Nat → Nat → Int) : ∀ l m, pS F (l ++ m) = pS F l + pS F m
 | [], m => by simp [pS]
 | p :: l, m => by
  simp only [List.cons_append, pS, pS_app F l m]
  omega
theorem pS_take (F : Nat → Nat → Int) {l : List (Nat × Nat)} {j : Nat} (hj : j < l.length) : pS F (l.take (j + 1)) = pS F (l.take j) + F l[j].1 l[j].2 := by
 rw [show l.take (j + 1) = l.take j ++ [l[j]] by simp, pS_app]
 simp [pS]
theorem sum2_ep (F : Nat → Nat → Int) {n : Nat} (hn : 1 ≤ n ∧ n ≤ 4) : sum2 F n = pS F (epIx n) := by
 have : n = 1 ∨ n = 2 ∨ n = 3 ∨ n = 4 := by omega
 rcases this with rfl | rfl | rfl | rfl <;> simp only [sum2, sumN, pS, epIx] <;> omega
theorem epairs_it (L : List (Nat × Blk)) (ks : Nat) (bm bs : Blk) (hT : LTwo G0 L ks bm bs) (off n cap off2 cap2 : Nat) (fm fs : Nat → Int) (hm : MB bm off n fm) (hSb : SB bs off2 n fs) (hcap : n ≤ cap2) (hn : 1 ≤ n ∧ n ≤ 4) (g bx tp nr md st : Int) :
  IterK Tryz.prog G0 70 #[.pointer (some ⟨208, 0, none⟩), .pointer (some ⟨200, 0, none⟩)] (hpL G0 (enM L ks off n cap off2 n cap2 g bx tp nr md st)) (keys (enM L ks off n cap off2 n cap2 g bx tp nr md st)) ((epIx n).map fun p => epV fm fs p.1 p.2) := by
 rw [← epXs_map fm fs hn]
 have : n = 1 ∨ n = 2 ∨ n = 3 ∨ n = 4 := by omega
 rcases this with rfl | rfl | rfl | rfl
 ·exact epairs_it1 L ks bm bs hT off cap off2 cap2 fm fs hm hSb hcap g bx tp nr md st
 ·exact epairs_it2 L ks bm bs hT off cap off2 cap2 fm fs hm hSb hcap g bx tp nr md st
 ·exact epairs_it3 L ks bm bs hT off cap off2 cap2 fm fs hm hSb hcap g bx tp nr md st
 ·exact epairs_it4 L ks bm bs hT off cap off2 cap2 fm fs hm hSb hcap g bx tp nr md st
def potLo (g : Int) (fm fs : Nat → Int) (n : Nat) : Int := sum2 (fun i k => enLo g (fm i) (fm k) (esqF fs i k)) n
def potHi (g : Int) (fm fs : Nat → Int) (n : Nat) : Int := sum2 (fun i k => enHi g (fm i) (fm k) (esqF fs i k)) n
def potZ (fs : Nat → Int) (n : Nat) : Int := sum2 (fun i k => if esqF fs i k = 0 then 1 else 0) n
theorem esq_in {st : Int} {fs : Nat → Int} {n : Nat} (hr : rightB st fs n = true) {i k : Nat} (hi : i < n) (hk : k < n) : 0 ≤ esqF fs i k ∧ esqF fs i k ≤ 13194139533312 := by
 obtain ⟨⟨⟨_, a0, a1⟩, ⟨_, b0, b1⟩, ⟨_, c0, c1⟩⟩, _⟩ := right_b hr hi
 obtain ⟨⟨⟨_, d0, d1⟩, ⟨_, e0, e1⟩, ⟨_, f0, f1⟩⟩, _⟩ := right_b hr hk
 have s0 := sq_in (a := fs (6 * i) - fs (6 * k)) (m := 2097152) ⟨by omega, by omega, by omega⟩
 have s1 := sq_in (a := fs (6 * i + 1) - fs (6 * k + 1)) (m := 2097152) ⟨by omega, by omega, by omega⟩
 have s2 := sq_in (a := fs (6 * i + 2) - fs (6 * k + 2)) (m := 2097152) ⟨by omega, by omega, by omega⟩
 unfold esqF f2V
 split <;> omega
theorem wakes22_of (h : Ret Tryz.prog G0 6 #[] (.bool true)) (K : Value → Prop) : callK Tryz.prog G0 6 #[] K ↔ K (.bool true) := callK_iff G0W (by kernel_rfl) h
theorem epair_at {g m w q a b : Int} (h : EIn g m w q) (hq : 0 < q) (e1 : enLo g m w q = a) (e2 : enHi g m w q = b) (K : Value → Prop) : callK Tryz.prog G0 7 #[.int .i64 g, .int .i64 m, .int .i64 w, .int .i64 q] K ↔ K (.tuple #[.int .i64 a, .int .i64 b, .int .i64 0]) := by
 subst e1 e2
 exact callK_iff G0W (by kernel_rfl) (epair_ok h hq)
end Go.Gy
namespace Go.Gy
set_option linter.unusedSimpArgs false
set_option linter.unusedVariables false
open Go Go.RowKit
section
variable {P : Program} {C : Ctx} {n : Nat} {d : List Deferred} {ro : Option Nat} {s : GS} {K : Exit → GS → Prop}
theorem GI.freeze {r : Nat → Nat} {a : Act} {W : World} {k t : Nat} {cs : Array Value} (hk : s.hp k = some ⟨cs, .ty t⟩) (h100 : 100 ≤ k) (h : GI P C n d r s a W) : GI P C n d r ⟨s.ts, upd s.hp k (some ⟨cs.map (renF r), .raw t (0, 0)⟩), s.B, s.yc⟩ a W := by
 have hD : dom (upd s.hp k (some ⟨cs.map (renF r), .raw t (0, 0)⟩)) = dom s.hp := by
  funext q
  unfold dom
  by_cases e : q = k
  ·subst e
   rw [upd_same, hk]
   simp
  ·rw [upd_other _ _ e]
 have hkB : ¬ s.B ≤ k := fun hb => by have := h.free k hb; rw [hk] at this; cases this
 refine ⟨⟨h.ri.size, ?_, fun q b hq => ?_, ?_, ?_, fun i hi => ?_, fun q hq => ?_, fun q hq hd => ?_⟩, fun x hx => ?_, h.low, h.flat, h.rounds⟩
 ·show Rel r (dom (upd s.hp k _)) s.ts a
  rw [hD]
  exact h.ri.rel
 ·show W.heap[r q]? = some (b.obj r) ∧ b.ids (dom (upd s.hp k _))
  rw [hD]
  by_cases e : q = k
  ·subst e
   have hq' : some (Blk.mk (cs.map (renF r)) (.raw t (0, 0))) = some b := (upd_same _ _ _).symm.trans hq
   cases hq'
   exact ⟨(h.ri.sat q _ hk).1, trivial⟩
  ·have hq' : s.hp q = some b := (upd_other _ _ e).symm.trans hq
   exact h.ri.sat q b hq'
 ·show Inj r (dom (upd s.hp k _))
  rw [hD]
  exact h.ri.inj
 ·obtain ⟨S, ms, h1, h2, h3, h4⟩ := h.ri.ext
  refine ⟨S, ms, h1, h2, fun i hi => ?_, h4⟩
  have hi' : dom (upd s.hp k (some ⟨cs.map (renF r), .raw t (0, 0)⟩)) i := hi
  rw [hD] at hi'
  exact h3 i hi'
 ·show dom (upd s.hp k _) i ∧ _
  rw [hD]
  exact h.ri.keep i hi
 ·show upd s.hp k _ q = _
  rw [upd_other _ _ (by omega)]
  exact h.ri.glob q hq
 ·have hd' : dom (upd s.hp k (some ⟨cs.map (renF r), .raw t (0, 0)⟩)) q := hd
  rw [hD] at hd'
  exact h.ri.low q hq hd'
 ·show upd s.hp k _ x = none
  have hx' : s.B ≤ x := hx
  rw [upd_other _ _ (by omega)]
  exact h.free x hx'
theorem GW_freeze {c : Code} (k : Nat) {t : Nat} {cs : Array Value} (hk : s.hp k = some ⟨cs, .ty t⟩) (h100 : 100 ≤ k) (h : ∀ cs' : Array Value, cs'.size = cs.size → (∀ (j : Nat) (v : Value), cs[j]? = some v → flatF v = true → cs'[j]? = some v) → GW P C n d ro c ⟨s.ts, upd s.hp k (some ⟨cs', .raw t (0, 0)⟩), s.B, s.yc⟩ K) : GW P C n d ro c s K := fun r a W hi =>
 h (cs.map (renF r)) (by simp) (fun j v hj hf => by simp [hj, flatF_ren hf]) r a W (hi.freeze hk h100)
end
end Go.Gy
