/-
  Lemmas of this claim, in their order (GyLD, GyCB, GyCC, GyCD, GyCE, GyCF, GyND, GyLE, GyLG, GyLH, GyLI).
  Conditions: those of each theorem.
-/
import Derived.Test.YtlageemaenplfaaDoorGz05
namespace Go.Gy
set_option linter.unusedSimpArgs false
open Go Go.RowKit
@[simp] theorem flatV_map0 : flatV (.map none) = true := by simp [flatV, flatA, flatF, flat0]
theorem cnt_set : ∀ (l : List Bool) (i : Nat), l[i]? = some false → (l.set i true).count false + 1 = l.count false
  | [], i, h => by simp at h
  | a :: l, 0, h => by simp at h; subst h; simp
  | a :: l, i + 1, h => by
    have := cnt_set l i (by simpa using h)
    simp only [List.set_cons_succ, List.count_cons]
    omega
theorem mem_ready {md : Region.Mode} {ops : Array Oper} {listed : Array Bool} (hs : listed.size = ops.size) {i : Nat} : i ∈ Region.ready md ops listed ↔ listed[i]? = some false ∧ ∀ o, ops[i]? = some o → ∀ e ∈ o.after, Region.binds md e = true → listed[e.on]? = some true := by
  unfold Region.ready
  simp only [List.mem_filter, List.mem_range, Bool.and_eq_true, Bool.not_eq_true']
  constructor
  · rintro ⟨h1, h2, h3⟩
    have e1 : listed[i]? = some listed[i] := Array.getElem?_eq_getElem (by omega)
    refine ⟨?_, fun o ho e he hb => ?_⟩
    · simp only [Array.getD_eq_getD_getElem?, e1, Option.getD_some] at h2
      rw [e1, h2]
    · rw [ho] at h3
      simp only [Option.map_some, Option.getD_some, Array.all_eq_true_iff_forall_mem] at h3
      have := h3 e he
      rw [hb] at this
      simp only [Bool.not_true, Bool.false_or, Array.getD_eq_getD_getElem?] at this
      cases hl : listed[e.on]? with
      | none => rw [hl] at this; simp at this
      | some b => rw [hl] at this; simp at this; rw [this]
  · rintro ⟨h1, h2⟩
    have hlt : i < ops.size := by have := (Array.getElem?_eq_some_iff.1 h1).1; omega
    refine ⟨hlt, by simp [Array.getD_eq_getD_getElem?, h1], ?_⟩
    rw [Array.getElem?_eq_getElem hlt]
    simp only [Option.map_some, Option.getD_some, Array.all_eq_true_iff_forall_mem, Bool.or_eq_true, Bool.not_eq_true']
    intro e he
    cases hb : Region.binds md e with
    | false => exact .inl rfl
    | true => right; simp [Array.getD_eq_getD_getElem?, h2 _ (Array.getElem?_eq_getElem hlt) e he hb]
theorem ready_nil {md : Region.Mode} {ops : Array Oper} {listed : Array Bool} (hs : listed.size = ops.size) (hlt : (ops.toList.zipIdx.all fun p => p.1.after.all fun e => decide (e.on < p.2)) = true) (h : Region.ready md ops listed = []) : ∀ i, i < ops.size → listed[i]? = some true := by
  intro i
  induction i using Nat.strongRecOn with
  | _ i ih =>
    intro hi
    have e1 : listed[i]? = some listed[i] := Array.getElem?_eq_getElem (by omega)
    cases hb : listed[i] with
    | true => rw [e1, hb]
    | false =>
      exfalso
      have : i ∈ Region.ready md ops listed := (mem_ready hs).2 ⟨by rw [e1, hb], fun o ho e he _ => by
        have hm : (o, i) ∈ ops.toList.zipIdx := by
          rw [List.mem_zipIdx_iff_getElem?]
          simpa using ho
        have := List.all_eq_true.1 hlt _ hm
        have := Array.all_eq_true_iff_forall_mem.1 this e he
        have h3 : e.on < i := by simpa using this
        exact ih _ h3 (by omega)⟩
      rw [h] at this
      cases this
section
variable {P : Program} {C : Ctx} {n : Nat} {d : List Deferred} {ro : Option Nat} {K : Exit → GS → Prop}
theorem GL_callW {G : Hp} {ops : Array Oper} {o : Oper} {post : List Oper} {base k : Nat} (sh : Nat) {ts : Nat → Value} {hp hp' : Hp} {yc : Nat} {c : Call} {f : Operand} {g : FuncId} {cap : Array Value} {rs : List Nat} {args : Array Value} {R : Value → List (Nat × Blk) → Prop} (hCG : C.G = G) (hr : FunS P G g args hp' rs R) (hg : o.guard = none) (hd : ∀ dd, o.dst = some dd → dd < n)
    (ho : o.op = .call c) (hc : c.callee = .value f) (hf : okT ts f) (hgf : gev ts f = .func (.func g) #[] cap) (hcp : cap.all plain0 = true) (ha : ∀ x ∈ c.args.toList, okX ts hp x) (hargs : c.args.map (gev ts) ++ cap = args)
    (h1 : ∀ q ∈ rs, hp' q = hp q) (h2 : ∀ q, q < 100 → hp' q = hp q) (hat : ∀ v ns, R v ns → ∀ q ∈ keys ns, base + 8 * k ≤ q ∧ q < base + sh + 8 * k + 8)
    (h : ∀ v ns, R v ns → GL P C n d ro ops (base + sh) (k + 1) post (putT ts o.dst v) (updL hp ns) yc K) : GL P C n d ro ops base k (o :: post) ts hp yc K := by
  subst hCG
  intro r a W hi hfr hb hG hR
  refine wpListIn_plain hg fun K' hK' => ?_
  refine step_callS hG hi hd ho hc hf hgf hcp ha (by rw [hargs]; exact hr.under fun q hq => hq.elim (h2 q) (h1 q)) (fun v ns hRv q hq => hfr q (hat v ns hRv q hq).1) (fun v ns hRv r' a' W' hi' => hK' _ _ (h v ns hRv r' a' W' hi' (fun x hx => ?_) (by omega) hG hR))
  rw [updL_other (fun hm => by have := hat v ns hRv x hm; omega)]
  exact hfr x (by omega)
theorem GA_ind {ops : Array Oper} {base yc : Nat} (I : Array Bool → (Nat → Value) → Hp → Prop)
    (fin : ∀ listed ts hp, listed.size = ops.size → Region.ready .any ops listed = [] → I listed ts hp → K .normal ⟨ts, hp, base + 8 * ops.size, yc⟩)
    (step : ∀ fuel listed ts hp i, listed.size = ops.size → listed[i]? = some false → (∀ o, ops[i]? = some o → ∀ e ∈ o.after, Region.binds .any e = true → listed[e.on]? = some true) → I listed ts hp →
      (∀ ts' hp', I (listed.setIfInBounds i true) ts' hp' → GA P C n d ro ops base fuel (listed.setIfInBounds i true) ts' hp' yc K) → GO P C n d ro ops base fuel listed i ts hp yc K) :
    ∀ (fuel : Nat) (listed : Array Bool) (ts : Nat → Value) (hp : Hp), listed.size = ops.size → listed.toList.count false ≤ fuel → I listed ts hp → GA P C n d ro ops base fuel listed ts hp yc K
  | 0, listed, ts, hp, hs, hc, hI => by
    have hr : Region.ready .any ops listed = [] := by
      cases h : Region.ready .any ops listed with
      | nil => rfl
      | cons i l =>
        have hm : i ∈ Region.ready .any ops listed := by rw [h]; simp
        have h1 := ((mem_ready hs).1 hm).1
        have h2 := cnt_set listed.toList i (by simpa using h1)
        omega
    exact GA_nil hr (fin _ _ _ hs hr hI)
  | fuel + 1, listed, ts, hp, hs, hc, hI => by
    cases h : Region.ready .any ops listed with
    | nil => exact GA_nil h (fin _ _ _ hs h hI)
    | cons i l =>
      refine GA_step _ rfl (by rw [h]; rfl) fun j hj => ?_
      obtain ⟨h1, h2⟩ := (mem_ready hs).1 hj
      refine step fuel listed ts hp j hs h1 h2 hI fun ts' hp' hI' => ?_
      have h3 := cnt_set listed.toList j (by simpa using h1)
      exact GA_ind I fin step fuel _ _ _ (by simpa using hs) (by simp only [Array.toList_setIfInBounds]; omega) hI'
end
end Go.Gy
namespace Go.Gy
set_option linter.unusedSimpArgs false
set_option linter.unusedVariables false
open Go Go.RowKit Go.Proofs
def mT (sl : Value) (n : Nat) (g bx tp nr : Int) : List (Nat × Nat × Value) := [(0, 4, .map (some 224)),
    (1, 5, .func (.func 75) #[] #[]),
    (2, 6, .pointer (some ⟨200, 0, none⟩)),
    (3, 7, sl),
    (4, 8, .int .i64 n),
    (5, 9, .func (.func 76) #[] #[.pointer (some ⟨264, 0, none⟩), .pointer (some ⟨265, 0, none⟩)]),
    (7, 10, .func (.func 78) #[] #[.pointer (some ⟨200, 0, none⟩)]),
    (9, 11, .func (.func 75) #[] #[]),
    (10, 12, .pointer (some ⟨200, 1, none⟩)),
    (11, 13, .int .i64 g),
    (12, 14, .func (.func 76) #[] #[.pointer (some ⟨320, 0, none⟩), .pointer (some ⟨321, 0, none⟩)]),
    (14, 15, .func (.func 75) #[] #[]),
    (15, 16, .pointer (some ⟨200, 2, none⟩)),
    (16, 17, .int .i64 bx),
    (17, 18, .func (.func 76) #[] #[.pointer (some ⟨360, 0, none⟩), .pointer (some ⟨361, 0, none⟩)]),
    (19, 19, .func (.func 75) #[] #[]),
    (20, 20, .pointer (some ⟨200, 3, none⟩)),
    (21, 21, .int .i64 tp),
    (22, 22, .func (.func 76) #[] #[.pointer (some ⟨400, 0, none⟩), .pointer (some ⟨401, 0, none⟩)]),
    (24, 23, .func (.func 75) #[] #[]),
    (25, 24, .pointer (some ⟨200, 4, none⟩)),
    (26, 25, .int .i64 nr),
    (27, 26, .pointer (some ⟨200, 2, none⟩)),
    (28, 27, .int .i64 bx),
    (29, 28, .int .i64 (Int.bmod (2 * bx) 18446744073709551616)),
    (30, 29, .func (.func 76) #[] #[.pointer (some ⟨464, 0, none⟩), .pointer (some ⟨465, 0, none⟩)]),
    (32, 30, .func (.func 81) #[] #[.pointer (some ⟨200, 0, none⟩)]),
    (34, 31, .map (some 224)),
    (35, 2, .map (some 224))]
def mI : List (Nat × ByteArray × Value) := [(6, ⟨#[98, 111, 100, 105, 101, 115]⟩, .func (.func 76) #[] #[.pointer (some ⟨264, 0, none⟩), .pointer (some ⟨265, 0, none⟩)]),
    (8, ⟨#[109, 97, 115, 115]⟩, .func (.func 78) #[] #[.pointer (some ⟨200, 0, none⟩)]),
    (13, ⟨#[99, 111, 110, 115, 116, 97, 110, 116]⟩, .func (.func 76) #[] #[.pointer (some ⟨320, 0, none⟩), .pointer (some ⟨321, 0, none⟩)]),
    (18, ⟨#[98, 111, 120]⟩, .func (.func 76) #[] #[.pointer (some ⟨360, 0, none⟩), .pointer (some ⟨361, 0, none⟩)]),
    (23, ⟨#[116, 111, 112]⟩, .func (.func 76) #[] #[.pointer (some ⟨400, 0, none⟩), .pointer (some ⟨401, 0, none⟩)]),
    (31, ⟨#[110, 101, 97, 114]⟩, .func (.func 76) #[] #[.pointer (some ⟨464, 0, none⟩), .pointer (some ⟨465, 0, none⟩)]),
    (33, ⟨#[109, 101, 116, 104, 111, 100]⟩, .func (.func 81) #[] #[.pointer (some ⟨200, 0, none⟩)])]
def mX (n : Nat) (g bx tp nr : Int) : List (Nat × Nat × Blk) := [(5, 264, jb (n : Int)), (5, 265, jb 4),
    (12, 320, jb g), (12, 321, jb 1048576),
    (17, 360, jb bx), (17, 361, jb 1048576),
    (22, 400, jb tp), (22, 401, jb 65536),
    (30, 464, jb nr), (30, 465, jb (Int.bmod (2 * bx) 18446744073709551616))]
structure MI (b : Blk) (sl : Value) (n : Nat) (g bx tp nr md : Int) (listed : Array Bool) (ts : Nat → Value) (hp : Hp) : Prop where
  t1 : ts 1 = .pointer (some ⟨200, 0, none⟩)
  t3 : ts 3 = .func (.func 75) #[] #[]
  tm : ∀ p ∈ mT sl n g bx tp nr, listed[p.1]? = some true → ts p.2.1 = p.2.2
  low : ∀ k, k < 100 → hp k = G0 k
  b : hp 100 = some b
  c : hp 200 = some (cfB sl g bx tp nr md)
  bx : ∀ q ∈ mX n g bx tp nr, listed[q.1]? = some true → hp q.2.1 = some q.2.2
  mp : listed[0]? = some true → ∃ l, hp 224 = some (mpB l) ∧ (∀ p ∈ l, ∃ q ∈ mI, p = q.2 ∧ listed[q.1]? = some true) ∧ ∀ q ∈ mI, listed[q.1]? = some true → findL q.2.1 l = some q.2.2
  i0 : ∀ q ∈ mI, listed[q.1]? = some true → listed[0]? = some true
theorem set_keep {listed : Array Bool} {i j : Nat} (h : listed[j]? = some true) : (listed.setIfInBounds i true)[j]? = some true := by
  rw [Array.getElem?_setIfInBounds]
  split
  · split
    · rfl
    · rename_i e hlt
      subst e
      exact absurd (Array.getElem?_eq_some_iff.1 h).1 hlt
  · exact h
theorem set_get {listed : Array Bool} {i j : Nat} (h : (listed.setIfInBounds i true)[j]? = some true) : j = i ∨ listed[j]? = some true := by
  rw [Array.getElem?_setIfInBounds] at h
  by_cases e : i = j
  · exact .inl e.symm
  · rw [if_neg e] at h; exact .inr h
theorem mT_tmp (sl : Value) (n : Nat) (g bx tp nr : Int) : ∀ p ∈ mT sl n g bx tp nr, ∀ q ∈ mT sl n g bx tp nr, p.1 = q.1 ∨ p.2.1 = q.2.1 → p = q := by
  intro p hp q hq
  simp only [mT, List.mem_cons, List.not_mem_nil, or_false] at hp hq
  rcases hp with rfl | rfl | rfl | rfl | rfl | rfl | rfl | rfl | rfl | rfl | rfl | rfl | rfl | rfl | rfl | rfl | rfl | rfl | rfl | rfl | rfl | rfl | rfl | rfl | rfl | rfl | rfl | rfl | rfl <;> rcases hq with rfl | rfl | rfl | rfl | rfl | rfl | rfl | rfl | rfl | rfl | rfl | rfl | rfl | rfl | rfl | rfl | rfl | rfl | rfl | rfl | rfl | rfl | rfl | rfl | rfl | rfl | rfl | rfl | rfl <;> simp
theorem mT_13 (sl : Value) (n : Nat) (g bx tp nr : Int) : ∀ p ∈ mT sl n g bx tp nr, p.2.1 ≠ 1 ∧ p.2.1 ≠ 3 := by simp [mT]
theorem mT_mI (sl : Value) (n : Nat) (g bx tp nr : Int) : ∀ p ∈ mT sl n g bx tp nr, ∀ q ∈ mI, p.1 ≠ q.1 := by simp [mT, mI]
theorem mI_key : ∀ p ∈ mI, ∀ q ∈ mI, p.1 = q.1 ∨ (p.2.1 == q.2.1) = false := by
  intro p hp q hq
  simp only [mI, List.mem_cons, List.not_mem_nil, or_false] at hp hq
  rcases hp with rfl | rfl | rfl | rfl | rfl | rfl | rfl <;> rcases hq with rfl | rfl | rfl | rfl | rfl | rfl | rfl <;> first | exact .inl rfl | (right; decide +kernel)
theorem mI_one : ∀ p ∈ mI, ∀ q ∈ mI, p.1 = q.1 → p = q := by
  intro p hp q hq
  simp only [mI, List.mem_cons, List.not_mem_nil, or_false] at hp hq
  rcases hp with rfl | rfl | rfl | rfl | rfl | rfl | rfl <;> rcases hq with rfl | rfl | rfl | rfl | rfl | rfl | rfl <;> simp
theorem mI_self : ∀ p ∈ mI, (p.2.1 == p.2.1) = true := by
  intro p hp
  simp only [mI, List.mem_cons, List.not_mem_nil, or_false] at hp
  rcases hp with rfl | rfl | rfl | rfl | rfl | rfl | rfl <;> decide +kernel
section
variable {b : Blk} {sl : Value} {n : Nat} {g bx tp nr md : Int} {listed : Array Bool} {ts : Nat → Value} {hp : Hp}
theorem MI.tmp (h : MI b sl n g bx tp nr md listed ts hp) {i t : Nat} {v : Value} (hm : (i, t, v) ∈ mT sl n g bx tp nr) (hx : ∀ q ∈ mX n g bx tp nr, q.1 ≠ i) (hi : i ≠ 0) : MI b sl n g bx tp nr md (listed.setIfInBounds i true) (upd ts t v) hp := by
  have h13 := mT_13 sl n g bx tp nr _ hm
  refine ⟨by rw [upd_other _ _ (fun e => h13.1 e.symm)]; exact h.t1, by rw [upd_other _ _ (fun e => h13.2 e.symm)]; exact h.t3, fun p hp hl => ?_, h.low, h.b, h.c, fun q hq hl => ?_, fun hl => ?_, fun q hq hl => (set_get hl).elim (fun e1 => absurd e1.symm (mT_mI sl n g bx tp nr _ hm q hq)) fun h1 => set_keep (h.i0 q hq h1)⟩
  · by_cases e : p.2.1 = t
    · have := mT_tmp sl n g bx tp nr p hp _ hm (.inr e)
      subst this
      exact upd_same _ _ _
    · rw [upd_other _ _ e]
      rcases set_get hl with e1 | h1
      · exact absurd (congrArg (fun x => x.2.1) (mT_tmp sl n g bx tp nr p hp _ hm (.inl e1))) e
      · exact h.tm p hp h1
  · rcases set_get hl with e1 | h1
    · exact absurd e1 (hx q hq)
    · exact h.bx q hq h1
  · rcases set_get hl with e1 | h1
    · exact absurd e1.symm hi
    · obtain ⟨l, l1, l2, l3⟩ := h.mp h1
      refine ⟨l, l1, fun p hp => ?_, fun q hq hl2 => ?_⟩
      · obtain ⟨q, hq, e, h2⟩ := l2 p hp
        refine ⟨q, hq, e, ?_⟩
        rw [Array.getElem?_setIfInBounds, if_neg (fun e => mT_mI sl n g bx tp nr _ hm q hq e)]
        exact h2
      · rcases set_get hl2 with e1 | h2
        · exact absurd e1.symm (mT_mI sl n g bx tp nr _ hm q hq)
        · exact l3 q hq h2
theorem MI.mkm (h : MI b sl n g bx tp nr md listed ts hp) (h0 : listed[0]? = some false) : MI b sl n g bx tp nr md (listed.setIfInBounds 0 true) (upd ts 4 (.map (some 224))) (upd hp 224 (some (mpB []))) := by
  have hm : (0, 4, Value.map (some 224)) ∈ mT sl n g bx tp nr := by simp [mT]
  refine ⟨by rw [upd_other _ _ (by omega)]; exact h.t1, by rw [upd_other _ _ (by omega)]; exact h.t3, fun p hp hl => ?_, fun k hk => by rw [upd_other _ _ (by omega)]; exact h.low k hk, by rw [upd_other _ _ (by omega)]; exact h.b, by rw [upd_other _ _ (by omega)]; exact h.c, fun q hq hl => ?_, fun _ => ⟨[], upd_same _ _ _, by simp, fun q hq hl => ?_⟩, fun q hq hl => by simp [Array.getElem?_setIfInBounds, (Array.getElem?_eq_some_iff.1 h0).1]⟩
  · by_cases e : p.2.1 = 4
    · have := mT_tmp sl n g bx tp nr p hp _ hm (.inr e)
      subst this
      exact upd_same _ _ _
    · rw [upd_other _ _ e]
      rcases set_get hl with e1 | h1
      · exact absurd (congrArg (fun x => x.2.1) (mT_tmp sl n g bx tp nr p hp _ hm (.inl e1))) e
      · exact h.tm p hp h1
  · have hq2 : q.1 ≠ 0 ∧ q.2.1 ≠ 224 := (show ∀ q ∈ mX n g bx tp nr, q.1 ≠ 0 ∧ q.2.1 ≠ 224 by simp [mX]) q hq
    rw [upd_other _ _ hq2.2]
    rcases set_get hl with e1 | h1
    · exact absurd e1 hq2.1
    · exact h.bx q hq h1
  · have hq2 : q.1 ≠ 0 := (show ∀ q ∈ mI, q.1 ≠ 0 by simp [mI]) q hq
    rcases set_get hl with e1 | h1
    · exact absurd e1 hq2
    · rw [h.i0 q hq h1] at h0; cases h0
theorem MI.call (h : MI b sl n g bx tp nr md listed ts hp) {i t nk : Nat} {v : Value} {a m : Int} (hm : (i, t, v) ∈ mT sl n g bx tp nr) (hnk : 225 ≤ nk) (hi : i ≠ 0) (hx : ∀ q ∈ mX n g bx tp nr, (q.1 = i → (q.2.1 = nk ∧ q.2.2 = jb a) ∨ (q.2.1 = nk + 1 ∧ q.2.2 = jb m)) ∧ (q.1 ≠ i → q.2.1 ≠ nk ∧ q.2.1 ≠ nk + 1)) :
    MI b sl n g bx tp nr md (listed.setIfInBounds i true) (upd ts t v) (upd (upd hp nk (some (jb a))) (nk + 1) (some (jb m))) := by
  have h13 := mT_13 sl n g bx tp nr _ hm
  refine ⟨by rw [upd_other _ _ (fun e => h13.1 e.symm)]; exact h.t1, by rw [upd_other _ _ (fun e => h13.2 e.symm)]; exact h.t3, fun p hp hl => ?_, fun k hk => by rw [upd_other _ _ (by omega), upd_other _ _ (by omega)]; exact h.low k hk, by rw [upd_other _ _ (by omega), upd_other _ _ (by omega)]; exact h.b, by rw [upd_other _ _ (by omega), upd_other _ _ (by omega)]; exact h.c, fun q hq hl => ?_, fun hl => ?_, fun q hq hl => (set_get hl).elim (fun e1 => absurd e1.symm (mT_mI sl n g bx tp nr _ hm q hq)) fun h1 => set_keep (h.i0 q hq h1)⟩
  · by_cases e : p.2.1 = t
    · have := mT_tmp sl n g bx tp nr p hp _ hm (.inr e)
      subst this
      exact upd_same _ _ _
    · rw [upd_other _ _ e]
      rcases set_get hl with e1 | h1
      · exact absurd (congrArg (fun x => x.2.1) (mT_tmp sl n g bx tp nr p hp _ hm (.inl e1))) e
      · exact h.tm p hp h1
  · by_cases e : q.1 = i
    · rcases (hx q hq).1 e with ⟨e1, e2⟩ | ⟨e1, e2⟩
      · rw [e1, e2, upd_other _ _ (by omega), upd_same]
      · rw [e1, e2, upd_same]
    · obtain ⟨e1, e2⟩ := (hx q hq).2 e
      rw [upd_other _ _ e2, upd_other _ _ e1]
      rcases set_get hl with e3 | h1
      · exact absurd e3 e
      · exact h.bx q hq h1
  · rcases set_get hl with e1 | h1
    · exact absurd e1.symm hi
    · obtain ⟨l, l1, l2, l3⟩ := h.mp h1
      refine ⟨l, by rw [upd_other _ _ (by omega), upd_other _ _ (by omega)]; exact l1, fun p hp => ?_, fun q hq hl2 => ?_⟩
      · obtain ⟨q, hq, e, h2⟩ := l2 p hp
        refine ⟨q, hq, e, ?_⟩
        rw [Array.getElem?_setIfInBounds, if_neg (fun e => mT_mI sl n g bx tp nr _ hm q hq e)]
        exact h2
      · rcases set_get hl2 with e1 | h2
        · exact absurd e1.symm (mT_mI sl n g bx tp nr _ hm q hq)
        · exact l3 q hq h2
theorem findL_app {s : ByteArray} {v : Value} {k : ByteArray} : ∀ (l : List (ByteArray × Value)), findL k (l ++ [(s, v)]) = match findL k l with | some u => some u | none => if (k == s) = true then some v else none
  | [] => rfl
  | p :: l => by
    simp only [List.cons_append, findL]
    split
    · rfl
    · exact findL_app l
theorem MI.fresh (h : MI b sl n g bx tp nr md listed ts hp) {i : Nat} {s : ByteArray} {v : Value} (hm : (i, s, v) ∈ mI) (hi : listed[i]? = some false) {l : List (ByteArray × Value)} (hl : ∀ p ∈ l, ∃ q ∈ mI, p = q.2 ∧ listed[q.1]? = some true) : findL s l = none := by
  induction l with
  | nil => rfl
  | cons p l ih =>
    simp only [findL]
    obtain ⟨q, hq, e, h2⟩ := hl p (by simp)
    have : (s == p.1) = false := by
      rw [e]
      rcases mI_key _ hm q hq with e1 | e1
      · have e1 : i = q.1 := e1
        rw [← e1, hi] at h2
        cases h2
      · exact e1
    rw [this]
    exact ih fun p hp => hl p (List.mem_cons_of_mem _ hp)
theorem MI.ins (h : MI b sl n g bx tp nr md listed ts hp) {i : Nat} {s : ByteArray} {v : Value} (hm : (i, s, v) ∈ mI) (hlt : i < listed.size) {l : List (ByteArray × Value)} (hl : ∀ p ∈ l, ∃ q ∈ mI, p = q.2 ∧ listed[q.1]? = some true) (hf : ∀ q ∈ mI, listed[q.1]? = some true → findL q.2.1 l = some q.2.2) (hn : findL s l = none) (h00 : listed[0]? = some true) :
    MI b sl n g bx tp nr md (listed.setIfInBounds i true) ts (upd hp 224 (some (mpB (l ++ [(s, v)])))) := by
  refine ⟨h.t1, h.t3, fun p hp hl => ?_, fun k hk => by rw [upd_other _ _ (by omega)]; exact h.low k hk, by rw [upd_other _ _ (by omega)]; exact h.b, by rw [upd_other _ _ (by omega)]; exact h.c, fun q hq hl => ?_, fun _ => ⟨_, upd_same _ _ _, fun p hp => ?_, fun q hq hl2 => ?_⟩, fun q hq hl => set_keep h00⟩
  · rcases set_get hl with e1 | h1
    · exact absurd e1 (mT_mI sl n g bx tp nr p hp _ hm)
    · exact h.tm p hp h1
  · have hq2 : q.2.1 ≠ 224 := (show ∀ q ∈ mX n g bx tp nr, q.2.1 ≠ 224 by simp [mX]) q hq
    have hq3 : ∀ p ∈ mI, q.1 ≠ p.1 := (show ∀ q ∈ mX n g bx tp nr, ∀ p ∈ mI, q.1 ≠ p.1 by simp [mX, mI]) q hq
    rw [upd_other _ _ hq2]
    rcases set_get hl with e1 | h1
    · exact absurd e1 (hq3 _ hm)
    · exact h.bx q hq h1
  · rcases List.mem_append.1 hp with hp | hp
    · obtain ⟨q, hq, e, h2⟩ := hl p hp
      refine ⟨q, hq, e, ?_⟩
      exact set_keep h2
    · simp only [List.mem_singleton] at hp
      subst hp
      refine ⟨_, hm, rfl, ?_⟩
      simp [Array.getElem?_setIfInBounds, hlt]
  · rw [findL_app]
    rcases set_get hl2 with e1 | h2
    · have := mI_one q hq _ hm e1
      subst this
      simp only [hn]
      rw [mI_self _ hm]
      rfl
    · rw [hf q hq h2]
end
def mV (nk : Nat) : List (ByteArray × Value) := [(⟨#[98, 111, 100, 105, 101, 115]⟩, .func (.func 76) #[] #[.pointer (some ⟨nk + 2, 0, none⟩), .pointer (some ⟨nk + 3, 0, none⟩)]),
    (⟨#[109, 97, 115, 115]⟩, .func (.func 78) #[] #[.pointer (some ⟨nk + 1, 0, none⟩)]),
    (⟨#[99, 111, 110, 115, 116, 97, 110, 116]⟩, .func (.func 76) #[] #[.pointer (some ⟨nk + 4, 0, none⟩), .pointer (some ⟨nk + 5, 0, none⟩)]),
    (⟨#[98, 111, 120]⟩, .func (.func 76) #[] #[.pointer (some ⟨nk + 6, 0, none⟩), .pointer (some ⟨nk + 7, 0, none⟩)]),
    (⟨#[116, 111, 112]⟩, .func (.func 76) #[] #[.pointer (some ⟨nk + 8, 0, none⟩), .pointer (some ⟨nk + 9, 0, none⟩)]),
    (⟨#[110, 101, 97, 114]⟩, .func (.func 76) #[] #[.pointer (some ⟨nk + 10, 0, none⟩), .pointer (some ⟨nk + 11, 0, none⟩)]),
    (⟨#[109, 101, 116, 104, 111, 100]⟩, .func (.func 81) #[] #[.pointer (some ⟨nk + 1, 0, none⟩)])]
def mNs (nk : Nat) (l : List (ByteArray × Value)) (sl : Value) (n : Nat) (g bx tp nr md : Int) : List (Nat × Blk) := [(nk, mpB l), (nk + 1, cfB sl g bx tp nr md), (nk + 2, jb (n : Int)), (nk + 3, jb 4), (nk + 4, jb g), (nk + 5, jb 1048576), (nk + 6, jb bx), (nk + 7, jb 1048576), (nk + 8, jb tp), (nk + 9, jb 65536), (nk + 10, jb nr), (nk + 11, jb (Int.bmod (2 * bx) 18446744073709551616))]
def MustsR (nk : Nat) (sl : Value) (n : Nat) (g bx tp nr md : Int) (v : Value) (ns : List (Nat × Blk)) : Prop := ∃ l, v = .map (some nk) ∧ ns = mNs nk l sl n g bx tp nr md ∧ (∀ p ∈ l, p ∈ mV nk) ∧ ∀ q ∈ mV nk, findL q.1 l = some q.2
theorem findL_map {s : ByteArray} {h : Value → Value} : ∀ l : List (ByteArray × Value), findL s (l.map fun p => (p.1, h p.2)) = (findL s l).map h
  | [] => rfl
  | p :: l => by
    simp only [List.map_cons, findL]
    split
    · rfl
    · exact findL_map l
theorem mpB_rn (ρ : Nat → Nat) (l : List (ByteArray × Value)) : (mpB l).rn ρ = mpB (l.map fun p => (p.1, renF ρ p.2)) := by
  unfold mpB Blk.rn mpC
  simp only [List.map_toArray, List.map_flatMap, List.flatMap_map, List.map_cons, List.map_nil]
  rfl
def mR (k : Nat) : Nat := if k = 1000 then 224 else if k = 1001 then 200 else if k = 1002 then 264 else if k = 1003 then 265 else if k = 1004 then 320 else if k = 1005 then 321 else if k = 1006 then 360 else if k = 1007 then 361 else if k = 1008 then 400 else if k = 1009 then 401 else if k = 1010 then 464 else if k = 1011 then 465 else k
def mS (k : Nat) : Nat := if k = 224 then 1000 else if k = 200 then 1001 else if k = 264 then 1002 else if k = 265 then 1003 else if k = 320 then 1004 else if k = 321 then 1005 else if k = 360 then 1006 else if k = 361 then 1007 else if k = 400 then 1008 else if k = 401 then 1009 else if k = 464 then 1010 else if k = 465 then 1011 else k
set_option maxRecDepth 8000 in
set_option maxHeartbeats 8000000 in
theorem musts_fun (b : Blk) (hb : b.fx) (off n cap : Nat) (g bx tp nr md : Int) :
    FunS Tryd.prog G0 61 #[cfV (.slice (some ⟨100, off, none⟩) n cap) g bx tp nr md] (hpL G0 [(100, b)]) (keys [(100, b)]) (MustsR 1000 (.slice (some ⟨100, off, none⟩) n cap) n g bx tp nr md) := by
  refine newS_ofL (B := 200) G0F Tryd.func61 rfl Tryd.call61 (oneL_ok hb) ?_ ?_ (by simp [Tryd.ntmps61]) (by omega) ?_
  · simp [idsV, idsA, idsF, ids0, keys, cfV]
  · rintro v ns ⟨l, rfl, rfl, hl, _⟩
    have hl2 : ∀ D : Nat → Prop, (∀ k, 1000 ≤ k → k < 1012 → D k) → (mpB l).ids D := fun D hD => mpB_ids.2 fun p hp => by
      have := hl p hp
      simp only [mV, List.mem_cons, List.not_mem_nil, or_false] at this
      rcases this with rfl | rfl | rfl | rfl | rfl | rfl | rfl <;> simp [idsF, ids0, hD]
    refine ⟨by simp [idsV, idsA, idsF, ids0, extD, keys, mNs], ?_, ?_⟩
    · intro p hp
      simp only [mNs, List.mem_cons, List.not_mem_nil, or_false] at hp
      have hD : ∀ k, 1000 ≤ k → k < 1012 → extD (fun k => k ∈ keys [(100, b)]) (mNs 1000 l (.slice (some ⟨100, off, none⟩) n cap) n g bx tp nr md) k := fun k hk1 hk2 => .inr (by
        simp only [mNs, keys, List.map_cons, List.map_nil, List.mem_cons, List.not_mem_nil, or_false]
        omega)
      rcases hp with rfl | rfl | rfl | rfl | rfl | rfl | rfl | rfl | rfl | rfl | rfl | rfl
      · exact ⟨by omega, hl2 _ hD⟩
      · exact ⟨by omega, by simp [cfB, ids_lit, idsF, ids0, extD, keys]⟩
      all_goals exact ⟨by omega, by simp [jb, ids_lit, idsF, ids0]⟩
    · intro k b c h1 h2
      simp only [mNs, List.mem_cons, List.not_mem_nil, or_false, Prod.mk.injEq] at h1 h2
      rcases h1 with ⟨e1, rfl⟩ | ⟨e1, rfl⟩ | ⟨e1, rfl⟩ | ⟨e1, rfl⟩ | ⟨e1, rfl⟩ | ⟨e1, rfl⟩ | ⟨e1, rfl⟩ | ⟨e1, rfl⟩ | ⟨e1, rfl⟩ | ⟨e1, rfl⟩ | ⟨e1, rfl⟩ | ⟨e1, rfl⟩ <;> rcases h2 with ⟨e2, rfl⟩ | ⟨e2, rfl⟩ | ⟨e2, rfl⟩ | ⟨e2, rfl⟩ | ⟨e2, rfl⟩ | ⟨e2, rfl⟩ | ⟨e2, rfl⟩ | ⟨e2, rfl⟩ | ⟨e2, rfl⟩ | ⟨e2, rfl⟩ | ⟨e2, rfl⟩ | ⟨e2, rfl⟩ <;> first | rfl | omega
  intro C hC hC0 hY
  unfold cfV
  repeat' (first | refine gwS ?_ | simp only [wN, wM, Nat.reduceAdd, Nat.reduceMul] | ((first | refine gwR [] ?_ | refine gwD [] ?_); intro Q hQ hP; simp [hC, hY]; (first | refine hQ _ _ _ _ (by kernel_rfl) ?_ | refine hP _ _ (by kernel_rfl) fun _ => ?_); clear hQ hP Q) | refine gwB ?_ | refine gwT ?_ | refine gwK ?_ | refine gwE ?_ | refine gwG ?_ | refine gwL ?_ | simp only [blockG_exit] | (refine gwC ?_ ?_ <;> (intro hb; first | (cases hb; done) | skip)))
  refine GW_any follows ?_
  simp only [Array.toList, List.length_cons, List.length_nil, Nat.reduceAdd]
  obtain ⟨sl, hsl⟩ : ∃ sl, Value.slice (some ⟨100, off, none⟩) n cap = sl := ⟨_, rfl⟩
  refine GA_ind (MI b sl n g bx tp nr md) (fun listed ts hp hs hr hI => ?_) (fun fuel listed ts hp i hs hi hdep h hk => ?_) _ _ _ _ (by simp) (by decide +kernel) ?_
  · have hall := ready_nil hs (by kernel_rfl) hr
    have hall : ∀ i, i < 36 → listed[i]? = some true := fun i hi => hall i (by simpa using hi)
    obtain ⟨l, l1, l2, l3⟩ := hI.mp (hall 0 (by omega))
    have h2 := hI.tm (35, 2, .map (some 224)) (by simp [mT]) (hall 35 (by omega))
    have hinv : ∀ q ∈ mI, renF mR (renF mS q.2.2) = q.2.2 := by simp [mI, renF, ren0, mR, mS]
    have hcan : ∀ q ∈ mI, (q.2.1, renF mS q.2.2) ∈ mV 1000 := by simp [mI, mV, renF, ren0, mS]
    have hfind : ∀ q ∈ mV 1000, ∃ p ∈ mI, p.2.1 = q.1 ∧ renF mS p.2.2 = q.2 ∧ p.1 < 36 := by
      intro q hq
      simp only [mV, List.mem_cons, List.not_mem_nil, or_false] at hq
      rcases hq with rfl | rfl | rfl | rfl | rfl | rfl | rfl
      · exact ⟨(6, ⟨#[98, 111, 100, 105, 101, 115]⟩, .func (.func 76) #[] #[.pointer (some ⟨264, 0, none⟩), .pointer (some ⟨265, 0, none⟩)]), by simp [mI], rfl, by simp [renF, ren0, mS], by omega⟩
      · exact ⟨(8, ⟨#[109, 97, 115, 115]⟩, .func (.func 78) #[] #[.pointer (some ⟨200, 0, none⟩)]), by simp [mI], rfl, by simp [renF, ren0, mS], by omega⟩
      · exact ⟨(13, ⟨#[99, 111, 110, 115, 116, 97, 110, 116]⟩, .func (.func 76) #[] #[.pointer (some ⟨320, 0, none⟩), .pointer (some ⟨321, 0, none⟩)]), by simp [mI], rfl, by simp [renF, ren0, mS], by omega⟩
      · exact ⟨(18, ⟨#[98, 111, 120]⟩, .func (.func 76) #[] #[.pointer (some ⟨360, 0, none⟩), .pointer (some ⟨361, 0, none⟩)]), by simp [mI], rfl, by simp [renF, ren0, mS], by omega⟩
      · exact ⟨(23, ⟨#[116, 111, 112]⟩, .func (.func 76) #[] #[.pointer (some ⟨400, 0, none⟩), .pointer (some ⟨401, 0, none⟩)]), by simp [mI], rfl, by simp [renF, ren0, mS], by omega⟩
      · exact ⟨(31, ⟨#[110, 101, 97, 114]⟩, .func (.func 76) #[] #[.pointer (some ⟨464, 0, none⟩), .pointer (some ⟨465, 0, none⟩)]), by simp [mI], rfl, by simp [renF, ren0, mS], by omega⟩
      · exact ⟨(33, ⟨#[109, 101, 116, 104, 111, 100]⟩, .func (.func 81) #[] #[.pointer (some ⟨200, 0, none⟩)]), by simp [mI], rfl, by simp [renF, ren0, mS], by omega⟩
    simp only [thenG_normal]
    refine GW_ret ?_
    refine ⟨.inr rfl, keep_of G0F (by simp [hI.b]) (fun k hk => (hI.low k hk).trans (hpL_low (by simp) hk).symm), _, _, mR, ⟨l.map fun p => (p.1, renF mS p.2), rfl, rfl, fun p hp => ?_, fun q hq => ?_⟩, fun k hk => ?_, ?_, ?_, ?_, ?_⟩
    · obtain ⟨p0, hp0, rfl⟩ := List.mem_map.1 hp
      obtain ⟨q, hq, rfl, _⟩ := l2 p0 hp0
      exact hcan q hq
    · obtain ⟨p, hp, e1, e2, hlt⟩ := hfind q hq
      rw [findL_map, ← e1, l3 p hp (hall _ hlt), ← e2]
      rfl
    · unfold mR
      iterate 12 rw [if_neg (by omega)]
    · simp [mNs, mR]
    · simp [mNs, mR]
    · simp [Tryd.results61, h2, ren, renA, renF, ren0, mR]
      rfl
    · subst hsl
      have hbx := hI.bx
      have hm : (mpB (l.map fun p => (p.1, renF mS p.2))).rn mR = mpB l := by
        rw [mpB_rn, List.map_map]
        congr 1
        conv => rhs; rw [← List.map_id l]
        refine List.map_congr_left fun p hp => ?_
        obtain ⟨q, hq, rfl, _⟩ := l2 p hp
        simp only [Function.comp_def, id]
        rw [hinv q hq]
      intro p hp
      simp only [mNs, List.mem_cons, List.not_mem_nil, or_false] at hp
      rcases hp with rfl | rfl | rfl | rfl | rfl | rfl | rfl | rfl | rfl | rfl | rfl | rfl
      · show hp (mR 1000) = some ((mpB _).rn mR)
        rw [hm]
        exact l1
      · show hp 200 = some ((cfB _ g bx tp nr md).rn mR)
        rw [hI.c]
        simp [cfB, Blk.rn, renF, ren0, mR]
      · show hp 264 = some ((jb (n : Int)).rn mR)
        rw [jb_rn]
        exact hbx (5, 264, jb (n : Int)) (by simp [mX]) (hall 5 (by omega))
      · show hp 265 = some ((jb 4).rn mR)
        rw [jb_rn]
        exact hbx (5, 265, jb 4) (by simp [mX]) (hall 5 (by omega))
      · show hp 320 = some ((jb g).rn mR)
        rw [jb_rn]
        exact hbx (12, 320, jb g) (by simp [mX]) (hall 12 (by omega))
      · show hp 321 = some ((jb 1048576).rn mR)
        rw [jb_rn]
        exact hbx (12, 321, jb 1048576) (by simp [mX]) (hall 12 (by omega))
      · show hp 360 = some ((jb bx).rn mR)
        rw [jb_rn]
        exact hbx (17, 360, jb bx) (by simp [mX]) (hall 17 (by omega))
      · show hp 361 = some ((jb 1048576).rn mR)
        rw [jb_rn]
        exact hbx (17, 361, jb 1048576) (by simp [mX]) (hall 17 (by omega))
      · show hp 400 = some ((jb tp).rn mR)
        rw [jb_rn]
        exact hbx (22, 400, jb tp) (by simp [mX]) (hall 22 (by omega))
      · show hp 401 = some ((jb 65536).rn mR)
        rw [jb_rn]
        exact hbx (22, 401, jb 65536) (by simp [mX]) (hall 22 (by omega))
      · show hp 464 = some ((jb nr).rn mR)
        rw [jb_rn]
        exact hbx (30, 464, jb nr) (by simp [mX]) (hall 30 (by omega))
      · show hp 465 = some ((jb (Int.bmod (2 * bx) 18446744073709551616)).rn mR)
        rw [jb_rn]
        exact hbx (30, 465, jb (Int.bmod (2 * bx) 18446744073709551616)) (by simp [mX]) (hall 30 (by omega))
  · have hlt : i < 36 := by
      have := (Array.getElem?_eq_some_iff.1 hi).1
      rw [hs] at this
      simpa using this
    subst hsl
    obtain rfl | rfl | rfl | rfl | rfl | rfl | rfl | rfl | rfl | rfl | rfl | rfl | rfl | rfl | rfl | rfl | rfl | rfl | rfl | rfl | rfl | rfl | rfl | rfl | rfl | rfl | rfl | rfl | rfl | rfl | rfl | rfl | rfl | rfl | rfl | rfl : i = 0 ∨ i = 1 ∨ i = 2 ∨ i = 3 ∨ i = 4 ∨ i = 5 ∨ i = 6 ∨ i = 7 ∨ i = 8 ∨ i = 9 ∨ i = 10 ∨ i = 11 ∨ i = 12 ∨ i = 13 ∨ i = 14 ∨ i = 15 ∨ i = 16 ∨ i = 17 ∨ i = 18 ∨ i = 19 ∨ i = 20 ∨ i = 21 ∨ i = 22 ∨ i = 23 ∨ i = 24 ∨ i = 25 ∨ i = 26 ∨ i = 27 ∨ i = 28 ∨ i = 29 ∨ i = 30 ∨ i = 31 ∨ i = 32 ∨ i = 33 ∨ i = 34 ∨ i = 35 := by omega
    · -- 0 map
      have f0 := h.t1
      have f1 := h.t3
      refine GO_walk [] rfl (by kernel_rfl) (by first | assumption | simp) ?_; intro q hq; simp [hC, hY, f0, f1]; refine hq _ _ _ _ ?_; clear hq q
      exact hk _ _ (h.mkm hi)
    · -- 1 mv
      have f0 := h.t1
      have f1 := h.t3
      refine GO_walk [] rfl (by kernel_rfl) (by first | assumption | simp) ?_; intro q hq; simp [hC, hY, f0, f1]; refine hq _ _ _ _ ?_; clear hq q
      exact hk _ _ (h.tmp (i := 1) (t := 5) (by simp [mT]) (by simp [mX]) (by omega))
    · -- 2 fa
      have f0 := h.t1
      have f1 := h.t3
      refine GO_walk [] rfl (by kernel_rfl) (by first | assumption | simp) ?_; intro q hq; simp [hC, hY, f0, f1]; refine hq _ _ _ _ ?_; clear hq q
      exact hk _ _ (h.tmp (i := 2) (t := 6) (by simp [mT]) (by simp [mX]) (by omega))
    · -- 3 ld
      have hd : ∀ j ∈ [2], listed[j]? = some true := by
        have hd0 := hdep _ rfl
        simp [Region.binds] at hd0
        simp [hd0]
      have f0 := h.t1
      have f1 := h.t3
      have f2 := h.tm (2, 6, .pointer (some ⟨200, 0, none⟩)) (by simp [mT]) (hd 2 (by simp))
      have fc := h.c
      unfold cfB at fc
      refine GO_walk [] rfl (by kernel_rfl) (by first | assumption | simp) ?_; intro q hq; simp [hC, hY, f0, f1, f2, fc]; refine hq _ _ _ _ ?_; clear hq q
      exact hk _ _ (h.tmp (i := 3) (t := 7) (by simp [mT]) (by simp [mX]) (by omega))
    · -- 4 len
      have hd : ∀ j ∈ [3], listed[j]? = some true := by
        have hd0 := hdep _ rfl
        simp [Region.binds] at hd0
        simp [hd0]
      have f0 := h.t1
      have f1 := h.t3
      have f2 := h.tm (3, 7, .slice (some ⟨100, off, none⟩) n cap) (by simp [mT]) (hd 3 (by simp))
      refine GO_walk [] rfl (by kernel_rfl) (by first | assumption | simp) ?_; intro q hq; simp [hC, hY, f0, f1, f2]; refine hq _ _ _ _ ?_; clear hq q
      exact hk _ _ (h.tmp (i := 4) (t := 8) (by simp [mT]) (by simp [mX]) (by omega))
    · -- 5 call
      have hd : ∀ j ∈ [1, 4], listed[j]? = some true := by
        have hd0 := hdep _ rfl
        simp [Region.binds] at hd0
        simp [hd0]
      have f0 := h.t1
      have f1 := h.t3
      have f2 := h.tm (1, 5, .func (.func 75) #[] #[]) (by simp [mT]) (hd 1 (by simp))
      have f3 := h.tm (4, 8, .int .i64 n) (by simp [mT]) (hd 4 (by simp))
      refine GO_callL (f := .tmp 5) (cap := #[]) hC (num_at 264 (by omega) (n : Int) 4) rfl hi rfl (by simp [Tryd.ntmps61]) rfl rfl (by simp [okT, f0, f1, f2, f3]) (by simp [gev, f0, f1, f2, f3]) (by simp) (by simp [okX, junk, f0, f1, f2, f3]) (by simp [gev, f0, f1, f2, f3]) (by simp) (fun q hq => (h.low q hq).symm ▸ (by simp)) ?_ ?_
      · intro v ns hV k hk
        have := numR_key hV k hk
        omega
      rintro v ns ⟨rfl, rfl⟩
      exact hk _ _ (h.call (i := 5) (t := 9) (by simp [mT]) (by omega) (by omega) (by simp [mX]))
    · -- 6 ins
      have hd : ∀ j ∈ [0, 5], listed[j]? = some true := by
        have hd0 := hdep _ rfl
        simp [Region.binds] at hd0
        simp [hd0]
      have f0 := h.t1
      have f1 := h.t3
      have f2 := h.tm (0, 4, .map (some 224)) (by simp [mT]) (hd 0 (by simp))
      have f3 := h.tm (5, 9, .func (.func 76) #[] #[.pointer (some ⟨264, 0, none⟩), .pointer (some ⟨265, 0, none⟩)]) (by simp [mT]) (hd 5 (by simp))
      obtain ⟨l, l1, l2, l3⟩ := h.mp (hd 0 (by simp))
      have hm : (6, ⟨#[98, 111, 100, 105, 101, 115]⟩, .func (.func 76) #[] #[.pointer (some ⟨264, 0, none⟩), .pointer (some ⟨265, 0, none⟩)]) ∈ mI := by simp [mI]
      have hn := h.fresh hm hi l2
      refine GO_walk [] rfl (by kernel_rfl) (by first | assumption | simp) ?_; intro q hq; simp [hC, hY, f0, f1, f2, f3, l1, hn]; refine hq _ _ _ _ ?_; clear hq q
      exact hk _ _ (h.ins hm (Array.getElem?_eq_some_iff.1 hi).1 l2 l3 hn (hd 0 (by simp)))
    · -- 7 mk
      have f0 := h.t1
      have f1 := h.t3
      refine GO_walk [] rfl (by kernel_rfl) (by first | assumption | simp) ?_; intro q hq; simp [hC, hY, f0, f1]; refine hq _ _ _ _ ?_; clear hq q
      exact hk _ _ (h.tmp (i := 7) (t := 10) (by simp [mT]) (by simp [mX]) (by omega))
    · -- 8 ins
      have hd : ∀ j ∈ [0, 7], listed[j]? = some true := by
        have hd0 := hdep _ rfl
        simp [Region.binds] at hd0
        simp [hd0]
      have f0 := h.t1
      have f1 := h.t3
      have f2 := h.tm (0, 4, .map (some 224)) (by simp [mT]) (hd 0 (by simp))
      have f3 := h.tm (7, 10, .func (.func 78) #[] #[.pointer (some ⟨200, 0, none⟩)]) (by simp [mT]) (hd 7 (by simp))
      obtain ⟨l, l1, l2, l3⟩ := h.mp (hd 0 (by simp))
      have hm : (8, ⟨#[109, 97, 115, 115]⟩, .func (.func 78) #[] #[.pointer (some ⟨200, 0, none⟩)]) ∈ mI := by simp [mI]
      have hn := h.fresh hm hi l2
      refine GO_walk [] rfl (by kernel_rfl) (by first | assumption | simp) ?_; intro q hq; simp [hC, hY, f0, f1, f2, f3, l1, hn]; refine hq _ _ _ _ ?_; clear hq q
      exact hk _ _ (h.ins hm (Array.getElem?_eq_some_iff.1 hi).1 l2 l3 hn (hd 0 (by simp)))
    · -- 9 mv
      have f0 := h.t1
      have f1 := h.t3
      refine GO_walk [] rfl (by kernel_rfl) (by first | assumption | simp) ?_; intro q hq; simp [hC, hY, f0, f1]; refine hq _ _ _ _ ?_; clear hq q
      exact hk _ _ (h.tmp (i := 9) (t := 11) (by simp [mT]) (by simp [mX]) (by omega))
    · -- 10 fa
      have f0 := h.t1
      have f1 := h.t3
      refine GO_walk [] rfl (by kernel_rfl) (by first | assumption | simp) ?_; intro q hq; simp [hC, hY, f0, f1]; refine hq _ _ _ _ ?_; clear hq q
      exact hk _ _ (h.tmp (i := 10) (t := 12) (by simp [mT]) (by simp [mX]) (by omega))
    · -- 11 ld
      have hd : ∀ j ∈ [10], listed[j]? = some true := by
        have hd0 := hdep _ rfl
        simp [Region.binds] at hd0
        simp [hd0]
      have f0 := h.t1
      have f1 := h.t3
      have f2 := h.tm (10, 12, .pointer (some ⟨200, 1, none⟩)) (by simp [mT]) (hd 10 (by simp))
      have fc := h.c
      unfold cfB at fc
      refine GO_walk [] rfl (by kernel_rfl) (by first | assumption | simp) ?_; intro q hq; simp [hC, hY, f0, f1, f2, fc]; refine hq _ _ _ _ ?_; clear hq q
      exact hk _ _ (h.tmp (i := 11) (t := 13) (by simp [mT]) (by simp [mX]) (by omega))
    · -- 12 call
      have hd : ∀ j ∈ [9, 11], listed[j]? = some true := by
        have hd0 := hdep _ rfl
        simp [Region.binds] at hd0
        simp [hd0]
      have f0 := h.t1
      have f1 := h.t3
      have f2 := h.tm (9, 11, .func (.func 75) #[] #[]) (by simp [mT]) (hd 9 (by simp))
      have f3 := h.tm (11, 13, .int .i64 g) (by simp [mT]) (hd 11 (by simp))
      refine GO_callL (f := .tmp 11) (cap := #[]) hC (num_at 320 (by omega) g 1048576) rfl hi rfl (by simp [Tryd.ntmps61]) rfl rfl (by simp [okT, f0, f1, f2, f3]) (by simp [gev, f0, f1, f2, f3]) (by simp) (by simp [okX, junk, f0, f1, f2, f3]) (by simp [gev, f0, f1, f2, f3]) (by simp) (fun q hq => (h.low q hq).symm ▸ (by simp)) ?_ ?_
      · intro v ns hV k hk
        have := numR_key hV k hk
        omega
      rintro v ns ⟨rfl, rfl⟩
      exact hk _ _ (h.call (i := 12) (t := 14) (by simp [mT]) (by omega) (by omega) (by simp [mX]))
    · -- 13 ins
      have hd : ∀ j ∈ [0, 12], listed[j]? = some true := by
        have hd0 := hdep _ rfl
        simp [Region.binds] at hd0
        simp [hd0]
      have f0 := h.t1
      have f1 := h.t3
      have f2 := h.tm (0, 4, .map (some 224)) (by simp [mT]) (hd 0 (by simp))
      have f3 := h.tm (12, 14, .func (.func 76) #[] #[.pointer (some ⟨320, 0, none⟩), .pointer (some ⟨321, 0, none⟩)]) (by simp [mT]) (hd 12 (by simp))
      obtain ⟨l, l1, l2, l3⟩ := h.mp (hd 0 (by simp))
      have hm : (13, ⟨#[99, 111, 110, 115, 116, 97, 110, 116]⟩, .func (.func 76) #[] #[.pointer (some ⟨320, 0, none⟩), .pointer (some ⟨321, 0, none⟩)]) ∈ mI := by simp [mI]
      have hn := h.fresh hm hi l2
      refine GO_walk [] rfl (by kernel_rfl) (by first | assumption | simp) ?_; intro q hq; simp [hC, hY, f0, f1, f2, f3, l1, hn]; refine hq _ _ _ _ ?_; clear hq q
      exact hk _ _ (h.ins hm (Array.getElem?_eq_some_iff.1 hi).1 l2 l3 hn (hd 0 (by simp)))
    · -- 14 mv
      have f0 := h.t1
      have f1 := h.t3
      refine GO_walk [] rfl (by kernel_rfl) (by first | assumption | simp) ?_; intro q hq; simp [hC, hY, f0, f1]; refine hq _ _ _ _ ?_; clear hq q
      exact hk _ _ (h.tmp (i := 14) (t := 15) (by simp [mT]) (by simp [mX]) (by omega))
    · -- 15 fa
      have f0 := h.t1
      have f1 := h.t3
      refine GO_walk [] rfl (by kernel_rfl) (by first | assumption | simp) ?_; intro q hq; simp [hC, hY, f0, f1]; refine hq _ _ _ _ ?_; clear hq q
      exact hk _ _ (h.tmp (i := 15) (t := 16) (by simp [mT]) (by simp [mX]) (by omega))
    · -- 16 ld
      have hd : ∀ j ∈ [15], listed[j]? = some true := by
        have hd0 := hdep _ rfl
        simp [Region.binds] at hd0
        simp [hd0]
      have f0 := h.t1
      have f1 := h.t3
      have f2 := h.tm (15, 16, .pointer (some ⟨200, 2, none⟩)) (by simp [mT]) (hd 15 (by simp))
      have fc := h.c
      unfold cfB at fc
      refine GO_walk [] rfl (by kernel_rfl) (by first | assumption | simp) ?_; intro q hq; simp [hC, hY, f0, f1, f2, fc]; refine hq _ _ _ _ ?_; clear hq q
      exact hk _ _ (h.tmp (i := 16) (t := 17) (by simp [mT]) (by simp [mX]) (by omega))
    · -- 17 call
      have hd : ∀ j ∈ [14, 16], listed[j]? = some true := by
        have hd0 := hdep _ rfl
        simp [Region.binds] at hd0
        simp [hd0]
      have f0 := h.t1
      have f1 := h.t3
      have f2 := h.tm (14, 15, .func (.func 75) #[] #[]) (by simp [mT]) (hd 14 (by simp))
      have f3 := h.tm (16, 17, .int .i64 bx) (by simp [mT]) (hd 16 (by simp))
      refine GO_callL (f := .tmp 15) (cap := #[]) hC (num_at 360 (by omega) bx 1048576) rfl hi rfl (by simp [Tryd.ntmps61]) rfl rfl (by simp [okT, f0, f1, f2, f3]) (by simp [gev, f0, f1, f2, f3]) (by simp) (by simp [okX, junk, f0, f1, f2, f3]) (by simp [gev, f0, f1, f2, f3]) (by simp) (fun q hq => (h.low q hq).symm ▸ (by simp)) ?_ ?_
      · intro v ns hV k hk
        have := numR_key hV k hk
        omega
      rintro v ns ⟨rfl, rfl⟩
      exact hk _ _ (h.call (i := 17) (t := 18) (by simp [mT]) (by omega) (by omega) (by simp [mX]))
    · -- 18 ins
      have hd : ∀ j ∈ [0, 17], listed[j]? = some true := by
        have hd0 := hdep _ rfl
        simp [Region.binds] at hd0
        simp [hd0]
      have f0 := h.t1
      have f1 := h.t3
      have f2 := h.tm (0, 4, .map (some 224)) (by simp [mT]) (hd 0 (by simp))
      have f3 := h.tm (17, 18, .func (.func 76) #[] #[.pointer (some ⟨360, 0, none⟩), .pointer (some ⟨361, 0, none⟩)]) (by simp [mT]) (hd 17 (by simp))
      obtain ⟨l, l1, l2, l3⟩ := h.mp (hd 0 (by simp))
      have hm : (18, ⟨#[98, 111, 120]⟩, .func (.func 76) #[] #[.pointer (some ⟨360, 0, none⟩), .pointer (some ⟨361, 0, none⟩)]) ∈ mI := by simp [mI]
      have hn := h.fresh hm hi l2
      refine GO_walk [] rfl (by kernel_rfl) (by first | assumption | simp) ?_; intro q hq; simp [hC, hY, f0, f1, f2, f3, l1, hn]; refine hq _ _ _ _ ?_; clear hq q
      exact hk _ _ (h.ins hm (Array.getElem?_eq_some_iff.1 hi).1 l2 l3 hn (hd 0 (by simp)))
    · -- 19 mv
      have f0 := h.t1
      have f1 := h.t3
      refine GO_walk [] rfl (by kernel_rfl) (by first | assumption | simp) ?_; intro q hq; simp [hC, hY, f0, f1]; refine hq _ _ _ _ ?_; clear hq q
      exact hk _ _ (h.tmp (i := 19) (t := 19) (by simp [mT]) (by simp [mX]) (by omega))
    · -- 20 fa
      have f0 := h.t1
      have f1 := h.t3
      refine GO_walk [] rfl (by kernel_rfl) (by first | assumption | simp) ?_; intro q hq; simp [hC, hY, f0, f1]; refine hq _ _ _ _ ?_; clear hq q
      exact hk _ _ (h.tmp (i := 20) (t := 20) (by simp [mT]) (by simp [mX]) (by omega))
    · -- 21 ld
      have hd : ∀ j ∈ [20], listed[j]? = some true := by
        have hd0 := hdep _ rfl
        simp [Region.binds] at hd0
        simp [hd0]
      have f0 := h.t1
      have f1 := h.t3
      have f2 := h.tm (20, 20, .pointer (some ⟨200, 3, none⟩)) (by simp [mT]) (hd 20 (by simp))
      have fc := h.c
      unfold cfB at fc
      refine GO_walk [] rfl (by kernel_rfl) (by first | assumption | simp) ?_; intro q hq; simp [hC, hY, f0, f1, f2, fc]; refine hq _ _ _ _ ?_; clear hq q
      exact hk _ _ (h.tmp (i := 21) (t := 21) (by simp [mT]) (by simp [mX]) (by omega))
    · -- 22 call
      have hd : ∀ j ∈ [19, 21], listed[j]? = some true := by
        have hd0 := hdep _ rfl
        simp [Region.binds] at hd0
        simp [hd0]
      have f0 := h.t1
      have f1 := h.t3
      have f2 := h.tm (19, 19, .func (.func 75) #[] #[]) (by simp [mT]) (hd 19 (by simp))
      have f3 := h.tm (21, 21, .int .i64 tp) (by simp [mT]) (hd 21 (by simp))
      refine GO_callL (f := .tmp 19) (cap := #[]) hC (num_at 400 (by omega) tp 65536) rfl hi rfl (by simp [Tryd.ntmps61]) rfl rfl (by simp [okT, f0, f1, f2, f3]) (by simp [gev, f0, f1, f2, f3]) (by simp) (by simp [okX, junk, f0, f1, f2, f3]) (by simp [gev, f0, f1, f2, f3]) (by simp) (fun q hq => (h.low q hq).symm ▸ (by simp)) ?_ ?_
      · intro v ns hV k hk
        have := numR_key hV k hk
        omega
      rintro v ns ⟨rfl, rfl⟩
      exact hk _ _ (h.call (i := 22) (t := 22) (by simp [mT]) (by omega) (by omega) (by simp [mX]))
    · -- 23 ins
      have hd : ∀ j ∈ [0, 22], listed[j]? = some true := by
        have hd0 := hdep _ rfl
        simp [Region.binds] at hd0
        simp [hd0]
      have f0 := h.t1
      have f1 := h.t3
      have f2 := h.tm (0, 4, .map (some 224)) (by simp [mT]) (hd 0 (by simp))
      have f3 := h.tm (22, 22, .func (.func 76) #[] #[.pointer (some ⟨400, 0, none⟩), .pointer (some ⟨401, 0, none⟩)]) (by simp [mT]) (hd 22 (by simp))
      obtain ⟨l, l1, l2, l3⟩ := h.mp (hd 0 (by simp))
      have hm : (23, ⟨#[116, 111, 112]⟩, .func (.func 76) #[] #[.pointer (some ⟨400, 0, none⟩), .pointer (some ⟨401, 0, none⟩)]) ∈ mI := by simp [mI]
      have hn := h.fresh hm hi l2
      refine GO_walk [] rfl (by kernel_rfl) (by first | assumption | simp) ?_; intro q hq; simp [hC, hY, f0, f1, f2, f3, l1, hn]; refine hq _ _ _ _ ?_; clear hq q
      exact hk _ _ (h.ins hm (Array.getElem?_eq_some_iff.1 hi).1 l2 l3 hn (hd 0 (by simp)))
    · -- 24 mv
      have f0 := h.t1
      have f1 := h.t3
      refine GO_walk [] rfl (by kernel_rfl) (by first | assumption | simp) ?_; intro q hq; simp [hC, hY, f0, f1]; refine hq _ _ _ _ ?_; clear hq q
      exact hk _ _ (h.tmp (i := 24) (t := 23) (by simp [mT]) (by simp [mX]) (by omega))
    · -- 25 fa
      have f0 := h.t1
      have f1 := h.t3
      refine GO_walk [] rfl (by kernel_rfl) (by first | assumption | simp) ?_; intro q hq; simp [hC, hY, f0, f1]; refine hq _ _ _ _ ?_; clear hq q
      exact hk _ _ (h.tmp (i := 25) (t := 24) (by simp [mT]) (by simp [mX]) (by omega))
    · -- 26 ld
      have hd : ∀ j ∈ [25], listed[j]? = some true := by
        have hd0 := hdep _ rfl
        simp [Region.binds] at hd0
        simp [hd0]
      have f0 := h.t1
      have f1 := h.t3
      have f2 := h.tm (25, 24, .pointer (some ⟨200, 4, none⟩)) (by simp [mT]) (hd 25 (by simp))
      have fc := h.c
      unfold cfB at fc
      refine GO_walk [] rfl (by kernel_rfl) (by first | assumption | simp) ?_; intro q hq; simp [hC, hY, f0, f1, f2, fc]; refine hq _ _ _ _ ?_; clear hq q
      exact hk _ _ (h.tmp (i := 26) (t := 25) (by simp [mT]) (by simp [mX]) (by omega))
    · -- 27 fa
      have f0 := h.t1
      have f1 := h.t3
      refine GO_walk [] rfl (by kernel_rfl) (by first | assumption | simp) ?_; intro q hq; simp [hC, hY, f0, f1]; refine hq _ _ _ _ ?_; clear hq q
      exact hk _ _ (h.tmp (i := 27) (t := 26) (by simp [mT]) (by simp [mX]) (by omega))
    · -- 28 ld
      have hd : ∀ j ∈ [27], listed[j]? = some true := by
        have hd0 := hdep _ rfl
        simp [Region.binds] at hd0
        simp [hd0]
      have f0 := h.t1
      have f1 := h.t3
      have f2 := h.tm (27, 26, .pointer (some ⟨200, 2, none⟩)) (by simp [mT]) (hd 27 (by simp))
      have fc := h.c
      unfold cfB at fc
      refine GO_walk [] rfl (by kernel_rfl) (by first | assumption | simp) ?_; intro q hq; simp [hC, hY, f0, f1, f2, fc]; refine hq _ _ _ _ ?_; clear hq q
      exact hk _ _ (h.tmp (i := 28) (t := 27) (by simp [mT]) (by simp [mX]) (by omega))
    · -- 29 mul
      have hd : ∀ j ∈ [28], listed[j]? = some true := by
        have hd0 := hdep _ rfl
        simp [Region.binds] at hd0
        simp [hd0]
      have f0 := h.t1
      have f1 := h.t3
      have f2 := h.tm (28, 27, .int .i64 bx) (by simp [mT]) (hd 28 (by simp))
      refine GO_walk [] rfl (by kernel_rfl) (by first | assumption | simp) ?_; intro q hq; simp [hC, hY, f0, f1, f2]; refine hq _ _ _ _ ?_; clear hq q
      exact hk _ _ (h.tmp (i := 29) (t := 28) (by simp [mT]) (by simp [mX]) (by omega))
    · -- 30 call
      have hd : ∀ j ∈ [24, 26, 29], listed[j]? = some true := by
        have hd0 := hdep _ rfl
        simp [Region.binds] at hd0
        simp [hd0]
      have f0 := h.t1
      have f1 := h.t3
      have f2 := h.tm (24, 23, .func (.func 75) #[] #[]) (by simp [mT]) (hd 24 (by simp))
      have f3 := h.tm (26, 25, .int .i64 nr) (by simp [mT]) (hd 26 (by simp))
      have f4 := h.tm (29, 28, .int .i64 (Int.bmod (2 * bx) 18446744073709551616)) (by simp [mT]) (hd 29 (by simp))
      refine GO_callL (f := .tmp 23) (cap := #[]) hC (num_at 464 (by omega) nr (Int.bmod (2 * bx) 18446744073709551616)) rfl hi rfl (by simp [Tryd.ntmps61]) rfl rfl (by simp [okT, f0, f1, f2, f3, f4]) (by simp [gev, f0, f1, f2, f3, f4]) (by simp) (by simp [okX, junk, f0, f1, f2, f3, f4]) (by simp [gev, f0, f1, f2, f3, f4]) (by simp) (fun q hq => (h.low q hq).symm ▸ (by simp)) ?_ ?_
      · intro v ns hV k hk
        have := numR_key hV k hk
        omega
      rintro v ns ⟨rfl, rfl⟩
      exact hk _ _ (h.call (i := 30) (t := 29) (by simp [mT]) (by omega) (by omega) (by simp [mX]))
    · -- 31 ins
      have hd : ∀ j ∈ [0, 30], listed[j]? = some true := by
        have hd0 := hdep _ rfl
        simp [Region.binds] at hd0
        simp [hd0]
      have f0 := h.t1
      have f1 := h.t3
      have f2 := h.tm (0, 4, .map (some 224)) (by simp [mT]) (hd 0 (by simp))
      have f3 := h.tm (30, 29, .func (.func 76) #[] #[.pointer (some ⟨464, 0, none⟩), .pointer (some ⟨465, 0, none⟩)]) (by simp [mT]) (hd 30 (by simp))
      obtain ⟨l, l1, l2, l3⟩ := h.mp (hd 0 (by simp))
      have hm : (31, ⟨#[110, 101, 97, 114]⟩, .func (.func 76) #[] #[.pointer (some ⟨464, 0, none⟩), .pointer (some ⟨465, 0, none⟩)]) ∈ mI := by simp [mI]
      have hn := h.fresh hm hi l2
      refine GO_walk [] rfl (by kernel_rfl) (by first | assumption | simp) ?_; intro q hq; simp [hC, hY, f0, f1, f2, f3, l1, hn]; refine hq _ _ _ _ ?_; clear hq q
      exact hk _ _ (h.ins hm (Array.getElem?_eq_some_iff.1 hi).1 l2 l3 hn (hd 0 (by simp)))
    · -- 32 mk
      have f0 := h.t1
      have f1 := h.t3
      refine GO_walk [] rfl (by kernel_rfl) (by first | assumption | simp) ?_; intro q hq; simp [hC, hY, f0, f1]; refine hq _ _ _ _ ?_; clear hq q
      exact hk _ _ (h.tmp (i := 32) (t := 30) (by simp [mT]) (by simp [mX]) (by omega))
    · -- 33 ins
      have hd : ∀ j ∈ [0, 32], listed[j]? = some true := by
        have hd0 := hdep _ rfl
        simp [Region.binds] at hd0
        simp [hd0]
      have f0 := h.t1
      have f1 := h.t3
      have f2 := h.tm (0, 4, .map (some 224)) (by simp [mT]) (hd 0 (by simp))
      have f3 := h.tm (32, 30, .func (.func 81) #[] #[.pointer (some ⟨200, 0, none⟩)]) (by simp [mT]) (hd 32 (by simp))
      obtain ⟨l, l1, l2, l3⟩ := h.mp (hd 0 (by simp))
      have hm : (33, ⟨#[109, 101, 116, 104, 111, 100]⟩, .func (.func 81) #[] #[.pointer (some ⟨200, 0, none⟩)]) ∈ mI := by simp [mI]
      have hn := h.fresh hm hi l2
      refine GO_walk [] rfl (by kernel_rfl) (by first | assumption | simp) ?_; intro q hq; simp [hC, hY, f0, f1, f2, f3, l1, hn]; refine hq _ _ _ _ ?_; clear hq q
      exact hk _ _ (h.ins hm (Array.getElem?_eq_some_iff.1 hi).1 l2 l3 hn (hd 0 (by simp)))
    · -- 34 mv
      have hd : ∀ j ∈ [0], listed[j]? = some true := by
        have hd0 := hdep _ rfl
        simp [Region.binds] at hd0
        simp [hd0]
      have f0 := h.t1
      have f1 := h.t3
      have f2 := h.tm (0, 4, .map (some 224)) (by simp [mT]) (hd 0 (by simp))
      refine GO_walk [] rfl (by kernel_rfl) (by first | assumption | simp) ?_; intro q hq; simp [hC, hY, f0, f1, f2]; refine hq _ _ _ _ ?_; clear hq q
      exact hk _ _ (h.tmp (i := 34) (t := 31) (by simp [mT]) (by simp [mX]) (by omega))
    · -- 35 asg
      have hd : ∀ j ∈ [34], listed[j]? = some true := by
        have hd0 := hdep _ rfl
        simp [Region.binds] at hd0
        simp [hd0]
      have f0 := h.t1
      have f1 := h.t3
      have f2 := h.tm (34, 31, .map (some 224)) (by simp [mT]) (hd 34 (by simp))
      refine GO_walk [] rfl (by kernel_rfl) (by first | assumption | simp) ?_; intro q hq; simp [hC, hY, f0, f1, f2]; refine hq _ _ _ _ ?_; clear hq q
      exact hk _ _ (h.tmp (i := 35) (t := 2) (by simp [mT]) (by simp [mX]) (by omega))
  · have hno : ∀ j, (Array.replicate 36 false)[j]? ≠ some true := fun j => by
      rw [Array.getElem?_replicate]
      split <;> simp
    exact ⟨by simp, by simp, fun p hp hl => absurd hl (hno _), fun k hk => by rw [upd_other _ _ (by omega)]; exact hpL_low (by simp) hk, by simp, by simp [cfB, hsl], fun q hq hl => absurd hl (hno _), fun hl => absurd hl (hno _), fun q hq hl => absurd hl (hno _)⟩
def whyS (n : Nat) (f : Nat → Int) (g bx tp nr md : Int) : ByteArray :=
  if wiB n 1 4 = false then ⟨#[98, 111, 100, 105, 101, 115]⟩ else if allM f n = false then ⟨#[109, 97, 115, 115]⟩ else if wiB g 1 1048576 = false then ⟨#[99, 111, 110, 115, 116, 97, 110, 116]⟩ else if wiB bx 1 1048576 = false then ⟨#[98, 111, 120]⟩ else
    if wiB tp 1 65536 = false then ⟨#[116, 111, 112]⟩ else if wiB nr 1 (Int.bmod (2 * bx) 18446744073709551616) = false then ⟨#[110, 101, 97, 114]⟩ else if wiB md 0 4 = false then ⟨#[109, 101, 116, 104, 111, 100]⟩ else ⟨#[]⟩
def mQ (nk k : Nat) : Nat := if 1000 ≤ k then (if k < 1012 then k - 1000 + nk else k) else k
theorem mustsR_key {nk n : Nat} {sl : Value} {g bx tp nr md : Int} {v : Value} {ns : List (Nat × Blk)} (h : MustsR nk sl n g bx tp nr md v ns) : ∀ k ∈ keys ns, nk ≤ k ∧ k < nk + 12 := by
  obtain ⟨l, rfl, rfl, _⟩ := h
  intro k hk
  simp [keys, mNs] at hk
  omega
theorem mQ_at (nk j : Nat) (hj : j < 12) : mQ nk (1000 + j) = nk + j := by
  unfold mQ
  rw [if_pos (by omega), if_pos (by omega)]
  omega
theorem mQ_low (nk k : Nat) (hk : k < 1000) : mQ nk k = k := by
  unfold mQ
  rw [if_neg (by omega)]
theorem musts_rr {nk n off cap : Nat} {g bx tp nr md : Int} {v : Value} {ns : List (Nat × Blk)} (h : RR (mQ nk) (MustsR 1000 (.slice (some ⟨100, off, none⟩) n cap) n g bx tp nr md) v ns) : MustsR nk (.slice (some ⟨100, off, none⟩) n cap) n g bx tp nr md v ns := by
  obtain ⟨v0, ns0, ⟨l, rfl, rfl, hl, hf⟩, rfl, rfl⟩ := h
  have e := mQ_at nk
  have e0 := e 0 (by omega)
  have e1 := e 1 (by omega)
  have e2 := e 2 (by omega)
  have e3 := e 3 (by omega)
  have e4 := e 4 (by omega)
  have e5 := e 5 (by omega)
  have e6 := e 6 (by omega)
  have e7 := e 7 (by omega)
  have e8 := e 8 (by omega)
  have e9 := e 9 (by omega)
  have e10 := e 10 (by omega)
  have e11 := e 11 (by omega)
  simp only [Nat.reduceAdd, Nat.add_zero] at e0 e1 e2 e3 e4 e5 e6 e7 e8 e9 e10 e11
  have h100 := mQ_low nk 100 (by omega)
  have hmv : ∀ q ∈ mV 1000, (q.1, renF (mQ nk) q.2) ∈ mV nk := by
    simp [mV, renF, ren0, e1, e2, e3, e4, e5, e6, e7, e8, e9, e10, e11]
  have hvm : ∀ q ∈ mV nk, ∃ p ∈ mV 1000, p.1 = q.1 ∧ renF (mQ nk) p.2 = q.2 := by
    simp [mV, renF, ren0, e1, e2, e3, e4, e5, e6, e7, e8, e9, e10, e11]
  refine ⟨l.map fun p => (p.1, renF (mQ nk) p.2), by simp [ren, renA, renF, ren0, e0], ?_, fun p hp => ?_, fun q hq => ?_⟩
  · have hc : (cfB (.slice (some ⟨100, off, none⟩) n cap) g bx tp nr md).rn (mQ nk) = cfB (.slice (some ⟨100, off, none⟩) n cap) g bx tp nr md := by simp [cfB, Blk.rn, renF, ren0, h100]
    simp only [rnL, mNs, List.map_cons, List.map_nil, mpB_rn, jb_rn, hc, Nat.reduceAdd, e0, e1, e2, e3, e4, e5, e6, e7, e8, e9, e10, e11]
  · obtain ⟨p0, hp0, rfl⟩ := List.mem_map.1 hp
    exact hmv _ (hl _ hp0)
  · obtain ⟨p, hp, h1, h2⟩ := hvm q hq
    rw [findL_map, ← h1, hf p hp, ← h2]
    rfl
theorem musts_at (nk : Nat) (hnk : 200 ≤ nk) (b : Blk) (hb : b.fx) (off n cap : Nat) (g bx tp nr md : Int) :
    FunS Tryd.prog G0 61 #[cfV (.slice (some ⟨100, off, none⟩) n cap) g bx tp nr md] (hpL G0 [(100, b)]) [100] (RR (mQ nk) (MustsR 1000 (.slice (some ⟨100, off, none⟩) n cap) n g bx tp nr md)) := by
  have hr := fun ρ => Blk.fx_rn hb ρ
  have h100 := mQ_low nk 100 (by omega)
  refine (musts_fun b hb off n cap g bx tp nr md).mvL G0F (oneL_ok hb) (mQ nk) (fun k hk => mQ_low nk k (by omega)) (by simp [cfV, ren, renA, renF, ren0, h100]) (by simp [keys, h100]) rfl (oneL_ok hb).low (by simp [h100, hr]) (by simp [keys]) (fun v ns hV k hk => ?_) (fun v ns hV k hk l hl e => ?_)
  · have h1 := mustsR_key hV k hk
    obtain ⟨j, hj, rfl⟩ : ∃ j, j < 12 ∧ k = 1000 + j := ⟨k - 1000, by omega, by omega⟩
    rw [mQ_at nk j hj]
    simp
    omega
  · have h1 := mustsR_key hV k hk
    have h2 := mustsR_key hV l hl
    obtain ⟨j, hj, rfl⟩ : ∃ j, j < 12 ∧ k = 1000 + j := ⟨k - 1000, by omega, by omega⟩
    obtain ⟨i, hi, rfl⟩ : ∃ j, j < 12 ∧ l = 1000 + j := ⟨l - 1000, by omega, by omega⟩
    rw [mQ_at nk j hj, mQ_at nk i hi] at e
    omega
set_option maxRecDepth 8000 in
set_option maxHeartbeats 16000000 in
theorem why_fun (b : Blk) (off n cap : Nat) (f : Nat → Int) (h : MB b off n f) (g bx tp nr md : Int) :
    Fun Tryd.prog G0 47 #[cfV (.slice (some ⟨100, off, none⟩) n cap) g bx tp nr md] (hpL G0 [(100, b)]) (keys [(100, b)]) (.ret (.string (whyS n f g bx tp nr md)) []) := by
  refine fun_ofL (B := 200) G0F Tryd.func47 rfl Tryd.call47 (oneL_ok h.fx) ?_ (by simp) (by simp) (by simp) (by simp [Tryd.ntmps47]) (by omega) ?_
  · simp [idsV, idsA, idsF, ids0, keys, cfV]
  intro C hC hC0 hY
  have hr := fun ρ => Blk.fx_rn h.fx ρ
  unfold cfV
  repeat' (first | refine gwS ?_ | simp only [wN, wM, Nat.reduceAdd, Nat.reduceMul] | ((first | refine gwR [] ?_ | refine gwD [] ?_); intro Q hQ hP; simp [hC, hY]; (first | refine hQ _ _ _ _ (by kernel_rfl) ?_ | refine hP _ _ (by kernel_rfl) fun _ => ?_); clear hQ hP Q) | refine gwB ?_ | refine gwT ?_ | refine gwK ?_ | refine gwE ?_ | refine gwG ?_ | refine gwL ?_ | simp only [blockG_exit] | (refine gwC ?_ ?_ <;> (intro hb; first | (cases hb; done) | skip)))
  refine GW_list ?_
  simp only [Array.toList]
  refine GL_walk 1 [] rfl (by simp) (by kernel_rfl) ?_; intro q hq; simp [hC, hY]; refine hq _ _ _ _ ?_; clear hq q
  simp only [wT, List.length_cons, List.length_nil, Nat.reduceAdd]
  refine GL_callW 8 (f := .func 61) (cap := #[]) hC (musts_at 224 (by omega) b h.fx off n cap g bx tp nr md) rfl (by simp) rfl rfl (by simp [okT]) (by simp [gev]) (by simp) (by simp [okX, junk]) (by simp [gev, cfV]) (by simp) (by (intro k hk; first | rfl | (simp (disch := omega) only [addB, List.mem_cons, List.not_mem_nil, or_false, upd_other, hpL_cons, hpL_nil, if_neg, updL] <;> done))) (fun v ns hV k hk => by have := mustsR_key (musts_rr hV) k hk; omega) ?_
  intro v ns hV
  obtain ⟨l, rfl, rfl, _, hf⟩ := musts_rr hV
  refine GL_walk 1 [] rfl (by simp) (by kernel_rfl) ?_; intro q hq; simp [hC, hY, putT, updL, mNs]; refine hq _ _ _ _ ?_; clear hq q
  simp only [wT, List.length_cons, List.length_nil, Nat.reduceAdd]
  refine GL_nil ?_
  have f0 : findL ⟨#[98, 111, 100, 105, 101, 115]⟩ l = some (.func (.func 76) #[] #[.pointer (some ⟨226, 0, none⟩), .pointer (some ⟨227, 0, none⟩)]) := hf (⟨#[98, 111, 100, 105, 101, 115]⟩, _) (by simp [mV])
  have f1 : findL ⟨#[109, 97, 115, 115]⟩ l = some (.func (.func 78) #[] #[.pointer (some ⟨225, 0, none⟩)]) := hf (⟨#[109, 97, 115, 115]⟩, _) (by simp [mV])
  have f2 : findL ⟨#[99, 111, 110, 115, 116, 97, 110, 116]⟩ l = some (.func (.func 76) #[] #[.pointer (some ⟨228, 0, none⟩), .pointer (some ⟨229, 0, none⟩)]) := hf (⟨#[99, 111, 110, 115, 116, 97, 110, 116]⟩, _) (by simp [mV])
  have f3 : findL ⟨#[98, 111, 120]⟩ l = some (.func (.func 76) #[] #[.pointer (some ⟨230, 0, none⟩), .pointer (some ⟨231, 0, none⟩)]) := hf (⟨#[98, 111, 120]⟩, _) (by simp [mV])
  have f4 : findL ⟨#[116, 111, 112]⟩ l = some (.func (.func 76) #[] #[.pointer (some ⟨232, 0, none⟩), .pointer (some ⟨233, 0, none⟩)]) := hf (⟨#[116, 111, 112]⟩, _) (by simp [mV])
  have f5 : findL ⟨#[110, 101, 97, 114]⟩ l = some (.func (.func 76) #[] #[.pointer (some ⟨234, 0, none⟩), .pointer (some ⟨235, 0, none⟩)]) := hf (⟨#[110, 101, 97, 114]⟩, _) (by simp [mV])
  have f6 : findL ⟨#[109, 101, 116, 104, 111, 100]⟩ l = some (.func (.func 81) #[] #[.pointer (some ⟨225, 0, none⟩)]) := hf (⟨#[109, 101, 116, 104, 111, 100]⟩, _) (by simp [mV])
  cases c0 : wiB n 1 4 with
  | false =>
    have e : whyS n f g bx tp nr md = ⟨#[98, 111, 100, 105, 101, 115]⟩ := by unfold whyS; simp only [c0, Bool.true_eq_false, if_true, if_false, reduceCtorEq]
    rw [e]
    repeat' (first | refine gwS ?_ | refine GWL_start ?_ | refine GWL_step ?_ | simp only [wN, wM, Nat.reduceAdd, Nat.reduceMul] | ((first | refine gwR [76, 78, 81] ?_ | refine gwD [76, 78, 81] ?_); intro Q hQ hP; simp [hC, hY, f0, c0, cnB]; (repeat ((first | (refine heapK_mv (cn1_fun n 4) G0F (B := 200) ⟨by simp, by simp [keys], by simp [jb, ids_lit, idsF, ids0]⟩ (fun k => if k = 100 then 226 else if k = 108 then 227 else k) (fun k hk => (if_neg (by omega)).trans (if_neg (by omega))) ?_ (by simp) (by simp [jb_rn]) (by simp [keys]) (by simp [keys]; rfl) ?_; focus (simp [ren, renA, renF, ren0]; done))); try simp [hC, hY, f0, c0, cnB])); (first | refine hQ _ _ _ _ (by kernel_rfl) ?_ | refine hP _ _ (by kernel_rfl) fun _ => ?_); clear hQ hP Q) | refine gwB ?_ | refine gwT ?_ | refine gwK ?_ | refine gwE ?_ | refine gwG ?_ | refine gwL ?_ | simp only [blockG_exit] | (refine gwC ?_ ?_ <;> (intro hb; first | (cases hb; done) | skip)))
    refine ⟨.inr rfl, by simp [Tryd.results47], keep_of G0F (by simp) (by (intro k hk; first | rfl | (simp (disch := omega) only [addB, List.mem_cons, List.not_mem_nil, or_false, upd_other, hpL_cons, hpL_nil, if_neg, updL] <;> done)))⟩
  | true =>
    cases c1 : allM f n with
    | false =>
      have e : whyS n f g bx tp nr md = ⟨#[109, 97, 115, 115]⟩ := by unfold whyS; simp only [c0, c1, Bool.true_eq_false, if_true, if_false, reduceCtorEq]
      rw [e]
      repeat' (first | refine gwS ?_ | refine GWL_start ?_ | refine GWL_step ?_ | simp only [wN, wM, Nat.reduceAdd, Nat.reduceMul] | ((first | refine gwR [76, 78, 81] ?_ | refine gwD [76, 78, 81] ?_); intro Q hQ hP; simp [hC, hY, f0, f1, c0, c1, cnB]; (repeat ((first | (refine heapK_mv (cn1_fun n 4) G0F (B := 200) ⟨by simp, by simp [keys], by simp [jb, ids_lit, idsF, ids0]⟩ (fun k => if k = 100 then 226 else if k = 108 then 227 else k) (fun k hk => (if_neg (by omega)).trans (if_neg (by omega))) ?_ (by simp) (by simp [jb_rn]) (by simp [keys]) (by simp [keys]; rfl) ?_; focus (simp [ren, renA, renF, ren0]; done)) | (refine heapK_mv (cm2_fun b off n cap f h g bx tp nr md) G0F (B := 200) (cmL_ok h.fx off n cap g bx tp nr md) (fun k => if k = 108 then 225 else k) (fun k hk => if_neg (by omega)) ?_ (by simp) (by simp [cmL, hr]; simp [cfB, Blk.rn, renF, ren0]) (by simp [keys, cmL]) (by simp [keys, cmL]; rfl) ?_; focus (simp [ren, renA, renF, ren0]; done))); try simp [hC, hY, f0, f1, c0, c1, cnB])); (first | refine hQ _ _ _ _ (by kernel_rfl) ?_ | refine hP _ _ (by kernel_rfl) fun _ => ?_); clear hQ hP Q) | refine gwB ?_ | refine gwT ?_ | refine gwK ?_ | refine gwE ?_ | refine gwG ?_ | refine gwL ?_ | simp only [blockG_exit] | (refine gwC ?_ ?_ <;> (intro hb; first | (cases hb; done) | skip)))
      refine ⟨.inr rfl, by simp [Tryd.results47], keep_of G0F (by simp) (by (intro k hk; first | rfl | (simp (disch := omega) only [addB, List.mem_cons, List.not_mem_nil, or_false, upd_other, hpL_cons, hpL_nil, if_neg, updL] <;> done)))⟩
    | true =>
      cases c2 : wiB g 1 1048576 with
      | false =>
        have e : whyS n f g bx tp nr md = ⟨#[99, 111, 110, 115, 116, 97, 110, 116]⟩ := by unfold whyS; simp only [c0, c1, c2, Bool.true_eq_false, if_true, if_false, reduceCtorEq]
        rw [e]
        repeat' (first | refine gwS ?_ | refine GWL_start ?_ | refine GWL_step ?_ | simp only [wN, wM, Nat.reduceAdd, Nat.reduceMul] | ((first | refine gwR [76, 78, 81] ?_ | refine gwD [76, 78, 81] ?_); intro Q hQ hP; simp [hC, hY, f0, f1, f2, c0, c1, c2, cnB]; (repeat ((first | (refine heapK_mv (cn1_fun n 4) G0F (B := 200) ⟨by simp, by simp [keys], by simp [jb, ids_lit, idsF, ids0]⟩ (fun k => if k = 100 then 226 else if k = 108 then 227 else k) (fun k hk => (if_neg (by omega)).trans (if_neg (by omega))) ?_ (by simp) (by simp [jb_rn]) (by simp [keys]) (by simp [keys]; rfl) ?_; focus (simp [ren, renA, renF, ren0]; done)) | (refine heapK_mv (cm2_fun b off n cap f h g bx tp nr md) G0F (B := 200) (cmL_ok h.fx off n cap g bx tp nr md) (fun k => if k = 108 then 225 else k) (fun k hk => if_neg (by omega)) ?_ (by simp) (by simp [cmL, hr]; simp [cfB, Blk.rn, renF, ren0]) (by simp [keys, cmL]) (by simp [keys, cmL]; rfl) ?_; focus (simp [ren, renA, renF, ren0]; done)) | (refine heapK_mv (cn1_fun g 1048576) G0F (B := 200) ⟨by simp, by simp [keys], by simp [jb, ids_lit, idsF, ids0]⟩ (fun k => if k = 100 then 228 else if k = 108 then 229 else k) (fun k hk => (if_neg (by omega)).trans (if_neg (by omega))) ?_ (by simp) (by simp [jb_rn]) (by simp [keys]) (by simp [keys]; rfl) ?_; focus (simp [ren, renA, renF, ren0]; done))); try simp [hC, hY, f0, f1, f2, c0, c1, c2, cnB])); (first | refine hQ _ _ _ _ (by kernel_rfl) ?_ | refine hP _ _ (by kernel_rfl) fun _ => ?_); clear hQ hP Q) | refine gwB ?_ | refine gwT ?_ | refine gwK ?_ | refine gwE ?_ | refine gwG ?_ | refine gwL ?_ | simp only [blockG_exit] | (refine gwC ?_ ?_ <;> (intro hb; first | (cases hb; done) | skip)))
        refine ⟨.inr rfl, by simp [Tryd.results47], keep_of G0F (by simp) (by (intro k hk; first | rfl | (simp (disch := omega) only [addB, List.mem_cons, List.not_mem_nil, or_false, upd_other, hpL_cons, hpL_nil, if_neg, updL] <;> done)))⟩
      | true =>
        cases c3 : wiB bx 1 1048576 with
        | false =>
          have e : whyS n f g bx tp nr md = ⟨#[98, 111, 120]⟩ := by unfold whyS; simp only [c0, c1, c2, c3, Bool.true_eq_false, if_true, if_false, reduceCtorEq]
          rw [e]
          repeat' (first | refine gwS ?_ | refine GWL_start ?_ | refine GWL_step ?_ | simp only [wN, wM, Nat.reduceAdd, Nat.reduceMul] | ((first | refine gwR [76, 78, 81] ?_ | refine gwD [76, 78, 81] ?_); intro Q hQ hP; simp [hC, hY, f0, f1, f2, f3, c0, c1, c2, c3, cnB]; (repeat ((first | (refine heapK_mv (cn1_fun n 4) G0F (B := 200) ⟨by simp, by simp [keys], by simp [jb, ids_lit, idsF, ids0]⟩ (fun k => if k = 100 then 226 else if k = 108 then 227 else k) (fun k hk => (if_neg (by omega)).trans (if_neg (by omega))) ?_ (by simp) (by simp [jb_rn]) (by simp [keys]) (by simp [keys]; rfl) ?_; focus (simp [ren, renA, renF, ren0]; done)) | (refine heapK_mv (cm2_fun b off n cap f h g bx tp nr md) G0F (B := 200) (cmL_ok h.fx off n cap g bx tp nr md) (fun k => if k = 108 then 225 else k) (fun k hk => if_neg (by omega)) ?_ (by simp) (by simp [cmL, hr]; simp [cfB, Blk.rn, renF, ren0]) (by simp [keys, cmL]) (by simp [keys, cmL]; rfl) ?_; focus (simp [ren, renA, renF, ren0]; done)) | (refine heapK_mv (cn1_fun g 1048576) G0F (B := 200) ⟨by simp, by simp [keys], by simp [jb, ids_lit, idsF, ids0]⟩ (fun k => if k = 100 then 228 else if k = 108 then 229 else k) (fun k hk => (if_neg (by omega)).trans (if_neg (by omega))) ?_ (by simp) (by simp [jb_rn]) (by simp [keys]) (by simp [keys]; rfl) ?_; focus (simp [ren, renA, renF, ren0]; done)) | (refine heapK_mv (cn1_fun bx 1048576) G0F (B := 200) ⟨by simp, by simp [keys], by simp [jb, ids_lit, idsF, ids0]⟩ (fun k => if k = 100 then 230 else if k = 108 then 231 else k) (fun k hk => (if_neg (by omega)).trans (if_neg (by omega))) ?_ (by simp) (by simp [jb_rn]) (by simp [keys]) (by simp [keys]; rfl) ?_; focus (simp [ren, renA, renF, ren0]; done))); try simp [hC, hY, f0, f1, f2, f3, c0, c1, c2, c3, cnB])); (first | refine hQ _ _ _ _ (by kernel_rfl) ?_ | refine hP _ _ (by kernel_rfl) fun _ => ?_); clear hQ hP Q) | refine gwB ?_ | refine gwT ?_ | refine gwK ?_ | refine gwE ?_ | refine gwG ?_ | refine gwL ?_ | simp only [blockG_exit] | (refine gwC ?_ ?_ <;> (intro hb; first | (cases hb; done) | skip)))
          refine ⟨.inr rfl, by simp [Tryd.results47], keep_of G0F (by simp) (by (intro k hk; first | rfl | (simp (disch := omega) only [addB, List.mem_cons, List.not_mem_nil, or_false, upd_other, hpL_cons, hpL_nil, if_neg, updL] <;> done)))⟩
        | true =>
          cases c4 : wiB tp 1 65536 with
          | false =>
            have e : whyS n f g bx tp nr md = ⟨#[116, 111, 112]⟩ := by unfold whyS; simp only [c0, c1, c2, c3, c4, Bool.true_eq_false, if_true, if_false, reduceCtorEq]
            rw [e]
            repeat' (first | refine gwS ?_ | refine GWL_start ?_ | refine GWL_step ?_ | simp only [wN, wM, Nat.reduceAdd, Nat.reduceMul] | ((first | refine gwR [76, 78, 81] ?_ | refine gwD [76, 78, 81] ?_); intro Q hQ hP; simp [hC, hY, f0, f1, f2, f3, f4, c0, c1, c2, c3, c4, cnB]; (repeat ((first | (refine heapK_mv (cn1_fun n 4) G0F (B := 200) ⟨by simp, by simp [keys], by simp [jb, ids_lit, idsF, ids0]⟩ (fun k => if k = 100 then 226 else if k = 108 then 227 else k) (fun k hk => (if_neg (by omega)).trans (if_neg (by omega))) ?_ (by simp) (by simp [jb_rn]) (by simp [keys]) (by simp [keys]; rfl) ?_; focus (simp [ren, renA, renF, ren0]; done)) | (refine heapK_mv (cm2_fun b off n cap f h g bx tp nr md) G0F (B := 200) (cmL_ok h.fx off n cap g bx tp nr md) (fun k => if k = 108 then 225 else k) (fun k hk => if_neg (by omega)) ?_ (by simp) (by simp [cmL, hr]; simp [cfB, Blk.rn, renF, ren0]) (by simp [keys, cmL]) (by simp [keys, cmL]; rfl) ?_; focus (simp [ren, renA, renF, ren0]; done)) | (refine heapK_mv (cn1_fun g 1048576) G0F (B := 200) ⟨by simp, by simp [keys], by simp [jb, ids_lit, idsF, ids0]⟩ (fun k => if k = 100 then 228 else if k = 108 then 229 else k) (fun k hk => (if_neg (by omega)).trans (if_neg (by omega))) ?_ (by simp) (by simp [jb_rn]) (by simp [keys]) (by simp [keys]; rfl) ?_; focus (simp [ren, renA, renF, ren0]; done)) | (refine heapK_mv (cn1_fun bx 1048576) G0F (B := 200) ⟨by simp, by simp [keys], by simp [jb, ids_lit, idsF, ids0]⟩ (fun k => if k = 100 then 230 else if k = 108 then 231 else k) (fun k hk => (if_neg (by omega)).trans (if_neg (by omega))) ?_ (by simp) (by simp [jb_rn]) (by simp [keys]) (by simp [keys]; rfl) ?_; focus (simp [ren, renA, renF, ren0]; done)) | (refine heapK_mv (cn1_fun tp 65536) G0F (B := 200) ⟨by simp, by simp [keys], by simp [jb, ids_lit, idsF, ids0]⟩ (fun k => if k = 100 then 232 else if k = 108 then 233 else k) (fun k hk => (if_neg (by omega)).trans (if_neg (by omega))) ?_ (by simp) (by simp [jb_rn]) (by simp [keys]) (by simp [keys]; rfl) ?_; focus (simp [ren, renA, renF, ren0]; done))); try simp [hC, hY, f0, f1, f2, f3, f4, c0, c1, c2, c3, c4, cnB])); (first | refine hQ _ _ _ _ (by kernel_rfl) ?_ | refine hP _ _ (by kernel_rfl) fun _ => ?_); clear hQ hP Q) | refine gwB ?_ | refine gwT ?_ | refine gwK ?_ | refine gwE ?_ | refine gwG ?_ | refine gwL ?_ | simp only [blockG_exit] | (refine gwC ?_ ?_ <;> (intro hb; first | (cases hb; done) | skip)))
            refine ⟨.inr rfl, by simp [Tryd.results47], keep_of G0F (by simp) (by (intro k hk; first | rfl | (simp (disch := omega) only [addB, List.mem_cons, List.not_mem_nil, or_false, upd_other, hpL_cons, hpL_nil, if_neg, updL] <;> done)))⟩
          | true =>
            cases c5 : wiB nr 1 (Int.bmod (2 * bx) 18446744073709551616) with
            | false =>
              have e : whyS n f g bx tp nr md = ⟨#[110, 101, 97, 114]⟩ := by unfold whyS; simp only [c0, c1, c2, c3, c4, c5, Bool.true_eq_false, if_true, if_false, reduceCtorEq]
              rw [e]
              repeat' (first | refine gwS ?_ | refine GWL_start ?_ | refine GWL_step ?_ | simp only [wN, wM, Nat.reduceAdd, Nat.reduceMul] | ((first | refine gwR [76, 78, 81] ?_ | refine gwD [76, 78, 81] ?_); intro Q hQ hP; simp [hC, hY, f0, f1, f2, f3, f4, f5, c0, c1, c2, c3, c4, c5, cnB]; (repeat ((first | (refine heapK_mv (cn1_fun n 4) G0F (B := 200) ⟨by simp, by simp [keys], by simp [jb, ids_lit, idsF, ids0]⟩ (fun k => if k = 100 then 226 else if k = 108 then 227 else k) (fun k hk => (if_neg (by omega)).trans (if_neg (by omega))) ?_ (by simp) (by simp [jb_rn]) (by simp [keys]) (by simp [keys]; rfl) ?_; focus (simp [ren, renA, renF, ren0]; done)) | (refine heapK_mv (cm2_fun b off n cap f h g bx tp nr md) G0F (B := 200) (cmL_ok h.fx off n cap g bx tp nr md) (fun k => if k = 108 then 225 else k) (fun k hk => if_neg (by omega)) ?_ (by simp) (by simp [cmL, hr]; simp [cfB, Blk.rn, renF, ren0]) (by simp [keys, cmL]) (by simp [keys, cmL]; rfl) ?_; focus (simp [ren, renA, renF, ren0]; done)) | (refine heapK_mv (cn1_fun g 1048576) G0F (B := 200) ⟨by simp, by simp [keys], by simp [jb, ids_lit, idsF, ids0]⟩ (fun k => if k = 100 then 228 else if k = 108 then 229 else k) (fun k hk => (if_neg (by omega)).trans (if_neg (by omega))) ?_ (by simp) (by simp [jb_rn]) (by simp [keys]) (by simp [keys]; rfl) ?_; focus (simp [ren, renA, renF, ren0]; done)) | (refine heapK_mv (cn1_fun bx 1048576) G0F (B := 200) ⟨by simp, by simp [keys], by simp [jb, ids_lit, idsF, ids0]⟩ (fun k => if k = 100 then 230 else if k = 108 then 231 else k) (fun k hk => (if_neg (by omega)).trans (if_neg (by omega))) ?_ (by simp) (by simp [jb_rn]) (by simp [keys]) (by simp [keys]; rfl) ?_; focus (simp [ren, renA, renF, ren0]; done)) | (refine heapK_mv (cn1_fun tp 65536) G0F (B := 200) ⟨by simp, by simp [keys], by simp [jb, ids_lit, idsF, ids0]⟩ (fun k => if k = 100 then 232 else if k = 108 then 233 else k) (fun k hk => (if_neg (by omega)).trans (if_neg (by omega))) ?_ (by simp) (by simp [jb_rn]) (by simp [keys]) (by simp [keys]; rfl) ?_; focus (simp [ren, renA, renF, ren0]; done)) | (refine heapK_mv (cn1_fun nr (Int.bmod (2 * bx) 18446744073709551616)) G0F (B := 200) ⟨by simp, by simp [keys], by simp [jb, ids_lit, idsF, ids0]⟩ (fun k => if k = 100 then 234 else if k = 108 then 235 else k) (fun k hk => (if_neg (by omega)).trans (if_neg (by omega))) ?_ (by simp) (by simp [jb_rn]) (by simp [keys]) (by simp [keys]; rfl) ?_; focus (simp [ren, renA, renF, ren0]; done))); try simp [hC, hY, f0, f1, f2, f3, f4, f5, c0, c1, c2, c3, c4, c5, cnB])); (first | refine hQ _ _ _ _ (by kernel_rfl) ?_ | refine hP _ _ (by kernel_rfl) fun _ => ?_); clear hQ hP Q) | refine gwB ?_ | refine gwT ?_ | refine gwK ?_ | refine gwE ?_ | refine gwG ?_ | refine gwL ?_ | simp only [blockG_exit] | (refine gwC ?_ ?_ <;> (intro hb; first | (cases hb; done) | skip)))
              refine ⟨.inr rfl, by simp [Tryd.results47], keep_of G0F (by simp) (by (intro k hk; first | rfl | (simp (disch := omega) only [addB, List.mem_cons, List.not_mem_nil, or_false, upd_other, hpL_cons, hpL_nil, if_neg, updL] <;> done)))⟩
            | true =>
              cases c6 : wiB md 0 4 with
              | false =>
                have e : whyS n f g bx tp nr md = ⟨#[109, 101, 116, 104, 111, 100]⟩ := by unfold whyS; simp only [c0, c1, c2, c3, c4, c5, c6, Bool.true_eq_false, if_true, if_false, reduceCtorEq]
                rw [e]
                repeat' (first | refine gwS ?_ | refine GWL_start ?_ | refine GWL_step ?_ | simp only [wN, wM, Nat.reduceAdd, Nat.reduceMul] | ((first | refine gwR [76, 78, 81] ?_ | refine gwD [76, 78, 81] ?_); intro Q hQ hP; simp [hC, hY, f0, f1, f2, f3, f4, f5, f6, c0, c1, c2, c3, c4, c5, c6, cnB]; (repeat ((first | (refine heapK_mv (cn1_fun n 4) G0F (B := 200) ⟨by simp, by simp [keys], by simp [jb, ids_lit, idsF, ids0]⟩ (fun k => if k = 100 then 226 else if k = 108 then 227 else k) (fun k hk => (if_neg (by omega)).trans (if_neg (by omega))) ?_ (by simp) (by simp [jb_rn]) (by simp [keys]) (by simp [keys]; rfl) ?_; focus (simp [ren, renA, renF, ren0]; done)) | (refine heapK_mv (cm2_fun b off n cap f h g bx tp nr md) G0F (B := 200) (cmL_ok h.fx off n cap g bx tp nr md) (fun k => if k = 108 then 225 else k) (fun k hk => if_neg (by omega)) ?_ (by simp) (by simp [cmL, hr]; simp [cfB, Blk.rn, renF, ren0]) (by simp [keys, cmL]) (by simp [keys, cmL]; rfl) ?_; focus (simp [ren, renA, renF, ren0]; done)) | (refine heapK_mv (cn1_fun g 1048576) G0F (B := 200) ⟨by simp, by simp [keys], by simp [jb, ids_lit, idsF, ids0]⟩ (fun k => if k = 100 then 228 else if k = 108 then 229 else k) (fun k hk => (if_neg (by omega)).trans (if_neg (by omega))) ?_ (by simp) (by simp [jb_rn]) (by simp [keys]) (by simp [keys]; rfl) ?_; focus (simp [ren, renA, renF, ren0]; done)) | (refine heapK_mv (cn1_fun bx 1048576) G0F (B := 200) ⟨by simp, by simp [keys], by simp [jb, ids_lit, idsF, ids0]⟩ (fun k => if k = 100 then 230 else if k = 108 then 231 else k) (fun k hk => (if_neg (by omega)).trans (if_neg (by omega))) ?_ (by simp) (by simp [jb_rn]) (by simp [keys]) (by simp [keys]; rfl) ?_; focus (simp [ren, renA, renF, ren0]; done)) | (refine heapK_mv (cn1_fun tp 65536) G0F (B := 200) ⟨by simp, by simp [keys], by simp [jb, ids_lit, idsF, ids0]⟩ (fun k => if k = 100 then 232 else if k = 108 then 233 else k) (fun k hk => (if_neg (by omega)).trans (if_neg (by omega))) ?_ (by simp) (by simp [jb_rn]) (by simp [keys]) (by simp [keys]; rfl) ?_; focus (simp [ren, renA, renF, ren0]; done)) | (refine heapK_mv (cn1_fun nr (Int.bmod (2 * bx) 18446744073709551616)) G0F (B := 200) ⟨by simp, by simp [keys], by simp [jb, ids_lit, idsF, ids0]⟩ (fun k => if k = 100 then 234 else if k = 108 then 235 else k) (fun k hk => (if_neg (by omega)).trans (if_neg (by omega))) ?_ (by simp) (by simp [jb_rn]) (by simp [keys]) (by simp [keys]; rfl) ?_; focus (simp [ren, renA, renF, ren0]; done)) | (refine heapK_mv (cm3_fun b off n cap h.fx g bx tp nr md) G0F (B := 200) (cmL_ok h.fx off n cap g bx tp nr md) (fun k => if k = 108 then 225 else k) (fun k hk => if_neg (by omega)) ?_ (by simp) (by simp [cmL, hr]; simp [cfB, Blk.rn, renF, ren0]) (by simp [keys, cmL]) (by simp [keys, cmL]; rfl) ?_; focus (simp [ren, renA, renF, ren0]; done))); try simp [hC, hY, f0, f1, f2, f3, f4, f5, f6, c0, c1, c2, c3, c4, c5, c6, cnB])); (first | refine hQ _ _ _ _ (by kernel_rfl) ?_ | refine hP _ _ (by kernel_rfl) fun _ => ?_); clear hQ hP Q) | refine gwB ?_ | refine gwT ?_ | refine gwK ?_ | refine gwE ?_ | refine gwG ?_ | refine gwL ?_ | simp only [blockG_exit] | (refine gwC ?_ ?_ <;> (intro hb; first | (cases hb; done) | skip)))
                refine ⟨.inr rfl, by simp [Tryd.results47], keep_of G0F (by simp) (by (intro k hk; first | rfl | (simp (disch := omega) only [addB, List.mem_cons, List.not_mem_nil, or_false, upd_other, hpL_cons, hpL_nil, if_neg, updL] <;> done)))⟩
              | true =>
                have e : whyS n f g bx tp nr md = ⟨#[]⟩ := by unfold whyS; simp only [c0, c1, c2, c3, c4, c5, c6, Bool.true_eq_false, if_true, if_false, reduceCtorEq]
                rw [e]
                repeat' (first | refine gwS ?_ | refine GWL_start ?_ | refine GWL_step ?_ | simp only [wN, wM, Nat.reduceAdd, Nat.reduceMul] | ((first | refine gwR [76, 78, 81] ?_ | refine gwD [76, 78, 81] ?_); intro Q hQ hP; simp [hC, hY, f0, f1, f2, f3, f4, f5, f6, c0, c1, c2, c3, c4, c5, c6, cnB]; (repeat ((first | (refine heapK_mv (cn1_fun n 4) G0F (B := 200) ⟨by simp, by simp [keys], by simp [jb, ids_lit, idsF, ids0]⟩ (fun k => if k = 100 then 226 else if k = 108 then 227 else k) (fun k hk => (if_neg (by omega)).trans (if_neg (by omega))) ?_ (by simp) (by simp [jb_rn]) (by simp [keys]) (by simp [keys]; rfl) ?_; focus (simp [ren, renA, renF, ren0]; done)) | (refine heapK_mv (cm2_fun b off n cap f h g bx tp nr md) G0F (B := 200) (cmL_ok h.fx off n cap g bx tp nr md) (fun k => if k = 108 then 225 else k) (fun k hk => if_neg (by omega)) ?_ (by simp) (by simp [cmL, hr]; simp [cfB, Blk.rn, renF, ren0]) (by simp [keys, cmL]) (by simp [keys, cmL]; rfl) ?_; focus (simp [ren, renA, renF, ren0]; done)) | (refine heapK_mv (cn1_fun g 1048576) G0F (B := 200) ⟨by simp, by simp [keys], by simp [jb, ids_lit, idsF, ids0]⟩ (fun k => if k = 100 then 228 else if k = 108 then 229 else k) (fun k hk => (if_neg (by omega)).trans (if_neg (by omega))) ?_ (by simp) (by simp [jb_rn]) (by simp [keys]) (by simp [keys]; rfl) ?_; focus (simp [ren, renA, renF, ren0]; done)) | (refine heapK_mv (cn1_fun bx 1048576) G0F (B := 200) ⟨by simp, by simp [keys], by simp [jb, ids_lit, idsF, ids0]⟩ (fun k => if k = 100 then 230 else if k = 108 then 231 else k) (fun k hk => (if_neg (by omega)).trans (if_neg (by omega))) ?_ (by simp) (by simp [jb_rn]) (by simp [keys]) (by simp [keys]; rfl) ?_; focus (simp [ren, renA, renF, ren0]; done)) | (refine heapK_mv (cn1_fun tp 65536) G0F (B := 200) ⟨by simp, by simp [keys], by simp [jb, ids_lit, idsF, ids0]⟩ (fun k => if k = 100 then 232 else if k = 108 then 233 else k) (fun k hk => (if_neg (by omega)).trans (if_neg (by omega))) ?_ (by simp) (by simp [jb_rn]) (by simp [keys]) (by simp [keys]; rfl) ?_; focus (simp [ren, renA, renF, ren0]; done)) | (refine heapK_mv (cn1_fun nr (Int.bmod (2 * bx) 18446744073709551616)) G0F (B := 200) ⟨by simp, by simp [keys], by simp [jb, ids_lit, idsF, ids0]⟩ (fun k => if k = 100 then 234 else if k = 108 then 235 else k) (fun k hk => (if_neg (by omega)).trans (if_neg (by omega))) ?_ (by simp) (by simp [jb_rn]) (by simp [keys]) (by simp [keys]; rfl) ?_; focus (simp [ren, renA, renF, ren0]; done)) | (refine heapK_mv (cm3_fun b off n cap h.fx g bx tp nr md) G0F (B := 200) (cmL_ok h.fx off n cap g bx tp nr md) (fun k => if k = 108 then 225 else k) (fun k hk => if_neg (by omega)) ?_ (by simp) (by simp [cmL, hr]; simp [cfB, Blk.rn, renF, ren0]) (by simp [keys, cmL]) (by simp [keys, cmL]; rfl) ?_; focus (simp [ren, renA, renF, ren0]; done))); try simp [hC, hY, f0, f1, f2, f3, f4, f5, f6, c0, c1, c2, c3, c4, c5, c6, cnB])); (first | refine hQ _ _ _ _ (by kernel_rfl) ?_ | refine hP _ _ (by kernel_rfl) fun _ => ?_); clear hQ hP Q) | refine gwB ?_ | refine gwT ?_ | refine gwK ?_ | refine gwE ?_ | refine gwG ?_ | refine gwL ?_ | simp only [blockG_exit] | (refine gwC ?_ ?_ <;> (intro hb; first | (cases hb; done) | skip)))
                refine ⟨.inr rfl, by simp [Tryd.results47], keep_of G0F (by simp) (by (intro k hk; first | rfl | (simp (disch := omega) only [addB, List.mem_cons, List.not_mem_nil, or_false, upd_other, hpL_cons, hpL_nil, if_neg, updL] <;> done)))⟩
def cfOk (n : Nat) (f : Nat → Int) (g bx tp nr md : Int) : Bool := wiB n 1 4 && (allM f n && (wiB g 1 1048576 && (wiB bx 1 1048576 && (wiB tp 1 65536 && (wiB nr 1 (Int.bmod (2 * bx) 18446744073709551616) && (wiB md 0 4))))))
set_option maxRecDepth 8000 in
set_option maxHeartbeats 8000000 in
theorem musts0_fun (b : Blk) (hb : b.fx) (g bx tp nr md : Int) :
    FunS Tryd.prog G0 61 #[cfV (.slice none 0 0) g bx tp nr md] (hpL G0 [(100, b)]) (keys [(100, b)]) (MustsR 1000 (.slice none 0 0) 0 g bx tp nr md) := by
  refine newS_ofL (B := 200) G0F Tryd.func61 rfl Tryd.call61 (oneL_ok hb) ?_ ?_ (by simp [Tryd.ntmps61]) (by omega) ?_
  · simp [idsV, idsA, idsF, ids0, keys, cfV]
  · rintro v ns ⟨l, rfl, rfl, hl, _⟩
    have hl2 : ∀ D : Nat → Prop, (∀ k, 1000 ≤ k → k < 1012 → D k) → (mpB l).ids D := fun D hD => mpB_ids.2 fun p hp => by
      have := hl p hp
      simp only [mV, List.mem_cons, List.not_mem_nil, or_false] at this
      rcases this with rfl | rfl | rfl | rfl | rfl | rfl | rfl <;> simp [idsF, ids0, hD]
    refine ⟨by simp [idsV, idsA, idsF, ids0, extD, keys, mNs], ?_, ?_⟩
    · intro p hp
      simp only [mNs, List.mem_cons, List.not_mem_nil, or_false] at hp
      have hD : ∀ k, 1000 ≤ k → k < 1012 → extD (fun k => k ∈ keys [(100, b)]) (mNs 1000 l (.slice none 0 0) 0 g bx tp nr md) k := fun k hk1 hk2 => .inr (by
        simp only [mNs, keys, List.map_cons, List.map_nil, List.mem_cons, List.not_mem_nil, or_false]
        omega)
      rcases hp with rfl | rfl | rfl | rfl | rfl | rfl | rfl | rfl | rfl | rfl | rfl | rfl
      · exact ⟨by omega, hl2 _ hD⟩
      · exact ⟨by omega, by simp [cfB, ids_lit, idsF, ids0, extD, keys]⟩
      all_goals exact ⟨by omega, by simp [jb, ids_lit, idsF, ids0]⟩
    · intro k b c h1 h2
      simp only [mNs, List.mem_cons, List.not_mem_nil, or_false, Prod.mk.injEq] at h1 h2
      rcases h1 with ⟨e1, rfl⟩ | ⟨e1, rfl⟩ | ⟨e1, rfl⟩ | ⟨e1, rfl⟩ | ⟨e1, rfl⟩ | ⟨e1, rfl⟩ | ⟨e1, rfl⟩ | ⟨e1, rfl⟩ | ⟨e1, rfl⟩ | ⟨e1, rfl⟩ | ⟨e1, rfl⟩ | ⟨e1, rfl⟩ <;> rcases h2 with ⟨e2, rfl⟩ | ⟨e2, rfl⟩ | ⟨e2, rfl⟩ | ⟨e2, rfl⟩ | ⟨e2, rfl⟩ | ⟨e2, rfl⟩ | ⟨e2, rfl⟩ | ⟨e2, rfl⟩ | ⟨e2, rfl⟩ | ⟨e2, rfl⟩ | ⟨e2, rfl⟩ | ⟨e2, rfl⟩ <;> first | rfl | omega
  intro C hC hC0 hY
  unfold cfV
  repeat' (first | refine gwS ?_ | simp only [wN, wM, Nat.reduceAdd, Nat.reduceMul] | ((first | refine gwR [] ?_ | refine gwD [] ?_); intro Q hQ hP; simp [hC, hY]; (first | refine hQ _ _ _ _ (by kernel_rfl) ?_ | refine hP _ _ (by kernel_rfl) fun _ => ?_); clear hQ hP Q) | refine gwB ?_ | refine gwT ?_ | refine gwK ?_ | refine gwE ?_ | refine gwG ?_ | refine gwL ?_ | simp only [blockG_exit] | (refine gwC ?_ ?_ <;> (intro hb; first | (cases hb; done) | skip)))
  refine GW_any follows ?_
  simp only [Array.toList, List.length_cons, List.length_nil, Nat.reduceAdd]
  obtain ⟨sl, hsl⟩ : ∃ sl, Value.slice none 0 0 = sl := ⟨_, rfl⟩
  refine GA_ind (MI b sl 0 g bx tp nr md) (fun listed ts hp hs hr hI => ?_) (fun fuel listed ts hp i hs hi hdep h hk => ?_) _ _ _ _ (by simp) (by decide +kernel) ?_
  · have hall := ready_nil hs (by kernel_rfl) hr
    have hall : ∀ i, i < 36 → listed[i]? = some true := fun i hi => hall i (by simpa using hi)
    obtain ⟨l, l1, l2, l3⟩ := hI.mp (hall 0 (by omega))
    have h2 := hI.tm (35, 2, .map (some 224)) (by simp [mT]) (hall 35 (by omega))
    have hinv : ∀ q ∈ mI, renF mR (renF mS q.2.2) = q.2.2 := by simp [mI, renF, ren0, mR, mS]
    have hcan : ∀ q ∈ mI, (q.2.1, renF mS q.2.2) ∈ mV 1000 := by simp [mI, mV, renF, ren0, mS]
    have hfind : ∀ q ∈ mV 1000, ∃ p ∈ mI, p.2.1 = q.1 ∧ renF mS p.2.2 = q.2 ∧ p.1 < 36 := by
      intro q hq
      simp only [mV, List.mem_cons, List.not_mem_nil, or_false] at hq
      rcases hq with rfl | rfl | rfl | rfl | rfl | rfl | rfl
      · exact ⟨(6, ⟨#[98, 111, 100, 105, 101, 115]⟩, .func (.func 76) #[] #[.pointer (some ⟨264, 0, none⟩), .pointer (some ⟨265, 0, none⟩)]), by simp [mI], rfl, by simp [renF, ren0, mS], by omega⟩
      · exact ⟨(8, ⟨#[109, 97, 115, 115]⟩, .func (.func 78) #[] #[.pointer (some ⟨200, 0, none⟩)]), by simp [mI], rfl, by simp [renF, ren0, mS], by omega⟩
      · exact ⟨(13, ⟨#[99, 111, 110, 115, 116, 97, 110, 116]⟩, .func (.func 76) #[] #[.pointer (some ⟨320, 0, none⟩), .pointer (some ⟨321, 0, none⟩)]), by simp [mI], rfl, by simp [renF, ren0, mS], by omega⟩
      · exact ⟨(18, ⟨#[98, 111, 120]⟩, .func (.func 76) #[] #[.pointer (some ⟨360, 0, none⟩), .pointer (some ⟨361, 0, none⟩)]), by simp [mI], rfl, by simp [renF, ren0, mS], by omega⟩
      · exact ⟨(23, ⟨#[116, 111, 112]⟩, .func (.func 76) #[] #[.pointer (some ⟨400, 0, none⟩), .pointer (some ⟨401, 0, none⟩)]), by simp [mI], rfl, by simp [renF, ren0, mS], by omega⟩
      · exact ⟨(31, ⟨#[110, 101, 97, 114]⟩, .func (.func 76) #[] #[.pointer (some ⟨464, 0, none⟩), .pointer (some ⟨465, 0, none⟩)]), by simp [mI], rfl, by simp [renF, ren0, mS], by omega⟩
      · exact ⟨(33, ⟨#[109, 101, 116, 104, 111, 100]⟩, .func (.func 81) #[] #[.pointer (some ⟨200, 0, none⟩)]), by simp [mI], rfl, by simp [renF, ren0, mS], by omega⟩
    simp only [thenG_normal]
    refine GW_ret ?_
    refine ⟨.inr rfl, keep_of G0F (by simp [hI.b]) (fun k hk => (hI.low k hk).trans (hpL_low (by simp) hk).symm), _, _, mR, ⟨l.map fun p => (p.1, renF mS p.2), rfl, rfl, fun p hp => ?_, fun q hq => ?_⟩, fun k hk => ?_, ?_, ?_, ?_, ?_⟩
    · obtain ⟨p0, hp0, rfl⟩ := List.mem_map.1 hp
      obtain ⟨q, hq, rfl, _⟩ := l2 p0 hp0
      exact hcan q hq
    · obtain ⟨p, hp, e1, e2, hlt⟩ := hfind q hq
      rw [findL_map, ← e1, l3 p hp (hall _ hlt), ← e2]
      rfl
    · unfold mR
      iterate 12 rw [if_neg (by omega)]
    · simp [mNs, mR]
    · simp [mNs, mR]
    · simp [Tryd.results61, h2, ren, renA, renF, ren0, mR]
      rfl
    · subst hsl
      have hbx := hI.bx
      have hm : (mpB (l.map fun p => (p.1, renF mS p.2))).rn mR = mpB l := by
        rw [mpB_rn, List.map_map]
        congr 1
        conv => rhs; rw [← List.map_id l]
        refine List.map_congr_left fun p hp => ?_
        obtain ⟨q, hq, rfl, _⟩ := l2 p hp
        simp only [Function.comp_def, id]
        rw [hinv q hq]
      intro p hp
      simp only [mNs, List.mem_cons, List.not_mem_nil, or_false] at hp
      rcases hp with rfl | rfl | rfl | rfl | rfl | rfl | rfl | rfl | rfl | rfl | rfl | rfl
      · show hp (mR 1000) = some ((mpB _).rn mR)
        rw [hm]
        exact l1
      · show hp 200 = some ((cfB _ g bx tp nr md).rn mR)
        rw [hI.c]
        simp [cfB, Blk.rn, renF, ren0, mR]
      · show hp 264 = some ((jb ((0 : Nat) : Int)).rn mR)
        rw [jb_rn]
        exact hbx (5, 264, jb ((0 : Nat) : Int)) (by simp [mX]) (hall 5 (by omega))
      · show hp 265 = some ((jb 4).rn mR)
        rw [jb_rn]
        exact hbx (5, 265, jb 4) (by simp [mX]) (hall 5 (by omega))
      · show hp 320 = some ((jb g).rn mR)
        rw [jb_rn]
        exact hbx (12, 320, jb g) (by simp [mX]) (hall 12 (by omega))
      · show hp 321 = some ((jb 1048576).rn mR)
        rw [jb_rn]
        exact hbx (12, 321, jb 1048576) (by simp [mX]) (hall 12 (by omega))
      · show hp 360 = some ((jb bx).rn mR)
        rw [jb_rn]
        exact hbx (17, 360, jb bx) (by simp [mX]) (hall 17 (by omega))
      · show hp 361 = some ((jb 1048576).rn mR)
        rw [jb_rn]
        exact hbx (17, 361, jb 1048576) (by simp [mX]) (hall 17 (by omega))
      · show hp 400 = some ((jb tp).rn mR)
        rw [jb_rn]
        exact hbx (22, 400, jb tp) (by simp [mX]) (hall 22 (by omega))
      · show hp 401 = some ((jb 65536).rn mR)
        rw [jb_rn]
        exact hbx (22, 401, jb 65536) (by simp [mX]) (hall 22 (by omega))
      · show hp 464 = some ((jb nr).rn mR)
        rw [jb_rn]
        exact hbx (30, 464, jb nr) (by simp [mX]) (hall 30 (by omega))
      · show hp 465 = some ((jb (Int.bmod (2 * bx) 18446744073709551616)).rn mR)
        rw [jb_rn]
        exact hbx (30, 465, jb (Int.bmod (2 * bx) 18446744073709551616)) (by simp [mX]) (hall 30 (by omega))
  · have hlt : i < 36 := by
      have := (Array.getElem?_eq_some_iff.1 hi).1
      rw [hs] at this
      simpa using this
    subst hsl
    obtain rfl | rfl | rfl | rfl | rfl | rfl | rfl | rfl | rfl | rfl | rfl | rfl | rfl | rfl | rfl | rfl | rfl | rfl | rfl | rfl | rfl | rfl | rfl | rfl | rfl | rfl | rfl | rfl | rfl | rfl | rfl | rfl | rfl | rfl | rfl | rfl : i = 0 ∨ i = 1 ∨ i = 2 ∨ i = 3 ∨ i = 4 ∨ i = 5 ∨ i = 6 ∨ i = 7 ∨ i = 8 ∨ i = 9 ∨ i = 10 ∨ i = 11 ∨ i = 12 ∨ i = 13 ∨ i = 14 ∨ i = 15 ∨ i = 16 ∨ i = 17 ∨ i = 18 ∨ i = 19 ∨ i = 20 ∨ i = 21 ∨ i = 22 ∨ i = 23 ∨ i = 24 ∨ i = 25 ∨ i = 26 ∨ i = 27 ∨ i = 28 ∨ i = 29 ∨ i = 30 ∨ i = 31 ∨ i = 32 ∨ i = 33 ∨ i = 34 ∨ i = 35 := by omega
    · -- 0 map
      have f0 := h.t1
      have f1 := h.t3
      refine GO_walk [] rfl (by kernel_rfl) (by first | assumption | simp) ?_; intro q hq; simp [hC, hY, f0, f1]; refine hq _ _ _ _ ?_; clear hq q
      exact hk _ _ (h.mkm hi)
    · -- 1 mv
      have f0 := h.t1
      have f1 := h.t3
      refine GO_walk [] rfl (by kernel_rfl) (by first | assumption | simp) ?_; intro q hq; simp [hC, hY, f0, f1]; refine hq _ _ _ _ ?_; clear hq q
      exact hk _ _ (h.tmp (i := 1) (t := 5) (by simp [mT]) (by simp [mX]) (by omega))
    · -- 2 fa
      have f0 := h.t1
      have f1 := h.t3
      refine GO_walk [] rfl (by kernel_rfl) (by first | assumption | simp) ?_; intro q hq; simp [hC, hY, f0, f1]; refine hq _ _ _ _ ?_; clear hq q
      exact hk _ _ (h.tmp (i := 2) (t := 6) (by simp [mT]) (by simp [mX]) (by omega))
    · -- 3 ld
      have hd : ∀ j ∈ [2], listed[j]? = some true := by
        have hd0 := hdep _ rfl
        simp [Region.binds] at hd0
        simp [hd0]
      have f0 := h.t1
      have f1 := h.t3
      have f2 := h.tm (2, 6, .pointer (some ⟨200, 0, none⟩)) (by simp [mT]) (hd 2 (by simp))
      have fc := h.c
      unfold cfB at fc
      refine GO_walk [] rfl (by kernel_rfl) (by first | assumption | simp) ?_; intro q hq; simp [hC, hY, f0, f1, f2, fc]; refine hq _ _ _ _ ?_; clear hq q
      exact hk _ _ (h.tmp (i := 3) (t := 7) (by simp [mT]) (by simp [mX]) (by omega))
    · -- 4 len
      have hd : ∀ j ∈ [3], listed[j]? = some true := by
        have hd0 := hdep _ rfl
        simp [Region.binds] at hd0
        simp [hd0]
      have f0 := h.t1
      have f1 := h.t3
      have f2 := h.tm (3, 7, .slice none 0 0) (by simp [mT]) (hd 3 (by simp))
      refine GO_walk [] rfl (by kernel_rfl) (by first | assumption | simp) ?_; intro q hq; simp [hC, hY, f0, f1, f2]; refine hq _ _ _ _ ?_; clear hq q
      exact hk _ _ (h.tmp (i := 4) (t := 8) (by simp [mT]) (by simp [mX]) (by omega))
    · -- 5 call
      have hd : ∀ j ∈ [1, 4], listed[j]? = some true := by
        have hd0 := hdep _ rfl
        simp [Region.binds] at hd0
        simp [hd0]
      have f0 := h.t1
      have f1 := h.t3
      have f2 := h.tm (1, 5, .func (.func 75) #[] #[]) (by simp [mT]) (hd 1 (by simp))
      have f3 := h.tm (4, 8, .int .i64 ((0 : Nat) : Int)) (by simp [mT]) (hd 4 (by simp))
      refine GO_callL (f := .tmp 5) (cap := #[]) hC (num_at 264 (by omega) ((0 : Nat) : Int) 4) rfl hi rfl (by simp [Tryd.ntmps61]) rfl rfl (by simp [okT, f0, f1, f2, f3]) (by simp [gev, f0, f1, f2, f3]) (by simp) (by simp [okX, junk, f0, f1, f2, f3]) (by simp [gev, f0, f1, f2, f3]) (by simp) (fun q hq => (h.low q hq).symm ▸ (by simp)) ?_ ?_
      · intro v ns hV k hk
        have := numR_key hV k hk
        omega
      rintro v ns ⟨rfl, rfl⟩
      exact hk _ _ (h.call (i := 5) (t := 9) (by simp [mT]) (by omega) (by omega) (by simp [mX]))
    · -- 6 ins
      have hd : ∀ j ∈ [0, 5], listed[j]? = some true := by
        have hd0 := hdep _ rfl
        simp [Region.binds] at hd0
        simp [hd0]
      have f0 := h.t1
      have f1 := h.t3
      have f2 := h.tm (0, 4, .map (some 224)) (by simp [mT]) (hd 0 (by simp))
      have f3 := h.tm (5, 9, .func (.func 76) #[] #[.pointer (some ⟨264, 0, none⟩), .pointer (some ⟨265, 0, none⟩)]) (by simp [mT]) (hd 5 (by simp))
      obtain ⟨l, l1, l2, l3⟩ := h.mp (hd 0 (by simp))
      have hm : (6, ⟨#[98, 111, 100, 105, 101, 115]⟩, .func (.func 76) #[] #[.pointer (some ⟨264, 0, none⟩), .pointer (some ⟨265, 0, none⟩)]) ∈ mI := by simp [mI]
      have hn := h.fresh hm hi l2
      refine GO_walk [] rfl (by kernel_rfl) (by first | assumption | simp) ?_; intro q hq; simp [hC, hY, f0, f1, f2, f3, l1, hn]; refine hq _ _ _ _ ?_; clear hq q
      exact hk _ _ (h.ins hm (Array.getElem?_eq_some_iff.1 hi).1 l2 l3 hn (hd 0 (by simp)))
    · -- 7 mk
      have f0 := h.t1
      have f1 := h.t3
      refine GO_walk [] rfl (by kernel_rfl) (by first | assumption | simp) ?_; intro q hq; simp [hC, hY, f0, f1]; refine hq _ _ _ _ ?_; clear hq q
      exact hk _ _ (h.tmp (i := 7) (t := 10) (by simp [mT]) (by simp [mX]) (by omega))
    · -- 8 ins
      have hd : ∀ j ∈ [0, 7], listed[j]? = some true := by
        have hd0 := hdep _ rfl
        simp [Region.binds] at hd0
        simp [hd0]
      have f0 := h.t1
      have f1 := h.t3
      have f2 := h.tm (0, 4, .map (some 224)) (by simp [mT]) (hd 0 (by simp))
      have f3 := h.tm (7, 10, .func (.func 78) #[] #[.pointer (some ⟨200, 0, none⟩)]) (by simp [mT]) (hd 7 (by simp))
      obtain ⟨l, l1, l2, l3⟩ := h.mp (hd 0 (by simp))
      have hm : (8, ⟨#[109, 97, 115, 115]⟩, .func (.func 78) #[] #[.pointer (some ⟨200, 0, none⟩)]) ∈ mI := by simp [mI]
      have hn := h.fresh hm hi l2
      refine GO_walk [] rfl (by kernel_rfl) (by first | assumption | simp) ?_; intro q hq; simp [hC, hY, f0, f1, f2, f3, l1, hn]; refine hq _ _ _ _ ?_; clear hq q
      exact hk _ _ (h.ins hm (Array.getElem?_eq_some_iff.1 hi).1 l2 l3 hn (hd 0 (by simp)))
    · -- 9 mv
      have f0 := h.t1
      have f1 := h.t3
      refine GO_walk [] rfl (by kernel_rfl) (by first | assumption | simp) ?_; intro q hq; simp [hC, hY, f0, f1]; refine hq _ _ _ _ ?_; clear hq q
      exact hk _ _ (h.tmp (i := 9) (t := 11) (by simp [mT]) (by simp [mX]) (by omega))
    · -- 10 fa
      have f0 := h.t1
      have f1 := h.t3
      refine GO_walk [] rfl (by kernel_rfl) (by first | assumption | simp) ?_; intro q hq; simp [hC, hY, f0, f1]; refine hq _ _ _ _ ?_; clear hq q
      exact hk _ _ (h.tmp (i := 10) (t := 12) (by simp [mT]) (by simp [mX]) (by omega))
    · -- 11 ld
      have hd : ∀ j ∈ [10], listed[j]? = some true := by
        have hd0 := hdep _ rfl
        simp [Region.binds] at hd0
        simp [hd0]
      have f0 := h.t1
      have f1 := h.t3
      have f2 := h.tm (10, 12, .pointer (some ⟨200, 1, none⟩)) (by simp [mT]) (hd 10 (by simp))
      have fc := h.c
      unfold cfB at fc
      refine GO_walk [] rfl (by kernel_rfl) (by first | assumption | simp) ?_; intro q hq; simp [hC, hY, f0, f1, f2, fc]; refine hq _ _ _ _ ?_; clear hq q
      exact hk _ _ (h.tmp (i := 11) (t := 13) (by simp [mT]) (by simp [mX]) (by omega))
    · -- 12 call
      have hd : ∀ j ∈ [9, 11], listed[j]? = some true := by
        have hd0 := hdep _ rfl
        simp [Region.binds] at hd0
        simp [hd0]
      have f0 := h.t1
      have f1 := h.t3
      have f2 := h.tm (9, 11, .func (.func 75) #[] #[]) (by simp [mT]) (hd 9 (by simp))
      have f3 := h.tm (11, 13, .int .i64 g) (by simp [mT]) (hd 11 (by simp))
      refine GO_callL (f := .tmp 11) (cap := #[]) hC (num_at 320 (by omega) g 1048576) rfl hi rfl (by simp [Tryd.ntmps61]) rfl rfl (by simp [okT, f0, f1, f2, f3]) (by simp [gev, f0, f1, f2, f3]) (by simp) (by simp [okX, junk, f0, f1, f2, f3]) (by simp [gev, f0, f1, f2, f3]) (by simp) (fun q hq => (h.low q hq).symm ▸ (by simp)) ?_ ?_
      · intro v ns hV k hk
        have := numR_key hV k hk
        omega
      rintro v ns ⟨rfl, rfl⟩
      exact hk _ _ (h.call (i := 12) (t := 14) (by simp [mT]) (by omega) (by omega) (by simp [mX]))
    · -- 13 ins
      have hd : ∀ j ∈ [0, 12], listed[j]? = some true := by
        have hd0 := hdep _ rfl
        simp [Region.binds] at hd0
        simp [hd0]
      have f0 := h.t1
      have f1 := h.t3
      have f2 := h.tm (0, 4, .map (some 224)) (by simp [mT]) (hd 0 (by simp))
      have f3 := h.tm (12, 14, .func (.func 76) #[] #[.pointer (some ⟨320, 0, none⟩), .pointer (some ⟨321, 0, none⟩)]) (by simp [mT]) (hd 12 (by simp))
      obtain ⟨l, l1, l2, l3⟩ := h.mp (hd 0 (by simp))
      have hm : (13, ⟨#[99, 111, 110, 115, 116, 97, 110, 116]⟩, .func (.func 76) #[] #[.pointer (some ⟨320, 0, none⟩), .pointer (some ⟨321, 0, none⟩)]) ∈ mI := by simp [mI]
      have hn := h.fresh hm hi l2
      refine GO_walk [] rfl (by kernel_rfl) (by first | assumption | simp) ?_; intro q hq; simp [hC, hY, f0, f1, f2, f3, l1, hn]; refine hq _ _ _ _ ?_; clear hq q
      exact hk _ _ (h.ins hm (Array.getElem?_eq_some_iff.1 hi).1 l2 l3 hn (hd 0 (by simp)))
    · -- 14 mv
      have f0 := h.t1
      have f1 := h.t3
      refine GO_walk [] rfl (by kernel_rfl) (by first | assumption | simp) ?_; intro q hq; simp [hC, hY, f0, f1]; refine hq _ _ _ _ ?_; clear hq q
      exact hk _ _ (h.tmp (i := 14) (t := 15) (by simp [mT]) (by simp [mX]) (by omega))
    · -- 15 fa
      have f0 := h.t1
      have f1 := h.t3
      refine GO_walk [] rfl (by kernel_rfl) (by first | assumption | simp) ?_; intro q hq; simp [hC, hY, f0, f1]; refine hq _ _ _ _ ?_; clear hq q
      exact hk _ _ (h.tmp (i := 15) (t := 16) (by simp [mT]) (by simp [mX]) (by omega))
    · -- 16 ld
      have hd : ∀ j ∈ [15], listed[j]? = some true := by
        have hd0 := hdep _ rfl
        simp [Region.binds] at hd0
        simp [hd0]
      have f0 := h.t1
      have f1 := h.t3
      have f2 := h.tm (15, 16, .pointer (some ⟨200, 2, none⟩)) (by simp [mT]) (hd 15 (by simp))
      have fc := h.c
      unfold cfB at fc
      refine GO_walk [] rfl (by kernel_rfl) (by first | assumption | simp) ?_; intro q hq; simp [hC, hY, f0, f1, f2, fc]; refine hq _ _ _ _ ?_; clear hq q
      exact hk _ _ (h.tmp (i := 16) (t := 17) (by simp [mT]) (by simp [mX]) (by omega))
    · -- 17 call
      have hd : ∀ j ∈ [14, 16], listed[j]? = some true := by
        have hd0 := hdep _ rfl
        simp [Region.binds] at hd0
        simp [hd0]
      have f0 := h.t1
      have f1 := h.t3
      have f2 := h.tm (14, 15, .func (.func 75) #[] #[]) (by simp [mT]) (hd 14 (by simp))
      have f3 := h.tm (16, 17, .int .i64 bx) (by simp [mT]) (hd 16 (by simp))
      refine GO_callL (f := .tmp 15) (cap := #[]) hC (num_at 360 (by omega) bx 1048576) rfl hi rfl (by simp [Tryd.ntmps61]) rfl rfl (by simp [okT, f0, f1, f2, f3]) (by simp [gev, f0, f1, f2, f3]) (by simp) (by simp [okX, junk, f0, f1, f2, f3]) (by simp [gev, f0, f1, f2, f3]) (by simp) (fun q hq => (h.low q hq).symm ▸ (by simp)) ?_ ?_
      · intro v ns hV k hk
        have := numR_key hV k hk
        omega
      rintro v ns ⟨rfl, rfl⟩
      exact hk _ _ (h.call (i := 17) (t := 18) (by simp [mT]) (by omega) (by omega) (by simp [mX]))
    · -- 18 ins
      have hd : ∀ j ∈ [0, 17], listed[j]? = some true := by
        have hd0 := hdep _ rfl
        simp [Region.binds] at hd0
        simp [hd0]
      have f0 := h.t1
      have f1 := h.t3
      have f2 := h.tm (0, 4, .map (some 224)) (by simp [mT]) (hd 0 (by simp))
      have f3 := h.tm (17, 18, .func (.func 76) #[] #[.pointer (some ⟨360, 0, none⟩), .pointer (some ⟨361, 0, none⟩)]) (by simp [mT]) (hd 17 (by simp))
      obtain ⟨l, l1, l2, l3⟩ := h.mp (hd 0 (by simp))
      have hm : (18, ⟨#[98, 111, 120]⟩, .func (.func 76) #[] #[.pointer (some ⟨360, 0, none⟩), .pointer (some ⟨361, 0, none⟩)]) ∈ mI := by simp [mI]
      have hn := h.fresh hm hi l2
      refine GO_walk [] rfl (by kernel_rfl) (by first | assumption | simp) ?_; intro q hq; simp [hC, hY, f0, f1, f2, f3, l1, hn]; refine hq _ _ _ _ ?_; clear hq q
      exact hk _ _ (h.ins hm (Array.getElem?_eq_some_iff.1 hi).1 l2 l3 hn (hd 0 (by simp)))
    · -- 19 mv
      have f0 := h.t1
      have f1 := h.t3
      refine GO_walk [] rfl (by kernel_rfl) (by first | assumption | simp) ?_; intro q hq; simp [hC, hY, f0, f1]; refine hq _ _ _ _ ?_; clear hq q
      exact hk _ _ (h.tmp (i := 19) (t := 19) (by simp [mT]) (by simp [mX]) (by omega))
    · -- 20 fa
      have f0 := h.t1
      have f1 := h.t3
      refine GO_walk [] rfl (by kernel_rfl) (by first | assumption | simp) ?_; intro q hq; simp [hC, hY, f0, f1]; refine hq _ _ _ _ ?_; clear hq q
      exact hk _ _ (h.tmp (i := 20) (t := 20) (by simp [mT]) (by simp [mX]) (by omega))
    · -- 21 ld
      have hd : ∀ j ∈ [20], listed[j]? = some true := by
        have hd0 := hdep _ rfl
        simp [Region.binds] at hd0
        simp [hd0]
      have f0 := h.t1
      have f1 := h.t3
      have f2 := h.tm (20, 20, .pointer (some ⟨200, 3, none⟩)) (by simp [mT]) (hd 20 (by simp))
      have fc := h.c
      unfold cfB at fc
      refine GO_walk [] rfl (by kernel_rfl) (by first | assumption | simp) ?_; intro q hq; simp [hC, hY, f0, f1, f2, fc]; refine hq _ _ _ _ ?_; clear hq q
      exact hk _ _ (h.tmp (i := 21) (t := 21) (by simp [mT]) (by simp [mX]) (by omega))
    · -- 22 call
      have hd : ∀ j ∈ [19, 21], listed[j]? = some true := by
        have hd0 := hdep _ rfl
        simp [Region.binds] at hd0
        simp [hd0]
      have f0 := h.t1
      have f1 := h.t3
      have f2 := h.tm (19, 19, .func (.func 75) #[] #[]) (by simp [mT]) (hd 19 (by simp))
      have f3 := h.tm (21, 21, .int .i64 tp) (by simp [mT]) (hd 21 (by simp))
      refine GO_callL (f := .tmp 19) (cap := #[]) hC (num_at 400 (by omega) tp 65536) rfl hi rfl (by simp [Tryd.ntmps61]) rfl rfl (by simp [okT, f0, f1, f2, f3]) (by simp [gev, f0, f1, f2, f3]) (by simp) (by simp [okX, junk, f0, f1, f2, f3]) (by simp [gev, f0, f1, f2, f3]) (by simp) (fun q hq => (h.low q hq).symm ▸ (by simp)) ?_ ?_
      · intro v ns hV k hk
        have := numR_key hV k hk
        omega
      rintro v ns ⟨rfl, rfl⟩
      exact hk _ _ (h.call (i := 22) (t := 22) (by simp [mT]) (by omega) (by omega) (by simp [mX]))
    · -- 23 ins
      have hd : ∀ j ∈ [0, 22], listed[j]? = some true := by
        have hd0 := hdep _ rfl
        simp [Region.binds] at hd0
        simp [hd0]
      have f0 := h.t1
      have f1 := h.t3
      have f2 := h.tm (0, 4, .map (some 224)) (by simp [mT]) (hd 0 (by simp))
      have f3 := h.tm (22, 22, .func (.func 76) #[] #[.pointer (some ⟨400, 0, none⟩), .pointer (some ⟨401, 0, none⟩)]) (by simp [mT]) (hd 22 (by simp))
      obtain ⟨l, l1, l2, l3⟩ := h.mp (hd 0 (by simp))
      have hm : (23, ⟨#[116, 111, 112]⟩, .func (.func 76) #[] #[.pointer (some ⟨400, 0, none⟩), .pointer (some ⟨401, 0, none⟩)]) ∈ mI := by simp [mI]
      have hn := h.fresh hm hi l2
      refine GO_walk [] rfl (by kernel_rfl) (by first | assumption | simp) ?_; intro q hq; simp [hC, hY, f0, f1, f2, f3, l1, hn]; refine hq _ _ _ _ ?_; clear hq q
      exact hk _ _ (h.ins hm (Array.getElem?_eq_some_iff.1 hi).1 l2 l3 hn (hd 0 (by simp)))
    · -- 24 mv
      have f0 := h.t1
      have f1 := h.t3
      refine GO_walk [] rfl (by kernel_rfl) (by first | assumption | simp) ?_; intro q hq; simp [hC, hY, f0, f1]; refine hq _ _ _ _ ?_; clear hq q
      exact hk _ _ (h.tmp (i := 24) (t := 23) (by simp [mT]) (by simp [mX]) (by omega))
    · -- 25 fa
      have f0 := h.t1
      have f1 := h.t3
      refine GO_walk [] rfl (by kernel_rfl) (by first | assumption | simp) ?_; intro q hq; simp [hC, hY, f0, f1]; refine hq _ _ _ _ ?_; clear hq q
      exact hk _ _ (h.tmp (i := 25) (t := 24) (by simp [mT]) (by simp [mX]) (by omega))
    · -- 26 ld
      have hd : ∀ j ∈ [25], listed[j]? = some true := by
        have hd0 := hdep _ rfl
        simp [Region.binds] at hd0
        simp [hd0]
      have f0 := h.t1
      have f1 := h.t3
      have f2 := h.tm (25, 24, .pointer (some ⟨200, 4, none⟩)) (by simp [mT]) (hd 25 (by simp))
      have fc := h.c
      unfold cfB at fc
      refine GO_walk [] rfl (by kernel_rfl) (by first | assumption | simp) ?_; intro q hq; simp [hC, hY, f0, f1, f2, fc]; refine hq _ _ _ _ ?_; clear hq q
      exact hk _ _ (h.tmp (i := 26) (t := 25) (by simp [mT]) (by simp [mX]) (by omega))
    · -- 27 fa
      have f0 := h.t1
      have f1 := h.t3
      refine GO_walk [] rfl (by kernel_rfl) (by first | assumption | simp) ?_; intro q hq; simp [hC, hY, f0, f1]; refine hq _ _ _ _ ?_; clear hq q
      exact hk _ _ (h.tmp (i := 27) (t := 26) (by simp [mT]) (by simp [mX]) (by omega))
    · -- 28 ld
      have hd : ∀ j ∈ [27], listed[j]? = some true := by
        have hd0 := hdep _ rfl
        simp [Region.binds] at hd0
        simp [hd0]
      have f0 := h.t1
      have f1 := h.t3
      have f2 := h.tm (27, 26, .pointer (some ⟨200, 2, none⟩)) (by simp [mT]) (hd 27 (by simp))
      have fc := h.c
      unfold cfB at fc
      refine GO_walk [] rfl (by kernel_rfl) (by first | assumption | simp) ?_; intro q hq; simp [hC, hY, f0, f1, f2, fc]; refine hq _ _ _ _ ?_; clear hq q
      exact hk _ _ (h.tmp (i := 28) (t := 27) (by simp [mT]) (by simp [mX]) (by omega))
    · -- 29 mul
      have hd : ∀ j ∈ [28], listed[j]? = some true := by
        have hd0 := hdep _ rfl
        simp [Region.binds] at hd0
        simp [hd0]
      have f0 := h.t1
      have f1 := h.t3
      have f2 := h.tm (28, 27, .int .i64 bx) (by simp [mT]) (hd 28 (by simp))
      refine GO_walk [] rfl (by kernel_rfl) (by first | assumption | simp) ?_; intro q hq; simp [hC, hY, f0, f1, f2]; refine hq _ _ _ _ ?_; clear hq q
      exact hk _ _ (h.tmp (i := 29) (t := 28) (by simp [mT]) (by simp [mX]) (by omega))
    · -- 30 call
      have hd : ∀ j ∈ [24, 26, 29], listed[j]? = some true := by
        have hd0 := hdep _ rfl
        simp [Region.binds] at hd0
        simp [hd0]
      have f0 := h.t1
      have f1 := h.t3
      have f2 := h.tm (24, 23, .func (.func 75) #[] #[]) (by simp [mT]) (hd 24 (by simp))
      have f3 := h.tm (26, 25, .int .i64 nr) (by simp [mT]) (hd 26 (by simp))
      have f4 := h.tm (29, 28, .int .i64 (Int.bmod (2 * bx) 18446744073709551616)) (by simp [mT]) (hd 29 (by simp))
      refine GO_callL (f := .tmp 23) (cap := #[]) hC (num_at 464 (by omega) nr (Int.bmod (2 * bx) 18446744073709551616)) rfl hi rfl (by simp [Tryd.ntmps61]) rfl rfl (by simp [okT, f0, f1, f2, f3, f4]) (by simp [gev, f0, f1, f2, f3, f4]) (by simp) (by simp [okX, junk, f0, f1, f2, f3, f4]) (by simp [gev, f0, f1, f2, f3, f4]) (by simp) (fun q hq => (h.low q hq).symm ▸ (by simp)) ?_ ?_
      · intro v ns hV k hk
        have := numR_key hV k hk
        omega
      rintro v ns ⟨rfl, rfl⟩
      exact hk _ _ (h.call (i := 30) (t := 29) (by simp [mT]) (by omega) (by omega) (by simp [mX]))
    · -- 31 ins
      have hd : ∀ j ∈ [0, 30], listed[j]? = some true := by
        have hd0 := hdep _ rfl
        simp [Region.binds] at hd0
        simp [hd0]
      have f0 := h.t1
      have f1 := h.t3
      have f2 := h.tm (0, 4, .map (some 224)) (by simp [mT]) (hd 0 (by simp))
      have f3 := h.tm (30, 29, .func (.func 76) #[] #[.pointer (some ⟨464, 0, none⟩), .pointer (some ⟨465, 0, none⟩)]) (by simp [mT]) (hd 30 (by simp))
      obtain ⟨l, l1, l2, l3⟩ := h.mp (hd 0 (by simp))
      have hm : (31, ⟨#[110, 101, 97, 114]⟩, .func (.func 76) #[] #[.pointer (some ⟨464, 0, none⟩), .pointer (some ⟨465, 0, none⟩)]) ∈ mI := by simp [mI]
      have hn := h.fresh hm hi l2
      refine GO_walk [] rfl (by kernel_rfl) (by first | assumption | simp) ?_; intro q hq; simp [hC, hY, f0, f1, f2, f3, l1, hn]; refine hq _ _ _ _ ?_; clear hq q
      exact hk _ _ (h.ins hm (Array.getElem?_eq_some_iff.1 hi).1 l2 l3 hn (hd 0 (by simp)))
    · -- 32 mk
      have f0 := h.t1
      have f1 := h.t3
      refine GO_walk [] rfl (by kernel_rfl) (by first | assumption | simp) ?_; intro q hq; simp [hC, hY, f0, f1]; refine hq _ _ _ _ ?_; clear hq q
      exact hk _ _ (h.tmp (i := 32) (t := 30) (by simp [mT]) (by simp [mX]) (by omega))
    · -- 33 ins
      have hd : ∀ j ∈ [0, 32], listed[j]? = some true := by
        have hd0 := hdep _ rfl
        simp [Region.binds] at hd0
        simp [hd0]
      have f0 := h.t1
      have f1 := h.t3
      have f2 := h.tm (0, 4, .map (some 224)) (by simp [mT]) (hd 0 (by simp))
      have f3 := h.tm (32, 30, .func (.func 81) #[] #[.pointer (some ⟨200, 0, none⟩)]) (by simp [mT]) (hd 32 (by simp))
      obtain ⟨l, l1, l2, l3⟩ := h.mp (hd 0 (by simp))
      have hm : (33, ⟨#[109, 101, 116, 104, 111, 100]⟩, .func (.func 81) #[] #[.pointer (some ⟨200, 0, none⟩)]) ∈ mI := by simp [mI]
      have hn := h.fresh hm hi l2
      refine GO_walk [] rfl (by kernel_rfl) (by first | assumption | simp) ?_; intro q hq; simp [hC, hY, f0, f1, f2, f3, l1, hn]; refine hq _ _ _ _ ?_; clear hq q
      exact hk _ _ (h.ins hm (Array.getElem?_eq_some_iff.1 hi).1 l2 l3 hn (hd 0 (by simp)))
    · -- 34 mv
      have hd : ∀ j ∈ [0], listed[j]? = some true := by
        have hd0 := hdep _ rfl
        simp [Region.binds] at hd0
        simp [hd0]
      have f0 := h.t1
      have f1 := h.t3
      have f2 := h.tm (0, 4, .map (some 224)) (by simp [mT]) (hd 0 (by simp))
      refine GO_walk [] rfl (by kernel_rfl) (by first | assumption | simp) ?_; intro q hq; simp [hC, hY, f0, f1, f2]; refine hq _ _ _ _ ?_; clear hq q
      exact hk _ _ (h.tmp (i := 34) (t := 31) (by simp [mT]) (by simp [mX]) (by omega))
    · -- 35 asg
      have hd : ∀ j ∈ [34], listed[j]? = some true := by
        have hd0 := hdep _ rfl
        simp [Region.binds] at hd0
        simp [hd0]
      have f0 := h.t1
      have f1 := h.t3
      have f2 := h.tm (34, 31, .map (some 224)) (by simp [mT]) (hd 34 (by simp))
      refine GO_walk [] rfl (by kernel_rfl) (by first | assumption | simp) ?_; intro q hq; simp [hC, hY, f0, f1, f2]; refine hq _ _ _ _ ?_; clear hq q
      exact hk _ _ (h.tmp (i := 35) (t := 2) (by simp [mT]) (by simp [mX]) (by omega))
  · have hno : ∀ j, (Array.replicate 36 false)[j]? ≠ some true := fun j => by
      rw [Array.getElem?_replicate]
      split <;> simp
    exact ⟨by simp, by simp, fun p hp hl => absurd hl (hno _), fun k hk => by rw [upd_other _ _ (by omega)]; exact hpL_low (by simp) hk, by simp, by simp [cfB, hsl], fun q hq hl => absurd hl (hno _), fun hl => absurd hl (hno _), fun q hq hl => absurd hl (hno _)⟩
theorem musts0_rr {nk : Nat} {g bx tp nr md : Int} {v : Value} {ns : List (Nat × Blk)} (h : RR (mQ nk) (MustsR 1000 (.slice none 0 0) 0 g bx tp nr md) v ns) : MustsR nk (.slice none 0 0) 0 g bx tp nr md v ns := by
  obtain ⟨v0, ns0, ⟨l, rfl, rfl, hl, hf⟩, rfl, rfl⟩ := h
  have e := mQ_at nk
  have e0 := e 0 (by omega)
  have e1 := e 1 (by omega)
  have e2 := e 2 (by omega)
  have e3 := e 3 (by omega)
  have e4 := e 4 (by omega)
  have e5 := e 5 (by omega)
  have e6 := e 6 (by omega)
  have e7 := e 7 (by omega)
  have e8 := e 8 (by omega)
  have e9 := e 9 (by omega)
  have e10 := e 10 (by omega)
  have e11 := e 11 (by omega)
  simp only [Nat.reduceAdd, Nat.add_zero] at e0 e1 e2 e3 e4 e5 e6 e7 e8 e9 e10 e11
  have h100 := mQ_low nk 100 (by omega)
  have hmv : ∀ q ∈ mV 1000, (q.1, renF (mQ nk) q.2) ∈ mV nk := by
    simp [mV, renF, ren0, e1, e2, e3, e4, e5, e6, e7, e8, e9, e10, e11]
  have hvm : ∀ q ∈ mV nk, ∃ p ∈ mV 1000, p.1 = q.1 ∧ renF (mQ nk) p.2 = q.2 := by
    simp [mV, renF, ren0, e1, e2, e3, e4, e5, e6, e7, e8, e9, e10, e11]
  refine ⟨l.map fun p => (p.1, renF (mQ nk) p.2), by simp [ren, renA, renF, ren0, e0], ?_, fun p hp => ?_, fun q hq => ?_⟩
  · have hc : (cfB (.slice none 0 0) g bx tp nr md).rn (mQ nk) = cfB (.slice none 0 0) g bx tp nr md := by simp [cfB, Blk.rn, renF, ren0, h100]
    simp only [rnL, mNs, List.map_cons, List.map_nil, mpB_rn, jb_rn, hc, Nat.reduceAdd, e0, e1, e2, e3, e4, e5, e6, e7, e8, e9, e10, e11]
  · obtain ⟨p0, hp0, rfl⟩ := List.mem_map.1 hp
    exact hmv _ (hl _ hp0)
  · obtain ⟨p, hp, h1, h2⟩ := hvm q hq
    rw [findL_map, ← h1, hf p hp, ← h2]
    rfl
theorem musts0_at (nk : Nat) (hnk : 200 ≤ nk) (b : Blk) (hb : b.fx) (g bx tp nr md : Int) :
    FunS Tryd.prog G0 61 #[cfV (.slice none 0 0) g bx tp nr md] (hpL G0 [(100, b)]) [100] (RR (mQ nk) (MustsR 1000 (.slice none 0 0) 0 g bx tp nr md)) := by
  have hr := fun ρ => Blk.fx_rn hb ρ
  have h100 := mQ_low nk 100 (by omega)
  refine (musts0_fun b hb g bx tp nr md).mvL G0F (oneL_ok hb) (mQ nk) (fun k hk => mQ_low nk k (by omega)) (by simp [cfV, ren, renA, renF, ren0, h100]) (by simp [keys, h100]) rfl (oneL_ok hb).low (by simp [h100, hr]) (by simp [keys]) (fun v ns hV k hk => ?_) (fun v ns hV k hk l hl e => ?_)
  · have h1 := mustsR_key hV k hk
    obtain ⟨j, hj, rfl⟩ : ∃ j, j < 12 ∧ k = 1000 + j := ⟨k - 1000, by omega, by omega⟩
    rw [mQ_at nk j hj]
    simp
    omega
  · have h1 := mustsR_key hV k hk
    have h2 := mustsR_key hV l hl
    obtain ⟨j, hj, rfl⟩ : ∃ j, j < 12 ∧ k = 1000 + j := ⟨k - 1000, by omega, by omega⟩
    obtain ⟨i, hi, rfl⟩ : ∃ j, j < 12 ∧ l = 1000 + j := ⟨l - 1000, by omega, by omega⟩
    rw [mQ_at nk j hj, mQ_at nk i hi] at e
    omega
set_option maxRecDepth 8000 in
set_option maxHeartbeats 16000000 in
theorem why0_fun (b : Blk) (hb : b.fx) (g bx tp nr md : Int) :
    Fun Tryd.prog G0 47 #[cfV (.slice none 0 0) g bx tp nr md] (hpL G0 [(100, b)]) (keys [(100, b)]) (.ret (.string (⟨#[98, 111, 100, 105, 101, 115]⟩)) []) := by
  refine fun_ofL (B := 200) G0F Tryd.func47 rfl Tryd.call47 (oneL_ok hb) ?_ (by simp) (by simp) (by simp) (by simp [Tryd.ntmps47]) (by omega) ?_
  · simp [idsV, idsA, idsF, ids0, keys, cfV]
  intro C hC hC0 hY
  have hr := fun ρ => Blk.fx_rn hb ρ
  unfold cfV
  repeat' (first | refine gwS ?_ | simp only [wN, wM, Nat.reduceAdd, Nat.reduceMul] | ((first | refine gwR [] ?_ | refine gwD [] ?_); intro Q hQ hP; simp [hC, hY]; (first | refine hQ _ _ _ _ (by kernel_rfl) ?_ | refine hP _ _ (by kernel_rfl) fun _ => ?_); clear hQ hP Q) | refine gwB ?_ | refine gwT ?_ | refine gwK ?_ | refine gwE ?_ | refine gwG ?_ | refine gwL ?_ | simp only [blockG_exit] | (refine gwC ?_ ?_ <;> (intro hb; first | (cases hb; done) | skip)))
  refine GW_list ?_
  simp only [Array.toList]
  refine GL_walk 1 [] rfl (by simp) (by kernel_rfl) ?_; intro q hq; simp [hC, hY]; refine hq _ _ _ _ ?_; clear hq q
  simp only [wT, List.length_cons, List.length_nil, Nat.reduceAdd]
  refine GL_callW 8 (f := .func 61) (cap := #[]) hC (musts0_at 224 (by omega) b hb g bx tp nr md) rfl (by simp) rfl rfl (by simp [okT]) (by simp [gev]) (by simp) (by simp [okX, junk]) (by simp [gev, cfV]) (by simp) (by (intro k hk; first | rfl | (simp (disch := omega) only [addB, List.mem_cons, List.not_mem_nil, or_false, upd_other, hpL_cons, hpL_nil, if_neg, updL] <;> done))) (fun v ns hV k hk => by have := mustsR_key (musts0_rr hV) k hk; omega) ?_
  intro v ns hV
  obtain ⟨l, rfl, rfl, _, hf⟩ := musts0_rr hV
  refine GL_walk 1 [] rfl (by simp) (by kernel_rfl) ?_; intro q hq; simp [hC, hY, putT, updL, mNs]; refine hq _ _ _ _ ?_; clear hq q
  simp only [wT, List.length_cons, List.length_nil, Nat.reduceAdd]
  refine GL_nil ?_
  have f0 : findL ⟨#[98, 111, 100, 105, 101, 115]⟩ l = some (.func (.func 76) #[] #[.pointer (some ⟨226, 0, none⟩), .pointer (some ⟨227, 0, none⟩)]) := hf (⟨#[98, 111, 100, 105, 101, 115]⟩, _) (by simp [mV])
  have c0 : wiB 0 1 4 = false := by decide +kernel
  repeat' (first | refine gwS ?_ | refine GWL_start ?_ | refine GWL_step ?_ | simp only [wN, wM, Nat.reduceAdd, Nat.reduceMul] | ((first | refine gwR [76, 78, 81] ?_ | refine gwD [76, 78, 81] ?_); intro Q hQ hP; simp [hC, hY, f0, c0, cnB]; (repeat ((first | (refine heapK_mv (cn1_fun 0 4) G0F (B := 200) ⟨by simp, by simp [keys], by simp [jb, ids_lit, idsF, ids0]⟩ (fun k => if k = 100 then 226 else if k = 108 then 227 else k) (fun k hk => (if_neg (by omega)).trans (if_neg (by omega))) ?_ (by simp) (by simp [jb_rn]) (by simp [keys]) (by simp [keys]; rfl) ?_; focus (simp [ren, renA, renF, ren0]; done))); try simp [hC, hY, f0, c0, cnB])); (first | refine hQ _ _ _ _ (by kernel_rfl) ?_ | refine hP _ _ (by kernel_rfl) fun _ => ?_); clear hQ hP Q) | refine gwB ?_ | refine gwT ?_ | refine gwK ?_ | refine gwE ?_ | refine gwG ?_ | refine gwL ?_ | simp only [blockG_exit] | (refine gwC ?_ ?_ <;> (intro hb; first | (cases hb; done) | skip)))
  refine ⟨.inr rfl, by simp [Tryd.results47], keep_of G0F (by simp) (by (intro k hk; first | rfl | (simp (disch := omega) only [addB, List.mem_cons, List.not_mem_nil, or_false, upd_other, hpL_cons, hpL_nil, if_neg, updL] <;> done)))⟩
def isStr : Value → Bool
  | .string _ => true
  | _ => false
def strV : Value → ByteArray
  | .string s => s
  | _ => ⟨#[]⟩
def sneB (a b : ByteArray) : Bool := !(a.toList == b.toList)
@[simp] theorem isStr_s (s : ByteArray) : isStr (.string s) = true := rfl
@[simp] theorem strV_s (s : ByteArray) : strV (.string s) = s := rfl
theorem isStr_of {v : Value} (h : isStr v = true) : v = .string (strV v) := by
  unfold isStr at h
  split at h
  · rfl
  · cases h
@[simp] theorem bin2_str (P : Program) (op : BinOp) (T : TypeId) (a b : ByteArray) : bin2 P op T (.string a) (.string b) = none := by cases op <;> rfl
@[simp] theorem binX_strne {dst : Option Tmp} {x y : Operand} {T : TypeId} {ps : String} {af : Array Edge} {g : Option (Nat × Bool)} {ts : Nat → Value} {hp : Hp} {C : Eff → Prop} (h : isStr (gev ts x) = true) (h2 : isStr (gev ts y) = true) (hx : okX ts hp x) (hy : okX ts hp y) :
    binX Tryd.prog none ⟨dst, .binOp .neq 9 x y 9, T, ps, af, g⟩ ts hp C ↔ C (val (.bool (sneB (strV (gev ts x)) (strV (gev ts y)))) []) := by
  have e1 := isStr_of h
  have e2 := isStr_of h2
  refine pureV_iff (K := fun v => C (val v [])) ?_ rfl fun W => ?_
  · intro z hz
    simp [Op.operands] at hz
    rcases hz with rfl | rfl
    · exact ⟨hx, by rw [e1]; rfl⟩
    · exact ⟨hy, by rw [e2]; rfl⟩
  · generalize strV (gev ts x) = a at e1 ⊢
    generalize strV (gev ts y) = b at e2 ⊢
    have hg : (eqGuard .neq 9 x y (.string a) (.string b)).run Tryd.prog W = .ok () W := by unfold eqGuard; split <;> rfl
    simp only [execOp, e1, e2, Sem.run_bind, hg, Result.andThen_ok, binOp, Op.stringOp, Sem.run_pure, strV_s]
    simp [sneB]
theorem whyS_ne2 (n : Nat) (f : Nat → Int) (g bx tp nr md : Int) : sneB (whyS n f g bx tp nr md) ⟨#[]⟩ = !(cfOk n f g bx tp nr md) := by
  unfold whyS cfOk sneB
  rcases Bool.eq_false_or_eq_true (wiB n 1 4) with c | c <;> simp only [c, Bool.false_and, Bool.true_and, if_true, Bool.true_eq_false, if_false, Bool.not_false] <;> try decide +kernel
  rcases Bool.eq_false_or_eq_true (allM f n) with c | c <;> simp only [c, Bool.false_and, Bool.true_and, if_true, Bool.true_eq_false, if_false, Bool.not_false] <;> try decide +kernel
  rcases Bool.eq_false_or_eq_true (wiB g 1 1048576) with c | c <;> simp only [c, Bool.false_and, Bool.true_and, if_true, Bool.true_eq_false, if_false, Bool.not_false] <;> try decide +kernel
  rcases Bool.eq_false_or_eq_true (wiB bx 1 1048576) with c | c <;> simp only [c, Bool.false_and, Bool.true_and, if_true, Bool.true_eq_false, if_false, Bool.not_false] <;> try decide +kernel
  rcases Bool.eq_false_or_eq_true (wiB tp 1 65536) with c | c <;> simp only [c, Bool.false_and, Bool.true_and, if_true, Bool.true_eq_false, if_false, Bool.not_false] <;> try decide +kernel
  rcases Bool.eq_false_or_eq_true (wiB nr 1 (Int.bmod (2 * bx) 18446744073709551616)) with c | c <;> simp only [c, Bool.false_and, Bool.true_and, if_true, Bool.true_eq_false, if_false, Bool.not_false] <;> try decide +kernel
  rcases Bool.eq_false_or_eq_true (wiB md 0 4) with c | c <;> simp only [c, Bool.false_and, Bool.true_and, if_true, Bool.true_eq_false, if_false, Bool.not_false] <;> try decide +kernel
theorem check_fun (b : Blk) (off n cap : Nat) (f : Nat → Int) (h : MB b off n f) (g bx tp nr md : Int) :
    Fun Tryd.prog G0 29 #[cfV (.slice (some ⟨100, off, none⟩) n cap) g bx tp nr md] (hpL G0 [(100, b)]) (keys [(100, b)]) (.ret (.int .i64 (if cfOk n f g bx tp nr md = true then 0 else 110)) []) := by
  refine fun_ofL (B := 200) G0F Tryd.func29 rfl Tryd.call29 (oneL_ok h.fx) ?_ (by simp) (by simp) (by simp) (by simp [Tryd.ntmps29]) (by omega) ?_
  · simp [idsV, idsA, idsF, ids0, keys, cfV]
  intro C hC hC0 hY
  have hr := fun ρ => Blk.fx_rn h.fx ρ
  have hne := whyS_ne2 n f g bx tp nr md
  cases hc : cfOk n f g bx tp nr md with
  | true =>
    rw [hc] at hne
    unfold cfV
    repeat' (first | refine gwS ?_ | simp only [wN, wM, Nat.reduceAdd, Nat.reduceMul] | ((first | refine gwR [47] ?_ | refine gwD [47] ?_); intro Q hQ hP; simp [hC, hY, hne]; (repeat ((first | (refine heapK_mv (why_fun b off n cap f h g bx tp nr md) G0F (B := 200) (oneL_ok h.fx) (fun k => k) (fun k hk => rfl) (by simp [ren, renA, renF, ren0, cfV]) (by simp) (by simp [hr]) (by simp [keys]) (by simp [keys]; rfl) ?_)); try simp [hC, hY, hne])); (first | refine hQ _ _ _ _ (by kernel_rfl) ?_ | refine hP _ _ (by kernel_rfl) fun _ => ?_); clear hQ hP Q) | refine gwB ?_ | refine gwT ?_ | refine gwK ?_ | refine gwE ?_ | refine gwG ?_ | refine gwL ?_ | simp only [blockG_exit] | (refine gwC ?_ ?_ <;> (intro hb; first | (cases hb; done) | skip)))
    refine ⟨.inr rfl, by simp [Tryd.results29], keep_of G0F (by simp) (by (intro k hk; first | rfl | (simp (disch := omega) only [addB, List.mem_cons, List.not_mem_nil, or_false, upd_other, hpL_cons, hpL_nil, if_neg, updL] <;> done)))⟩
  | false =>
    rw [hc] at hne
    unfold cfV
    repeat' (first | refine gwS ?_ | simp only [wN, wM, Nat.reduceAdd, Nat.reduceMul] | ((first | refine gwR [47] ?_ | refine gwD [47] ?_); intro Q hQ hP; simp [hC, hY, hne]; (repeat ((first | (refine heapK_mv (why_fun b off n cap f h g bx tp nr md) G0F (B := 200) (oneL_ok h.fx) (fun k => k) (fun k hk => rfl) (by simp [ren, renA, renF, ren0, cfV]) (by simp) (by simp [hr]) (by simp [keys]) (by simp [keys]; rfl) ?_)); try simp [hC, hY, hne])); (first | refine hQ _ _ _ _ (by kernel_rfl) ?_ | refine hP _ _ (by kernel_rfl) fun _ => ?_); clear hQ hP Q) | refine gwB ?_ | refine gwT ?_ | refine gwK ?_ | refine gwE ?_ | refine gwG ?_ | refine gwL ?_ | simp only [blockG_exit] | (refine gwC ?_ ?_ <;> (intro hb; first | (cases hb; done) | skip)))
    refine ⟨.inr rfl, by simp [Tryd.results29], keep_of G0F (by simp) (by (intro k hk; first | rfl | (simp (disch := omega) only [addB, List.mem_cons, List.not_mem_nil, or_false, upd_other, hpL_cons, hpL_nil, if_neg, updL] <;> done)))⟩
theorem check0_fun (b : Blk) (hb : b.fx) (g bx tp nr md : Int) :
    Fun Tryd.prog G0 29 #[cfV (.slice none 0 0) g bx tp nr md] (hpL G0 [(100, b)]) (keys [(100, b)]) (.ret (.int .i64 110) []) := by
  refine fun_ofL (B := 200) G0F Tryd.func29 rfl Tryd.call29 (oneL_ok hb) ?_ (by simp) (by simp) (by simp) (by simp [Tryd.ntmps29]) (by omega) ?_
  · simp [idsV, idsA, idsF, ids0, keys, cfV]
  intro C hC hC0 hY
  have hr := fun ρ => Blk.fx_rn hb ρ
  have hne : sneB ⟨#[98, 111, 100, 105, 101, 115]⟩ ⟨#[]⟩ = true := by decide +kernel
  unfold cfV
  repeat' (first | refine gwS ?_ | simp only [wN, wM, Nat.reduceAdd, Nat.reduceMul] | ((first | refine gwR [47] ?_ | refine gwD [47] ?_); intro Q hQ hP; simp [hC, hY, hne]; (repeat ((first | (refine heapK_mv (why0_fun b hb g bx tp nr md) G0F (B := 200) (oneL_ok hb) (fun k => k) (fun k hk => rfl) (by simp [ren, renA, renF, ren0, cfV]) (by simp) (by simp [hr]) (by simp [keys]) (by simp [keys]; rfl) ?_)); try simp [hC, hY, hne])); (first | refine hQ _ _ _ _ (by kernel_rfl) ?_ | refine hP _ _ (by kernel_rfl) fun _ => ?_); clear hQ hP Q) | refine gwB ?_ | refine gwT ?_ | refine gwK ?_ | refine gwE ?_ | refine gwG ?_ | refine gwL ?_ | simp only [blockG_exit] | (refine gwC ?_ ?_ <;> (intro hb; first | (cases hb; done) | skip)))
  refine ⟨.inr rfl, by simp [Tryd.results29], keep_of G0F (by simp) (by (intro k hk; first | rfl | (simp (disch := omega) only [addB, List.mem_cons, List.not_mem_nil, or_false, upd_other, hpL_cons, hpL_nil, if_neg, updL] <;> done)))⟩
def bB (x : Bool) : Blk := ⟨#[.bool x], .ty 4⟩
theorem bB_rn {x : Bool} {ρ : Nat → Nat} : (bB x).rn ρ = bB x := by simp [bB, Blk.rn, renF, ren0]
theorem cfB_rn {k off n cap : Nat} {g bx tp nr md : Int} {ρ : Nat → Nat} : (cfB (.slice (some ⟨k, off, none⟩) n cap) g bx tp nr md).rn ρ = cfB (.slice (some ⟨ρ k, off, none⟩) n cap) g bx tp nr md := by simp [cfB, Blk.rn, renF, ren0]
def nearB (ok : Bool) (nr sq : Int) : Bool := ok && decide (sq < Int.bmod (nr * nr) 18446744073709551616)
def clL (bm : Blk) (off n cap : Nat) (g bx tp nr md : Int) (ok : Bool) : List (Nat × Blk) := [(100, bm), (108, cfB (.slice (some ⟨100, off, none⟩) n cap) g bx tp nr md), (116, bB ok)]
theorem clL_ok {bm : Blk} (hB : bm.fx) (off n cap : Nat) (g bx tp nr md : Int) (ok : Bool) : LOk (clL bm off n cap g bx tp nr md ok) 200 := ⟨by simp [clL], by simp [clL, keys], by
  simp only [clL, List.mem_cons, List.not_mem_nil, or_false, forall_eq_or_imp, forall_eq]
  exact ⟨Blk.fx_ids hB _, by simp [cfB, ids_lit, idsF, ids0, keys], by simp [bB, ids_lit, idsF, ids0]⟩⟩
theorem cl1_fun (bm : Blk) (off n cap : Nat) (hB : bm.fx) (g bx tp nr md : Int) (ok : Bool) (i j sq : Int) :
    Fun Tryd.prog G0 43 #[.agg #[.int .i64 i, .int .i64 j, .int .i64 sq], .pointer (some ⟨116, 0, none⟩), .pointer (some ⟨108, 0, none⟩)] (hpL G0 (clL bm off n cap g bx tp nr md ok)) (keys (clL bm off n cap g bx tp nr md ok)) (.ret (.bool (nearB ok nr sq)) []) := by
  refine fun_ofL (B := 200) G0F Tryd.func43 rfl Tryd.call43 (clL_ok hB off n cap g bx tp nr md ok) ?_ (by simp) (by simp) (by simp) (by simp [Tryd.ntmps43]) (by omega) ?_
  · simp [idsV, idsA, idsF, ids0, keys, clL]
  intro C hC hC0 hY
  unfold clL cfB bB nearB
  cases ok with
  | false =>
    repeat' (first | refine gwS ?_ | simp only [wN, wM, Nat.reduceAdd, Nat.reduceMul] | ((first | refine gwR [] ?_ | refine gwD [] ?_); intro Q hQ hP; simp [hC, hY]; (first | refine hQ _ _ _ _ (by kernel_rfl) ?_ | refine hP _ _ (by kernel_rfl) fun _ => ?_); clear hQ hP Q) | refine gwB ?_ | refine gwT ?_ | refine gwK ?_ | refine gwE ?_ | refine gwG ?_ | refine gwL ?_ | simp only [blockG_exit] | (refine gwC ?_ ?_ <;> (intro hb; first | (cases hb; done) | skip)))
    refine ⟨.inr rfl, by simp [Tryd.results43], keep_of G0F (by simp) (by (intro k hk; first | rfl | (simp (disch := omega) only [addB, List.mem_cons, List.not_mem_nil, or_false, upd_other, hpL_cons, hpL_nil, if_neg, updL] <;> done)))⟩
  | true =>
    by_cases c : sq < Int.bmod (nr * nr) 18446744073709551616
    · have e : decide (sq < Int.bmod (nr * nr) 18446744073709551616) = true := decide_eq_true c
      rw [e]
      repeat' (first | refine gwS ?_ | simp only [wN, wM, Nat.reduceAdd, Nat.reduceMul] | ((first | refine gwR [] ?_ | refine gwD [] ?_); intro Q hQ hP; simp [hC, hY, c, e]; (first | refine hQ _ _ _ _ (by kernel_rfl) ?_ | refine hP _ _ (by kernel_rfl) fun _ => ?_); clear hQ hP Q) | refine gwB ?_ | refine gwT ?_ | refine gwK ?_ | refine gwE ?_ | refine gwG ?_ | refine gwL ?_ | simp only [blockG_exit] | (refine gwC ?_ ?_ <;> (intro hb; first | (cases hb; done) | skip)))
      refine ⟨.inr rfl, by simp [Tryd.results43], keep_of G0F (by simp) (by (intro k hk; first | rfl | (simp (disch := omega) only [addB, List.mem_cons, List.not_mem_nil, or_false, upd_other, hpL_cons, hpL_nil, if_neg, updL] <;> done)))⟩
    · have e : decide (sq < Int.bmod (nr * nr) 18446744073709551616) = false := decide_eq_false c
      rw [e]
      repeat' (first | refine gwS ?_ | simp only [wN, wM, Nat.reduceAdd, Nat.reduceMul] | ((first | refine gwR [] ?_ | refine gwD [] ?_); intro Q hQ hP; simp [hC, hY, c, e]; (first | refine hQ _ _ _ _ (by kernel_rfl) ?_ | refine hP _ _ (by kernel_rfl) fun _ => ?_); clear hQ hP Q) | refine gwB ?_ | refine gwT ?_ | refine gwK ?_ | refine gwE ?_ | refine gwG ?_ | refine gwL ?_ | simp only [blockG_exit] | (refine gwC ?_ ?_ <;> (intro hb; first | (cases hb; done) | skip)))
      refine ⟨.inr rfl, by simp [Tryd.results43], keep_of G0F (by simp) (by (intro k hk; first | rfl | (simp (disch := omega) only [addB, List.mem_cons, List.not_mem_nil, or_false, upd_other, hpL_cons, hpL_nil, if_neg, updL] <;> done)))⟩
def CloseR (nk off n cap : Nat) (g bx tp nr md : Int) (ok : Bool) (v : Value) (ns : List (Nat × Blk)) : Prop := v = .func (.func 43) #[] #[.pointer (some ⟨nk + 1, 0, none⟩), .pointer (some ⟨nk, 0, none⟩)] ∧ ns = [(nk, cfB (.slice (some ⟨100, off, none⟩) n cap) g bx tp nr md), (nk + 1, bB ok)]
theorem close_fun (b : Blk) (off n cap : Nat) (f : Nat → Int) (h : MB b off n f) (g bx tp nr md : Int) :
    FunS Tryd.prog G0 27 #[cfV (.slice (some ⟨100, off, none⟩) n cap) g bx tp nr md] (hpL G0 [(100, b)]) (keys [(100, b)]) (CloseR 1000 off n cap g bx tp nr md (cfOk n f g bx tp nr md)) := by
  refine newS_ofL (B := 200) G0F Tryd.func27 rfl Tryd.call27 (oneL_ok h.fx) ?_ ?_ (by simp [Tryd.ntmps27]) (by omega) ?_
  · simp [idsV, idsA, idsF, ids0, keys, cfV]
  · rintro v ns ⟨rfl, rfl⟩
    refine ⟨by simp [idsV, idsA, idsF, ids0, extD, keys], by simp [cfB, bB, ids_lit, idsF, ids0, extD, keys], ?_⟩
    intro k b c h1 h2
    simp at h1 h2
    rcases h1 with ⟨e1, rfl⟩ | ⟨e1, rfl⟩ <;> rcases h2 with ⟨e2, rfl⟩ | ⟨e2, rfl⟩ <;> first | rfl | omega
  intro C hC hC0 hY
  have hr := fun ρ => Blk.fx_rn h.fx ρ
  have hck := check_fun b off n cap f h g bx tp nr md
  cases hc : cfOk n f g bx tp nr md with
  | true =>
    rw [hc] at hck
    simp only [if_true] at hck
    unfold cfV
    repeat' (first | refine gwS ?_ | simp only [wN, wM, Nat.reduceAdd, Nat.reduceMul] | ((first | refine gwR [29] ?_ | refine gwD [29] ?_); intro Q hQ hP; simp [hC, hY]; (repeat ((first | (refine heapK_mv hck G0F (B := 200) (oneL_ok h.fx) (fun k => k) (fun k hk => rfl) (by simp [ren, renA, renF, ren0, cfV]) (by simp) (by simp [hr]) (by simp [keys]) (by simp [keys]; rfl) ?_)); try simp [hC, hY])); (first | refine hQ _ _ _ _ (by kernel_rfl) ?_ | refine hP _ _ (by kernel_rfl) fun _ => ?_); clear hQ hP Q) | refine gwB ?_ | refine gwT ?_ | refine gwK ?_ | refine gwE ?_ | refine gwG ?_ | refine gwL ?_ | simp only [blockG_exit] | (refine gwC ?_ ?_ <;> (intro hb; first | (cases hb; done) | skip)))
    refine ⟨.inr trivial, keep_of G0F (by simp) (by (intro k hk; first | rfl | (simp (disch := omega) only [addB, List.mem_cons, List.not_mem_nil, or_false, upd_other, hpL_cons, hpL_nil, if_neg, updL] <;> done))), _, _, fun k => if k = 1000 then 200 else if k = 1001 then 240 else k, ⟨rfl, rfl⟩, fun k hk => ?_, by simp, by simp, by simp [Tryd.results27, ren, renA, renF, ren0], ?_⟩
    · dsimp only
      rw [if_neg (by omega), if_neg (by omega)]
    · simp [cfB_rn, bB_rn]
      simp [cfB, bB]
  | false =>
    rw [hc] at hck
    simp only [Bool.false_eq_true, if_false] at hck
    unfold cfV
    repeat' (first | refine gwS ?_ | simp only [wN, wM, Nat.reduceAdd, Nat.reduceMul] | ((first | refine gwR [29] ?_ | refine gwD [29] ?_); intro Q hQ hP; simp [hC, hY]; (repeat ((first | (refine heapK_mv hck G0F (B := 200) (oneL_ok h.fx) (fun k => k) (fun k hk => rfl) (by simp [ren, renA, renF, ren0, cfV]) (by simp) (by simp [hr]) (by simp [keys]) (by simp [keys]; rfl) ?_)); try simp [hC, hY])); (first | refine hQ _ _ _ _ (by kernel_rfl) ?_ | refine hP _ _ (by kernel_rfl) fun _ => ?_); clear hQ hP Q) | refine gwB ?_ | refine gwT ?_ | refine gwK ?_ | refine gwE ?_ | refine gwG ?_ | refine gwL ?_ | simp only [blockG_exit] | (refine gwC ?_ ?_ <;> (intro hb; first | (cases hb; done) | skip)))
    refine ⟨.inr trivial, keep_of G0F (by simp) (by (intro k hk; first | rfl | (simp (disch := omega) only [addB, List.mem_cons, List.not_mem_nil, or_false, upd_other, hpL_cons, hpL_nil, if_neg, updL] <;> done))), _, _, fun k => if k = 1000 then 200 else if k = 1001 then 240 else k, ⟨rfl, rfl⟩, fun k hk => ?_, by simp, by simp, by simp [Tryd.results27, ren, renA, renF, ren0], ?_⟩
    · dsimp only
      rw [if_neg (by omega), if_neg (by omega)]
    · simp [cfB_rn, bB_rn]
      simp [cfB, bB]
theorem closeR_rr {nk nk' off n cap : Nat} {g bx tp nr md : Int} {ok : Bool} {ρ : Nat → Nat} (h100 : ρ 100 = 100) (h0 : ρ nk = nk') (h1 : ρ (nk + 1) = nk' + 1) : RR ρ (CloseR nk off n cap g bx tp nr md ok) = CloseR nk' off n cap g bx tp nr md ok := by
  funext v ns
  apply propext
  constructor
  · rintro ⟨v0, ns0, ⟨rfl, rfl⟩, rfl, rfl⟩
    exact ⟨by simp [ren, renA, renF, ren0, h0, h1], by simp [rnL, cfB_rn, bB_rn, h100, h0, h1]⟩
  · rintro ⟨rfl, rfl⟩
    exact ⟨_, _, ⟨rfl, rfl⟩, by simp [ren, renA, renF, ren0, h0, h1], by simp [rnL, cfB_rn, bB_rn, h100, h0, h1]⟩
theorem closeR_key {nk off n cap : Nat} {g bx tp nr md : Int} {ok : Bool} {v : Value} {ns : List (Nat × Blk)} (h : CloseR nk off n cap g bx tp nr md ok v ns) : ∀ k ∈ keys ns, nk ≤ k ∧ k < nk + 2 := by
  obtain ⟨rfl, rfl⟩ := h
  intro k hk
  simp [keys] at hk
  omega
theorem close_at (nk : Nat) (hnk : 200 ≤ nk) (b : Blk) (off n cap : Nat) (f : Nat → Int) (h : MB b off n f) (g bx tp nr md : Int) :
    FunS Tryd.prog G0 27 #[cfV (.slice (some ⟨100, off, none⟩) n cap) g bx tp nr md] (hpL G0 [(100, b)]) [100] (CloseR nk off n cap g bx tp nr md (cfOk n f g bx tp nr md)) := by
  have hr := fun ρ => Blk.fx_rn h.fx ρ
  have e2 : ∀ j, j < 2 → up2 nk (1000 + j) = nk + j := fun j hj => by unfold up2; rw [if_pos (by omega), if_pos (by omega)]; omega
  have e100 : up2 nk 100 = 100 := by simp [up2]
  have hk2 : ∀ v ns, CloseR 1000 off n cap g bx tp nr md (cfOk n f g bx tp nr md) v ns → ∀ k ∈ keys ns, ∃ j, j < 2 ∧ k = 1000 + j := by
    intro v ns hV k hk
    have := closeR_key hV k hk
    exact ⟨k - 1000, by omega, by omega⟩
  refine (close_fun b off n cap f h g bx tp nr md).mvL G0F (oneL_ok h.fx) (up2 nk) (fun k hk => by unfold up2; rw [if_neg (by omega)]) (by simp [cfV, ren, renA, renF, ren0, e100]) (by simp [keys, e100]) (closeR_rr e100 (e2 0 (by omega)) (e2 1 (by omega))) (oneL_ok h.fx).low (by simp [e100, hr]) (by simp [keys]) (fun v ns hV k hk => ?_) (fun v ns hV k hk l hl e => ?_)
  · obtain ⟨j, hj, rfl⟩ := hk2 v ns hV k hk
    rw [e2 j hj]
    simp
    omega
  · obtain ⟨j, hj, rfl⟩ := hk2 v ns hV k hk
    obtain ⟨i, hi, rfl⟩ := hk2 v ns hV l hl
    rw [e2 j hj, e2 i hi] at e
    omega
theorem pr_at {c m : Nat} {a : Nat → Int} {T : BTy} {i : Nat} (hi : i < m) (hc : m ≤ c) (hT : T.rd = true) : loadK Tryd.prog 36 ⟨fa (3 * c) .i64 a, T⟩ (i * 3) = some (.agg #[.int .i64 (a (3 * i)), .int .i64 (a (3 * i + 1)), .int .i64 (a (3 * i + 2))]) := by
  have := loadK_rd (P := Tryd.prog) (T := 36) (m := 3) (j := 3 * i) (tyAgg_of Tryd.isAgg36) (tySize_of Tryd.sizeOf36) (by omega) (rdI_fa (3 * c) a T) (by omega)
  rw [show i * 3 = 0 + 3 * i by omega, this, fa_3]
  rfl
def anyN (ok : Bool) (nr : Int) (l : List Pr) : Bool := l.any fun p => nearB ok nr p.2.2
theorem anyN_all {ok : Bool} {nr : Int} {l : List Pr} (h : ∀ i, i < l.length → nearB ok nr (pF l (3 * i + 2)) = false) : anyN ok nr l = false := by
  unfold anyN
  rw [List.any_eq_false]
  intro p hp
  obtain ⟨i, hi, e⟩ := List.mem_iff_getElem.1 hp
  have := h i hi
  rw [(pF_at (p := p) (by simp [hi, e])).2.2] at this
  simp [this]
theorem anyN_one {ok : Bool} {nr : Int} {l : List Pr} {N : Nat} (hN : N < l.length) (h : nearB ok nr (pF l (3 * N + 2)) = true) : anyN ok nr l = true := by
  unfold anyN
  rw [List.any_eq_true]
  exact ⟨l[N], List.getElem_mem hN, by rwa [(pF_at (p := l[N]) (by simp [hN])).2.2] at h⟩
def ipL (bm : Blk) (off n cap : Nat) (g bx tp nr md : Int) (ok : Bool) (c : Nat) (a : Nat → Int) : List (Nat × Blk) := [(100, bm), (108, cfB (.slice (some ⟨100, off, none⟩) n cap) g bx tp nr md), (116, bB ok), (124, ⟨fa (3 * c) .i64 a, .ty 36⟩)]
theorem ipL_ok {bm : Blk} (hB : bm.fx) (off n cap : Nat) (g bx tp nr md : Int) (ok : Bool) (c : Nat) (a : Nat → Int) : LOk (ipL bm off n cap g bx tp nr md ok c a) 200 := ⟨by simp [ipL], by simp [ipL, keys], by
  simp only [ipL, List.mem_cons, List.not_mem_nil, or_false, forall_eq_or_imp, forall_eq]
  exact ⟨Blk.fx_ids hB _, by simp [cfB, ids_lit, idsF, ids0, keys], by simp [bB, ids_lit, idsF, ids0], Blk.fx_ids (fa_fx _ _ _) _⟩⟩
def ipSt (bm : Blk) (off n cap : Nat) (g bx tp nr md : Int) (ok : Bool) (m c : Nat) (a : Nat → Int) (i : Nat) : GS :=
  ⟨tsL [(0, .slice (some ⟨124, 0, none⟩) m c), (1, .func (.func 43) #[] #[.pointer (some ⟨116, 0, none⟩), .pointer (some ⟨108, 0, none⟩)]), (7, .int .i64 m), (8, .int .i64 i)], hpL G0 (ipL bm off n cap g bx tp nr md ok c a), 300, 0⟩
theorem pix_fun (bm : Blk) (off n cap : Nat) (hB : bm.fx) (g bx tp nr md : Int) (ok : Bool) (l : List Pr) (c : Nat) (a : Nat → Int) (hl6 : l.length ≤ 6) (hlc : l.length ≤ c) (ha : ∀ j, j < 3 * l.length → a j = pF l j) (N : Nat) (hN : N ≤ l.length) (hlt : ∀ i, i < N → nearB ok nr (pF l (3 * i + 2)) = false) (hend : N = l.length ∨ nearB ok nr (pF l (3 * N + 2)) = true) :
    Fun Tryd.prog G0 49 #[.slice (some ⟨124, 0, none⟩) l.length c, .func (.func 43) #[] #[.pointer (some ⟨116, 0, none⟩), .pointer (some ⟨108, 0, none⟩)]] (hpL G0 (ipL bm off n cap g bx tp nr md ok c a)) (keys (ipL bm off n cap g bx tp nr md ok c a)) (.ret (.int .i64 (if N = l.length then -1 else N)) []) := by
  refine fun_ofL (B := 200) G0F Tryd.func49 rfl Tryd.call49 (ipL_ok hB off n cap g bx tp nr md ok c a) ?_ (by simp) (by simp) (by simp) (by simp [Tryd.ntmps49]) (by omega) ?_
  · simp [idsV, idsA, idsF, ids0, keys, ipL]
  intro C hC hC0 hY
  have hid := fun D => Blk.fx_ids hB D
  have hfi := fun D => Blk.fx_ids (fa_fx (3 * c) a 36) D
  have hr := fun ρ => Blk.fx_rn hB ρ
  obtain ⟨m, hm⟩ : ∃ m, l.length = m := ⟨_, rfl⟩
  rw [hm] at hl6 hlc ha hN hend ⊢
  repeat' (first | refine gwS ?_ | simp only [wN, wM, Nat.reduceAdd, Nat.reduceMul] | ((first | refine gwR [] ?_ | refine gwD [] ?_); intro Q hQ hP; simp [hC, hY]; (first | refine hQ _ _ _ _ (by kernel_rfl) ?_ | refine hP _ _ (by kernel_rfl) fun _ => ?_); clear hQ hP Q) | refine gwB ?_ | refine gwT ?_ | refine gwK ?_ | refine gwE ?_ | refine gwG ?_ | refine gwL ?_ | simp only [blockG_exit] | (refine gwC ?_ ?_ <;> (intro hb; first | (cases hb; done) | skip)))
  refine GW_for N (ipSt bm off n cap g bx tp nr md ok m c a) ?_ ?_ ?_
  · refine weakL _ 300 hC G0F (m0 := ipL bm off n cap g bx tp nr md ok c a) hC0 (by omega) ?_ ?_ ?_
    · simp [idsV, idsA, idsF, ids0, dom, ipL]
    · simp [ipL, cfB, bB, ids_lit, idsF, ids0, dom, hid, hfi]
    · simp [ipL]
  · intro i hi
    have hin : i < m := by omega
    have hi' : (i : Int) < m := by omega
    have hz : (0 : Int) ≤ i := by omega
    have hs : Int.bmod ((i : Int) + 1) 18446744073709551616 = ((i + 1 : Nat) : Int) := by rw [Go.Gy.bm (by omega) (by omega)]; rfl
    have hld := pr_at (T := .ty 36) (a := a) hin hlc rfl
    rw [ha (3 * i + 2) (by omega)] at hld
    have hq := hlt i hi
    unfold ipSt ipL
    repeat' (first | refine gwS ?_ | simp only [wN, wM, Nat.reduceAdd, Nat.reduceMul] | ((first | refine gwR [43] ?_ | refine gwD [43] ?_); intro Q hQ hP; simp [hC, hY, hi, hin, hi', hz, hs, hld, hq]; (repeat ((first | (refine heapK_mv (cl1_fun bm off n cap hB g bx tp nr md ok (a (3 * i)) (a (3 * i + 1)) (pF l (3 * i + 2))) G0F (B := 200) (clL_ok hB off n cap g bx tp nr md ok) (fun k => k) (fun k hk => rfl) (by simp [ren, renA, renF, ren0]) (by simp) (by simp [clL, hr, cfB_rn, bB_rn]) (by simp [keys, clL]) (by simp [keys, clL]; rfl) ?_)); try simp [hC, hY, hi, hin, hi', hz, hs, hld, hq])); (first | refine hQ _ _ _ _ (by kernel_rfl) ?_ | refine hP _ _ (by kernel_rfl) fun _ => ?_); clear hQ hP Q) | refine gwB ?_ | refine gwT ?_ | refine gwK ?_ | refine gwE ?_ | refine gwG ?_ | refine gwL ?_ | simp only [blockG_exit] | (refine gwC ?_ ?_ <;> (intro hb; first | (cases hb; done) | skip)))
    refine weakL _ 300 hC G0F (m0 := ipL bm off n cap g bx tp nr md ok c a) hC0 (by omega) ?_ ?_ ?_
    · simp [idsV, idsA, idsF, ids0, dom, hs, ipL]
    · simp [ipL, cfB, bB, ids_lit, idsF, ids0, dom, hid, hfi]
    · simp [ipL]
  · by_cases hNn : N = m
    · subst hNn
      simp only [if_true]
      unfold ipSt
      repeat' (first | refine gwS ?_ | simp only [wN, wM, Nat.reduceAdd, Nat.reduceMul] | ((first | refine gwR [] ?_ | refine gwD [] ?_); intro Q hQ hP; simp [hC, hY]; (first | refine hQ _ _ _ _ (by kernel_rfl) ?_ | refine hP _ _ (by kernel_rfl) fun _ => ?_); clear hQ hP Q) | refine gwB ?_ | refine gwT ?_ | refine gwK ?_ | refine gwE ?_ | refine gwG ?_ | refine gwL ?_ | simp only [blockG_exit] | (refine gwC ?_ ?_ <;> (intro hb; first | (cases hb; done) | skip)))
      refine ⟨.inr rfl, by simp [Tryd.results49], keep_of G0F (by simp [ipL]) (by (intro k hk; first | rfl | (simp (disch := omega) only [addB, List.mem_cons, List.not_mem_nil, or_false, upd_other, hpL_cons, hpL_nil, if_neg, updL] <;> done)))⟩
    · have hin : N < m := by omega
      have hi' : (N : Int) < m := by omega
      have hz : (0 : Int) ≤ N := by omega
      have hld := pr_at (T := .ty 36) (a := a) hin hlc rfl
      rw [ha (3 * N + 2) (by omega)] at hld
      have hq := hend.resolve_left hNn
      rw [if_neg hNn]
      unfold ipSt ipL
      repeat' (first | refine gwS ?_ | simp only [wN, wM, Nat.reduceAdd, Nat.reduceMul] | ((first | refine gwR [43] ?_ | refine gwD [43] ?_); intro Q hQ hP; simp [hC, hY, hin, hi', hz, hld, hq]; (repeat ((first | (refine heapK_mv (cl1_fun bm off n cap hB g bx tp nr md ok (a (3 * N)) (a (3 * N + 1)) (pF l (3 * N + 2))) G0F (B := 200) (clL_ok hB off n cap g bx tp nr md ok) (fun k => k) (fun k hk => rfl) (by simp [ren, renA, renF, ren0]) (by simp) (by simp [clL, hr, cfB_rn, bB_rn]) (by simp [keys, clL]) (by simp [keys, clL]; rfl) ?_)); try simp [hC, hY, hin, hi', hz, hld, hq])); (first | refine hQ _ _ _ _ (by kernel_rfl) ?_ | refine hP _ _ (by kernel_rfl) fun _ => ?_); clear hQ hP Q) | refine gwB ?_ | refine gwT ?_ | refine gwK ?_ | refine gwE ?_ | refine gwG ?_ | refine gwL ?_ | simp only [blockG_exit] | (refine gwC ?_ ?_ <;> (intro hb; first | (cases hb; done) | skip)))
      refine ⟨.inr rfl, by simp [Tryd.results49], keep_of G0F (by simp) (by (intro k hk; first | rfl | (simp (disch := omega) only [addB, List.mem_cons, List.not_mem_nil, or_false, upd_other, hpL_cons, hpL_nil, if_neg, updL] <;> done)))⟩
theorem pcf_fun (bm : Blk) (off n cap : Nat) (hB : bm.fx) (g bx tp nr md : Int) (ok : Bool) (l : List Pr) (c : Nat) (a : Nat → Int) (hl6 : l.length ≤ 6) (hlc : l.length ≤ c) (ha : ∀ j, j < 3 * l.length → a j = pF l j) :
    Fun Tryd.prog G0 31 #[.slice (some ⟨124, 0, none⟩) l.length c, .func (.func 43) #[] #[.pointer (some ⟨116, 0, none⟩), .pointer (some ⟨108, 0, none⟩)]] (hpL G0 (ipL bm off n cap g bx tp nr md ok c a)) (keys (ipL bm off n cap g bx tp nr md ok c a)) (.ret (.bool (anyN ok nr l)) []) := by
  refine fun_ofL (B := 200) G0F Tryd.func31 rfl Tryd.call31 (ipL_ok hB off n cap g bx tp nr md ok c a) ?_ (by simp) (by simp) (by simp) (by simp [Tryd.ntmps31]) (by omega) ?_
  · simp [idsV, idsA, idsF, ids0, keys, ipL]
  intro C hC hC0 hY
  obtain ⟨N, hN, hlt, hend⟩ := leadB (fun i => !(nearB ok nr (pF l (3 * i + 2)))) l.length
  simp only [Bool.not_eq_true', Bool.not_eq_false'] at hlt hend
  have hr := fun ρ => Blk.fx_rn hB ρ
  have hix := pix_fun bm off n cap hB g bx tp nr md ok l c a hl6 hlc ha N hN hlt hend
  unfold ipL
  by_cases hNn : N = l.length
  · rw [anyN_all (fun i hi => hlt i (by omega))]
    rw [if_pos hNn] at hix
    repeat' (first | refine gwS ?_ | simp only [wN, wM, Nat.reduceAdd, Nat.reduceMul] | ((first | refine gwR [49] ?_ | refine gwD [49] ?_); intro Q hQ hP; simp [hC, hY]; (repeat ((first | (refine heapK_mv hix G0F (B := 200) (ipL_ok hB off n cap g bx tp nr md ok c a) (fun k => k) (fun k hk => rfl) (by simp [ren, renA, renF, ren0]) (by simp) (by simp [ipL, Blk.rn_id]) (by simp [keys]) (by simp [keys, ipL]; rfl) ?_)); try simp [hC, hY])); (first | refine hQ _ _ _ _ (by kernel_rfl) ?_ | refine hP _ _ (by kernel_rfl) fun _ => ?_); clear hQ hP Q) | refine gwB ?_ | refine gwT ?_ | refine gwK ?_ | refine gwE ?_ | refine gwG ?_ | refine gwL ?_ | simp only [blockG_exit] | (refine gwC ?_ ?_ <;> (intro hb; first | (cases hb; done) | skip)))
    refine ⟨.inr rfl, by simp [Tryd.results31], keep_of G0F (by simp) (by (intro k hk; first | rfl | (simp (disch := omega) only [addB, List.mem_cons, List.not_mem_nil, or_false, upd_other, hpL_cons, hpL_nil, if_neg, updL] <;> done)))⟩
  · rw [anyN_one (by omega) (hend.resolve_left hNn)]
    rw [if_neg hNn] at hix
    have hz : (0 : Int) ≤ N := by omega
    repeat' (first | refine gwS ?_ | simp only [wN, wM, Nat.reduceAdd, Nat.reduceMul] | ((first | refine gwR [49] ?_ | refine gwD [49] ?_); intro Q hQ hP; simp [hC, hY, hz]; (repeat ((first | (refine heapK_mv hix G0F (B := 200) (ipL_ok hB off n cap g bx tp nr md ok c a) (fun k => k) (fun k hk => rfl) (by simp [ren, renA, renF, ren0]) (by simp) (by simp [ipL, Blk.rn_id]) (by simp [keys]) (by simp [keys, ipL]; rfl) ?_)); try simp [hC, hY, hz])); (first | refine hQ _ _ _ _ (by kernel_rfl) ?_ | refine hP _ _ (by kernel_rfl) fun _ => ?_); clear hQ hP Q) | refine gwB ?_ | refine gwT ?_ | refine gwK ?_ | refine gwE ?_ | refine gwG ?_ | refine gwL ?_ | simp only [blockG_exit] | (refine gwC ?_ ?_ <;> (intro hb; first | (cases hb; done) | skip)))
    refine ⟨.inr rfl, by simp [Tryd.results31], keep_of G0F (by simp) (by (intro k hk; first | rfl | (simp (disch := omega) only [addB, List.mem_cons, List.not_mem_nil, or_false, upd_other, hpL_cons, hpL_nil, if_neg, updL] <;> done)))⟩
theorem pix0_fun (bm : Blk) (off n cap : Nat) (hB : bm.fx) (g bx tp nr md : Int) (ok : Bool) :
    Fun Tryd.prog G0 49 #[.slice none 0 0, .func (.func 43) #[] #[.pointer (some ⟨116, 0, none⟩), .pointer (some ⟨108, 0, none⟩)]] (hpL G0 (clL bm off n cap g bx tp nr md ok)) (keys (clL bm off n cap g bx tp nr md ok)) (.ret (.int .i64 (-1)) []) := by
  refine fun_ofL (B := 200) G0F Tryd.func49 rfl Tryd.call49 (clL_ok hB off n cap g bx tp nr md ok) ?_ (by simp) (by simp) (by simp) (by simp [Tryd.ntmps49]) (by omega) ?_
  · simp [idsV, idsA, idsF, ids0, keys, clL]
  intro C hC hC0 hY
  repeat' (first | refine gwS ?_ | refine GWL_start ?_ | refine GWL_step ?_ | simp only [wN, wM, Nat.reduceAdd, Nat.reduceMul] | ((first | refine gwR [] ?_ | refine gwD [] ?_); intro Q hQ hP; simp [hC, hY]; (first | refine hQ _ _ _ _ (by kernel_rfl) ?_ | refine hP _ _ (by kernel_rfl) fun _ => ?_); clear hQ hP Q) | refine gwB ?_ | refine gwT ?_ | refine gwK ?_ | refine gwE ?_ | refine gwG ?_ | refine gwL ?_ | simp only [blockG_exit] | (refine gwC ?_ ?_ <;> (intro hb; first | (cases hb; done) | skip)))
  refine ⟨.inr rfl, by simp [Tryd.results49], keep_of G0F (by simp) (by (intro k hk; first | rfl | (simp (disch := omega) only [addB, List.mem_cons, List.not_mem_nil, or_false, upd_other, hpL_cons, hpL_nil, if_neg, updL] <;> done)))⟩
theorem pcf0_fun (bm : Blk) (off n cap : Nat) (hB : bm.fx) (g bx tp nr md : Int) (ok : Bool) :
    Fun Tryd.prog G0 31 #[.slice none 0 0, .func (.func 43) #[] #[.pointer (some ⟨116, 0, none⟩), .pointer (some ⟨108, 0, none⟩)]] (hpL G0 (clL bm off n cap g bx tp nr md ok)) (keys (clL bm off n cap g bx tp nr md ok)) (.ret (.bool false) []) := by
  refine fun_ofL (B := 200) G0F Tryd.func31 rfl Tryd.call31 (clL_ok hB off n cap g bx tp nr md ok) ?_ (by simp) (by simp) (by simp) (by simp [Tryd.ntmps31]) (by omega) ?_
  · simp [idsV, idsA, idsF, ids0, keys, clL]
  intro C hC hC0 hY
  have hr := fun ρ => Blk.fx_rn hB ρ
  unfold clL
  repeat' (first | refine gwS ?_ | simp only [wN, wM, Nat.reduceAdd, Nat.reduceMul] | ((first | refine gwR [49] ?_ | refine gwD [49] ?_); intro Q hQ hP; simp [hC, hY]; (repeat ((first | (refine heapK_mv (pix0_fun bm off n cap hB g bx tp nr md ok) G0F (B := 200) (clL_ok hB off n cap g bx tp nr md ok) (fun k => k) (fun k hk => rfl) (by simp [ren, renA, renF, ren0]) (by simp) (by simp [clL, Blk.rn_id]) (by simp [keys]) (by simp [keys, clL]; rfl) ?_)); try simp [hC, hY])); (first | refine hQ _ _ _ _ (by kernel_rfl) ?_ | refine hP _ _ (by kernel_rfl) fun _ => ?_); clear hQ hP Q) | refine gwB ?_ | refine gwT ?_ | refine gwK ?_ | refine gwE ?_ | refine gwG ?_ | refine gwL ?_ | simp only [blockG_exit] | (refine gwC ?_ ?_ <;> (intro hb; first | (cases hb; done) | skip)))
  refine ⟨.inr rfl, by simp [Tryd.results31], keep_of G0F (by simp) (by (intro k hk; first | rfl | (simp (disch := omega) only [addB, List.mem_cons, List.not_mem_nil, or_false, upd_other, hpL_cons, hpL_nil, if_neg, updL] <;> done)))⟩
end Go.Gy
namespace Go.Gy
set_option linter.unusedSimpArgs false
set_option linter.unusedVariables false
open Go Go.RowKit
structure TI (N : List (Nat × Nat)) (V : Nat → Value) (X : List (Nat × Nat)) (Bk : Nat → Blk) (ts0 : Nat → Value) (hp0 : Hp) (listed : Array Bool) (ts : Nat → Value) (hp : Hp) : Prop where
  t0 : ∀ t, t ∉ N.map Prod.snd → ts t = ts0 t
  tm : ∀ p ∈ N, listed[p.1]? = some true → ts p.2 = V p.1
  h0 : ∀ k, k ∉ X.map Prod.snd → hp k = hp0 k
  bx : ∀ q ∈ X, listed[q.1]? = some true → hp q.2 = some (Bk q.1)
theorem ti_set {listed : Array Bool} {i j : Nat} (h : (listed.setIfInBounds i true)[j]? = some true) : j = i ∨ listed[j]? = some true := by
  rw [Array.getElem?_setIfInBounds] at h
  split at h
  · rename_i e; exact .inl e.symm
  · exact .inr h
theorem ti_snd {N : List (Nat × Nat)} (h : (N.map Prod.snd).Nodup) {p q : Nat × Nat} (hp : p ∈ N) (hq : q ∈ N) (e : p.2 = q.2) : p = q := by
  induction N with
  | nil => cases hp
  | cons a l ih =>
    simp only [List.map_cons, List.nodup_cons] at h
    rcases List.mem_cons.1 hp with rfl | hp1 <;> rcases List.mem_cons.1 hq with rfl | hq1
    · rfl
    · exact absurd (List.mem_map.2 ⟨q, hq1, e.symm⟩) h.1
    · exact absurd (List.mem_map.2 ⟨p, hp1, e⟩) h.1
    · exact ih h.2 hp1 hq1
theorem ti_fst {N : List (Nat × Nat)} (h : (N.map Prod.fst).Nodup) {p q : Nat × Nat} (hp : p ∈ N) (hq : q ∈ N) (e : p.1 = q.1) : p = q := by
  induction N with
  | nil => cases hp
  | cons a l ih =>
    simp only [List.map_cons, List.nodup_cons] at h
    rcases List.mem_cons.1 hp with rfl | hp1 <;> rcases List.mem_cons.1 hq with rfl | hq1
    · rfl
    · exact absurd (List.mem_map.2 ⟨q, hq1, e.symm⟩) h.1
    · exact absurd (List.mem_map.2 ⟨p, hp1, e⟩) h.1
    · exact ih h.2 hp1 hq1
section
variable {N X : List (Nat × Nat)} {V : Nat → Value} {Bk : Nat → Blk} {ts0 ts : Nat → Value} {hp0 hp : Hp} {listed : Array Bool}
theorem TI.start (hl : ∀ j : Nat, listed[j]? ≠ some true) : TI N V X Bk ts0 hp0 listed ts0 hp0 := ⟨fun _ _ => rfl, fun p _ h => absurd h (hl _), fun _ _ => rfl, fun q _ h => absurd h (hl _)⟩
theorem TI.tmp (hN1 : (N.map Prod.fst).Nodup) (hN2 : (N.map Prod.snd).Nodup) (h : TI N V X Bk ts0 hp0 listed ts hp) {i t : Nat} {v : Value} (hm : (i, t) ∈ N) (hv : V i = v) (hx : i ∉ X.map Prod.fst) : TI N V X Bk ts0 hp0 (listed.setIfInBounds i true) (upd ts t v) hp := by
  refine ⟨fun u hu => ?_, fun p hp1 hl => ?_, h.h0, fun q hq hl => ?_⟩
  · rw [upd_other _ _ (fun e => hu (List.mem_map.2 ⟨_, hm, e.symm⟩))]
    exact h.t0 u hu
  · by_cases e : p.2 = t
    · have := ti_snd hN2 hp1 hm e
      subst this
      rw [← hv]
      exact upd_same _ _ _
    · rw [upd_other _ _ e]
      rcases ti_set hl with e1 | h1
      · exact absurd (congrArg Prod.snd (ti_fst hN1 hp1 hm e1)) e
      · exact h.tm p hp1 h1
  · rcases ti_set hl with e1 | h1
    · exact absurd (List.mem_map.2 ⟨q, hq, e1⟩) hx
    · exact h.bx q hq h1
theorem TI.new (hN1 : (N.map Prod.fst).Nodup) (hN2 : (N.map Prod.snd).Nodup) (hX1 : (X.map Prod.fst).Nodup) (hX2 : (X.map Prod.snd).Nodup) (h : TI N V X Bk ts0 hp0 listed ts hp) {i t k : Nat} {v : Value} {b : Blk} (hm : (i, t) ∈ N) (hv : V i = v) (hx : (i, k) ∈ X) (hb : Bk i = b) : TI N V X Bk ts0 hp0 (listed.setIfInBounds i true) (upd ts t v) (upd hp k (some b)) := by
  refine ⟨fun u hu => ?_, fun p hp1 hl => ?_, fun u hu => ?_, fun q hq hl => ?_⟩
  · rw [upd_other _ _ (fun e => hu (List.mem_map.2 ⟨_, hm, e.symm⟩))]
    exact h.t0 u hu
  · by_cases e : p.2 = t
    · have := ti_snd hN2 hp1 hm e
      subst this
      rw [← hv]
      exact upd_same _ _ _
    · rw [upd_other _ _ e]
      rcases ti_set hl with e1 | h1
      · exact absurd (congrArg Prod.snd (ti_fst hN1 hp1 hm e1)) e
      · exact h.tm p hp1 h1
  · rw [upd_other _ _ (fun e => hu (List.mem_map.2 ⟨_, hx, e.symm⟩))]
    exact h.h0 u hu
  · by_cases e : q.2 = k
    · have := ti_snd hX2 hq hx e
      subst this
      rw [← hb]
      exact upd_same _ _ _
    · rw [upd_other _ _ e]
      rcases ti_set hl with e1 | h1
      · exact absurd (congrArg Prod.snd (ti_fst hX1 hq hx e1)) e
      · exact h.bx q hq h1
theorem TI.chg {V' : Nat → Value} {Bk' : Nat → Blk} (h : TI N V X Bk ts0 hp0 listed ts hp) (hv : ∀ p ∈ N, listed[p.1]? = some true → V p.1 = V' p.1) (hb : ∀ q ∈ X, listed[q.1]? = some true → Bk q.1 = Bk' q.1) : TI N V' X Bk' ts0 hp0 listed ts hp :=
  ⟨h.t0, fun p hp1 hl => (h.tm p hp1 hl).trans (hv p hp1 hl), h.h0, fun q hq hl => (h.bx q hq hl).trans (by rw [hb q hq hl])⟩
end
section
variable {P : Program} {C : Ctx} {n : Nat} {d : List Deferred} {ro : Option Nat} {K : Exit → GS → Prop}
theorem GA_gen {ops : Array Oper} {base fuel yc : Nat} {listed : Array Bool} {ts : Nat → Value} {hp : Hp} (F : (Nat → Value) → Hp → Prop) (h : F ts hp) (H : ∀ ts0 hp0, F ts0 hp0 → GA P C n d ro ops base fuel listed ts0 hp0 yc K) : GA P C n d ro ops base fuel listed ts hp yc K := H _ _ h
theorem GO_callG {G : Hp} {ops : Array Oper} {o : Oper} {base i fuel : Nat} {listed : Array Bool} {ts : Nat → Value} {hp hp' : Hp} {yc : Nat} {c : Call} {f : Operand} {g : FuncId} {cap : Array Value} {rs : List Nat} {args : Array Value} {R : Value → List (Nat × Blk) → Prop} (hCG : C.G = G) (hr : FunS P G g args hp' rs R) (hio : ops[i]? = some o) (hi : listed[i]? = some false) (hg : wantedG ops o ts = some true) (hd : ∀ dd, o.dst = some dd → dd < n)
    (ho : o.op = .call c) (hc : c.callee = .value f) (hf : okT ts f) (hgf : gev ts f = .func (.func g) #[] cap) (hcp : cap.all plain0 = true) (ha : ∀ x ∈ c.args.toList, okX ts hp x) (hargs : c.args.map (gev ts) ++ cap = args)
    (h1 : ∀ q ∈ rs, hp' q = hp q) (h2 : ∀ q, q < 100 → hp' q = hp q) (hat : ∀ v ns, R v ns → ∀ q ∈ keys ns, base + 8 * i ≤ q ∧ q < base + 8 * i + 8)
    (h : ∀ v ns, R v ns → GA P C n d ro ops base fuel (listed.setIfInBounds i true) (putT ts o.dst v) (updL hp ns) yc K) : GO P C n d ro ops base fuel listed i ts hp yc K := by
  subst hCG
  intro r a W hRI hfr hb hG hR
  unfold wpOpIn
  rw [hio]
  simp only
  rw [wantedG_eq hRI.rel hg]
  simp only [if_true]
  refine step_callS hG hRI hd ho hc hf hgf hcp ha (by rw [hargs]; exact hr.under fun q hq => hq.elim (h2 q) (h1 q)) (fun v ns hRv q hq => hfr.at' i hi q (hat v ns hRv q hq).1 (hat v ns hRv q hq).2) (fun v ns hRv r' a' W' hi' => h v ns hRv r' a' W' hi' (hfr.after (Array.getElem?_eq_some_iff.1 hio).1 fun x hx hx1 => ?_) hb hG hR)
  rw [updL_other (fun hm => hx1 (hat v ns hRv x hm))]
  exact hx
end
theorem ready_nilB {md : Region.Mode} {ops : Array Oper} {listed : Array Bool} (hs : listed.size = ops.size) (hlt : (ops.toList.zipIdx.all fun p => p.1.after.all fun e => !Region.binds md e || decide (e.on < p.2)) = true) (h : Region.ready md ops listed = []) : ∀ i, i < ops.size → listed[i]? = some true := by
  intro i
  induction i using Nat.strongRecOn with
  | _ i ih =>
    intro hi
    have e1 : listed[i]? = some listed[i] := Array.getElem?_eq_getElem (by omega)
    cases hb : listed[i] with
    | true => rw [e1, hb]
    | false =>
      exfalso
      have : i ∈ Region.ready md ops listed := (mem_ready hs).2 ⟨by rw [e1, hb], fun o ho e he hbe => by
        have hm : (o, i) ∈ ops.toList.zipIdx := by
          rw [List.mem_zipIdx_iff_getElem?]
          simpa using ho
        have := List.all_eq_true.1 hlt _ hm
        have := Array.all_eq_true_iff_forall_mem.1 this e he
        rw [hbe] at this
        have h3 : e.on < i := by simpa using this
        exact ih _ h3 (by omega)⟩
      rw [h] at this
      cases this
structure TJ (N X D : List (Nat × Nat)) (V : Nat → Value) (Bk : Nat → Blk) (ts0 : Nat → Value) (hp0 : Hp) (listed : Array Bool) (ts : Nat → Value) (hp : Hp) : Prop where
  t0 : ∀ t, t ∉ N.map Prod.snd → ts t = ts0 t
  tm : ∀ p ∈ N, listed[p.1]? = some true → ts p.2 = V p.1
  h0 : ∀ k, (∀ q ∈ X, q.2 = k → listed[q.1]? ≠ some true) → hp k = hp0 k
  bx : ∀ q ∈ X, listed[q.1]? = some true → (∀ q' ∈ X, q'.2 = q.2 → q.1 < q'.1 → listed[q'.1]? ≠ some true) → hp q.2 = some (Bk q.1)
  cl : ∀ p ∈ D, listed[p.1]? = some true → listed[p.2]? = some true
theorem tj_set {listed : Array Bool} {i j : Nat} (hi : listed[i]? = some false) : (listed.setIfInBounds i true)[j]? = some true ↔ j = i ∨ listed[j]? = some true := by
  rw [Array.getElem?_setIfInBounds]
  have := (Array.getElem?_eq_some_iff.1 hi).1
  split
  · rename_i e
    subst e
    simp [this]
  · rename_i e
    exact ⟨.inr, fun h => h.resolve_left fun x => e x.symm⟩
section
variable {N X D : List (Nat × Nat)} {V : Nat → Value} {Bk : Nat → Blk} {ts0 ts : Nat → Value} {hp0 hp : Hp} {listed : Array Bool}
theorem TJ.start (hl : ∀ j : Nat, listed[j]? ≠ some true) : TJ N X D V Bk ts0 hp0 listed ts0 hp0 := ⟨fun _ _ => rfl, fun p _ h => absurd h (hl _), fun _ _ => rfl, fun q _ h => absurd h (hl _), fun p _ h => absurd h (hl _)⟩
theorem TJ.ext (h : TJ N X D V Bk ts0 hp0 listed ts hp) {k : Nat} (hk : k ∉ X.map Prod.snd) : hp k = hp0 k := h.h0 k fun q hq e => absurd (List.mem_map.2 ⟨q, hq, e⟩) hk
theorem TJ.put (hN1 : (N.map Prod.fst).Nodup) (hN2 : (N.map Prod.snd).Nodup) (h : TJ N X D V Bk ts0 hp0 listed ts hp) {i t : Nat} {v : Value} (hi : listed[i]? = some false) (hm : (i, t) ∈ N) (hv : V i = v) : (∀ u, u ∉ N.map Prod.snd → upd ts t v u = ts0 u) ∧ ∀ p ∈ N, (listed.setIfInBounds i true)[p.1]? = some true → upd ts t v p.2 = V p.1 := by
  refine ⟨fun u hu => ?_, fun p hp1 hl => ?_⟩
  · rw [upd_other _ _ (fun e => hu (List.mem_map.2 ⟨_, hm, e.symm⟩))]
    exact h.t0 u hu
  · by_cases e : p.2 = t
    · have := ti_snd hN2 hp1 hm e
      subst this
      rw [← hv]
      exact upd_same _ _ _
    · rw [upd_other _ _ e]
      rcases (tj_set hi).1 hl with e1 | h1
      · exact absurd (congrArg Prod.snd (ti_fst hN1 hp1 hm e1)) e
      · exact h.tm p hp1 h1
theorem TJ.cls (h : TJ N X D V Bk ts0 hp0 listed ts hp) {i : Nat} (hi : listed[i]? = some false) (hd : ∀ p ∈ D, p.1 = i → listed[p.2]? = some true) : ∀ p ∈ D, (listed.setIfInBounds i true)[p.1]? = some true → (listed.setIfInBounds i true)[p.2]? = some true := fun p hp1 hl =>
  (tj_set hi).2 (.inr (((tj_set hi).1 hl).elim (hd p hp1) (h.cl p hp1)))
theorem TJ.tmp (hN1 : (N.map Prod.fst).Nodup) (hN2 : (N.map Prod.snd).Nodup) (h : TJ N X D V Bk ts0 hp0 listed ts hp) {i t : Nat} {v : Value} (hi : listed[i]? = some false) (hd : ∀ p ∈ D, p.1 = i → listed[p.2]? = some true) (hm : (i, t) ∈ N) (hv : V i = v) (hx : i ∉ X.map Prod.fst) : TJ N X D V Bk ts0 hp0 (listed.setIfInBounds i true) (upd ts t v) hp := by
  obtain ⟨a, b⟩ := h.put hN1 hN2 hi hm hv
  refine ⟨a, b, fun k hk => h.h0 k fun q hq e hl => hk q hq e ((tj_set hi).2 (.inr hl)), fun q hq hl hl2 => ?_, h.cls hi hd⟩
  rcases (tj_set hi).1 hl with e1 | h1
  · exact absurd (List.mem_map.2 ⟨q, hq, e1⟩) hx
  · exact h.bx q hq h1 fun q' hq' e hlt hl' => hl2 q' hq' e hlt ((tj_set hi).2 (.inr hl'))
theorem TJ.blk (hX1 : (X.map Prod.fst).Nodup) (h : TJ N X D V Bk ts0 hp0 listed ts hp) {i k : Nat} {b : Blk} (hi : listed[i]? = some false) (hx : (i, k) ∈ X) (hb : Bk i = b) (ho : ∀ q ∈ X, q.2 = k → i < q.1 → (q.1, i) ∈ D) :
    (∀ u, (∀ q ∈ X, q.2 = u → (listed.setIfInBounds i true)[q.1]? ≠ some true) → upd hp k (some b) u = hp0 u) ∧ ∀ q ∈ X, (listed.setIfInBounds i true)[q.1]? = some true → (∀ q' ∈ X, q'.2 = q.2 → q.1 < q'.1 → (listed.setIfInBounds i true)[q'.1]? ≠ some true) → upd hp k (some b) q.2 = some (Bk q.1) := by
  refine ⟨fun u hu => ?_, fun q hq hl hl2 => ?_⟩
  · rw [upd_other _ _ (fun e => hu _ hx e.symm ((tj_set hi).2 (.inl rfl)))]
    exact h.h0 u fun q hq e hl => hu q hq e ((tj_set hi).2 (.inr hl))
  · by_cases e : q.2 = k
    · have e2 : q.1 = i := by
        rcases (tj_set hi).1 hl with e1 | h1
        · exact e1
        · rcases Nat.lt_trichotomy q.1 i with c | c | c
          · exact absurd ((tj_set hi).2 (.inl rfl)) (hl2 _ hx e.symm c)
          · exact c
          · have := h.cl _ (ho q hq e c) h1
            rw [hi] at this
            cases this
      have := ti_fst hX1 hq hx e2
      subst this
      rw [← hb]
      exact upd_same _ _ _
    · rw [upd_other _ _ e]
      rcases (tj_set hi).1 hl with e1 | h1
      · exact absurd (congrArg Prod.snd (ti_fst hX1 hq hx e1)) e
      · exact h.bx q hq h1 fun q' hq' e hlt hl' => hl2 q' hq' e hlt ((tj_set hi).2 (.inr hl'))
theorem TJ.new (hN1 : (N.map Prod.fst).Nodup) (hN2 : (N.map Prod.snd).Nodup) (hX1 : (X.map Prod.fst).Nodup) (h : TJ N X D V Bk ts0 hp0 listed ts hp) {i t k : Nat} {v : Value} {b : Blk} (hi : listed[i]? = some false) (hd : ∀ p ∈ D, p.1 = i → listed[p.2]? = some true) (hm : (i, t) ∈ N) (hv : V i = v) (hx : (i, k) ∈ X) (hb : Bk i = b) (ho : ∀ q ∈ X, q.2 = k → i < q.1 → (q.1, i) ∈ D) : TJ N X D V Bk ts0 hp0 (listed.setIfInBounds i true) (upd ts t v) (upd hp k (some b)) := by
  obtain ⟨a1, a2⟩ := h.put hN1 hN2 hi hm hv
  obtain ⟨b1, b2⟩ := h.blk hX1 hi hx hb ho
  exact ⟨a1, a2, b1, b2, h.cls hi hd⟩
theorem TJ.chg {V' : Nat → Value} {Bk' : Nat → Blk} {i : Nat} (h : TJ N X D V Bk ts0 hp0 listed ts hp) (hi : listed[i]? = some false) (hv : ∀ j, j ≠ i → (j, i) ∉ D → V j = V' j) (hb : ∀ j, j ≠ i → (j, i) ∉ D → Bk j = Bk' j) : TJ N X D V' Bk' ts0 hp0 listed ts hp := by
  have ne : ∀ j, listed[j]? = some true → j ≠ i := fun j hj e => by rw [e, hi] at hj; cases hj
  have nd : ∀ j, listed[j]? = some true → (j, i) ∉ D := fun j hj hd => by have := h.cl _ hd hj; rw [hi] at this; cases this
  exact ⟨h.t0, fun p hp1 hl => (h.tm p hp1 hl).trans (hv _ (ne _ hl) (nd _ hl)), h.h0, fun q hq hl hl2 => (h.bx q hq hl hl2).trans (by rw [hb _ (ne _ hl) (nd _ hl)]), h.cl⟩
end
structure LTwo (G : Hp) (L : List (Nat × Blk)) (ks : Nat) (b b2 : Blk) : Prop where
  ok : LOk L 200
  fx : ∀ p ∈ L, p.2.fx
  ka : (100, b) ∈ L
  kb : (ks, b2) ∈ L
  k8 : ks = 100 ∨ ks = 108
section
variable {G : Hp} {L : List (Nat × Blk)} {ks : Nat} {b b2 : Blk}
theorem LTwo.mem (h : LTwo G L ks b b2) (p : Nat × Blk) (hp : p ∈ L) : hpL G L p.1 = some p.2 := LOk.at h.ok.one p hp
theorem LTwo.a (h : LTwo G L ks b b2) : hpL G L 100 = some b := h.mem _ h.ka
theorem LTwo.s (h : LTwo G L ks b b2) : hpL G L ks = some b2 := h.mem _ h.kb
theorem LTwo.k1 (h : LTwo G L ks b b2) : 100 ≤ ks := (h.ok.big _ h.kb).1
theorem LTwo.k2 (h : LTwo G L ks b b2) : ks < 200 := (h.ok.big _ h.kb).2
theorem LTwo.ne (h : LTwo G L ks b b2) (k : Nat) (hk : 200 ≤ k) : (ks = k) = False := by
  have := h.k2
  simp only [eq_iff_iff, iff_false]
  omega
theorem LTwo.low (h : LTwo G L ks b b2) (k : Nat) (hk : k < 100) : hpL G L k = G k := h.ok.low k hk
theorem LTwo.ia (h : LTwo G L ks b b2) : 100 ∈ keys L := mem_keys.2 ⟨_, h.ka, rfl⟩
theorem LTwo.ib (h : LTwo G L ks b b2) : ks ∈ keys L := mem_keys.2 ⟨_, h.kb, rfl⟩
theorem LTwo.two {b b2 : Blk} (h : b.fx) (h2 : b2.fx) : LTwo G [(100, b), (108, b2)] 108 b b2 := by
  refine ⟨⟨by simp, by simp [keys], ?_⟩, ?_, by simp, by simp, .inr rfl⟩
  · simp only [List.mem_cons, List.not_mem_nil, or_false, forall_eq_or_imp, forall_eq]
    exact ⟨Blk.fx_ids h _, Blk.fx_ids h2 _⟩
  · simp only [List.mem_cons, List.not_mem_nil, or_false, forall_eq_or_imp, forall_eq]
    exact ⟨h, h2⟩
theorem LTwo.one {b : Blk} (h : b.fx) : LTwo G [(100, b)] 100 b b := by
  refine ⟨⟨by simp, by simp [keys], ?_⟩, ?_, by simp, by simp, .inl rfl⟩
  · simp only [List.mem_cons, List.not_mem_nil, or_false, forall_eq]
    exact Blk.fx_ids h _
  · simp only [List.mem_cons, List.not_mem_nil, or_false, forall_eq]
    exact h
end
theorem weakLL {C : Ctx} {G : Hp} {s : GS} {m L : List (Nat × Blk)} (l : List (Nat × Value)) (B : Nat) (hG : C.G = G) (hGF : GFlat G) (hL : LOk L 200) (hfx : ∀ p ∈ L, p.2.fx) (h0 : C.hp0 = hpL G L) (hB : 200 ≤ B) (hl : ∀ p ∈ l, s.ts p.1 = p.2 ∧ idsV (dom (hpL G (m ++ L))) p.2)
    (hm : ∀ p ∈ m, s.hp p.1 = some p.2 ∧ p.2.ids (dom (hpL G (m ++ L))) ∧ 200 ≤ p.1 ∧ p.1 < B) (hk : ∀ p ∈ L, s.hp p.1 = some p.2) : Weak C s ⟨tsL l, hpL G (m ++ L), B, s.yc⟩ := by
  refine weakL l B hG hGF h0 (by omega) hl (fun p hp => ?_) (fun p hp => ?_)
  · rcases List.mem_append.1 hp with h | h
    · have := hm p h
      exact ⟨this.1, this.2.1, by omega, this.2.2.2⟩
    · have := hL.big p h
      exact ⟨hk p h, Blk.fx_ids (hfx p h) _, this.1, by omega⟩
  · have hb := hL.big p hp
    refine ⟨hb.1, ?_⟩
    rw [hk p hp]
    have key : ∀ (m : List (Nat × Blk)), (∀ q ∈ m, 200 ≤ q.1) → hpL G (m ++ L) p.1 = some p.2 := by
      intro m
      induction m with
      | nil => intro _; exact LOk.at hL.one p hp
      | cons q m ih =>
        intro hq
        obtain ⟨k, c⟩ := q
        rw [List.cons_append, hpL_cons]
        have := hq (k, c) (by simp)
        simp only at this
        rw [if_neg (by omega)]
        exact ih fun q h => hq q (List.mem_cons_of_mem _ h)
    exact key m fun q hq => (hm q hq).2.2.1
theorem heapK_L {P : Program} {G : Hp} {L : List (Nat × Blk)} {f : FuncId} {args : Array Value} {v : Value} {hp : Hp} {nk : Nat} {K : Eff → Prop} (h : Fun P G f args (hpL G L) (keys L) (.ret v [])) (hL : LOk L 200) (hm : ∀ p ∈ L, hp p.1 = some p.2) (hK : K ((Res.ret v []).eff (keys L))) : heapK P G f args hp nk K := by
  refine heapK_of h (fun k hk => ?_) hL.low trivial hK
  obtain ⟨p, hp1, rfl⟩ := mem_keys.1 hk
  rw [LOk.at hL.one p hp1, hm p hp1]
section
variable {P : Program} {C : Ctx} {n : Nat} {d : List Deferred} {ro : Option Nat} {s : GS} {K : Exit → GS → Prop}
theorem GI.freeze {r : Nat → Nat} {a : Act} {W : World} {k t : Nat} {cs : Array Value} (hk : s.hp k = some ⟨cs, .ty t⟩) (h100 : 100 ≤ k) (h : GI P C n d r s a W) : GI P C n d r ⟨s.ts, upd s.hp k (some ⟨cs.map (renF r), .raw t (0, 0)⟩), s.B, s.yc⟩ a W := by
  have hD : dom (upd s.hp k (some ⟨cs.map (renF r), .raw t (0, 0)⟩)) = dom s.hp := by
    funext q
    unfold dom
    by_cases e : q = k
    · subst e
      rw [upd_same, hk]
      simp
    · rw [upd_other _ _ e]
  have hkB : ¬ s.B ≤ k := fun hb => by have := h.free k hb; rw [hk] at this; cases this
  refine ⟨⟨h.ri.size, ?_, fun q b hq => ?_, ?_, ?_, fun i hi => ?_, fun q hq => ?_, fun q hq hd => ?_⟩, fun x hx => ?_, h.low, h.flat, h.rounds⟩
  · show Rel r (dom (upd s.hp k _)) s.ts a
    rw [hD]
    exact h.ri.rel
  · show W.heap[r q]? = some (b.obj r) ∧ b.ids (dom (upd s.hp k _))
    rw [hD]
    by_cases e : q = k
    · subst e
      have hq' : some (Blk.mk (cs.map (renF r)) (.raw t (0, 0))) = some b := (upd_same _ _ _).symm.trans hq
      cases hq'
      exact ⟨(h.ri.sat q _ hk).1, trivial⟩
    · have hq' : s.hp q = some b := (upd_other _ _ e).symm.trans hq
      exact h.ri.sat q b hq'
  · show Inj r (dom (upd s.hp k _))
    rw [hD]
    exact h.ri.inj
  · obtain ⟨S, ms, h1, h2, h3, h4⟩ := h.ri.ext
    refine ⟨S, ms, h1, h2, fun i hi => ?_, h4⟩
    have hi' : dom (upd s.hp k (some ⟨cs.map (renF r), .raw t (0, 0)⟩)) i := hi
    rw [hD] at hi'
    exact h3 i hi'
  · show dom (upd s.hp k _) i ∧ _
    rw [hD]
    exact h.ri.keep i hi
  · show upd s.hp k _ q = _
    rw [upd_other _ _ (by omega)]
    exact h.ri.glob q hq
  · have hd' : dom (upd s.hp k (some ⟨cs.map (renF r), .raw t (0, 0)⟩)) q := hd
    rw [hD] at hd'
    exact h.ri.low q hq hd'
  · show upd s.hp k _ x = none
    have hx' : s.B ≤ x := hx
    rw [upd_other _ _ (by omega)]
    exact h.free x hx'
theorem GW_freeze {c : Code} (k : Nat) {t : Nat} {cs : Array Value} (hk : s.hp k = some ⟨cs, .ty t⟩) (h100 : 100 ≤ k) (h : ∀ cs' : Array Value, cs'.size = cs.size → (∀ (j : Nat) (v : Value), cs[j]? = some v → flatF v = true → cs'[j]? = some v) → GW P C n d ro c ⟨s.ts, upd s.hp k (some ⟨cs', .raw t (0, 0)⟩), s.B, s.yc⟩ K) : GW P C n d ro c s K := fun r a W hi =>
  h (cs.map (renF r)) (by simp) (fun j v hj hf => by simp [hj, flatF_ren hf]) r a W (hi.freeze hk h100)
end
end Go.Gy
