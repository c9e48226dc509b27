/-
  From contracts to the statements: arguments opened and shut, the package's variable.
  Conditions: none beyond the hypotheses of each theorem.
-/
import Derived.Test.YtggidgaeggekhaaDoorGyW1
import Derived.Test.YtggidgaeggekhaaDoorCards
import Derived.Test.YtggidgaeggekhaaDoorTie
import Derived.WalkKit
import Derived.ProofKit
import Derived.OpenShut
import Derived.Below
import Derived.ChangeSame
import Derived.Deep.DeepHandedRow
import Derived.Lib.LaidTab
namespace Go.Gy
set_option linter.unusedSimpArgs false
set_option linter.unusedVariables false
set_option maxRecDepth 100000
open Go Go.RowKit Go.Proofs Go.ChangeShapes Go.WideShapes Go.ChangeAt

section
variable {H : Type} {enc : TypeId × Value → H} {P : Program}
theorem post_of_below {f : Func} {s : ChangeSpec} {apart fresh handsOn again : Bool} {W W' : World} {args : Array Value} {v : Value} {ds gs : List (DataW H)} {before pa pv : List MemPlace}
    (hW : DataW.Whole enc P f.params.toList s.vars apart W args.toList ds gs before)
    (hres : ∀ (b : Nat) (sp : Nat → Bool) (hd : Bool), DataW.TrodAll enc P W' b sp hd f.resultTypes.toList (v.resultList f.resultTypes.size) (s.fn H (ds ++ gs)).results [])
    (hargs : ∀ sp : Nat → Bool, (∀ p ∈ before, sp p.block = true) → DataW.TrodAll enc P W' 0 sp true f.params.toList args.toList (s.fn H (ds ++ gs)).args pa)
    (hvars : ∀ sp : Nat → Bool, (∀ p ∈ before, sp p.block = true) → DataW.TrodVars enc P W' sp s.vars (s.fn H (ds ++ gs)).vars pv)
    (hps : before = pa ++ pv) (hb : Below W.heap.size W W')
    (hok : ∀ (j : Nat) (t : TypeId) (r : Value), f.resultTypes[j]? = some t → (v.resultList f.resultTypes.size)[j]? = some r → Value.okWide P W' .any 0 t r) :
    s.post enc P f apart fresh handsOn again W args v W' := by
  have hlt : ∀ p ∈ before, p.block < W.heap.size := fun p hp => hW.lt p hp
  have hold : ∀ p ∈ before, (fun b => decide (b < W.heap.size)) p.block = true := fun p hp => by simpa using hlt p hp
  refine ⟨ds, gs, before, [], pa, pv, hW, hres _ _ _, hargs _ hold, hvars _ hold, World.keptBut_mono (fun p hp => ⟨hp, ?_⟩) (hb.frame (· ∈ before)), fun _ => ?_⟩
  · rw [hps, List.mem_append] at hp
    exact Or.inr hp
  · obtain ⟨_, _, _, _, _, hz, hn⟩ := hW
    refine ⟨hok, _, _, ([] ++ pa) ++ pv, ⟨[] ++ pa, pv, trodAll_append (hargs _ (fun _ _ => rfl)) (hres _ _ _), hvars _ (fun _ _ => rfl), rfl, ?_, ?_⟩, ?_⟩
    · intro b off hp
      have hin : MemPlace.cell b off ∈ before := by rw [hps]; simpa using hp
      rw [hb.frozen (hlt _ hin)]
      exact hz b off hin
    · intro ha
      have := hn ha
      rw [hps] at this
      simpa using this
    · intro p hp _
      rw [hps]
      simpa using hp
/-- An array of integers, opened. -/
theorem open_ia {w : World} {base b0 : Nat} {spare : Nat → Bool} {held : Bool} {r : Reach} {t e : TypeId} {n : Nat} {q : IntKind} {v : Value} {d : DataW H} {p : List MemPlace} (ht : P.underlying t = some (.array n e)) (he : P.underlying e = some (.int q)) (hce : P.cellsOf e = 1) (hct : P.cellsOf t = n)
    (hv : Value.okWide P w r b0 t v) (h : DataW.Trod enc P w base spare held t v d p) :
    ∃ zs : List Int, zs.length = n ∧ v = .agg (zs.map (.int q)).toArray ∧ d = .agg (zs.map fun z => .lit (.int q z)) ∧ p = [] ∧ ∀ z ∈ zs, (Lit.int q z).wf = true := by
  simp only [Value.okWide, ht] at hv
  obtain ⟨cs, rfl, hsz, _⟩ := hv
  obtain ⟨fuel, hf⟩ := h
  cases fuel with
  | zero => simp [DataW.trod] at hf
  | succ fuel =>
    simp only [DataW.trod, ht, hce, hct, Nat.mul_one, Value.cells] at hf
    split at hf
    · rename_i hl
      obtain ⟨xs, hm, hx⟩ := Option.map_eq_some_iff.1 hf
      have key : ∀ (l : List Nat) (xs : List (DataW H × List MemPlace)), l.mapM (fun i => DataW.trod enc P w base spare held fuel e ((cs.toList.drop i).take 1)) = some xs →
          ∃ zs : List Int, zs.length = l.length ∧ (∀ j i, l[j]? = some i → ((cs.toList.drop i).take 1) = [Value.int q (zs.getD j 0)]) ∧ xs = zs.map (fun z => (.lit (.int q z), [])) ∧ ∀ z ∈ zs, (Lit.int q z).wf = true := by
        intro l
        induction l with
        | nil => intro xs h; simp at h; subst h; exact ⟨[], rfl, by simp, rfl, by simp⟩
        | cons i l ih =>
          intro xs h
          rw [List.mapM_cons] at h
          simp only [bind, Option.bind_eq_some_iff, pure, Option.some.injEq] at h
          obtain ⟨y, hy, ys, hys, rfl⟩ := h
          obtain ⟨zs, h1, h2, rfl, h4⟩ := ih ys hys
          obtain ⟨z, hz, rfl, hw⟩ := DataW.trod_int he hy
          refine ⟨z :: zs, by simp [h1], fun j i' hj => ?_, rfl, fun x hx => ?_⟩
          · cases j with
            | zero => simp at hj; subst hj; simpa using hz
            | succ j => simp at hj; simpa using h2 j i' hj
          · rcases List.mem_cons.1 hx with rfl | hx
            · exact hw
            · exact h4 x hx
      obtain ⟨zs, h1, h2, rfl, h4⟩ := key _ _ hm
      have hzn : zs.length = n := by simpa using h1
      simp only [Prod.mk.injEq] at hx
      refine ⟨zs, hzn, ?_, by rw [← hx.1]; simp [Function.comp_def], by rw [← hx.2]; simp [List.flatMap_eq_nil_iff], h4⟩
      congr 1
      apply Array.ext'
      simp only
      apply List.ext_getElem?
      intro i
      by_cases hi : i < n
      · have h3 := h2 i i (by simp [hi])
        have h5 : cs.toList[i]? = some (.int q (zs.getD i 0)) := by
          have := congrArg (·[0]?) h3
          simpa [List.getElem?_take, List.getElem?_drop] using this
        have e1 : zs[i]? = some (zs.getD i 0) := by simp [List.getD, List.getElem?_eq_getElem (show i < zs.length by omega)]
        rw [h5, List.getElem?_map, e1]
        rfl
      · rw [List.getElem?_eq_none (by omega), List.getElem?_eq_none (by simp; omega)]
    · cases hf
theorem shut_ia {w : World} {base : Nat} {spare : Nat → Bool} {held : Bool} {t e : TypeId} {n : Nat} {q : IntKind} {zs : List Int} (ht : P.underlying t = some (.array n e)) (he : P.underlying e = some (.int q)) (hce : P.cellsOf e = 1) (hct : P.cellsOf t = n)
    (hl : zs.length = n) (hw : ∀ z ∈ zs, (Lit.int q z).wf = true) : DataW.Trod enc P w base spare held t (.agg (zs.map (.int q)).toArray) (.agg (zs.map fun z => .lit (.int q z))) [] := by
  refine ⟨2, ?_⟩
  have e1 : ∀ fuel, DataW.trod enc P w base spare held (fuel + 1) t ((Value.agg (zs.map (.int q)).toArray).cells.toList) = ((List.range n).mapM fun i => DataW.trod enc P w base spare held fuel e (((zs.map (Value.int q)).drop i).take 1)).map fun xs => (.agg (xs.map (·.1)), xs.flatMap (·.2)) := fun fuel => by
    simp only [DataW.trod, ht, hce, hct, Nat.mul_one, Value.cells]
    rw [if_pos (by simpa using hl)]
  rw [e1]
  have key : ∀ (l : List Nat), (∀ i ∈ l, i < n) → (l.mapM fun i => DataW.trod enc P w base spare held 1 e (((zs.map (Value.int q)).drop i).take 1)) = some (l.map fun i => (.lit (.int q (zs.getD i 0)), [])) := by
    intro l
    induction l with
    | nil => intro _; rfl
    | cons i l ih =>
      intro h
      have hi : i < zs.length := by have := h i (by simp); omega
      have hd : ((zs.map (Value.int q)).drop i).take 1 = [.int q (zs.getD i 0)] := by
        rw [List.drop_eq_getElem_cons (by simpa using hi)]
        simp [List.getD, List.getElem?_eq_getElem hi]
      have hwf := hw (zs.getD i 0) (by simp [List.getD, List.getElem?_eq_getElem hi])
      rw [List.mapM_cons, hd, ih fun x hx => h x (List.mem_cons_of_mem _ hx)]
      simp only [DataW.trod, he, hwf]
      simp
  rw [key _ (fun i hi => by simpa using hi)]
  have hr : (List.range n).map (fun i => zs.getD i 0) = zs := by
    apply List.ext_getElem?
    intro i
    by_cases hi : i < n
    · simp [hi, List.getD, List.getElem?_eq_getElem (show i < zs.length by omega)]
    · rw [List.getElem?_eq_none (by simp; omega), List.getElem?_eq_none (by omega)]
  simp only [Option.map_some, Option.some.injEq, Prod.mk.injEq, List.map_map]
  refine ⟨?_, by simp [List.flatMap_eq_nil_iff]⟩
  congr 1
  conv => rhs; rw [← hr]
  simp [Function.comp_def]
end

/-! A wide number, an int, a point. -/
theorem cells_u64 : Tryd.prog.cellsOf 22 = 1 := by kernel_rfl
theorem cells_wide : Tryd.prog.cellsOf 24 = 4 := by kernel_rfl
def wideD {H : Type} (z : Int) : DataW H := .agg [.lit (.int .u64 (wi z 0)), .lit (.int .u64 (wi z 1)), .lit (.int .u64 (wi z 2)), .lit (.int .u64 (wi z 3))]
theorem mm_u64 : IntKind.u64.min = 0 ∧ IntKind.u64.max = 18446744073709551615 := by decide
theorem mm_i64 : IntKind.i64.min = -9223372036854775808 ∧ IntKind.i64.max = 9223372036854775807 := by decide
theorem wf_u64 {z : Int} (h : (Lit.int .u64 z).wf = true) : 0 ≤ z ∧ z < 18446744073709551616 := by
  simp only [Lit.wf, Bool.and_eq_true, decide_eq_true_eq, mm_u64.1, mm_u64.2] at h; omega
theorem wf_i64 {z : Int} (h : (Lit.int .i64 z).wf = true) : i64 z := by
  simp only [Lit.wf, Bool.and_eq_true, decide_eq_true_eq, mm_i64.1, mm_i64.2] at h; unfold i64; omega
theorem wi_wf (z : Int) (k : Nat) : (Lit.int .u64 (wi z k)).wf = true := by
  have := wi_ge z k; have := wi_lt z k
  simp only [Lit.wf, Bool.and_eq_true, decide_eq_true_eq, mm_u64.1, mm_u64.2]; omega
theorem words_of (w0 w1 w2 w3 : Int) (h0 : 0 ≤ w0 ∧ w0 < 18446744073709551616) (h1 : 0 ≤ w1 ∧ w1 < 18446744073709551616) (h2 : 0 ≤ w2 ∧ w2 < 18446744073709551616) (h3 : 0 ≤ w3 ∧ w3 < 18446744073709551616) :
    ∃ z, wr z ∧ wi z 0 = w0 ∧ wi z 1 = w1 ∧ wi z 2 = w2 ∧ wi z 3 = w3 := by
  refine ⟨w0 + 18446744073709551616 * w1 + 340282366920938463463374607431768211456 * w2 + 6277101735386680763835789423207666416102355444464034512896 * (if w3 < 9223372036854775808 then w3 else w3 - 18446744073709551616), ?_, ?_, ?_, ?_, ?_⟩
  · unfold wr; split <;> omega
  all_goals (simp only [wi]; split <;> omega)
section
variable {H : Type} {enc : TypeId × Value → H} {w : World}
theorem open_wide {base b0 : Nat} {spare : Nat → Bool} {held : Bool} {r : Reach} {v : Value} {d : DataW H} {p : List MemPlace} (hv : Value.okWide Tryd.prog w r b0 24 v) (h : DataW.Trod enc Tryd.prog w base spare held 24 v d p) :
    ∃ z, wr z ∧ v = wd z ∧ d = wideD z ∧ p = [] := by
  obtain ⟨zs, hl, rfl, rfl, rfl, hw⟩ := open_ia Tryd.underlying24 Tryd.underlying22 cells_u64 cells_wide hv h
  match zs, hl with
  | [w0, w1, w2, w3], _ =>
    obtain ⟨z, hz, e0, e1, e2, e3⟩ := words_of w0 w1 w2 w3 (wf_u64 (hw _ (by simp))) (wf_u64 (hw _ (by simp))) (wf_u64 (hw _ (by simp))) (wf_u64 (hw _ (by simp)))
    exact ⟨z, hz, by simp [e0, e1, e2, e3], by simp [wideD, e0, e1, e2, e3], rfl⟩
theorem shut_wide {base : Nat} {spare : Nat → Bool} {held : Bool} (z : Int) : DataW.Trod enc Tryd.prog w base spare held 24 (wd z) (wideD z) [] :=
  shut_ia (zs := [wi z 0, wi z 1, wi z 2, wi z 3]) Tryd.underlying24 Tryd.underlying22 cells_u64 cells_wide rfl (by simp [wi_wf])
end

/-! What the rows' lists give. -/
theorem own : ownKnob Tryd.prog.godebug = none := by kernel_rfl
theorem gLeast : Tryd.prog.globalNamed "gyre/quot.least" = some 1 := by kernel_rfl
theorem gLeastType : (Tryd.prog.globals[1]?).map (·.type) = some 24 := by kernel_rfl
theorem gLeastRow : ((begin Tryd.prog (fun _ _ => 0) default).world.heap[1]?).bind Obj.row? = some (#[.int .u64 0, .int .u64 0, .int .u64 0, .int .u64 0], 24) := by kernel_rfl
theorem heap_of_var {P : Program} {W : World} {name : String} {g : Nat} {cs : Array Value} {z : Array Value} {T : TypeId} (hg : P.globalNamed name = some g) (hlt : g < P.globals.size) (hrow : ((begin P (fun _ _ => 0) default).world.heap[g]?).bind Obj.row? = some (z, T))
    (hS : W.ShapedOpen P) (hv : W.var? P name = some cs) : W.heap[g]? = some (.cells cs T (0, 0)) := by
  obtain ⟨c, h1, _⟩ := hS.1 g z T hlt hrow
  unfold World.var? at hv
  rw [hg] at hv
  simp only [Option.bind_some, h1, Option.some.injEq] at hv
  rw [h1, hv]
theorem gok_least {W : World} (hS : W.ShapedOpen Tryd.prog) (hv : W.var? Tryd.prog "gyre/quot.least" = some lsB.c) : GOK G0 W := fun k b hk => by
  have h := G0_mem hk
  simp [G0L] at h
  obtain ⟨rfl, rfl⟩ := h
  exact heap_of_var gLeast (of_decide_eq_true (by kernel_rfl)) gLeastRow hS hv
theorem least_of {W : World} {rest : List (String × DataW Unit)} (h : laidMet Tryd.prog (("gyre/quot.least", Proofs.YtggidgaeggekhaaDoor.Rows.laid_gyre_quot_least) :: rest) W) : W.var? Tryd.prog "gyre/quot.least" = some lsB.c :=
  Lib.tabIs_of_head (zs := [0, 0, 0, 9223372036854775808]) gLeast gLeastType Tryd.underlying24 Tryd.underlying22 cells_u64 cells_wide h
end Go.Gy
