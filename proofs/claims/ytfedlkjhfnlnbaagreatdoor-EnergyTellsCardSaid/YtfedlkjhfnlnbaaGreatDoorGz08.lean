/-
  Lemmas of this claim, in their order (GyH, GyHS, GyHP, GyHT, GyHC, GyHX).
  Conditions: those of each theorem.
-/
import Derived.Test.YtfedlkjhfnlnbaaGreatDoorGz07
import Derived.Stop.LaidErr
import Derived.Test.YtfedlkjhfnlnbaaGreatDoorCards
import Derived.Test.YtfedlkjhfnlnbaaGreatDoorTie
import Derived.WalkKit
import Derived.ProofKit
import Derived.OpenShut
import Derived.Below
import Derived.ChangeSame
import Derived.Deep.DeepHandedRow
import Derived.Lib.LaidTab
import Derived.Deep.Slices
import Derived.ReadAgain
import Derived.Carry
import Derived.Deep.Strs
import Derived.ChangeSlices
namespace Go.Gy
set_option linter.unusedSimpArgs false
set_option linter.unusedVariables false
set_option maxRecDepth 100000
open Go Go.RowKit Go.Proofs Go.ChangeShapes Go.WideShapes Go.ChangeAt

section
variable {H : Type} {enc : TypeId × Value → H} {P : Program}
theorem post_of_below {f : Func} {s : ChangeSpec} {apart fresh handsOn again : Bool} {W W' : World} {args : Array Value} {v : Value} {ds gs : List (DataW H)} {before pa pv : List MemPlace}
  (hW : DataW.Whole enc P f.params.toList s.vars apart W args.toList ds gs before)
  (hres : ∀ (b : Nat) (sp : Nat → Bool) (hd : Bool), DataW.TrodAll enc P W' b sp hd f.resultTypes.toList (v.resultList f.resultTypes.size) (s.fn H (ds ++ gs)).results [])
  (hargs : ∀ sp : Nat → Bool, (∀ p ∈ before, sp p.block = true) → DataW.TrodAll enc P W' 0 sp true f.params.toList args.toList (s.fn H (ds ++ gs)).args pa)
  (hvars : ∀ sp : Nat → Bool, (∀ p ∈ before, sp p.block = true) → DataW.TrodVars enc P W' sp s.vars (s.fn H (ds ++ gs)).vars pv)
  (hps : before = pa ++ pv) (hb : Below W.heap.size W W')
  (hok : ∀ (j : Nat) (t : TypeId) (r : Value), f.resultTypes[j]? = some t → (v.resultList f.resultTypes.size)[j]? = some r → Value.okWide P W' .any 0 t r) :
  s.post enc P f apart fresh handsOn again W args v W' := by
 have hlt : ∀ p ∈ before, p.block < W.heap.size := fun p hp => hW.lt p hp
 have hold : ∀ p ∈ before, (fun b => decide (b < W.heap.size)) p.block = true := fun p hp => by simpa using hlt p hp
 refine ⟨ds, gs, before, [], pa, pv, hW, hres _ _ _, hargs _ hold, hvars _ hold, World.keptBut_mono (fun p hp => ⟨hp, ?_⟩) (hb.frame (· ∈ before)), fun _ => ?_⟩
 ·rw [hps, List.mem_append] at hp
  exact Or.inr hp
 ·obtain ⟨_, _, _, _, _, hz, hn⟩ := hW
  refine ⟨hok, _, _, ([] ++ pa) ++ pv, ⟨[] ++ pa, pv, trodAll_append (hargs _ (fun _ _ => rfl)) (hres _ _ _), hvars _ (fun _ _ => rfl), rfl, ?_, ?_⟩, ?_⟩
  ·intro b off hp
   have hin : MemPlace.cell b off ∈ before := by rw [hps]; simpa using hp
   rw [hb.frozen (hlt _ hin)]
   exact hz b off hin
  ·intro ha
   have := hn ha
   rw [hps] at this
   simpa using this
  ·intro p hp _
   rw [hps]
   simpa using hp
theorem open_ia {w : World} {base b0 : Nat} {spare : Nat → Bool} {held : Bool} {r : Reach} {t e : TypeId} {n : Nat} {q : IntKind} {v : Value} {d : DataW H} {p : List MemPlace} (ht : P.underlying t = some (.array n e)) (he : P.underlying e = some (.int q)) (hce : P.cellsOf e = 1) (hct : P.cellsOf t = n)
  (hv : Value.okWide P w r b0 t v) (h : DataW.Trod enc P w base spare held t v d p) :
  ∃ zs : List Int, zs.length = n ∧ v = .agg (zs.map (.int q)).toArray ∧ d = .agg (zs.map fun z => .lit (.int q z)) ∧ p = [] ∧ ∀ z ∈ zs, (Lit.int q z).wf = true := by
 simp only [Value.okWide, ht] at hv
 obtain ⟨cs, rfl, hsz, _⟩ := hv
 obtain ⟨fuel, hf⟩ := h
 cases fuel with
 | zero => simp [DataW.trod] at hf
 | succ fuel =>
  simp only [DataW.trod, ht, hce, hct, Nat.mul_one, Value.cells] at hf
  split at hf
  ·rename_i hl
   obtain ⟨xs, hm, hx⟩ := Option.map_eq_some_iff.1 hf
   have key : ∀ (l : List Nat) (xs : List (DataW H × List MemPlace)), l.mapM (fun i => DataW.trod enc P w base spare held fuel e ((cs.toList.drop i).take 1)) = some xs →
     ∃ zs : List Int, zs.length = l.length ∧ (∀ j i, l[j]? = some i → ((cs.toList.drop i).take 1) = [Value.int q (zs.getD j 0)]) ∧ xs = zs.map (fun z => (.lit (.int q z), [])) ∧ ∀ z ∈ zs, (Lit.int q z).wf = true := by
    intro l
    induction l with
    | nil => intro xs h; simp at h; subst h; exact ⟨[], rfl, by simp, rfl, by simp⟩
    | cons i l ih =>
     intro xs h
     rw [List.mapM_cons] at h
     simp only [bind, Option.bind_eq_some_iff, pure, Option.some.injEq] at h
     obtain ⟨y, hy, ys, hys, rfl⟩ := h
     obtain ⟨zs, h1, h2, rfl, h4⟩ := ih ys hys
     obtain ⟨z, hz, rfl, hw⟩ := DataW.trod_int he hy
     refine ⟨z :: zs, by simp [h1], fun j i' hj => ?_, rfl, fun x hx => ?_⟩
     ·cases j with
      | zero => simp at hj; subst hj; simpa using hz
      | succ j => simp at hj; simpa using h2 j i' hj
     ·rcases List.mem_cons.1 hx with rfl | hx
      ·exact hw
      ·exact h4 x hx
   obtain ⟨zs, h1, h2, rfl, h4⟩ := key _ _ hm
   have hzn : zs.length = n := by simpa using h1
   simp only [Prod.mk.injEq] at hx
   refine ⟨zs, hzn, ?_, by rw [← hx.1]; simp [Function.comp_def], by rw [← hx.2]; simp [List.flatMap_eq_nil_iff], h4⟩
   congr 1
   apply Array.ext'
   simp only
   apply List.ext_getElem?
   intro i
   by_cases hi : i < n
   ·have h3 := h2 i i (by simp [hi])
    have h5 : cs.toList[i]? = some (.int q (zs.getD i 0)) := by
     have := congrArg (·[0]?) h3
     simpa [List.getElem?_take, List.getElem?_drop] using this
    have e1 : zs[i]? = some (zs.getD i 0) := by simp [List.getD, List.getElem?_eq_getElem (show i < zs.length by omega)]
    rw [h5, List.getElem?_map, e1]
    rfl
   ·rw [List.getElem?_eq_none (by omega), List.getElem?_eq_none (by simp; omega)]
  ·cases hf
end

theorem cells_u64 : Tryz.prog.cellsOf 28 = 1 := by kernel_rfl
theorem cells_wide : Tryz.prog.cellsOf 30 = 4 := by kernel_rfl
def wideD {H : Type} (z : Int) : DataW H := .agg [.lit (.int .u64 (wi z 0)), .lit (.int .u64 (wi z 1)), .lit (.int .u64 (wi z 2)), .lit (.int .u64 (wi z 3))]
theorem mm_u64 : IntKind.u64.min = 0 ∧ IntKind.u64.max = 18446744073709551615 := by decide
theorem mm_i64 : IntKind.i64.min = -9223372036854775808 ∧ IntKind.i64.max = 9223372036854775807 := by decide
theorem wf_u64 {z : Int} (h : (Lit.int .u64 z).wf = true) : 0 ≤ z ∧ z < 18446744073709551616 := by
 simp only [Lit.wf, Bool.and_eq_true, decide_eq_true_eq, mm_u64.1, mm_u64.2] at h; omega
theorem wf_i64 {z : Int} (h : (Lit.int .i64 z).wf = true) : i64 z := by
 simp only [Lit.wf, Bool.and_eq_true, decide_eq_true_eq, mm_i64.1, mm_i64.2] at h; unfold i64; omega
theorem words_of (w0 w1 w2 w3 : Int) (h0 : 0 ≤ w0 ∧ w0 < 18446744073709551616) (h1 : 0 ≤ w1 ∧ w1 < 18446744073709551616) (h2 : 0 ≤ w2 ∧ w2 < 18446744073709551616) (h3 : 0 ≤ w3 ∧ w3 < 18446744073709551616) :
  ∃ z, wr z ∧ wi z 0 = w0 ∧ wi z 1 = w1 ∧ wi z 2 = w2 ∧ wi z 3 = w3 := by
 refine ⟨w0 + 18446744073709551616 * w1 + 340282366920938463463374607431768211456 * w2 + 6277101735386680763835789423207666416102355444464034512896 * (if w3 < 9223372036854775808 then w3 else w3 - 18446744073709551616), ?_, ?_, ?_, ?_, ?_⟩
 ·unfold wr; split <;> omega
 all_goals (simp only [wi]; split <;> omega)
section
variable {H : Type} {enc : TypeId × Value → H} {w : World}
theorem open_wide {base b0 : Nat} {spare : Nat → Bool} {held : Bool} {r : Reach} {v : Value} {d : DataW H} {p : List MemPlace} (hv : Value.okWide Tryz.prog w r b0 30 v) (h : DataW.Trod enc Tryz.prog w base spare held 30 v d p) :
  ∃ z, wr z ∧ v = wd z ∧ d = wideD z ∧ p = [] := by
 obtain ⟨zs, hl, rfl, rfl, rfl, hw⟩ := open_ia Tryz.underlying30 Tryz.underlying28 cells_u64 cells_wide hv h
 match zs, hl with
 | [w0, w1, w2, w3], _ =>
  obtain ⟨z, hz, e0, e1, e2, e3⟩ := words_of w0 w1 w2 w3 (wf_u64 (hw _ (by simp))) (wf_u64 (hw _ (by simp))) (wf_u64 (hw _ (by simp))) (wf_u64 (hw _ (by simp)))
  exact ⟨z, hz, by simp [e0, e1, e2, e3], by simp [wideD, e0, e1, e2, e3], rfl⟩
end

theorem own : ownKnob Tryz.prog.godebug = none := by kernel_rfl
theorem heap_of_var {P : Program} {W : World} {name : String} {g : Nat} {cs : Array Value} {z : Array Value} {T : TypeId} (hg : P.globalNamed name = some g) (hlt : g < P.globals.size) (hrow : ((begin P (fun _ _ => 0) default).world.heap[g]?).bind Obj.row? = some (z, T))
  (hS : W.ShapedOpen P) (hv : W.var? P name = some cs) : W.heap[g]? = some (.cells cs T (0, 0)) := by
 obtain ⟨c, h1, _⟩ := hS.1 g z T hlt hrow
 unfold World.var? at hv
 rw [hg] at hv
 simp only [Option.bind_some, h1, Option.some.injEq] at hv
 rw [h1, hv]
theorem gLeast : Tryz.prog.globalNamed "gyre/quot.least" = some 1 := by kernel_rfl
theorem gLeastType : (Tryz.prog.globals[1]?).map (·.type) = some 30 := by kernel_rfl
theorem gLeastRow : ((begin Tryz.prog (fun _ _ => 0) default).world.heap[1]?).bind Obj.row? = some (#[.int .u64 0, .int .u64 0, .int .u64 0, .int .u64 0], 30) := by kernel_rfl
theorem least_of {W : World} {rest : List (String × DataW Unit)} (h : laidMet Tryz.prog (("gyre/quot.least", Proofs.YtfedlkjhfnlnbaaGreatDoor.Rows.laid_gyre_quot_least) :: rest) W) : W.var? Tryz.prog "gyre/quot.least" = some lsB.c :=
 Lib.tabIs_of_head (zs := [0, 0, 0, 9223372036854775808]) gLeast gLeastType Tryz.underlying30 Tryz.underlying28 cells_u64 cells_wide h
theorem cells_of_strs {H : Type} {enc : TypeId × Value → H} {P : Program} {w : World} {base : Nat} {sp : Nat → Bool} {held : Bool} {fuel : Nat} {t e : TypeId} {n : Nat} {cs : List Value} {ss : List (List UInt8)} {p : List MemPlace}
  (ht : P.underlying t = some (.array n e)) (he : P.underlying e = some .string) (hce : P.cellsOf e = 1) (hct : P.cellsOf t = n)
  (h : DataW.trod enc P w base sp held fuel t cs = some (.agg (ss.map fun s => .lit (.string s)), p)) : cs = ss.map fun s => Value.string ⟨s.toArray⟩ := by
 cases fuel with
 | zero => simp [DataW.trod] at h
 | succ fuel =>
  simp only [DataW.trod, ht, hce, hct, Nat.mul_one] at h
  split at h
  ·rename_i hl
   obtain ⟨xs, hm, hx⟩ := Option.map_eq_some_iff.1 h
   have hxs : xs.map (·.1) = ss.map fun s => (DataW.lit (.string s) : DataW H) := by
    have := congrArg Prod.fst hx
    simpa using this
   have hxl : xs.length = n := by simpa using Lib.mapM_length hm
   have hzl : ss.length = n := by
    have := congrArg List.length hxs
    simp at this
    omega
   apply List.ext_getElem?
   intro i
   by_cases hi : i < n
   ·obtain ⟨b, hb, hf⟩ := Lib.mapM_at hm i i (by simp [hi])
    obtain ⟨s, hc, rfl, _⟩ := DataW.trod_string he hf
    have h1 : cs[i]? = some (.string s) := by
     have := congrArg (·[0]?) hc
     simpa [List.getElem?_take, List.getElem?_drop] using this
    have h2 : (xs.map (·.1))[i]? = some (DataW.lit (.string s.data.toList) : DataW H) := by simp [hb]
    rw [hxs] at h2
    simp only [List.getElem?_map, Option.map_eq_some_iff, DataW.lit.injEq, Lit.string.injEq] at h2
    obtain ⟨z', hz', rfl⟩ := h2
    simp [h1, hz']
   ·rw [List.getElem?_eq_none (by omega), List.getElem?_eq_none (by simp; omega)]
  ·cases h
theorem gNames : Tryz.prog.globalNamed "gyre/conf.names" = some 0 := by kernel_rfl
theorem gNamesType : (Tryz.prog.globals[0]?).map (·.type) = some 123 := by kernel_rfl
theorem cells_str : Tryz.prog.cellsOf 9 = 1 := by kernel_rfl
theorem cells_names : Tryz.prog.cellsOf 123 = 7 := by kernel_rfl
theorem gNamesRow : ((begin Tryz.prog (fun _ _ => 0) default).world.heap[0]?).bind Obj.row? = some (#[.string ⟨#[]⟩, .string ⟨#[]⟩, .string ⟨#[]⟩, .string ⟨#[]⟩, .string ⟨#[]⟩, .string ⟨#[]⟩, .string ⟨#[]⟩], 123) := by kernel_rfl
theorem names_of {W : World} {rest : List (String × DataW Unit)} (h : laidMet Tryz.prog (("gyre/conf.names", Proofs.YtfedlkjhfnlnbaaGreatDoor.Rows.laid_gyre_conf_names) :: rest) W) : W.var? Tryz.prog "gyre/conf.names" = some cnB.c := by
 obtain ⟨ps, ⟨g', t', cs, fuel, p, q, hg', ht', hvar, hd, _, _⟩, _⟩ := h
 obtain rfl := Option.some.inj (gNames.symm.trans hg')
 obtain rfl := Option.some.inj (gNamesType.symm.trans ht')
 have h9 := cells_of_strs (ss := [[98, 111, 100, 105, 101, 115], [109, 97, 115, 115], [99, 111, 110, 115, 116, 97, 110, 116], [98, 111, 120], [116, 111, 112], [110, 101, 97, 114], [109, 101, 116, 104, 111, 100]]) Tryz.underlying123 Tryz.underlying9 cells_str cells_names hd
 rw [hvar]
 congr 1
 exact Array.ext' h9
theorem gok_both {W : World} (hS : W.ShapedOpen Tryz.prog) (h : laidMet Tryz.prog [("gyre/conf.names", Proofs.YtfedlkjhfnlnbaaGreatDoor.Rows.laid_gyre_conf_names), ("gyre/quot.least", Proofs.YtfedlkjhfnlnbaaGreatDoor.Rows.laid_gyre_quot_least)] W) : GOK G0 W := fun k b hk => by
 have h9 := G0_mem hk
 simp [G0L] at h9
 rcases h9 with ⟨rfl, rfl⟩ | ⟨rfl, rfl⟩
 ·exact heap_of_var gLeast (of_decide_eq_true (by kernel_rfl)) gLeastRow hS (least_of (laidMet.tail h))
 ·exact heap_of_var gNames (of_decide_eq_true (by kernel_rfl)) gNamesRow hS (names_of h)
theorem celln_int : Tryz.prog.cellsOf 3 = 1 := by kernel_rfl
theorem cells_vec : Tryz.prog.cellsOf 51 = 3 := by kernel_rfl
theorem cells_body : Tryz.prog.cellsOf 53 = 6 := by kernel_rfl
theorem cells_bodies : Tryz.prog.cellsOf 25 = 1 := by kernel_rfl
theorem cells_state : Tryz.prog.cellsOf 27 = 2 := by kernel_rfl
theorem ctypes_state : Tryz.prog.cellTypes Tryz.prog.depth 27 = some [3, 25] := by kernel_rfl
section
variable {H : Type} {enc : TypeId × Value → H} {w : World} {base : Nat} {spare : Nat → Bool} {held : Bool}
theorem vec_cells {fuel : Nat} {cs : List Value} {x : DataW H × List MemPlace} (h : DataW.trod enc Tryz.prog w base spare held fuel 51 cs = some x) : cs.length = 3 ∧ ∀ j, j < 3 → ∃ z, cs[j]? = some (.int .i64 z) ∧ i64 z := by
 obtain ⟨xs, m, _, rfl, hl, hxs, hi⟩ := DataW.trod_array Tryz.underlying51 h
 rw [cells_vec] at hl
 refine ⟨hl, fun j hj => ?_⟩
 have h1 := hi j hj
 rw [celln_int, Nat.mul_one, List.getElem?_eq_getElem (by omega)] at h1
 obtain ⟨z, e, _, hw⟩ := DataW.trod_int Tryz.underlying3 h1
 refine ⟨z, ?_, wf_i64 hw⟩
 have := congrArg (·[0]?) e
 simpa [List.getElem?_take, List.getElem?_drop] using this
theorem body_cells {fuel : Nat} {cs : List Value} {x : DataW H × List MemPlace} (h : DataW.trod enc Tryz.prog w base spare held fuel 53 cs = some x) : cs.length = 6 ∧ ∀ j, j < 6 → ∃ z, cs[j]? = some (.int .i64 z) ∧ i64 z := by
 obtain ⟨y0, y1, n, rfl, hl, h0, h1⟩ := trod_struct2 Tryz.underlying53 h
 rw [cells_body] at hl
 simp only [cells_vec] at h0 h1
 refine ⟨hl, fun j hj => ?_⟩
 by_cases c : j < 3
 ·obtain ⟨z, e, hz⟩ := (vec_cells h0).2 j c
  refine ⟨z, ?_, hz⟩
  simpa [List.getElem?_take, List.getElem?_drop, c] using e
 ·obtain ⟨z, e, hz⟩ := (vec_cells h1).2 (j - 3) (by omega)
  refine ⟨z, ?_, hz⟩
  rw [List.getElem?_take, if_pos (by omega), List.getElem?_drop, show 3 + (j - 3) = j by omega] at e
  exact e
theorem open_bodies {fuel : Nat} {cs : List Value} {x : DataW H × List MemPlace} (h : DataW.trod enc Tryz.prog w 0 (fun _ => true) held fuel 25 cs = some x) :
  cs = [.slice none 0 0] ∨ ∃ (a : Addr) (len cap : Nat) (f : Nat → Int), cs = [.slice (some a) len cap] ∧ len ≤ cap ∧ ∀ j, j < 6 * cap → w.cell? (a.add j) = some (.int .i64 (f j)) ∧ i64 (f j) := by
 rcases Deep.open_slice Tryz.underlying25 h with ⟨h0, _⟩ | ⟨a, len, cap, m, n, D, Pl, rfl, _, hlc, hcm, hm, _, hel⟩
 ·exact .inl h0
 right
 rw [if_pos rfl] at hm
 subst hm
 refine ⟨a, len, m, fun j => match w.cell? (a.add j) with | some (.int _ z) => z | _ => 0, rfl, hlc, fun j hj => ?_⟩
 obtain ⟨cs', h1, h2⟩ := hel (j / 6) (by omega)
 rw [cells_body] at h1
 obtain ⟨z, e, hz⟩ := (body_cells h2).2 (j % 6) (by omega)
 unfold World.cells? at h1
 rw [if_pos (Nat.zero_le _)] at h1
 have h3 := mapM_some_get h1 (j % 6) (j % 6) (List.getElem?_range (by omega))
 rw [e, Deep.add_add, show j / 6 * 6 + j % 6 = j by omega] at h3
 dsimp only
 rw [h3]
 exact ⟨rfl, hz⟩
theorem rowAt_uint {fits : TypeId → Bool} (h : fits 28 = false) (d c o n : Nat) : rowAt Tryz.prog fits d 28 c o n = false := by
 cases d with
 | zero => rfl
 | succ d => simp [rowAt, h, Tryz.underlying28]
theorem rowAt_wide {fits : TypeId → Bool} (h : fits 28 = false) (h2 : fits 30 = false) (d c o n : Nat) : rowAt Tryz.prog fits d 30 c o n = false := by
 cases d with
 | zero => rfl
 | succ d => simp [rowAt, h2, Tryz.underlying30, rowAt_uint h]
theorem lies_wide (d c o n : Nat) : liesAt Tryz.prog d 30 c o 53 n = false := by
 cases d with
 | zero => rfl
 | succ d =>
  unfold liesAt
  rw [rowAt_wide (by kernel_rfl) (by kernel_rfl), Tryz.underlying53]
  rfl
theorem rowAt_str {fits : TypeId → Bool} (h : fits 9 = false) (d c o n : Nat) : rowAt Tryz.prog fits d 9 c o n = false := by
 cases d with
 | zero => rfl
 | succ d => simp [rowAt, h, Tryz.underlying9]
theorem rowAt_names {fits : TypeId → Bool} (h : fits 9 = false) (h2 : fits 123 = false) (d c o n : Nat) : rowAt Tryz.prog fits d 123 c o n = false := by
 cases d with
 | zero => rfl
 | succ d => simp [rowAt, h2, Tryz.underlying123, rowAt_str h]
theorem lies_names (d c o n : Nat) : liesAt Tryz.prog d 123 c o 53 n = false := by
 cases d with
 | zero => rfl
 | succ d =>
  unfold liesAt
  rw [rowAt_names (by kernel_rfl) (by kernel_rfl), Tryz.underlying53]
  rfl
theorem G0_lies : ∀ p ∈ G0L, ∃ t, p.2.T = .ty t ∧ ∀ d c o n, liesAt Tryz.prog d t c o 53 n = false := by
 intro p hp
 unfold G0L at hp
 rcases List.mem_cons.1 hp with rfl | hp
 ·exact ⟨_, rfl, lies_wide⟩
 rcases List.mem_cons.1 hp with rfl | hp
 ·exact ⟨_, rfl, lies_names⟩
 cases hp
structure StAt (W : World) (k off n cap : Nat) (b : Blk) (f : Nat → Int) : Prop where
 le : n ≤ cap
 heap : W.heap[k]? = some b.obj0
 fx : b.fx
 raw : ∃ c T fr, b = ⟨c, .raw T fr⟩
 rd : rdI b off (6 * cap) f
 i6 : ∀ j, j < 6 * cap → i64 (f j)
 lies : ∃ row c, W.shape? k = some (row, c) ∧ liesAt Tryz.prog Tryz.prog.depth row (c / Tryz.prog.cellsOf row) off 53 cap = true
theorem StAt.sb {W : World} {k off n cap : Nat} {b : Blk} {f : Nat → Int} (h : StAt W k off n cap b f) (hn : n ≤ 2932031007402) : SB b off n f := ⟨h.rd.le (by have := h.le; omega), h.fx, fun j hj => h.i6 j (by have := h.le; omega), hn⟩
theorem open_state {r : Reach} {b0 : Nat} {v : Value} {d : DataW H} {p : List MemPlace} (hv : Value.okWide Tryz.prog w r b0 27 v) (h : DataW.Trod enc Tryz.prog w 0 (fun _ => true) held 27 v d p) :
  ∃ st, i64 st ∧ (v = .agg #[.int .i64 st, .slice none 0 0] ∨ ∃ (k off n cap : Nat) (b : Blk) (f : Nat → Int), v = .agg #[.int .i64 st, .slice (some ⟨k, off, none⟩) n cap] ∧ StAt w k off n cap b f) := by
 simp only [Value.okWide, Tryz.underlying27] at hv
 obtain ⟨cs, rfl, hsz, ts, hts, _, hall⟩ := hv
 rw [ctypes_state] at hts
 simp only [Option.some.injEq] at hts
 subst hts
 obtain ⟨fuel, hf⟩ := h
 obtain ⟨y0, y1, n, _, hl, h0, h1⟩ := trod_struct2 Tryz.underlying27 hf
 rw [celln_int] at h0
 rw [cells_bodies] at h1
 simp only [Value.cells] at h0 h1
 obtain ⟨st, e0, _, hw⟩ := DataW.trod_int Tryz.underlying3 h0
 rw [cells_state] at hsz
 obtain ⟨c0, c1, rfl⟩ : ∃ c0 c1, cs = #[c0, c1] := by
  obtain ⟨l⟩ := cs
  match l, hsz with
  | [c0, c1], _ => exact ⟨c0, c1, rfl⟩
 simp at e0
 subst e0
 refine ⟨st, wf_i64 hw, ?_⟩
 rcases open_bodies h1 with e1 | ⟨a, len, cap, f, e1, hle, hc⟩
 ·simp at e1
  subst e1
  exact .inl rfl
 ·simp at e1
  subst e1
  right
  obtain ⟨u, hu, hok⟩ := hall 1 _ rfl
  simp at hu
  subst hu
  simp only [Cell.okWide, Cell.ok, Tryz.underlying25] at hok
  obtain ⟨_, _, _, hsp, row, cells, hsh, hlies⟩ := hok
  obtain ⟨k, off, sp⟩ := a
  simp only at hsp hsh hlies
  subst hsp
  have hsh' := hsh
  unfold World.shape? at hsh'
  split at hsh'
  ·rename_i c T fr hh
   simp only [Option.some.injEq, Prod.mk.injEq] at hsh'
   obtain ⟨rfl, rfl⟩ := hsh'
   refine ⟨k, off, len, cap, ⟨c, .raw T fr⟩, f, rfl, hle, hh, trivial, ⟨c, T, fr, rfl⟩, fun j hj => ?_, fun j hj => (hc j hj).2, T, _, hsh, hlies⟩
   have h2 := (hc j hj).1
   rw [Addr.add_lit] at h2
   simpa [World.cell?, hh] using h2
  ·cases hsh'
end
theorem trodAll_stays {H : Type} {enc : TypeId × Value → H} {P : Program} {base : Nat} (hl : laidOutB P = true) {W W' : World} {sp' : Nat → Bool} : ∀ (ts : List TypeId) (vs : List Value) (ds : List (DataW H)) (ps : List MemPlace), (∀ t ∈ ts, P.readableRec t = true ∧ t < P.types.size) →
  DataW.TrodAll enc P W base (fun _ => true) true ts vs ds ps → (∀ p ∈ ps, W.sameAt W' p) → (∀ p ∈ ps, sp' p.block = true) → DataW.TrodAll enc P W' base sp' true ts vs ds ps
 | [], [], [], _, _, h, _, _ => h
 | t :: _, _ :: _, _ :: _, _, hT, ⟨p, q, h1, h2, e⟩, hm, hs => ⟨p, q, WideElems.Trod_stays hl (hT t (by simp)).1 (hT t (by simp)).2 h1 (fun x hx => hm x (by rw [e]; exact List.mem_append_left _ hx)) (fun x hx => hs x (by rw [e]; exact List.mem_append_left _ hx)),
   trodAll_stays hl _ _ _ _ (fun t ht => hT t (List.mem_cons_of_mem _ ht)) h2 (fun x hx => hm x (by rw [e]; exact List.mem_append_right _ hx)) (fun x hx => hs x (by rw [e]; exact List.mem_append_right _ hx)), e⟩
theorem laid_out : laidOutB Tryz.prog = true := by kernel_rfl
theorem bytes_body : Tryz.prog.bytesOf 53 = 48 := by kernel_rfl
theorem cap_le {H : Type} {enc : TypeId × Value → H} {w : World} {held : Bool} {st : Int} {a : Addr} {n cap : Nat} {d : DataW H} {p : List MemPlace} (h : DataW.Trod enc Tryz.prog w 0 (fun _ => true) held 27 (.agg #[.int .i64 st, .slice (some a) n cap]) d p) (hw : ∀ x ∈ d.weights Tryz.prog 27, x ≤ reachBytes) : cap ≤ 2932031007402 := by
 obtain ⟨fuel, hf⟩ := h
 obtain ⟨y0, y1, m, hx, hl, h0, h1⟩ := trod_struct2 Tryz.underlying27 hf
 rw [cells_bodies] at h1
 simp only [Value.cells] at h1
 rcases Deep.open_slice Tryz.underlying25 h1 with ⟨e1, _⟩ | ⟨a', len, cap', m', n', D, Pl, e1, _, hlc, hcm, hm, hy1, _⟩
 ·simp at e1
 ·simp at e1
  obtain ⟨rfl, rfl, rfl⟩ := e1
  rw [if_pos rfl] at hm
  subst hm
  simp only [Prod.mk.injEq] at hx
  have hd := hx.1
  rw [hd, hy1] at hw
  have := hw ((n + (m' - n)) * 48) (by
   simp only [DataW.weights, Tryz.underlying27]
   simp [DataW.weightsEach, DataW.weights, Tryz.underlying25, bytes_body])
  unfold reachBytes at this
  omega
theorem StAt.ne {W : World} {k off n cap : Nat} {b : Blk} {f : Nat → Int} (h : StAt W k off n cap b f) (hg : GOK G0 W) : ∀ g c, G0 g = some c → k ≠ g := fun g c hc e => by
 have h1 := hg g c hc
 obtain ⟨t, ht, hl'⟩ := G0_lies _ (G0_mem hc)
 obtain ⟨row, q, hsh, hl⟩ := h.lies
 rw [e] at hsh
 unfold World.shape? at hsh
 rw [h1] at hsh
 obtain ⟨cc, T⟩ := c
 simp only at ht
 subst ht
 simp only [Blk.obj0, Option.some.injEq, Prod.mk.injEq] at hsh
 obtain ⟨rfl, rfl⟩ := hsh
 rw [hl'] at hl
 cases hl
theorem fun_state {P : Program} {G : Hp} {fn : FuncId} {args : Array Value} {b : Blk} {v : Value} {W : World} {k : Nat} (hGF : GFlat G) (hF : Fun P G fn args (hpL G [(100, b)]) (keys [(100, b)]) (.ret v [])) (hv : flatV v = true) (hgok : GOK G W) (hfx : b.fx) (hk : W.heap[k]? = some b.obj0) (hne : ∀ g c, G g = some c → k ≠ g) :
  CallsS P fn (args.map (ren fun q => if q = 100 then k else q)) W fun e W' => e = .returned v ∧ Below W.heap.size W W' := by
 have er : rst (hpL G [(100, b)]) (keys [(100, b)]) = hpL G [(100, b)] := LOk.rst hGF
 have hobj : ∀ r, b.obj r = b.obj0 := fun r => by
  obtain ⟨c, T⟩ := b
  cases T with
  | ty t => exact Blk.obj_flat hfx
  | raw t fr => rfl
  | mp => exact hfx.elim
 have hmem : ∀ q c, hpL G [(100, b)] q = some c → (q = 100 ∧ c = b) ∨ (q < 100 ∧ G q = some c) := fun q c hq => by
  rcases hpL_mem hq with h | h
  ·simp at h; exact .inl h
  ·exact .inr ⟨(hGF q c h).1, h⟩
 have hrun := hF.run (fun q => if q = 100 then k else q) W hgok ?_ ?_ ?_
 ·refine hrun.mono fun e W' h => ?_
  obtain ⟨he, ht⟩ := h
  rw [flatV_ren hv] at he
  exact ⟨he, ht.os, ht.tape, ht.output, ht.size, fun q hq => ht.same q hq (by simp)⟩
 ·rw [er]
  intro q c hq
  rcases hmem q c hq with ⟨rfl, rfl⟩ | ⟨hlt, hG⟩
  ·exact ⟨by simp only [if_true]; rw [hobj]; exact hk, Blk.fx_ids hfx _⟩
  ·refine ⟨?_, Blk.flat_ids (hGF q c hG).2⟩
   have e1 : (fun q => if q = 100 then k else q) q = q := if_neg (by omega)
   rw [e1, hgok q c hG]
   congr 1
   obtain ⟨cc, T⟩ := c
   cases T with
   | ty t => exact (Blk.obj_flat (hGF q _ hG).2).symm
   | raw t fr => rfl
   | mp => exact (Blk.obj_flat (hGF q _ hG).2).symm
 ·rw [er]
  intro q q' hq hq' e
  have e : (if q = 100 then k else q) = if q' = 100 then k else q' := e
  unfold dom at hq hq'
  cases h1 : hpL G [(100, b)] q with
  | none => exact absurd h1 hq
  | some c =>
   cases h2 : hpL G [(100, b)] q' with
   | none => exact absurd h2 hq'
   | some c' =>
    rcases hmem q c h1 with ⟨rfl, _⟩ | ⟨hlt, hG⟩ <;> rcases hmem q' c' h2 with ⟨rfl, _⟩ | ⟨hlt', hG'⟩
    ·rfl
    ·rw [if_pos rfl, if_neg (by omega)] at e; exact absurd e (hne _ _ hG')
    ·rw [if_neg (by omega), if_pos rfl] at e; exact absurd e.symm (hne _ _ hG)
    ·rw [if_neg (by omega), if_neg (by omega)] at e; exact e
 ·intro q hq _
  exact if_neg (by omega)
section
variable {H : Type} {enc : TypeId × Value → H} {w : World} {base : Nat} {spare : Nat → Bool} {held : Bool}
end
theorem raw_same {W : World} {k : Nat} {b b' : Blk} (h : W.heap[k]? = some b.obj0) (h' : W.heap[k]? = some b'.obj0) (r : ∃ c T fr, b = ⟨c, .raw T fr⟩) (r' : ∃ c T fr, b' = ⟨c, .raw T fr⟩) : b = b' := by
 obtain ⟨c, T, fr, rfl⟩ := r
 obtain ⟨c', T', fr', rfl⟩ := r'
 rw [h] at h'
 simp only [Blk.obj0, Option.some.injEq, Obj.cells.injEq] at h'
 obtain ⟨rfl, rfl, rfl⟩ := h'
 rfl
theorem fun_L {P : Program} {G : Hp} {fn : FuncId} {args : Array Value} {L : List (Nat × Blk)} {v : Value} {W : World} (r : Nat → Nat) (hGF : GFlat G) (hF : Fun P G fn args (hpL G L) (keys L) (.ret v [])) (hv : flatV v = true) (hgok : GOK G W) (hL : LOk L 200) (hfx : ∀ p ∈ L, p.2.fx)
  (hr : ∀ p ∈ L, W.heap[r p.1]? = some p.2.obj0) (hne : ∀ p ∈ L, ∀ g c, G g = some c → r p.1 ≠ g) (hinj : ∀ p ∈ L, ∀ q ∈ L, r p.1 = r q.1 → p.1 = q.1) (hlow : ∀ q, q < 100 → r q = q) :
  CallsS P fn (args.map (ren r)) W fun e W' => e = .returned v ∧ Below W.heap.size W W' := by
 have er : rst (hpL G L) (keys L) = hpL G L := LOk.rst hGF
 have hobj : ∀ (b : Blk), b.fx → ∀ r, b.obj r = b.obj0 := fun b hb r => by
  obtain ⟨c, T⟩ := b
  cases T with
  | ty t => exact Blk.obj_flat hb
  | raw t fr => rfl
  | mp => exact hb.elim
 have hmem : ∀ q c, hpL G L q = some c → (q, c) ∈ L ∨ (q < 100 ∧ G q = some c) := fun q c hq => by
  rcases hpL_mem hq with h | h
  ·exact .inl h
  ·exact .inr ⟨(hGF q c h).1, h⟩
 have hrun := hF.run r W hgok ?_ ?_ ?_
 ·refine hrun.mono fun e W' h => ?_
  obtain ⟨he, ht⟩ := h
  rw [flatV_ren hv] at he
  exact ⟨he, ht.os, ht.tape, ht.output, ht.size, fun q hq => ht.same q hq (by simp)⟩
 ·rw [er]
  intro q c hq
  rcases hmem q c hq with h | ⟨hlt, hG⟩
  ·exact ⟨by rw [hobj c (hfx _ h)]; exact hr _ h, Blk.fx_ids (hfx _ h) _⟩
  ·refine ⟨?_, Blk.flat_ids (hGF q c hG).2⟩
   rw [hlow q hlt, hgok q c hG]
   congr 1
   obtain ⟨cc, T⟩ := c
   cases T with
   | ty t => exact (Blk.obj_flat (hGF q _ hG).2).symm
   | raw t fr => rfl
   | mp => exact (Blk.obj_flat (hGF q _ hG).2).symm
 ·rw [er]
  intro q q' hq hq' e
  unfold dom at hq hq'
  cases h1 : hpL G L q with
  | none => exact absurd h1 hq
  | some c =>
   cases h2 : hpL G L q' with
   | none => exact absurd h2 hq'
   | some c' =>
    rcases hmem q c h1 with h | ⟨hlt, hG⟩ <;> rcases hmem q' c' h2 with h' | ⟨hlt', hG'⟩
    ·exact hinj _ h _ h' e
    ·rw [hlow q' hlt'] at e; exact absurd e (hne _ h _ _ hG')
    ·rw [hlow q hlt] at e; exact absurd e.symm (hne _ h' _ _ hG)
    ·rw [hlow q hlt, hlow q' hlt'] at e; exact e
 ·intro q hq _
  exact hlow q hq
def nmL (k k2 q : Nat) : Nat := if q = 100 then k else if q = 108 then k2 else q
theorem nmL_low (k k2 q : Nat) (h : q < 100) : nmL k k2 q = q := by
 unfold nmL
 rw [if_neg (by omega), if_neg (by omega)]
@[simp] theorem nmL_a (k k2 : Nat) : nmL k k2 100 = k := by simp [nmL]
@[simp] theorem nmL_b (k k2 : Nat) : nmL k k2 108 = k2 := by simp [nmL]
theorem fun_two {P : Program} {G : Hp} {fn : FuncId} {args : Nat → Array Value} {b b2 : Blk} {v : Value} {W : World} {k k2 : Nat} (hGF : GFlat G) (hF : ∀ L ks, LTwo G L ks b b2 → Fun P G fn (args ks) (hpL G L) (keys L) (.ret v [])) (hv : flatV v = true) (hgok : GOK G W)
  (h1 : b.fx) (h2 : b2.fx) (w1 : W.heap[k]? = some b.obj0) (w2 : W.heap[k2]? = some b2.obj0) (r1 : ∃ c T fr, b = ⟨c, .raw T fr⟩) (r2 : ∃ c T fr, b2 = ⟨c, .raw T fr⟩) (n1 : ∀ g c, G g = some c → k ≠ g) (n2 : ∀ g c, G g = some c → k2 ≠ g) {args' : Array Value}
  (ha : ∀ ks, ks = 100 ∧ k = k2 ∨ ks = 108 → (args ks).map (ren (nmL k k2)) = args') : CallsS P fn args' W fun e W' => e = .returned v ∧ Below W.heap.size W W' := by
 by_cases e : k = k2
 ·subst e
  obtain rfl := raw_same w1 w2 r1 r2
  have := fun_L (nmL k k) hGF (hF _ _ (LTwo.one h1)) hv hgok (LTwo.one (G := G) h1).ok (LTwo.one (G := G) h1).fx (by simp [w1]) (by simp; exact n1) (by simp) (nmL_low k k)
  rwa [ha 100 (.inl ⟨rfl, rfl⟩)] at this
 ·have := fun_L (nmL k k2) hGF (hF _ _ (LTwo.two h1 h2)) hv hgok (LTwo.two (G := G) h1 h2).ok (LTwo.two (G := G) h1 h2).fx (by simp [w1, w2]) (by simp; exact ⟨n1, n2⟩) (by simp; exact ⟨fun h => e h, fun h => e h.symm⟩) (nmL_low k k2)
  rwa [ha 108 (.inr rfl)] at this
theorem cells_ints : Tryz.prog.cellsOf 22 = 1 := by kernel_rfl
theorem cells_conf : Tryz.prog.cellsOf 24 = 6 := by kernel_rfl
theorem ctypes_conf : Tryz.prog.cellTypes Tryz.prog.depth 24 = some [22, 3, 3, 3, 3, 3] := by kernel_rfl
theorem bytes_int : Tryz.prog.bytesOf 3 = 8 := by kernel_rfl
theorem lies_namesI (d c o n : Nat) : liesAt Tryz.prog d 123 c o 3 n = false := by
 cases d with
 | zero => rfl
 | succ d =>
  unfold liesAt
  rw [rowAt_names (by kernel_rfl) (by kernel_rfl), Tryz.underlying3]
  rfl
theorem lies_wideI (d c o n : Nat) : liesAt Tryz.prog d 30 c o 3 n = false := by
 cases d with
 | zero => rfl
 | succ d =>
  unfold liesAt
  rw [rowAt_wide (by kernel_rfl) (by kernel_rfl), Tryz.underlying3]
  rfl
theorem G0_liesI : ∀ p ∈ G0L, ∃ t, p.2.T = .ty t ∧ ∀ d c o n, liesAt Tryz.prog d t c o 3 n = false := by
 intro p hp
 unfold G0L at hp
 rcases List.mem_cons.1 hp with rfl | hp
 ·exact ⟨_, rfl, lies_wideI⟩
 rcases List.mem_cons.1 hp with rfl | hp
 ·exact ⟨_, rfl, lies_namesI⟩
 cases hp
structure CfAt (W : World) (k off n cap : Nat) (b : Blk) (f : Nat → Int) : Prop where
 le : n ≤ cap
 heap : W.heap[k]? = some b.obj0
 fx : b.fx
 raw : ∃ c T fr, b = ⟨c, .raw T fr⟩
 rd : rdI b off cap f
 i6 : ∀ j, j < cap → i64 (f j)
 lies : ∃ row c, W.shape? k = some (row, c) ∧ liesAt Tryz.prog Tryz.prog.depth row (c / Tryz.prog.cellsOf row) off 3 cap = true
theorem CfAt.mb {W : World} {k off n cap : Nat} {b : Blk} {f : Nat → Int} (h : CfAt W k off n cap b f) (hn : n ≤ 17592186044416) : MB b off n f := ⟨h.rd.le h.le, h.fx, fun j hj => h.i6 j (Nat.lt_of_lt_of_le hj h.le), hn⟩
theorem CfAt.ne {W : World} {k off n cap : Nat} {b : Blk} {f : Nat → Int} (h : CfAt W k off n cap b f) (hg : GOK G0 W) : ∀ g c, G0 g = some c → k ≠ g := fun g c hc e => by
 have h1 := hg g c hc
 obtain ⟨t, ht, hl'⟩ := G0_liesI _ (G0_mem hc)
 obtain ⟨row, q, hsh, hl⟩ := h.lies
 rw [e] at hsh
 unfold World.shape? at hsh
 rw [h1] at hsh
 obtain ⟨cc, T⟩ := c
 simp only at ht
 subst ht
 simp only [Blk.obj0, Option.some.injEq, Prod.mk.injEq] at hsh
 obtain ⟨rfl, rfl⟩ := hsh
 rw [hl'] at hl
 cases hl
section
variable {H : Type} {enc : TypeId × Value → H} {w : World} {held : Bool}
theorem trod_struct6 {P : Program} {base : Nat} {spare : Nat → Bool} {t : TypeId} {f0 f1 f2 f3 f4 f5 : Field} {fuel : Nat} {cs : List Value} {x : DataW H × List MemPlace} (ht : P.underlying t = some (.struct #[f0, f1, f2, f3, f4, f5])) (h : DataW.trod enc P w base spare held fuel t cs = some x) :
  ∃ y0 y1 y2 y3 y4 y5 n, x.1 = .agg [y0.1, y1.1, y2.1, y3.1, y4.1, y5.1] ∧ DataW.trod enc P w base spare held n f0.type ((cs.drop f0.offset).take (P.cellsOf f0.type)) = some y0 ∧ DataW.trod enc P w base spare held n f1.type ((cs.drop f1.offset).take (P.cellsOf f1.type)) = some y1 ∧
   DataW.trod enc P w base spare held n f2.type ((cs.drop f2.offset).take (P.cellsOf f2.type)) = some y2 ∧ DataW.trod enc P w base spare held n f3.type ((cs.drop f3.offset).take (P.cellsOf f3.type)) = some y3 ∧ DataW.trod enc P w base spare held n f4.type ((cs.drop f4.offset).take (P.cellsOf f4.type)) = some y4 ∧ DataW.trod enc P w base spare held n f5.type ((cs.drop f5.offset).take (P.cellsOf f5.type)) = some y5 := by
 obtain ⟨xs, n, _, hx, hl, hlen, hf⟩ := DataW.trod_struct ht h
 match xs, hlen with
 | [y0, y1, y2, y3, y4, y5], _ => exact ⟨y0, y1, y2, y3, y4, y5, n, by rw [hx]; rfl, by simpa using hf 0 f0 rfl, by simpa using hf 1 f1 rfl, by simpa using hf 2 f2 rfl, by simpa using hf 3 f3 rfl, by simpa using hf 4 f4 rfl, by simpa using hf 5 f5 rfl⟩
theorem trod_conf {fuel : Nat} {cs : List Value} {x : DataW H × List MemPlace} (h : DataW.trod enc Tryz.prog w 0 (fun _ => true) held fuel 24 cs = some x) :
  ∃ y0 y1 y2 y3 y4 y5 n, x.1 = .agg [y0.1, y1.1, y2.1, y3.1, y4.1, y5.1] ∧ DataW.trod enc Tryz.prog w 0 (fun _ => true) held n 22 ((cs.drop 0).take 1) = some y0 ∧ DataW.trod enc Tryz.prog w 0 (fun _ => true) held n 3 ((cs.drop 1).take 1) = some y1 ∧ DataW.trod enc Tryz.prog w 0 (fun _ => true) held n 3 ((cs.drop 2).take 1) = some y2 ∧
   DataW.trod enc Tryz.prog w 0 (fun _ => true) held n 3 ((cs.drop 3).take 1) = some y3 ∧ DataW.trod enc Tryz.prog w 0 (fun _ => true) held n 3 ((cs.drop 4).take 1) = some y4 ∧ DataW.trod enc Tryz.prog w 0 (fun _ => true) held n 3 ((cs.drop 5).take 1) = some y5 := by
 obtain ⟨y0, y1, y2, y3, y4, y5, n, hx, f0, f1, f2, f3, f4, f5⟩ := trod_struct6 Tryz.underlying24 h
 rw [cells_ints] at f0
 rw [celln_int] at f1 f2 f3 f4 f5
 exact ⟨y0, y1, y2, y3, y4, y5, n, hx, f0, f1, f2, f3, f4, f5⟩
theorem open_conf {r : Reach} {b0 : Nat} {v : Value} {d : DataW H} {p : List MemPlace} (hv : Value.okWide Tryz.prog w r b0 24 v) (h : DataW.Trod enc Tryz.prog w 0 (fun _ => true) held 24 v d p) :
  ∃ g bx tp nr md, i64 g ∧ i64 bx ∧ i64 tp ∧ i64 nr ∧ i64 md ∧ (v = cfV (.slice none 0 0) g bx tp nr md ∨ ∃ (k off n cap : Nat) (b : Blk) (f : Nat → Int), v = cfV (.slice (some ⟨k, off, none⟩) n cap) g bx tp nr md ∧ CfAt w k off n cap b f) := by
 simp only [Value.okWide, Tryz.underlying24] at hv
 obtain ⟨cs, rfl, hsz, ts, hts, _, hall⟩ := hv
 rw [ctypes_conf] at hts
 simp only [Option.some.injEq] at hts
 subst hts
 obtain ⟨fuel, hf⟩ := h
 obtain ⟨y0, y1, y2, y3, y4, y5, n, _, h0, h1, h2, h3, h4, h5⟩ := trod_conf hf
 simp only [Value.cells] at h0 h1 h2 h3 h4 h5
 obtain ⟨g, e1, _, w1⟩ := DataW.trod_int Tryz.underlying3 h1
 obtain ⟨bx, e2, _, w2⟩ := DataW.trod_int Tryz.underlying3 h2
 obtain ⟨tp, e3, _, w3⟩ := DataW.trod_int Tryz.underlying3 h3
 obtain ⟨nr, e4, _, w4⟩ := DataW.trod_int Tryz.underlying3 h4
 obtain ⟨md, e5, _, w5⟩ := DataW.trod_int Tryz.underlying3 h5
 rw [cells_conf] at hsz
 obtain ⟨c0, c1, c2, c3, c4, c5, rfl⟩ : ∃ c0 c1 c2 c3 c4 c5, cs = #[c0, c1, c2, c3, c4, c5] := by
  obtain ⟨l⟩ := cs
  match l, hsz with
  | [c0, c1, c2, c3, c4, c5], _ => exact ⟨c0, c1, c2, c3, c4, c5, rfl⟩
 simp at e1 e2 e3 e4 e5
 subst e1 e2 e3 e4 e5
 refine ⟨g, bx, tp, nr, md, wf_i64 w1, wf_i64 w2, wf_i64 w3, wf_i64 w4, wf_i64 w5, ?_⟩
 rcases open_ints Tryz.underlying22 Tryz.underlying3 celln_int h0 with ⟨e0, _⟩ | ⟨a, len, cap, zs, e0, _, hle, _, hzl, _, hc, hw⟩
 ·simp at e0
  subst e0
  exact .inl rfl
 ·simp at e0
  subst e0
  right
  rw [if_pos rfl] at hzl
  obtain ⟨u, hu, hok⟩ := hall 0 _ rfl
  simp at hu
  subst hu
  simp only [Cell.okWide, Cell.ok, Tryz.underlying22] at hok
  obtain ⟨_, _, _, hsp, row, cells, hsh, hlies⟩ := hok
  obtain ⟨k, off, sp⟩ := a
  simp only at hsp hsh hlies
  subst hsp
  have hsh' := hsh
  unfold World.shape? at hsh'
  split at hsh'
  ·rename_i c T fr hh
   simp only [Option.some.injEq, Prod.mk.injEq] at hsh'
   obtain ⟨rfl, rfl⟩ := hsh'
   refine ⟨k, off, len, cap, ⟨c, .raw T fr⟩, fun j => zs.getD j 0, rfl, hle, hh, trivial, ⟨c, T, fr, rfl⟩, fun j hj => ?_, fun j hj => ?_, T, _, hsh, hlies⟩
   ·have h2 := hc j (by omega)
    rw [Addr.add_lit] at h2
    simpa [World.cell?, hh] using h2
   ·have hjz : j < zs.length := by omega
    exact wf_i64 (hw _ (by simp [List.getD, List.getElem?_eq_getElem hjz]))
  ·cases hsh'
theorem cap_leC {g bx tp nr md : Int} {a : Addr} {n cap : Nat} {d : DataW H} {p : List MemPlace} (h : DataW.Trod enc Tryz.prog w 0 (fun _ => true) held 24 (cfV (.slice (some a) n cap) g bx tp nr md) d p) (hw : ∀ x ∈ d.weights Tryz.prog 24, x ≤ reachBytes) : cap ≤ 17592186044416 := by
 obtain ⟨fuel, hf⟩ := h
 obtain ⟨y0, y1, y2, y3, y4, y5, m, hx, h0, _⟩ := trod_conf hf
 simp only [cfV, Value.cells] at h0
 rcases Deep.open_slice Tryz.underlying22 h0 with ⟨e1, _⟩ | ⟨a', len, cap', m', n', D, Pl, e1, _, hlc, hcm, hm, hy1, _⟩
 ·simp at e1
 ·simp at e1
  obtain ⟨rfl, rfl, rfl⟩ := e1
  rw [if_pos rfl] at hm
  subst hm
  rw [show d = _ from hx, hy1] at hw
  have := hw ((n + (m' - n)) * 8) (by
   simp only [DataW.weights, Tryz.underlying24]
   simp [DataW.weightsEach, DataW.weights, Tryz.underlying22, bytes_int])
  unfold reachBytes at this
  omega
end
theorem cells_span : Tryz.prog.cellsOf 32 = 8 := by kernel_rfl
section
variable {H : Type} {enc : TypeId × Value → H} {w : World} {base : Nat} {spare : Nat → Bool} {held : Bool}
theorem wide_cells {fuel : Nat} {cs : List Value} {x : DataW H × List MemPlace} (h : DataW.trod enc Tryz.prog w base spare held fuel 30 cs = some x) : cs.length = 4 ∧ ∀ j, j < 4 → ∃ z, cs[j]? = some (.int .u64 z) ∧ 0 ≤ z ∧ z < 18446744073709551616 := by
 obtain ⟨xs, m, _, rfl, hl, hxs, hi⟩ := DataW.trod_array Tryz.underlying30 h
 rw [cells_wide] at hl
 refine ⟨hl, fun j hj => ?_⟩
 have h1 := hi j hj
 rw [cells_u64, Nat.mul_one, List.getElem?_eq_getElem (by omega)] at h1
 obtain ⟨z, e, _, hw⟩ := DataW.trod_int Tryz.underlying28 h1
 refine ⟨z, ?_, wf_u64 hw⟩
 have := congrArg (·[0]?) e
 simpa [List.getElem?_take, List.getElem?_drop] using this
theorem wide_of {cs : List Value} (hl : cs.length = 4) (h : ∀ j, j < 4 → ∃ z, cs[j]? = some (.int .u64 z) ∧ 0 ≤ z ∧ z < 18446744073709551616) : ∃ z, cs = [.int .u64 (wi z 0), .int .u64 (wi z 1), .int .u64 (wi z 2), .int .u64 (wi z 3)] := by
 obtain ⟨a, ea, ha⟩ := h 0 (by omega)
 obtain ⟨b, eb, hb⟩ := h 1 (by omega)
 obtain ⟨c, ec, hc⟩ := h 2 (by omega)
 obtain ⟨d, ed, hd⟩ := h 3 (by omega)
 obtain ⟨z, _, e0, e1, e2, e3⟩ := words_of a b c d ha hb hc hd
 refine ⟨z, ?_⟩
 rw [e0, e1, e2, e3]
 match cs, hl with
 | [x0, x1, x2, x3], _ =>
  simp at ea eb ec ed
  rw [ea, eb, ec, ed]
theorem open_span {r : Reach} {b0 : Nat} {v : Value} {d : DataW H} {p : List MemPlace} (hv : Value.okWide Tryz.prog w r b0 32 v) (h : DataW.Trod enc Tryz.prog w base spare held 32 v d p) : ∃ lo hi, v = spV lo hi := by
 simp only [Value.okWide, Tryz.underlying32] at hv
 obtain ⟨cs, rfl, hsz, _⟩ := hv
 obtain ⟨fuel, hf⟩ := h
 obtain ⟨y0, y1, n, _, hl, h0, h1⟩ := trod_struct2 Tryz.underlying32 hf
 simp only [cells_wide, Value.cells] at h0 h1
 rw [cells_span] at hsz
 obtain ⟨l0, w0⟩ := wide_cells h0
 obtain ⟨l1, w1⟩ := wide_cells h1
 obtain ⟨lo, e0⟩ := wide_of l0 w0
 obtain ⟨hi, e1⟩ := wide_of l1 w1
 refine ⟨lo, hi, ?_⟩
 obtain ⟨c0, c1, c2, c3, c4, c5, c6, c7, rfl⟩ : ∃ c0 c1 c2 c3 c4 c5 c6 c7, cs = #[c0, c1, c2, c3, c4, c5, c6, c7] := by
  obtain ⟨l⟩ := cs
  match l, hsz with
  | [c0, c1, c2, c3, c4, c5, c6, c7], _ => exact ⟨c0, c1, c2, c3, c4, c5, c6, c7, rfl⟩
 simp at e0 e1
 obtain ⟨rfl, rfl, rfl, rfl⟩ := e0
 obtain ⟨rfl, rfl, rfl, rfl⟩ := e1
 rfl
end
end Go.Gy
