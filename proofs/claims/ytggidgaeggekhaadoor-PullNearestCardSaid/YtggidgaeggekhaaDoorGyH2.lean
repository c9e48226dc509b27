/-
  From contracts to the statements: two variables of the package; points.
  Conditions: none beyond the hypotheses of each theorem.
-/
import Derived.Test.YtggidgaeggekhaaDoorGyH
import Derived.Test.YtggidgaeggekhaaDoorGyU1
import Derived.Stop.LaidErr
namespace Go.Gy
set_option linter.unusedSimpArgs false
set_option linter.unusedVariables false
set_option maxRecDepth 100000
open Go Go.RowKit Go.Proofs Go.ChangeShapes Go.WideShapes Go.ChangeAt
theorem cells_i64 : Tryd.prog.cellsOf 3 = 1 := by kernel_rfl
theorem cells_vec : Tryd.prog.cellsOf 41 = 3 := by kernel_rfl
theorem cells_lim : Tryd.prog.cellsOf 86 = 2 := by kernel_rfl
theorem cells_lims : Tryd.prog.cellsOf 87 = 12 := by kernel_rfl
section
variable {H : Type} {enc : TypeId × Value → H} {w : World}
theorem open_vec {base b0 : Nat} {spare : Nat → Bool} {held : Bool} {r : Reach} {v : Value} {d : DataW H} {p : List MemPlace} (hv : Value.okWide Tryd.prog w r b0 41 v) (h : DataW.Trod enc Tryd.prog w base spare held 41 v d p) :
    ∃ x y z, (Lit.int .i64 x).wf = true ∧ (Lit.int .i64 y).wf = true ∧ (Lit.int .i64 z).wf = true ∧ v = .agg #[.int .i64 x, .int .i64 y, .int .i64 z] ∧ d = .agg [.lit (.int .i64 x), .lit (.int .i64 y), .lit (.int .i64 z)] ∧ p = [] := by
  obtain ⟨zs, hl, rfl, rfl, rfl, hw⟩ := open_ia Tryd.underlying41 Tryd.underlying3 cells_i64 cells_vec hv h
  match zs, hl with
  | [x, y, z], _ => exact ⟨x, y, z, hw _ (by simp), hw _ (by simp), hw _ (by simp), by simp, by simp, rfl⟩
theorem shut_vec {base : Nat} {spare : Nat → Bool} {held : Bool} (x y z : Int) (hx : (Lit.int .i64 x).wf = true) (hy : (Lit.int .i64 y).wf = true) (hz : (Lit.int .i64 z).wf = true) : DataW.Trod enc Tryd.prog w base spare held 41 (.agg #[.int .i64 x, .int .i64 y, .int .i64 z]) (.agg [.lit (.int .i64 x), .lit (.int .i64 y), .lit (.int .i64 z)]) [] :=
  shut_ia (zs := [x, y, z]) Tryd.underlying41 Tryd.underlying3 cells_i64 cells_vec rfl (by simp [hx, hy, hz])
theorem pair_of {base fuel : Nat} {spare : Nat → Bool} {held : Bool} {cs : List Value} {a b : Int} {p : List MemPlace} (h : DataW.trod enc Tryd.prog w base spare held fuel 86 cs = some (.agg [.lit (.int .i64 a), .lit (.int .i64 b)], p)) : cs = [.int .i64 a, .int .i64 b] := by
  cases fuel with
  | zero => simp [DataW.trod] at h
  | succ fuel =>
    simp only [DataW.trod, Tryd.underlying86, cells_lim] at h
    split at h
    · rename_i hl
      obtain ⟨xs, hm, hx⟩ := Option.map_eq_some_iff.1 h
      have hx1 := congrArg Prod.fst hx
      simp only [DataW.agg.injEq] at hx1
      match cs, hl with
      | [c0, c1], _ =>
        have h0 := Lib.mapM_at hm 0 _ rfl
        have h1 := Lib.mapM_at hm 1 _ rfl
        obtain ⟨y0, hy0, hf0⟩ := h0
        obtain ⟨y1, hy1, hf1⟩ := h1
        obtain ⟨z0, hc0, rfl, _⟩ := DataW.trod_int Tryd.underlying3 hf0
        obtain ⟨z1, hc1, rfl, _⟩ := DataW.trod_int Tryd.underlying3 hf1
        have e0 : (xs.map (·.1))[0]? = some (DataW.lit (.int .i64 z0) : DataW H) := by simp [hy0]
        have e1 : (xs.map (·.1))[1]? = some (DataW.lit (.int .i64 z1) : DataW H) := by simp [hy1]
        rw [hx1] at e0 e1
        simp at e0 e1
        subst e0 e1
        have q0 : [c0] = [Value.int .i64 a] := hc0
        have q1 : [c1] = [Value.int .i64 b] := hc1
        simp at q0 q1
        rw [q0, q1]
    · cases h
theorem lims_of {base fuel : Nat} {spare : Nat → Bool} {held : Bool} {cs : List Value} {p : List MemPlace} (h : DataW.trod enc Tryd.prog w base spare held fuel 87 cs = some (Proofs.YtggidgaeggekhaaDoor.Rows.laid_gyre_pull_limits, p)) : cs = lmB.c.toList := by
  cases fuel with
  | zero => simp [DataW.trod] at h
  | succ fuel =>
    simp only [DataW.trod, Tryd.underlying87, cells_lims, cells_lim] at h
    split at h
    · rename_i hl
      obtain ⟨xs, hm, hx⟩ := Option.map_eq_some_iff.1 h
      have hx1 := congrArg Prod.fst hx
      simp only [Proofs.YtggidgaeggekhaaDoor.Rows.laid_gyre_pull_limits, DataW.agg.injEq] at hx1
      have key : ∀ (i : Nat) (a b : Int), i < 6 → ([DataW.agg [.lit (.int .i64 (-2097152)), .lit (.int .i64 2097152)], .agg [.lit (.int .i64 1), .lit (.int .i64 2097152)], .agg [.lit (.int .i64 1), .lit (.int .i64 1048576)], .agg [.lit (.int .i64 1), .lit (.int .i64 1024)], .agg [.lit (.int .i64 (-2097152)), .lit (.int .i64 2097152)], .agg [.lit (.int .i64 0), .lit (.int .i64 13194139533312)]] : List (DataW H))[i]? = some (.agg [.lit (.int .i64 a), .lit (.int .i64 b)]) →
          (cs.drop (i * 2)).take 2 = [.int .i64 a, .int .i64 b] := fun i a b hi hab => by
        obtain ⟨y, hy, hf⟩ := Lib.mapM_at hm i i (by simp [hi])
        have e : (xs.map (·.1))[i]? = some y.1 := by simp [hy]
        rw [hx1, hab] at e
        simp only [Option.some.injEq] at e
        obtain ⟨y1, y2⟩ := y
        simp only at e
        subst e
        exact pair_of hf
      have k0 := key 0 _ _ (by omega) rfl
      have k1 := key 1 _ _ (by omega) rfl
      have k2 := key 2 _ _ (by omega) rfl
      have k3 := key 3 _ _ (by omega) rfl
      have k4 := key 4 _ _ (by omega) rfl
      have k5 := key 5 _ _ (by omega) rfl
      match cs, hl with
      | [c0, c1, c2, c3, c4, c5, c6, c7, c8, c9, c10, c11], _ =>
        simp at k0 k1 k2 k3 k4 k5
        simp [lmB, k0, k1, k2, k3, k4, k5]
    · cases h
end
theorem gLims : Tryd.prog.globalNamed "gyre/pull.limits" = some 0 := by kernel_rfl
theorem gLimsType : (Tryd.prog.globals[0]?).map (·.type) = some 87 := by kernel_rfl
theorem gLimsRow : ((begin Tryd.prog (fun _ _ => 0) default).world.heap[0]?).bind Obj.row? = some (#[.int .i64 0, .int .i64 0, .int .i64 0, .int .i64 0, .int .i64 0, .int .i64 0, .int .i64 0, .int .i64 0, .int .i64 0, .int .i64 0, .int .i64 0, .int .i64 0], 87) := by kernel_rfl
theorem lims_laid {W : World} {rest : List (String × DataW Unit)} (h : laidMet Tryd.prog (("gyre/pull.limits", Proofs.YtggidgaeggekhaaDoor.Rows.laid_gyre_pull_limits) :: rest) W) : W.var? Tryd.prog "gyre/pull.limits" = some lmB.c := by
  obtain ⟨ps, ⟨g', t', cs, fuel, p, q, hg', ht', hvar, hd, _, _⟩, _⟩ := h
  obtain rfl := Option.some.inj (gLims.symm.trans hg')
  obtain rfl := Option.some.inj (gLimsType.symm.trans ht')
  rw [hvar]
  congr 1
  apply Array.ext'
  exact lims_of hd
theorem gok_two {W : World} (hS : W.ShapedOpen Tryd.prog) (h : laidMet Tryd.prog [("gyre/quot.least", Proofs.YtggidgaeggekhaaDoor.Rows.laid_gyre_quot_least), ("gyre/pull.limits", Proofs.YtggidgaeggekhaaDoor.Rows.laid_gyre_pull_limits)] W) : GOK G1 W := fun k b hk => by
  have h0 := gok_least hS (least_of h)
  rcases hpL_mem hk with hm | hm
  · simp at hm
    obtain ⟨rfl, rfl⟩ := hm
    exact heap_of_var gLims (of_decide_eq_true (by kernel_rfl)) gLimsRow hS (lims_laid (laidMet.tail h))
  · exact h0 k b hm
end Go.Gy
