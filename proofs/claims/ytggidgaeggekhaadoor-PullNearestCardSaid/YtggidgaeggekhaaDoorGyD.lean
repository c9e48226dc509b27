/-
  The ghost layer, part D: what each kind of operation does, by ghost names (a predicate that 'simp' unfolds), and that it is so.
  Conditions: none beyond the hypotheses of each theorem.
-/
import Derived.Test.YtggidgaeggekhaaDoorGyC
import Derived.Deep.MidRow
namespace Go.Gy
open Go Go.RowKit

/-! ### Values that name no block -/
def flat0 : Value → Bool
  | .pointer (some _) => false
  | .slice (some _) _ _ => false
  | .map (some _) => false
  | _ => true
def flatF : Value → Bool
  | .func _ first cap => first.all flat0 && cap.all flat0
  | .iface _ v => flat0 v
  | v => flat0 v
def flatA : Value → Bool
  | .agg cs => cs.all flatF
  | v => flatF v
def flatV : Value → Bool
  | .tuple vs => vs.all flatA
  | v => flatA v

section
variable {r : Nat → Nat} {D : Nat → Prop}
theorem map_eq_self {f : Value → Value} {xs : Array Value} (h : ∀ x ∈ xs, f x = x) : xs.map f = xs := by
  have : xs.map f = xs.map id := Array.map_congr_left fun x hx => by simpa using h x hx
  rw [this]; simp
theorem flat0_ren {v : Value} (h : flat0 v = true) : ren0 r v = v := by unfold flat0 at h; split at h <;> simp_all [ren0]
theorem flat0_ids {v : Value} (h : flat0 v = true) : ids0 D v := by unfold flat0 at h; split at h <;> simp_all [ids0]
theorem flatF_ren {v : Value} (h : flatF v = true) : renF r v = v := by
  unfold flatF at h
  split at h
  · simp only [Bool.and_eq_true] at h
    simp only [renF]
    rw [map_eq_self (fun x hx => flat0_ren (Array.all_eq_true_iff_forall_mem.1 h.1 x hx)), map_eq_self (fun x hx => flat0_ren (Array.all_eq_true_iff_forall_mem.1 h.2 x hx))]
  · simp only [renF]; rw [flat0_ren h]
  · rename_i h1 h2
    unfold renF
    split
    · exact absurd rfl (h1 _ _ _)
    · exact absurd rfl (h2 _ _)
    · exact flat0_ren h
theorem flatF_ids {v : Value} (h : flatF v = true) : idsF D v := by
  unfold flatF at h
  split at h
  · simp only [Bool.and_eq_true] at h
    exact ⟨fun x hx => flat0_ids (Array.all_eq_true_iff_forall_mem.1 h.1 x hx), fun x hx => flat0_ids (Array.all_eq_true_iff_forall_mem.1 h.2 x hx)⟩
  · exact flat0_ids (v := _) h
  · rename_i h1 h2
    unfold idsF
    split
    · exact absurd rfl (h1 _ _ _)
    · exact absurd rfl (h2 _ _)
    · exact flat0_ids h
theorem flatA_ren {v : Value} (h : flatA v = true) : renA r v = v := by
  unfold flatA at h
  split at h
  · simp only [renA]; rw [map_eq_self (fun x hx => flatF_ren (Array.all_eq_true_iff_forall_mem.1 h x hx))]
  · rename_i h1
    unfold renA
    split
    · exact absurd rfl (h1 _)
    · exact flatF_ren h
theorem flatA_ids {v : Value} (h : flatA v = true) : idsA D v := by
  unfold flatA at h
  split at h
  · exact fun x hx => flatF_ids (Array.all_eq_true_iff_forall_mem.1 h x hx)
  · rename_i h1
    unfold idsA
    split
    · exact absurd rfl (h1 _)
    · exact flatF_ids h
theorem flatV_ren {v : Value} (h : flatV v = true) : ren r v = v := by
  unfold flatV at h
  split at h
  · simp only [ren]; rw [map_eq_self (fun x hx => flatA_ren (Array.all_eq_true_iff_forall_mem.1 h x hx))]
  · rename_i h1
    unfold ren
    split
    · exact absurd rfl (h1 _)
    · exact flatA_ren h
theorem flatV_ids {v : Value} (h : flatV v = true) : idsV D v := by
  unfold flatV at h
  split at h
  · exact fun x hx => flatA_ids (Array.all_eq_true_iff_forall_mem.1 h x hx)
  · rename_i h1
    unfold idsV
    split
    · exact absurd rfl (h1 _)
    · exact flatA_ids h
end

/-- One cell's value. -/
def scal : Value → Bool
  | .agg _ => false
  | .tuple _ => false
  | _ => true
theorem ren_scal {r : Nat → Nat} {v : Value} (h : scal v = true) : ren r v = renF r v := by cases v <;> simp_all [scal, ren, renA]
theorem ids_scal {D : Nat → Prop} {v : Value} (h : scal v = true) : idsV D v ↔ idsF D v := by cases v <;> simp_all [scal, idsV, idsA]
theorem renF_scal {r : Nat → Nat} {v : Value} (h : scal v = true) : scal (renF r v) = true := by
  cases v with
  | pointer p => cases p <;> rfl
  | slice p _ _ => cases p <;> rfl
  | map p => cases p <;> rfl
  | agg _ => simp [scal] at h
  | tuple _ => simp [scal] at h
  | _ => rfl

/-! ### Operands -/
def gev (ts : Nat → Value) : Operand → Value
  | .tmp t => ts t
  | .const v => v
  | .global g => .pointer (some ⟨g, 0, none⟩)
  | .func f => .func (.func f) #[] #[]
def nj : Value → Prop
  | .complex _ _ _ => False
  | _ => True
theorem nj_ne {v : Value} (h : nj v) : v ≠ junk := by intro e; rw [e] at h; exact h
def okX (ts : Nat → Value) (hp : Hp) : Operand → Prop
  | .tmp t => nj (ts t)
  | .const v => flatV v = true
  | .global g => g < 100 ∧ (hp g).isSome = true
  | .func _ => True

section
variable {P : Program} {o : Oper} {r : Nat → Nat} {D : Nat → Prop} {ts : Nat → Value} {a : Act} {hp : Hp}
theorem ev {x : Operand} (h : RelOn o r D ts a) (hx : x ∈ o.op.operands) (hk : okX ts hp x) (hlow : ∀ k, k < 100 → D k → r k = k) (hD : ∀ k, k < 100 → dom hp k → D k) :
    a.eval x = ren r (gev ts x) ∧ idsV D (gev ts x) := by
  cases x with
  | tmp t => exact (h t hx).resolve_left (nj_ne hk)
  | const v => exact ⟨(flatV_ren hk).symm, flatV_ids hk⟩
  | global g =>
    obtain ⟨h1, h2⟩ := hk
    have hd : D g := hD g h1 (by unfold dom; intro e; rw [e] at h2; simp at h2)
    exact ⟨by simp [Act.eval, gev, ren, renA, renF, ren0, hlow g h1 hd], by simpa [gev, idsV, idsA, idsF, ids0] using hd⟩
  | func f => exact ⟨by simp [Act.eval, gev, ren, renA, renF], by simp [gev, idsV, idsA, idsF]⟩

/-! ### Types -/
def tyAgg (P : Program) (T : TypeId) : Option Bool :=
  match P.underlying T with
  | some (.struct _) => some true
  | some (.array _ _) => some true
  | some _ => some false
  | none => none
def tySize (P : Program) (T : TypeId) : Option Nat := (P.info? T).map (·.size)
def tyZero (P : Program) (T : TypeId) : Option Value := (P.info? T).bind (·.zero)

theorem run_isAgg {T : TypeId} {b : Bool} (h : tyAgg P T = some b) (W : World) : (isAgg T).run P W = .ok b W := by
  unfold tyAgg at h
  unfold isAgg
  cases hu : P.underlying T with
  | none => simp [hu] at h
  | some dd =>
    rw [Sem.run_bind, run_underlying hu W]
    cases dd <;> simp_all
theorem run_sizeOf {T : TypeId} {m : Nat} (h : tySize P T = some m) (W : World) : (sizeOf T).run P W = .ok m W := by
  unfold tySize at h
  cases hi : P.info? T with
  | none => simp [hi] at h
  | some i => simp [hi] at h; simp [sizeOf, typeInfo, hi, h]
theorem run_zeroValue {T : TypeId} {z : Value} (h : tyZero P T = some z) (W : World) : (zeroValue T).run P W = .ok z W := by
  unfold tyZero at h
  cases hi : P.info? T with
  | none => simp [hi] at h
  | some i => simp [hi] at h; simp [zeroValue, typeInfo, hi, h]

/-! ### Memory -/
def loadB (P : Program) (T : TypeId) (c : Array Value) (off : Nat) : Option Value :=
  match tyAgg P T with
  | some true => match tySize P T with
    | some m => if off + m ≤ c.size then some (.agg (c.extract off (off + m))) else none
    | none => none
  | some false => match c[off]? with
    | some v => if scal v then some v else none
    | none => none
  | none => none

theorem run_loadVar_blk {T : TypeId} {c : Array Value} {off : Nat} {v : Value} (h : loadB P T c off = some v) {W : World} {b : Nat} {T' : TypeId} (hb : W.heap[b]? = some (.cells (c.map (renF r)) T' (0, 0))) :
    (loadVar T ⟨b, off, none⟩).run P W = .ok (ren r v) W := by
  unfold loadB at h
  cases ha : tyAgg P T with
  | none => simp [ha] at h
  | some bb =>
    cases bb with
    | true =>
      simp only [ha] at h
      cases hs : tySize P T with
      | none => simp [hs] at h
      | some m =>
        simp only [hs] at h
        split at h
        · rename_i hle
          cases h
          have hl : (loadCells ⟨b, off, none⟩ m).run P W = .ok ((c.extract off (off + m)).map (renF r)) W := by
            have := run_loadCells_list (P := P) W ⟨b, off, none⟩ ((c.extract off (off + m)).map (renF r)).toList (fun j v hv => by
              rw [Addr.add_mid, cell_of_row W b (off + j) _ _ _ hb]
              simp only [Array.getElem?_toList, Array.getElem?_map, Array.getElem?_extract] at hv
              rw [Array.getElem?_map]
              split at hv
              · exact hv
              · simp at hv)
            have hlen : ((c.extract off (off + m)).map (renF r)).toList.length = m := by simp; omega
            rw [hlen] at this
            rw [this, Array.toArray_toList]
          simp [loadVar, Sem.run_bind, run_isAgg ha, run_sizeOf hs, hl, ren, renA]
        · simp at h
    | false =>
      simp only [ha] at h
      cases hc : c[off]? with
      | none => simp [hc] at h
      | some u =>
        simp only [hc] at h
        split at h
        · rename_i hsc
          obtain rfl : u = v := by simpa using h
          have hcell : W.cell? ⟨b, off, none⟩ = some (renF r u) := by rw [cell_of_row W b off _ _ _ hb]; simp [hc]
          simp [loadVar, Sem.run_bind, run_isAgg ha, load, Sem.run, hcell, ren_scal hsc]
        · simp at h

theorem loadB_ids {T : TypeId} {c : Array Value} {off : Nat} {v : Value} (h : loadB P T c off = some v) (hc : ∀ x ∈ c, idsF D x) : idsV D v := by
  unfold loadB at h
  split at h
  · split at h
    · split at h
      · cases h
        intro x hx
        have := Array.mem_extract_iff_getElem.1 hx
        obtain ⟨k, hk, e⟩ := this
        exact e ▸ hc _ (Array.getElem_mem _)
      · simp at h
    · simp at h
  · split at h
    · rename_i u hu
      split at h
      · rename_i hs
        cases h
        exact (ids_scal hs).2 (hc _ (Array.mem_of_getElem? hu))
      · simp at h
    · simp at h
  · simp at h

/-- Cells written one after the other. -/
def splice (c : Array Value) (o : Nat) : List Value → Array Value
  | [] => c
  | v :: vs => splice (c.setIfInBounds o v) (o + 1) vs
theorem splice_size (vs : List Value) : ∀ (c : Array Value) (o : Nat), (splice c o vs).size = c.size := by
  induction vs with
  | nil => intro c o; rfl
  | cons v vs ih => intro c o; simp [splice, ih]
theorem splice_map (f : Value → Value) (vs : List Value) : ∀ (c : Array Value) (o : Nat), (splice c o vs).map f = splice (c.map f) o (vs.map f) := by
  induction vs with
  | nil => intro c o; rfl
  | cons v vs ih => intro c o; simp only [splice, List.map_cons]; rw [ih, Array.map_setIfInBounds]
theorem splice_mem {Q : Value → Prop} (vs : List Value) (hv : ∀ x ∈ vs, Q x) : ∀ (c : Array Value) (o : Nat), (∀ x ∈ c, Q x) → ∀ x ∈ splice c o vs, Q x := by
  induction vs with
  | nil => intro c o hc; exact hc
  | cons v vs ih =>
    intro c o hc
    refine ih (fun x hx => hv x (List.mem_cons_of_mem _ hx)) _ _ (fun x hx => ?_)
    rcases Array.mem_or_eq_of_mem_setIfInBounds hx with h | h
    · exact hc x h
    · exact h ▸ hv v (by simp)

theorem run_store_scal {x : Addr} {v u : Value} (hv : scal v = true) {W : World} (hu : W.cell? x = some u) (hf : W.frozen? x = false) : (store x v).run P W = .ok () (W.setCell x v) := by
  unfold store
  cases v with
  | agg _ => simp [scal] at hv
  | tuple _ => simp [scal] at hv
  | _ => simp [Sem.run, hu, hf]

theorem run_storeCells_blk {b : Nat} {T : TypeId} (vs : List Value) (h1 : ∀ v ∈ vs, scal v = true) : ∀ (c : Array Value) (o i : Nat) (W : World), W.heap[b]? = some (.cells c T (0, 0)) → o + i + vs.length ≤ c.size →
    (storeCells ⟨b, o, none⟩ vs i).run P W = .ok () (W.putObj b (.cells (splice c (o + i) vs) T (0, 0))) := by
  induction vs with
  | nil =>
    intro c o i W hb _
    obtain ⟨hlt, he⟩ := Array.getElem?_eq_some_iff.1 hb
    have : W.putObj b (.cells c T (0, 0)) = W := by
      unfold World.putObj
      have : W.heap.setIfInBounds b (.cells c T (0, 0)) = W.heap := by
        apply Array.ext_getElem?
        intro k
        by_cases e : b = k
        · subst e; simp [he, hlt]
        · simp [Array.getElem?_setIfInBounds_ne e]
      rw [this]
    simp [storeCells, splice, this]
  | cons v vs ih =>
    intro c o i W hb hle
    simp only [List.length_cons] at hle
    obtain ⟨hlt, he⟩ := Array.getElem?_eq_some_iff.1 hb
    have hcell : (W.cell? ⟨b, o + i, none⟩).isSome = true := by
      rw [cell_of_row W b (o + i) _ _ _ hb]; simp; omega
    obtain ⟨u, hu⟩ := Option.isSome_iff_exists.1 hcell
    have hfr : W.frozen? ⟨b, o + i, none⟩ = false := by simp [World.frozen?, hb]
    have hv := h1 v (by simp)
    have hset : W.setCell ⟨b, o + i, none⟩ v = W.putObj b (.cells (c.setIfInBounds (o + i) v) T (0, 0)) := by
      unfold World.setCell World.putObj
      congr 1
      apply Array.ext_getElem?
      intro k
      by_cases e : b = k
      · subst e; rw [Array.getElem?_modify, if_pos rfl, hb]; simp [hlt]
      · simp [Array.getElem?_modify, e, Array.getElem?_setIfInBounds_ne e]
    have hst : (store ⟨b, o + i, none⟩ v).run P W = .ok () (W.putObj b (.cells (c.setIfInBounds (o + i) v) T (0, 0))) := by
      rw [← hset]
      exact run_store_scal hv hu hfr
    have hb' : (W.putObj b (.cells (c.setIfInBounds (o + i) v) T (0, 0))).heap[b]? = some (.cells (c.setIfInBounds (o + i) v) T (0, 0)) := World.putObj_heap_same hlt
    have := ih (fun x hx => h1 x (List.mem_cons_of_mem _ hx)) (c.setIfInBounds (o + i) v) o (i + 1) _ hb' (by simp; omega)
    simp only [storeCells, Sem.run_bind, Addr.add_mid, hst, Result.andThen_ok, this]
    simp only [splice, World.putObj]
    congr 2
    · simp [Nat.add_assoc]

def cellsOf (v : Value) : Array Value := v.cells
theorem cells_ren {v : Value} (h : ∀ vs, v ≠ .tuple vs) : (ren r v).cells = v.cells.map (renF r) := by
  cases v with
  | agg cs => simp [ren, renA, Value.cells]
  | tuple vs => exact absurd rfl (h vs)
  | pointer p => cases p <;> simp [ren, renA, renF, ren0, Value.cells]
  | slice p _ _ => cases p <;> simp [ren, renA, renF, ren0, Value.cells]
  | map p => cases p <;> simp [ren, renA, renF, ren0, Value.cells]
  | _ => simp [ren, renA, renF, ren0, Value.cells]
theorem cells_ids {v : Value} (h : ∀ vs, v ≠ .tuple vs) (hv : idsV D v) : ∀ x ∈ v.cells, idsF D x := by
  cases v with
  | agg cs => exact hv
  | tuple vs => exact absurd rfl (h vs)
  | _ => intro x hx; simp [Value.cells] at hx; subst hx; exact hv

/-- A value that a variable may hold: no tuple, each cell one cell. -/
def okCells : Value → Bool
  | .tuple _ => false
  | .agg cs => cs.all scal
  | .complex _ _ _ => false
  | _ => true
theorem okCells_nt {v : Value} (h : okCells v = true) : ∀ vs, v ≠ .tuple vs := by intro vs e; rw [e] at h; simp [okCells] at h
theorem okCells_scal {v : Value} (h : okCells v = true) : ∀ x ∈ v.cells, scal x = true := by
  cases v with
  | agg cs => exact fun x hx => Array.all_eq_true_iff_forall_mem.1 h x hx
  | tuple vs => simp [okCells] at h
  | _ => intro x hx; simp [Value.cells] at hx; subst hx; simp_all [scal, okCells]

theorem run_storeVar_blk {T : TypeId} {c : Array Value} {off : Nat} {v : Value} (hv : okCells v = true) (hs : tySize P T = some v.cells.size) (hle : off + v.cells.size ≤ c.size) {W : World} {b : Nat} {T' : TypeId}
    (hb : W.heap[b]? = some (.cells (c.map (renF r)) T' (0, 0))) :
    (storeVar T ⟨b, off, none⟩ (ren r v)).run P W = .ok () (W.putObj b (.cells ((splice c off v.cells.toList).map (renF r)) T' (0, 0))) := by
  have hc := cells_ren (r := r) (okCells_nt hv)
  have := run_storeCells_blk (P := P) (T := T') (b := b) (v.cells.map (renF r)).toList (fun x hx => by
    simp only [Array.toList_map, List.mem_map] at hx
    obtain ⟨y, hy, rfl⟩ := hx
    exact renF_scal (okCells_scal hv y (by simpa using hy))) (c.map (renF r)) off 0 W hb (by simpa using hle)
  simp only [Nat.add_zero] at this
  rw [splice_map]
  simp only [Array.toList_map] at this
  simp [storeVar, Sem.run_bind, run_sizeOf hs, hc, this]
end
end Go.Gy
