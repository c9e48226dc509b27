/-
  Contracts: pull.one.
  Conditions: none.
-/
import Derived.Test.YtggidgaeggekhaaDoorGyU4
namespace Go.Gy
set_option linter.unusedSimpArgs false
set_option linter.unusedVariables false
open Go Go.RowKit Go.Proofs
@[simp] theorem rg1 : Array.range 1 = #[0] := rfl
@[simp] theorem rg2 : Array.range 2 = #[0, 1] := rfl
@[simp] theorem rg3 : Array.range 3 = #[0, 1, 2] := rfl
@[simp] theorem rg4 : Array.range 4 = #[0, 1, 2, 3] := rfl
@[simp] theorem rg5 : Array.range 5 = #[0, 1, 2, 3, 4] := rfl
@[simp] theorem rg6 : Array.range 6 = #[0, 1, 2, 3, 4, 5] := rfl
@[simp] theorem rg20 : Array.range 20 = #[0, 1, 2, 3, 4, 5, 6, 7, 8, 9, 10, 11, 12, 13, 14, 15, 16, 17, 18, 19] := rfl
@[simp] theorem rg36 : Array.range 36 = #[0, 1, 2, 3, 4, 5, 6, 7, 8, 9, 10, 11, 12, 13, 14, 15, 16, 17, 18, 19, 20, 21, 22, 23, 24, 25, 26, 27, 28, 29, 30, 31, 32, 33, 34, 35] := rfl
section
variable {P : Program} {G : Hp} {V : XV} {yc nk : Nat} {ts : Nat → Value} {hp : Hp} {C : Eff → Prop} {dst : Option Tmp} {type : TypeId} {pos : String} {after : Array Edge} {guard : Option (Nat × Bool)}
def bsZ (e len m nk : Nat) (ps : List (Nat × Value)) (z : Option Value) (C : Eff → Prop) : Prop :=
  match z with
  | some z => okCells z = true ∧ flatV z = true ∧ 0 < len * m ∧ len * m ≤ 16777216 ∧ bsX (fillG (.inr m) ((Array.range (len * m)).map (z.cells[· % z.cells.size]!)) ps) e len nk C
  | none => False
@[simp] theorem bsZ_some (e len m nk : Nat) (ps : List (Nat × Value)) (z : Value) (C : Eff → Prop) : bsZ e len m nk ps (some z) C = (okCells z = true ∧ flatV z = true ∧ 0 < len * m ∧ len * m ≤ 16777216 ∧ bsX (fillG (.inr m) ((Array.range (len * m)).map (z.cells[· % z.cells.size]!)) ps) e len nk C) := rfl
def bsM (P : Program) (e len nk : Nat) (ps : List (Nat × Value)) (m : Option Nat) (C : Eff → Prop) : Prop :=
  match m with
  | some m => bsZ e len m nk ps (tyZero P e) C
  | none => False
@[simp] theorem bsM_some (P : Program) (e len m nk : Nat) (ps : List (Nat × Value)) (C : Eff → Prop) : bsM P e len nk ps (some m) C = bsZ e len m nk ps (tyZero P e) C := rfl
def bsU (P : Program) (len nk : Nat) (ps : List (Nat × Value)) (u : Option TypeDesc) (C : Eff → Prop) : Prop :=
  match u with
  | some (.slice e) => bsM P e len nk ps (tySize P e) C
  | _ => False
@[simp] theorem bsU_some (P : Program) (e len nk : Nat) (ps : List (Nat × Value)) (C : Eff → Prop) : bsU P len nk ps (some (.slice e)) C = bsM P e len nk ps (tySize P e) C := rfl
@[simp ↓] theorem opX_buildSlice (T : TypeId) (len : Nat) (parts : Array (Nat × Operand)) : opX P G V yc ⟨dst, .buildSlice T len parts, type, pos, after, guard⟩ ts hp nk C =
    ((∀ p ∈ parts.toList, okX ts hp p.2 ∧ okCells (gev ts p.2) = true) ∧ bsU P len nk (partsG ts parts) (P.underlying T) C) := by
  unfold opX bsU
  simp only
  cases hu : P.underlying T with
  | none => rfl
  | some u =>
    cases u with
    | slice e =>
      simp only [bsM]
      cases hm : tySize P e with
      | none => rfl
      | some m =>
        simp only [bsZ]
        cases hz : tyZero P e with
        | none => rfl
        | some z =>
          simp only
          cases hf : fillG (.inr m) ((Array.range (len * m)).map (z.cells[· % z.cells.size]!)) (partsG ts parts) <;> rfl
    | _ => rfl
end
theorem slice_Rn {c : Array Value} {T : TypeId} (hc : ∀ x ∈ c, flatF x = true) (b : Nat) (hb : 100 ≤ b) : Rn (fun k => if k = 100 then b else k) (hpL G1 [(100, ⟨c, T⟩)]) (hpL G1 [(b, ⟨c, T⟩)]) [100] := by
  refine ⟨fun k hk => ?_, ?_, ?_, ?_⟩
  · have h1 : ¬ k = 100 := by omega
    have h2 : ¬ k = b := by omega
    simp [h1, h2]
  · simp [hb]
  · simp [Blk.rn]
    exact (map_eq_self (fun x hx => flatF_ren (hc x hx))).symm
  · simp
theorem Fun.sl {f : FuncId} {c : Array Value} {T : TypeId} {n : Nat} {v : Value} (h : Fun Tryd.prog G1 f #[.slice (some ⟨100, 0, none⟩) n n] (hpL G1 [(100, ⟨c, T⟩)]) [100] (.ret v [])) (hc : ∀ x ∈ c, flatF x = true) (hv : flatV v = true) (b : Nat) (hb : 100 ≤ b) :
    Fun Tryd.prog G1 f #[.slice (some ⟨b, 0, none⟩) n n] (hpL G1 [(b, ⟨c, T⟩)]) [b] (.ret v []) := by
  have h' := h.rn (fun k => if k = 100 then b else k) G1F (fun k hk => hpL_low (by simp) hk) (slice_Rn hc b hb)
  rw [flatV_ren hv] at h'
  simpa [ren, renA, renF, ren0, rnL] using h'
theorem Fun.slp {f : FuncId} {c : Array Value} {T : TypeId} {n : Nat} {v : Value} (h : Fun Tryd.prog G1 f #[.slice (some ⟨100, 0, none⟩) n n] (hpL G1 [(100, ⟨c, T⟩)]) [100] (.pan v)) (hc : ∀ x ∈ c, flatF x = true) (b : Nat) (hb : 100 ≤ b) :
    Fun Tryd.prog G1 f #[.slice (some ⟨b, 0, none⟩) n n] (hpL G1 [(b, ⟨c, T⟩)]) [b] (.pan v) := by
  have h' := h.rnp (fun k => if k = 100 then b else k) G1F (fun k hk => hpL_low (by simp) hk) (slice_Rn hc b hb)
  simpa [ren, renA, renF, ren0, rnL] using h'
theorem heapK_sl {f : FuncId} {c : Array Value} {T : TypeId} {n nk b : Nat} {v : Value} {hp : Hp} {K : Eff → Prop} (h : Fun Tryd.prog G1 f #[.slice (some ⟨100, 0, none⟩) n n] (hpL G1 [(100, ⟨c, T⟩)]) [100] (.ret v [])) (hc : ∀ x ∈ c, flatF x = true) (hv : flatV v = true) (hb : 100 ≤ b)
    (h1 : hp b = some ⟨c, T⟩) (hK : K ((Res.ret v []).eff [b])) : heapK Tryd.prog G1 f #[.slice (some ⟨b, 0, none⟩) n n] hp nk K :=
  heapK_of (hp' := hpL G1 [(b, ⟨c, T⟩)]) (h.sl hc hv b hb) (by simp [h1]) (fun k hk => hpL_low (by simp; omega) hk) trivial hK
theorem heapK_slp {f : FuncId} {c : Array Value} {T : TypeId} {n nk b : Nat} {v : Value} {hp : Hp} {K : Eff → Prop} (h : Fun Tryd.prog G1 f #[.slice (some ⟨100, 0, none⟩) n n] (hpL G1 [(100, ⟨c, T⟩)]) [100] (.pan v)) (hc : ∀ x ∈ c, flatF x = true) (hb : 100 ≤ b)
    (h1 : hp b = some ⟨c, T⟩) (hK : K ((Res.pan v).eff [b])) : heapK Tryd.prog G1 f #[.slice (some ⟨b, 0, none⟩) n n] hp nk K :=
  heapK_of (hp' := hpL G1 [(b, ⟨c, T⟩)]) (h.slp hc b hb) (by simp [h1]) (fun k hk => hpL_low (by simp; omega) hk) trivial hK
/-! how large -/
theorem absmul {a b p q : Int} (h1 : -p ≤ a) (h2 : a ≤ p) (h3 : -q ≤ b) (h4 : b ≤ q) : -(p * q) ≤ a * b ∧ a * b ≤ p * q := by
  have e1 : a.natAbs ≤ p.natAbs := by omega
  have e2 : b.natAbs ≤ q.natAbs := by omega
  have e3 := Nat.mul_le_mul e1 e2
  rw [← Int.natAbs_mul, ← Int.natAbs_mul] at e3
  have e4 : 0 ≤ p * q := Int.mul_nonneg (by omega) (by omega)
  omega
theorem sq_nonneg (a : Int) : 0 ≤ a * a := by
  by_cases h : 0 ≤ a
  · exact Int.mul_nonneg h h
  · rw [← Int.neg_mul_neg]; exact Int.mul_nonneg (by omega) (by omega)
/-- How strong a pull is. -/
def pmag (n d g m x r : Int) : Int := (isq (2 * n * g * m * x * (2 * n * g * m * x) / (d * d * r * r * r)) + 1) / 2
def pullV (n d g m x r : Int) : Int := if n < 0 then (if x < 0 then pmag n d g m x r else -pmag n d g m x r) else (if x < 0 then -pmag n d g m x r else pmag n d g m x r)
structure PIn (n d g m x r : Int) : Prop where
  n0 : -2097152 ≤ n
  n1 : n ≤ 2097152
  d0 : 1 ≤ d
  d1 : d ≤ 2097152
  g0 : 1 ≤ g
  g1 : g ≤ 1048576
  m0 : 1 ≤ m
  m1 : m ≤ 1024
  x0 : -2097152 ≤ x
  x1 : x ≤ 2097152
  r0 : 1 ≤ r
  r1 : r ≤ 13194139533312
  xr : x * x ≤ r
theorem chk_in {n d g m x r : Int} : chkE n d g m x r = 0 ↔ PIn n d g m x r := by
  unfold chkE
  constructor
  · intro h
    split at h
    rotate_left
    · cases h
    rename_i hc
    obtain ⟨f0, f1, f2, f3, f4, f5, f6, f7, f8, f9, f10, f11⟩ := hc
    split at h
    · cases h
    rename_i hr
    split at h
    rotate_left
    · cases h
    rename_i hx
    exact ⟨f0, f1, f2, f3, f4, f5, f6, f7, f8, f9, by omega, f11, hx⟩
  · rintro ⟨f0, f1, f2, f3, f4, f5, f6, f7, f8, f9, f10, f11, f12⟩
    rw [if_pos ⟨f0, f1, f2, f3, f4, f5, f6, f7, f8, f9, by omega, f11⟩, if_neg (by omega), if_pos f12]
section
variable {n d g m x r : Int} (h : PIn n d g m x r)
include h
theorem PIn.p1 : -4194304 ≤ 2 * n ∧ 2 * n ≤ 4194304 := ⟨by have := h.n0; omega, by have := h.n1; omega⟩
theorem PIn.p2 : -4398046511104 ≤ 2 * n * g ∧ 2 * n * g ≤ 4398046511104 := by
  have := absmul h.p1.1 h.p1.2 (b := g) (q := 1048576) (by have := h.g0; omega) h.g1
  simpa using this
theorem PIn.p3 : -4503599627370496 ≤ 2 * n * g * m ∧ 2 * n * g * m ≤ 4503599627370496 := by
  have := absmul h.p2.1 h.p2.2 (b := m) (q := 1024) (by have := h.m0; omega) h.m1
  simpa using this
theorem PIn.p4 : -9444732965739290427392 ≤ 2 * n * g * m * x ∧ 2 * n * g * m * x ≤ 9444732965739290427392 := by
  have := absmul h.p3.1 h.p3.2 h.x0 h.x1
  simpa using this
theorem PIn.q1 : 1 ≤ d * d ∧ d * d ≤ 4398046511104 := by
  have h1 := absmul (p := 2097152) (q := 2097152) (by have := h.d0; omega) h.d1 (by have := h.d0; omega) h.d1
  have h2 : 1 * 1 ≤ d * d := Int.mul_le_mul h.d0 h.d0 (by omega) (by have := h.d0; omega)
  omega
theorem PIn.q2 : r ≤ d * d * r ∧ d * d * r ≤ 4398046511104 * 13194139533312 := by
  refine ⟨?_, Int.mul_le_mul h.q1.2 h.r1 (by have := h.r0; omega) (by omega)⟩
  have h2 : 1 * r ≤ d * d * r := Int.mul_le_mul_of_nonneg_right h.q1.1 (by have := h.r0; omega)
  omega
theorem PIn.q3 : r ≤ d * d * r * r ∧ d * d * r * r ≤ 4398046511104 * 13194139533312 * 13194139533312 := by
  have hr := h.r0
  have h1 := h.q2
  refine ⟨?_, Int.mul_le_mul h1.2 h.r1 (by omega) (by omega)⟩
  have h2 : 1 * r ≤ d * d * r * r := Int.mul_le_mul_of_nonneg_right (by omega) (by omega)
  omega
theorem PIn.q4 : r ≤ d * d * r * r * r ∧ d * d * r * r * r ≤ 4398046511104 * 13194139533312 * 13194139533312 * 13194139533312 := by
  have hr := h.r0
  have h1 := h.q3
  refine ⟨?_, Int.mul_le_mul h1.2 h.r1 (by omega) (by omega)⟩
  have h2 : 1 * r ≤ d * d * r * r * r := Int.mul_le_mul_of_nonneg_right (by omega) (by omega)
  omega
theorem PIn.a_le : 2 * n * g * m * x * (2 * n * g * m * x) ≤ 89202980794122492566142873090593446023921664 := by
  have := (absmul h.p4.1 h.p4.2 h.p4.1 h.p4.2).2
  simpa using this
theorem PIn.div_le : 2 * n * g * m * x * (2 * n * g * m * x) / (d * d * r * r * r) ≤ 20282409603651670423947251286016 := by
  have hr := h.r0
  have hB := h.q4.1
  have h1 : (2 * n * g * m) * (2 * n * g * m) ≤ 20282409603651670423947251286016 := by
    have := (absmul h.p3.1 h.p3.2 h.p3.1 h.p3.2).2
    simpa using this
  have e : 2 * n * g * m * x * (2 * n * g * m * x) = (2 * n * g * m) * (2 * n * g * m) * (x * x) := by
    rw [Int.mul_assoc (2 * n * g * m) x, Int.mul_left_comm x, ← Int.mul_assoc]
  have h2 : (2 * n * g * m) * (2 * n * g * m) * (x * x) ≤ 20282409603651670423947251286016 * r := Int.mul_le_mul h1 h.xr (sq_nonneg x) (by omega)
  have h3 : 20282409603651670423947251286016 * r ≤ 20282409603651670423947251286016 * (d * d * r * r * r) := Int.mul_le_mul_of_nonneg_left hB (by omega)
  rw [e]
  refine Int.le_of_lt_add_one (Int.ediv_lt_of_lt_mul (by omega) ?_)
  rw [Int.add_mul]
  omega
theorem PIn.mag : 0 ≤ pmag n d g m x r ∧ pmag n d g m x r ≤ 4503599627370496 := by
  have hB : 0 < d * d * r * r * r := by have := h.q4.1; have := h.r0; omega
  have hA := sq_nonneg (2 * n * g * m * x)
  obtain ⟨h1, h2, h3⟩ := isq_spec (2 * n * g * m * x * (2 * n * g * m * x) / (d * d * r * r * r)) (Int.ediv_nonneg hA (by omega))
  have h4 := h.div_le
  have h5 := sq_bd 4503599627370497 h1 (by decide) (by omega)
  unfold pmag
  omega
end
end Go.Gy
