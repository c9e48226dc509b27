/-
  The ghost layer, part A: ghost values, ghost heaps, what a world must hold, and the theorem that a region which draws its order may be walked once, in the order of the text, where no two unordered operations touch the same block.
  Conditions: none beyond the hypotheses of each theorem.
-/
import Derived.Orders
import Derived.Still
import Derived.Below
import Derived.RangeFuncRecord
import Derived.Tactics2
namespace Go.Gy
open Go Go.RowKit

/-- A block of cells, by ghost names. -/
structure Blk where
  c : Array Value
  T : TypeId

abbrev Hp := Nat → Option Blk

def upd {α : Type} (f : Nat → α) (k : Nat) (v : α) : Nat → α := fun j => if j = k then v else f j

theorem upd_same {α : Type} (f : Nat → α) (k : Nat) (v : α) : upd f k v k = v := by simp [upd]
theorem upd_other {α : Type} (f : Nat → α) {k j : Nat} (v : α) (h : j ≠ k) : upd f k v j = f j := by simp [upd, h]
theorem upd_comm {α : Type} (f : Nat → α) {k l : Nat} (u v : α) (h : k ≠ l) : upd (upd f k u) l v = upd (upd f l v) k u := by
  funext j; unfold upd; by_cases h1 : j = l <;> by_cases h2 : j = k <;> simp_all

def ren0 (r : Nat → Nat) : Value → Value
  | .pointer (some a) => .pointer (some { a with block := r a.block })
  | .slice (some a) n c => .slice (some { a with block := r a.block }) n c
  | .map (some b) => .map (some (r b))
  | v => v
def renF (r : Nat → Nat) : Value → Value
  | .func fn first cap => .func fn (first.map (ren0 r)) (cap.map (ren0 r))
  | .iface t v => .iface t (ren0 r v)
  | v => ren0 r v
def renA (r : Nat → Nat) : Value → Value
  | .agg cs => .agg (cs.map (renF r))
  | v => renF r v
def ren (r : Nat → Nat) : Value → Value
  | .tuple vs => .tuple (vs.map (renA r))
  | v => renA r v

def ids0 (D : Nat → Prop) : Value → Prop
  | .pointer (some a) => D a.block
  | .slice (some a) _ _ => D a.block
  | .map (some b) => D b
  | _ => True
def idsF (D : Nat → Prop) : Value → Prop
  | .func _ first cap => (∀ x ∈ first, ids0 D x) ∧ (∀ x ∈ cap, ids0 D x)
  | .iface _ v => ids0 D v
  | v => ids0 D v
def idsA (D : Nat → Prop) : Value → Prop
  | .agg cs => ∀ x ∈ cs, idsF D x
  | v => idsF D v
def idsV (D : Nat → Prop) : Value → Prop
  | .tuple vs => ∀ x ∈ vs, idsA D x
  | v => idsA D v

section congr
variable {D D' : Nat → Prop} {r r' : Nat → Nat}
theorem ids0_mono (h : ∀ k, D k → D' k) : ∀ {v : Value}, ids0 D v → ids0 D' v := by
  intro v; unfold ids0; split <;> first | exact h _ | exact id
theorem idsF_mono (h : ∀ k, D k → D' k) : ∀ {v : Value}, idsF D v → idsF D' v := by
  intro v
  unfold idsF
  split
  · exact fun ⟨a, b⟩ => ⟨fun x hx => ids0_mono h (a x hx), fun x hx => ids0_mono h (b x hx)⟩
  · exact ids0_mono h
  · exact ids0_mono h
theorem idsA_mono (h : ∀ k, D k → D' k) : ∀ {v : Value}, idsA D v → idsA D' v := by
  intro v; unfold idsA; split
  · exact fun a x hx => idsF_mono h (a x hx)
  · exact idsF_mono h
theorem idsV_mono (h : ∀ k, D k → D' k) : ∀ {v : Value}, idsV D v → idsV D' v := by
  intro v; unfold idsV; split
  · exact fun a x hx => idsA_mono h (a x hx)
  · exact idsA_mono h
theorem ren0_congr (h : ∀ k, D k → r' k = r k) : ∀ {v : Value}, ids0 D v → ren0 r' v = ren0 r v := by
  intro v; unfold ids0; split <;> intro hd <;> simp_all [ren0]
theorem renF_congr (h : ∀ k, D k → r' k = r k) : ∀ {v : Value}, idsF D v → renF r' v = renF r v := by
  intro v hv
  unfold idsF at hv
  split at hv
  · obtain ⟨a, b⟩ := hv
    simp only [renF]
    rw [Array.map_congr_left (fun x hx => ren0_congr h (a x hx)), Array.map_congr_left (fun x hx => ren0_congr h (b x hx))]
  · simp only [renF]; rw [ren0_congr h hv]
  · rename_i h1 h2
    unfold renF
    split
    · exact absurd rfl (h1 _ _ _)
    · exact absurd rfl (h2 _ _)
    · exact ren0_congr h hv
theorem renA_congr (h : ∀ k, D k → r' k = r k) : ∀ {v : Value}, idsA D v → renA r' v = renA r v := by
  intro v hv
  unfold idsA at hv
  split at hv
  · simp only [renA]
    rw [Array.map_congr_left (fun x hx => renF_congr h (hv x hx))]
  · rename_i h1
    unfold renA
    split
    · exact absurd rfl (h1 _)
    · exact renF_congr h hv
theorem ren_congr (h : ∀ k, D k → r' k = r k) : ∀ {v : Value}, idsV D v → ren r' v = ren r v := by
  intro v hv
  unfold idsV at hv
  split at hv
  · simp only [ren]
    rw [Array.map_congr_left (fun x hx => renA_congr h (hv x hx))]
  · rename_i h1
    unfold ren
    split
    · exact absurd rfl (h1 _)
    · exact renA_congr h hv
end congr

/-- What lies in memory for a ghost block. -/
def Blk.obj (r : Nat → Nat) (b : Blk) : Obj := .cells (b.c.map (renF r)) b.T (0, 0)
def Blk.ids (D : Nat → Prop) (b : Blk) : Prop := ∀ x ∈ b.c, idsF D x
theorem Blk.obj_congr {D : Nat → Prop} {r r' : Nat → Nat} (h : ∀ k, D k → r' k = r k) {b : Blk} (hb : b.ids D) : b.obj r' = b.obj r := by
  unfold Blk.obj
  rw [Array.map_congr_left (fun x hx => renF_congr h (hb x hx))]
theorem Blk.ids_mono {D D' : Nat → Prop} (h : ∀ k, D k → D' k) {b : Blk} (hb : b.ids D) : b.ids D' := fun x hx => idsF_mono h (hb x hx)

def dom (hp : Hp) : Nat → Prop := fun k => hp k ≠ none

/-- A slot of which nothing is said. -/
def junk : Value := .complex .f32 0 1

/-- The frame of an activation, by ghost names. -/
def Rel (r : Nat → Nat) (D : Nat → Prop) (ts : Nat → Value) (a : Act) : Prop :=
  ∀ t, ts t = junk ∨ (a.tmps.getD t undef = ren r (ts t) ∧ idsV D (ts t))

/-- The world holds the ghost heap's blocks. -/
def Sat (r : Nat → Nat) (D : Nat → Prop) (hp : Hp) (W : World) : Prop :=
  ∀ k b, hp k = some b → W.heap[r k]? = some (b.obj r) ∧ b.ids D
def Inj (r : Nat → Nat) (D : Nat → Prop) : Prop := ∀ k l, D k → D l → r k = r l → k = l

theorem Rel.mono {r r' : Nat → Nat} {D D' : Nat → Prop} {ts : Nat → Value} {a : Act} (h : Rel r D ts a) (hD : ∀ k, D k → D' k) (hr : ∀ k, D k → r' k = r k) : Rel r' D' ts a :=
  fun t => (h t).imp id fun h => ⟨by rw [h.1, ren_congr hr h.2], idsV_mono hD h.2⟩

/-- Fewer things are said of a frame. -/
theorem Rel.weaken {r : Nat → Nat} {D : Nat → Prop} {ts ts' : Nat → Value} {a : Act} (h : Rel r D ts a) (ht : ∀ t, ts' t = junk ∨ ts' t = ts t) : Rel r D ts' a :=
  fun t => (ht t).elim .inl fun e => by rw [e]; exact h t

def putT (ts : Nat → Value) (dst : Option Tmp) (v : Value) : Nat → Value :=
  match dst with
  | some d => upd ts d v
  | none => ts

/-- The slots written lie within. -/
theorem Rel.put {r : Nat → Nat} {D : Nat → Prop} {ts : Nat → Value} {a : Act} (h : Rel r D ts a) {dst : Option Tmp} (hd : ∀ d, dst = some d → d < a.tmps.size) {v : Value} (hv : idsV D v) :
    Rel r D (putT ts dst v) (a.put dst (ren r v)) := by
  cases dst with
  | none => exact h
  | some d =>
    intro t
    have hlt := hd d rfl
    by_cases e : t = d
    · subst e
      simp only [putT, upd_same]
      exact .inr ⟨by simp [Act.put, hlt], hv⟩
    · simp only [putT, upd_other _ _ e]
      refine (h t).imp id fun h => ⟨?_, h.2⟩
      rw [← h.1]
      simp [Act.put, Array.getElem?_setIfInBounds_ne (Ne.symm e)]

theorem ren_undef (r : Nat → Nat) : ren r undef = undef := by simp [undef, ren]
theorem ids_undef (D : Nat → Prop) : idsV D undef := by simp [undef, idsV]

end Go.Gy
