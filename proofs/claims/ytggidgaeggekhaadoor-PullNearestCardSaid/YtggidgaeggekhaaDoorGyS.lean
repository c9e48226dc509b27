/-
  The ghost layer, part S: states by lists of what is known.
  Conditions: none beyond the hypotheses of each theorem.
-/
import Derived.Test.YtggidgaeggekhaaDoorGyR
import Derived.Test.YtggidgaeggekhaaDoorGyV
namespace Go.Gy
open Go Go.RowKit

def tsL : List (Nat × Value) → Nat → Value
  | [] => fun _ => junk
  | (k, v) :: l => upd (tsL l) k v
def hpL (G : Hp) : List (Nat × Blk) → Hp
  | [] => G
  | (k, b) :: m => upd (hpL G m) k (some b)
@[simp] theorem tsL_nil (t : Nat) : tsL [] t = junk := nr rfl
@[simp] theorem tsL_cons (k : Nat) (v : Value) (l : List (Nat × Value)) (t : Nat) : tsL ((k, v) :: l) t = if t = k then v else tsL l t := nr rfl
@[simp] theorem hpL_nil (G : Hp) : hpL G [] = G := nr rfl
@[simp] theorem hpL_cons (G : Hp) (k : Nat) (b : Blk) (m : List (Nat × Blk)) (t : Nat) : hpL G ((k, b) :: m) t = if t = k then some b else hpL G m t := nr rfl

theorem tsL_mem : ∀ {l : List (Nat × Value)} {t : Nat}, tsL l t = junk ∨ (t, tsL l t) ∈ l
  | [], _ => .inl rfl
  | (k, v) :: l, t => by
    rw [tsL_cons]
    split
    · rename_i e; subst e; exact .inr (by simp)
    · rcases tsL_mem (l := l) (t := t) with h | h
      · exact .inl h
      · exact .inr (List.mem_cons_of_mem _ h)
theorem hpL_mem {G : Hp} : ∀ {m : List (Nat × Blk)} {k : Nat} {b : Blk}, hpL G m k = some b → (k, b) ∈ m ∨ G k = some b
  | [], _, _, h => .inr h
  | (q, c) :: m, k, b, h => by
    rw [hpL_cons] at h
    split at h
    · rename_i e; subst e; cases h; exact .inl (by simp)
    · exact (hpL_mem h).imp (List.mem_cons_of_mem _) id
theorem hpL_low {G : Hp} : ∀ {m : List (Nat × Blk)} {k : Nat}, (∀ p ∈ m, 100 ≤ p.1) → k < 100 → hpL G m k = G k
  | [], _, _, _ => rfl
  | (q, c) :: m, k, h, hk => by
    have := h (q, c) (by simp)
    rw [hpL_cons, if_neg (by simp at this; omega)]
    exact hpL_low (fun p hp => h p (List.mem_cons_of_mem _ hp)) hk
theorem hpL_rst {G : Hp} (hGF : GFlat G) {m : List (Nat × Blk)} {rs : List Nat} (h : ∀ p ∈ m, p.1 ∈ rs) : rst (hpL G m) rs = hpL G m := funext fun k => by
  unfold rst
  split
  · rfl
  · rename_i hk
    cases hb : hpL G m k with
    | none => rfl
    | some b =>
      rcases hpL_mem hb with h1 | h1
      · exact absurd (.inr (h _ h1)) hk
      · exact absurd (.inl (hGF k b h1).1) hk

theorem weakL {C : Ctx} {G : Hp} {s : GS} {m m0 : List (Nat × Blk)} (l : List (Nat × Value)) (B : Nat) (hG : C.G = G) (hGF : GFlat G) (h0 : C.hp0 = hpL G m0) (hB : 100 ≤ B) (hl : ∀ p ∈ l, s.ts p.1 = p.2 ∧ idsV (dom (hpL G m)) p.2)
    (hm : ∀ p ∈ m, s.hp p.1 = some p.2 ∧ p.2.ids (dom (hpL G m)) ∧ 100 ≤ p.1 ∧ p.1 < B) (hk : ∀ p ∈ m0, 100 ≤ p.1 ∧ hpL G m p.1 = s.hp p.1) : Weak C s ⟨tsL l, hpL G m, B, s.yc⟩ where
  ts t := by
    rcases tsL_mem (l := l) (t := t) with h | h
    · exact .inl h
    · exact .inr ⟨(hl _ h).1.symm, (hl _ h).2⟩
  hp k hk := by
    dsimp only
    cases hb : hpL G m k with
    | none => exact .inl rfl
    | some b =>
      rcases hpL_mem hb with h | h
      · exact .inr (hm _ h).1.symm
      · have := (hGF k b h).1; omega
  ids k b hb := by
    rcases hpL_mem hb with h | h
    · exact (hm _ h).2.1
    · exact fun x hx => flatF_ids ((hGF k b h).2 x hx)
  keep k h1k hd := by
    rw [h0] at hd
    dsimp only
    unfold dom at hd
    cases hb : hpL G m0 k with
    | none => exact absurd hb hd
    | some b =>
      rcases hpL_mem hb with h | h
      · exact (hk _ h).2
      · have hlt := (hGF k b h).1; omega
  glob k hlt := by rw [hG]; exact hpL_low (fun p hp => (hm p hp).2.2.1) hlt
  yc := rfl
  free x hx := by
    dsimp only at hx ⊢
    cases hb : hpL G m x with
    | none => rfl
    | some b =>
      rcases hpL_mem hb with h | h
      · have := (hm _ h).2.2.2; simp at this; omega
      · have := (hGF x b h).1; omega
  low := hB

theorem heapK_of {P : Program} {G : Hp} {f : FuncId} {args : Array Value} {hp hp' : Hp} {rs : List Nat} {res : Res} {nk : Nat} {K : Eff → Prop} (h : Fun P G f args hp' rs res) (h1 : ∀ k ∈ rs, hp' k = hp k) (h2 : ∀ k, k < 100 → hp' k = G k) (h3 : res.at nk) (hk : K (res.eff rs)) : heapK P G f args hp nk K :=
  ⟨hp', rs, res, h1, h2, h, h3, hk⟩

/-! what names values hold -/
@[simp] theorem iV_bool (D : Nat → Prop) (b : Bool) : idsV D (.bool b) = True := nr rfl
@[simp] theorem iV_int (D : Nat → Prop) (k : IntKind) (n : Int) : idsV D (.int k n) = True := nr rfl
@[simp] theorem iV_string (D : Nat → Prop) (s : ByteArray) : idsV D (.string s) = True := nr rfl
@[simp] theorem iV_nilFunc (D : Nat → Prop) : idsV D .nilFunc = True := nr rfl
@[simp] theorem iV_nilIface (D : Nat → Prop) : idsV D .nilIface = True := nr rfl
@[simp] theorem iV_ptr (D : Nat → Prop) (a : Addr) : idsV D (.pointer (some a)) = D a.block := nr rfl
@[simp] theorem iV_nilptr (D : Nat → Prop) : idsV D (.pointer none) = True := nr rfl
@[simp] theorem iV_slice (D : Nat → Prop) (a : Addr) (n c : Nat) : idsV D (.slice (some a) n c) = D a.block := nr rfl
@[simp] theorem iV_nilslice (D : Nat → Prop) (n c : Nat) : idsV D (.slice none n c) = True := nr rfl
@[simp] theorem iV_func (D : Nat → Prop) (fn : Fn) (a b : Array Value) : idsV D (.func fn a b) = ((∀ x ∈ a, ids0 D x) ∧ ∀ x ∈ b, ids0 D x) := nr rfl
@[simp] theorem iV_iface (D : Nat → Prop) (t : TypeId) (v : Value) : idsV D (.iface t v) = ids0 D v := nr rfl
@[simp] theorem iV_agg (D : Nat → Prop) (l : List Value) : idsV D (.agg l.toArray) ↔ ∀ x ∈ l, idsF D x := by simp [idsV, idsA]
@[simp] theorem iV_undef (D : Nat → Prop) : idsV D undef = True := by simp [undef, idsV]
@[simp] theorem i0_bool (D : Nat → Prop) (b : Bool) : ids0 D (.bool b) = True := nr rfl
@[simp] theorem i0_int (D : Nat → Prop) (k : IntKind) (n : Int) : ids0 D (.int k n) = True := nr rfl
@[simp] theorem i0_string (D : Nat → Prop) (s : ByteArray) : ids0 D (.string s) = True := nr rfl
@[simp] theorem i0_ptr (D : Nat → Prop) (a : Addr) : ids0 D (.pointer (some a)) = D a.block := nr rfl
@[simp] theorem i0_nilptr (D : Nat → Prop) : ids0 D (.pointer none) = True := nr rfl
@[simp] theorem i0_slice (D : Nat → Prop) (a : Addr) (n c : Nat) : ids0 D (.slice (some a) n c) = D a.block := nr rfl
@[simp] theorem i0_nilslice (D : Nat → Prop) (n c : Nat) : ids0 D (.slice none n c) = True := nr rfl
@[simp] theorem iF_bool (D : Nat → Prop) (b : Bool) : idsF D (.bool b) = True := nr rfl
@[simp] theorem iF_int (D : Nat → Prop) (k : IntKind) (n : Int) : idsF D (.int k n) = True := nr rfl
@[simp] theorem iF_string (D : Nat → Prop) (s : ByteArray) : idsF D (.string s) = True := nr rfl
@[simp] theorem iF_nilFunc (D : Nat → Prop) : idsF D .nilFunc = True := nr rfl
@[simp] theorem iF_ptr (D : Nat → Prop) (a : Addr) : idsF D (.pointer (some a)) = D a.block := nr rfl
@[simp] theorem iF_nilptr (D : Nat → Prop) : idsF D (.pointer none) = True := nr rfl
@[simp] theorem iF_slice (D : Nat → Prop) (a : Addr) (n c : Nat) : idsF D (.slice (some a) n c) = D a.block := nr rfl
@[simp] theorem iF_nilslice (D : Nat → Prop) (n c : Nat) : idsF D (.slice none n c) = True := nr rfl
@[simp] theorem iF_func (D : Nat → Prop) (fn : Fn) (a b : Array Value) : idsF D (.func fn a b) = ((∀ x ∈ a, ids0 D x) ∧ ∀ x ∈ b, ids0 D x) := nr rfl
@[simp] theorem iF_iface (D : Nat → Prop) (t : TypeId) (v : Value) : idsF D (.iface t v) = ids0 D v := nr rfl
@[simp] theorem bids_lit (l : List Value) (T : TypeId) (D : Nat → Prop) : (Blk.mk l.toArray T).ids D ↔ ∀ x ∈ l, idsF D x := by simp [Blk.ids]
end Go.Gy
