/-
  The ghost layer: the rules by which 'simp' unfolds a walk. Each is by definition.
  Conditions: none beyond the hypotheses of each theorem.
-/
import Derived.Test.YtggidgaeggekhaaDoorGyF
namespace Go.Gy
open Go Go.RowKit

/-- Not for the checker to unfold. -/
theorem nr {α : Sort _} {a b : α} (h : a = b) : a = b := h
section
variable {P : Program} {G : Hp} {V : XV} {yc : Nat} {ts : Nat → Value} {hp : Hp} {nk : Nat} {C : Eff → Prop} {dst : Option Tmp} {type : TypeId} {pos : String} {after : Array Edge} {guard : Option (Nat × Bool)}

@[simp] theorem nj_bool (b : Bool) : nj (.bool b) = True := nr rfl
@[simp] theorem nj_int (k : IntKind) (n : Int) : nj (.int k n) = True := nr rfl
@[simp] theorem nj_string (s : ByteArray) : nj (.string s) = True := nr rfl
@[simp] theorem nj_pointer (a : Option Addr) : nj (.pointer a) = True := nr rfl
@[simp] theorem nj_slice (a : Option Addr) (n c : Nat) : nj (.slice a n c) = True := nr rfl
@[simp] theorem nj_map (a : Option Nat) : nj (.map a) = True := nr rfl
@[simp] theorem nj_func (f : Fn) (a b : Array Value) : nj (.func f a b) = True := nr rfl
@[simp] theorem nj_nilFunc : nj .nilFunc = True := nr rfl
@[simp] theorem nj_iface (t : TypeId) (v : Value) : nj (.iface t v) = True := nr rfl
@[simp] theorem nj_nilIface : nj .nilIface = True := nr rfl
@[simp] theorem nj_agg (cs : Array Value) : nj (.agg cs) = True := nr rfl
@[simp] theorem nj_tuple (cs : Array Value) : nj (.tuple cs) = True := nr rfl

@[simp] theorem okX_tmp (t : Tmp) : okX ts hp (.tmp t) = nj (ts t) := nr rfl
@[simp] theorem okX_const (v : Value) : okX ts hp (.const v) = (flatV v = true) := nr rfl
@[simp] theorem okX_global (g : Nat) : okX ts hp (.global g) = (g < 100 ∧ (hp g).isSome = true) := nr rfl
@[simp] theorem okX_func (f : FuncId) : okX ts hp (.func f) = True := nr rfl
@[simp] theorem gev_tmp (t : Tmp) : gev ts (.tmp t) = ts t := nr rfl
@[simp] theorem gev_const (v : Value) : gev ts (.const v) = v := nr rfl
@[simp] theorem gev_global (g : Nat) : gev ts (.global g) = .pointer (some ⟨g, 0, none⟩) := nr rfl
@[simp] theorem gev_func (f : FuncId) : gev ts (.func f) = .func (.func f) #[] #[] := nr rfl

@[simp] theorem flat0_bool (b : Bool) : flat0 (.bool b) = true := nr rfl
@[simp] theorem flat0_int (k : IntKind) (n : Int) : flat0 (.int k n) = true := nr rfl
@[simp] theorem flat0_string (s : ByteArray) : flat0 (.string s) = true := nr rfl
@[simp] theorem flat0_nilFunc : flat0 .nilFunc = true := nr rfl
@[simp] theorem flat0_nilIface : flat0 .nilIface = true := nr rfl
@[simp] theorem flat0_nilPtr : flat0 (.pointer none) = true := nr rfl
@[simp] theorem flat0_nilSlice (n c : Nat) : flat0 (.slice none n c) = true := nr rfl
@[simp] theorem flatF_bool (b : Bool) : flatF (.bool b) = true := nr rfl
@[simp] theorem flatF_int (k : IntKind) (n : Int) : flatF (.int k n) = true := nr rfl
@[simp] theorem flatF_string (s : ByteArray) : flatF (.string s) = true := nr rfl
@[simp] theorem flatF_nilFunc : flatF .nilFunc = true := nr rfl
@[simp] theorem flatF_nilIface : flatF .nilIface = true := nr rfl
@[simp] theorem flatF_nilPtr : flatF (.pointer none) = true := nr rfl
@[simp] theorem flatF_nilSlice (n c : Nat) : flatF (.slice none n c) = true := nr rfl
@[simp] theorem flatF_iface (t : TypeId) (v : Value) : flatF (.iface t v) = flat0 v := nr rfl
@[simp] theorem flatA_bool (b : Bool) : flatA (.bool b) = true := nr rfl
@[simp] theorem flatA_int (k : IntKind) (n : Int) : flatA (.int k n) = true := nr rfl
@[simp] theorem flatA_string (s : ByteArray) : flatA (.string s) = true := nr rfl
@[simp] theorem flatA_nilFunc : flatA .nilFunc = true := nr rfl
@[simp] theorem flatA_nilIface : flatA .nilIface = true := nr rfl
@[simp] theorem flatA_nilPtr : flatA (.pointer none) = true := nr rfl
@[simp] theorem flatA_nilSlice (n c : Nat) : flatA (.slice none n c) = true := nr rfl
@[simp] theorem flatA_iface (t : TypeId) (v : Value) : flatA (.iface t v) = flat0 v := nr rfl
@[simp] theorem flatA_agg (cs : Array Value) : flatA (.agg cs) = cs.all flatF := nr rfl
@[simp] theorem flatV_bool (b : Bool) : flatV (.bool b) = true := nr rfl
@[simp] theorem flatV_int (k : IntKind) (n : Int) : flatV (.int k n) = true := nr rfl
@[simp] theorem flatV_string (s : ByteArray) : flatV (.string s) = true := nr rfl
@[simp] theorem flatV_nilFunc : flatV .nilFunc = true := nr rfl
@[simp] theorem flatV_nilIface : flatV .nilIface = true := nr rfl
@[simp] theorem flatV_nilPtr : flatV (.pointer none) = true := nr rfl
@[simp] theorem flatV_nilSlice (n c : Nat) : flatV (.slice none n c) = true := nr rfl
@[simp] theorem flatV_iface (t : TypeId) (v : Value) : flatV (.iface t v) = flat0 v := nr rfl
@[simp] theorem flatV_agg (cs : Array Value) : flatV (.agg cs) = cs.all flatF := nr rfl
@[simp] theorem flatV_tuple (cs : Array Value) : flatV (.tuple cs) = cs.all flatA := nr rfl

@[simp] theorem scal_bool (b : Bool) : scal (.bool b) = true := nr rfl
@[simp] theorem scal_int (k : IntKind) (n : Int) : scal (.int k n) = true := nr rfl
@[simp] theorem scal_string (s : ByteArray) : scal (.string s) = true := nr rfl
@[simp] theorem scal_pointer (a : Option Addr) : scal (.pointer a) = true := nr rfl
@[simp] theorem scal_slice (a : Option Addr) (n c : Nat) : scal (.slice a n c) = true := nr rfl
@[simp] theorem scal_func (f : Fn) (a b : Array Value) : scal (.func f a b) = true := nr rfl
@[simp] theorem scal_nilFunc : scal .nilFunc = true := nr rfl
@[simp] theorem scal_iface (t : TypeId) (v : Value) : scal (.iface t v) = true := nr rfl
@[simp] theorem scal_nilIface : scal .nilIface = true := nr rfl

@[simp] theorem okCells_bool (b : Bool) : okCells (.bool b) = true := nr rfl
@[simp] theorem okCells_int (k : IntKind) (n : Int) : okCells (.int k n) = true := nr rfl
@[simp] theorem okCells_string (s : ByteArray) : okCells (.string s) = true := nr rfl
@[simp] theorem okCells_pointer (a : Option Addr) : okCells (.pointer a) = true := nr rfl
@[simp] theorem okCells_slice (a : Option Addr) (n c : Nat) : okCells (.slice a n c) = true := nr rfl
@[simp] theorem okCells_func (f : Fn) (a b : Array Value) : okCells (.func f a b) = true := nr rfl
@[simp] theorem okCells_nilFunc : okCells .nilFunc = true := nr rfl
@[simp] theorem okCells_iface (t : TypeId) (v : Value) : okCells (.iface t v) = true := nr rfl
@[simp] theorem okCells_nilIface : okCells .nilIface = true := nr rfl
@[simp] theorem okCells_agg (cs : Array Value) : okCells (.agg cs) = cs.all scal := nr rfl

@[simp] theorem notTup_bool (b : Bool) : notTup (.bool b) = true := nr rfl
@[simp] theorem notTup_int (k : IntKind) (n : Int) : notTup (.int k n) = true := nr rfl
@[simp] theorem notTup_string (s : ByteArray) : notTup (.string s) = true := nr rfl
@[simp] theorem notTup_pointer (a : Option Addr) : notTup (.pointer a) = true := nr rfl
@[simp] theorem notTup_slice (a : Option Addr) (n c : Nat) : notTup (.slice a n c) = true := nr rfl
@[simp] theorem notTup_func (f : Fn) (a b : Array Value) : notTup (.func f a b) = true := nr rfl
@[simp] theorem notTup_nilFunc : notTup .nilFunc = true := nr rfl
@[simp] theorem notTup_iface (t : TypeId) (v : Value) : notTup (.iface t v) = true := nr rfl
@[simp] theorem notTup_nilIface : notTup .nilIface = true := nr rfl
@[simp] theorem notTup_agg (cs : Array Value) : notTup (.agg cs) = true := nr rfl

@[simp] theorem plain0_bool (b : Bool) : plain0 (.bool b) = true := nr rfl
@[simp] theorem plain0_int (k : IntKind) (n : Int) : plain0 (.int k n) = true := nr rfl
@[simp] theorem plain0_string (s : ByteArray) : plain0 (.string s) = true := nr rfl
@[simp] theorem plain0_pointer (a : Option Addr) : plain0 (.pointer a) = true := nr rfl
@[simp] theorem plain0_slice (a : Option Addr) (n c : Nat) : plain0 (.slice a n c) = true := nr rfl
@[simp] theorem plain0_nilFunc : plain0 .nilFunc = true := nr rfl

@[simp] theorem cells_bool (b : Bool) : (Value.bool b).cells = #[.bool b] := nr rfl
@[simp] theorem cells_int (k : IntKind) (n : Int) : (Value.int k n).cells = #[.int k n] := nr rfl
@[simp] theorem cells_string (s : ByteArray) : (Value.string s).cells = #[.string s] := nr rfl
@[simp] theorem cells_pointer (a : Option Addr) : (Value.pointer a).cells = #[.pointer a] := nr rfl
@[simp] theorem cells_slice (a : Option Addr) (n c : Nat) : (Value.slice a n c).cells = #[.slice a n c] := nr rfl
@[simp] theorem cells_func (f : Fn) (a b : Array Value) : (Value.func f a b).cells = #[.func f a b] := nr rfl
@[simp] theorem cells_nilFunc : Value.nilFunc.cells = #[.nilFunc] := nr rfl
@[simp] theorem cells_iface (t : TypeId) (v : Value) : (Value.iface t v).cells = #[.iface t v] := nr rfl
@[simp] theorem cells_nilIface : Value.nilIface.cells = #[.nilIface] := nr rfl
@[simp] theorem cells_agg (cs : Array Value) : (Value.agg cs).cells = cs := nr rfl

@[simp] theorem upd_app {α : Type} (f : Nat → α) (k : Nat) (v : α) (j : Nat) : upd f k v j = if j = k then v else f j := nr rfl
@[simp] theorem updL_nil : updL hp [] = hp := nr rfl
@[simp] theorem updL_cons (k : Nat) (b : Blk) (l : List (Nat × Blk)) : updL hp ((k, b) :: l) = updL (upd hp k (some b)) l := nr rfl
@[simp] theorem putT_some (d : Tmp) (v : Value) : putT ts (some d) v = upd ts d v := nr rfl
@[simp] theorem putT_none (v : Value) : putT ts none v = ts := nr rfl
@[simp] theorem keys_nil : keys [] = [] := nr rfl
@[simp] theorem keys_cons (k : Nat) (b : Blk) (l : List (Nat × Blk)) : keys ((k, b) :: l) = k :: keys l := nr rfl
@[simp] theorem tcons_0 (k : Nat) (tr : Tr) : tcons k [] [] tr = tr := nr rfl
@[simp] theorem tcons_1 (k x : Nat) (l wr : List Nat) (tr : Tr) : tcons k (x :: l) wr tr = (k, x :: l, wr) :: tr := nr rfl
@[simp] theorem tcons_2 (k x : Nat) (l : List Nat) (tr : Tr) : tcons k [] (x :: l) tr = (k, [], x :: l) :: tr := nr rfl
@[simp] theorem val_v (v : Value) (rs : List Nat) : (val v rs).v = v := nr rfl
@[simp] theorem val_rs (v : Value) (rs : List Nat) : (val v rs).rs = rs := nr rfl
@[simp] theorem val_ws (v : Value) (rs : List Nat) : (val v rs).ws = [] := nr rfl
@[simp] theorem val_ns (v : Value) (rs : List Nat) : (val v rs).ns = [] := nr rfl
@[simp] theorem val_pan (v : Value) (rs : List Nat) : (val v rs).pan = none := nr rfl
@[simp] theorem val_yl (v : Value) (rs : List Nat) : (val v rs).yl = false := nr rfl
@[simp] theorem effr_eq (rs : List Nat) (v : Value) (ws : List (Nat × Blk)) : (Res.ret v ws).eff rs = ⟨v, rs, ws, [], none, false⟩ := nr rfl
@[simp] theorem effn_eq (rs : List Nat) (v : Value) (ns : List (Nat × Blk)) : (Res.new v ns).eff rs = ⟨v, rs, [], ns, none, false⟩ := nr rfl
@[simp] theorem effp_eq (rs : List Nat) (v : Value) : (Res.pan v).eff rs = ⟨junk, rs, [], [], some v, false⟩ := nr rfl
@[simp] theorem gptr_eq (k : Nat) : gptr k = .pointer (some ⟨k, 0, none⟩) := nr rfl
@[simp] theorem splice_nil (c : Array Value) (o : Nat) : splice c o [] = c := nr rfl
@[simp] theorem splice_cons (c : Array Value) (o : Nat) (v : Value) (l : List Value) : splice c o (v :: l) = splice (c.setIfInBounds o v) (o + 1) l := nr rfl

/-! guards -/
def wantV (v : Value) (w : Bool) : Option Bool :=
  match v with
  | .bool b => some (b == w)
  | .tuple _ => some false
  | _ => none
@[simp] theorem wantV_bool (b w : Bool) : wantV (.bool b) w = some (b == w) := nr rfl
@[simp] theorem wantV_undef (w : Bool) : wantV undef w = some false := nr rfl
@[simp] theorem wanted_none (ops : Array Oper) (op : Op) : wantedG ops ⟨dst, op, type, pos, after, none⟩ ts = some true := nr rfl
def wantO (d : Option Tmp) (w : Bool) (ts : Nat → Value) : Option Bool :=
  match d with
  | some d => wantV (ts d) w
  | none => some false
@[simp] theorem wantO_some (d : Tmp) (w : Bool) : wantO (some d) w ts = wantV (ts d) w := nr rfl
@[simp] theorem wanted_some (ops : Array Oper) (op : Op) (j : Nat) (w : Bool) : wantedG ops ⟨dst, op, type, pos, after, some (j, w)⟩ ts = wantO ((ops[j]?).bind (·.dst)) w ts := by
  unfold wantedG wantO wantV
  rfl

/-- One of two ways, by a truth value. -/
def wayG (w : Option Bool) (a b : Prop) : Prop :=
  match w with
  | some true => a
  | some false => b
  | none => False
@[simp] theorem wayG_true (a b : Prop) : wayG (some true) a b = a := nr rfl
@[simp] theorem wayG_false (a b : Prop) : wayG (some false) a b = b := nr rfl
theorem wayG_some (t : Bool) (a b : Prop) : wayG (some t) a b ↔ (t = true → a) ∧ (t = false → b) := by cases t <;> simp [wayG]

/-- The walk of a region; 'seen' holds the slots of the operations before, the last first. -/
def wantedS (seen : List (Option Tmp)) (k : Nat) (o : Oper) (ts : Nat → Value) : Option Bool :=
  match o.guard with
  | none => some true
  | some (j, w) => if j < k then wantO ((seen[k - 1 - j]?).bind id) w ts else none
@[simp] theorem wantedS_none (seen : List (Option Tmp)) (k : Nat) (op : Op) : wantedS seen k ⟨dst, op, type, pos, after, none⟩ ts = some true := nr rfl
@[simp] theorem wantedS_some (seen : List (Option Tmp)) (k : Nat) (op : Op) (j : Nat) (w : Bool) : wantedS seen k ⟨dst, op, type, pos, after, some (j, w)⟩ ts = if j < k then wantO ((seen[k - 1 - j]?).bind id) w ts else none := nr rfl
/-- Where a walk goes: at its end; where it has panicked. -/
structure QQ where
  q : (Nat → Value) → Hp → Tr → Nat → Prop
  p : Value → Tr → Prop
def panX (pan : Option Value) (a : Prop) (b : Value → Prop) : Prop :=
  match pan with
  | none => a
  | some v => b v
@[simp] theorem panX_none (a : Prop) (b : Value → Prop) : panX none a b = a := nr rfl
@[simp] theorem panX_some (a : Prop) (b : Value → Prop) (v : Value) : panX (some v) a b = b v := nr rfl
@[congr] theorem panX_congr {pan pan' : Option Value} {a : Prop} {b : Value → Prop} (h : pan = pan') : panX pan a b = panX pan' a b := by rw [h]
def lexS (P : Program) (G : Hp) (V : XV) (base : Nat) (Q : QQ) : List (Option Tmp) → Nat → List Oper → (Nat → Value) → Hp → Tr → Nat → Bool → Bool → Prop
  | _, _, [], ts, hp, tr, yc, _, _ => Q.q ts hp tr yc
  | seen, k, o :: rest, ts, hp, tr, yc, wr, yd => wayG (wantedS seen k o ts) (opX P G V yc o ts hp (base + 8 * k) fun e => (e.yl = true → yd = false) ∧ panX e.pan
        (lexS P G V base Q (o.dst :: seen) (k + 1) rest (putT ts o.dst e.v) (updL hp (e.ws ++ e.ns)) (tcons k (e.rs ++ keys e.ns) (keys e.ws ++ keys e.ns) tr) (if e.yl then yc + 1 else yc) (wr || !e.ws.isEmpty) (yd || e.yl))
        (fun pv => (V.dr = true → rest.isEmpty = true) ∧ (wr || !e.ws.isEmpty) = false ∧ Q.p pv (tcons k (e.rs ++ keys e.ns) (keys e.ws ++ keys e.ns) tr)))
      (unD o ts ∧ lexS P G V base Q (o.dst :: seen) (k + 1) rest (putT ts o.dst undef) hp tr yc wr yd)
theorem wantedS_eq {ops : Array Oper} {seen : List (Option Tmp)} {k : Nat} {o : Oper} {b : Bool} (hs : ∀ j, j < k → (seen[k - 1 - j]?).bind id = (ops[j]?).bind (·.dst)) (h : wantedS seen k o ts = some b) : wantedG ops o ts = some b := by
  obtain ⟨dst, op, type, pos, after, guard⟩ := o
  cases guard with
  | none => exact h
  | some p =>
    obtain ⟨j, w⟩ := p
    rw [wantedS_some] at h
    rw [wanted_some]
    split at h
    · rename_i hj; rw [hs j hj] at h; exact h
    · cases h
theorem opX_mono {o : Oper} {C' : Eff → Prop} (hc : ∀ e, C e → C' e) (h : opX P G V yc o ts hp nk C) : opX P G V yc o ts hp nk C' := by
  unfold opX callX calleeX callK callP heapK yieldK pureV at *
  repeat' split at h
  all_goals first | exact h.elim | skip
  all_goals grind
theorem lexX_of_lexS {ops : Array Oper} {base : Nat} {Q : QQ} : ∀ (l : List Oper) (seen : List (Option Tmp)) (k : Nat) (ts : Nat → Value) (hp : Hp) (tr : Tr) (yc : Nat) (wr yd : Bool), (∀ j, j < k → (seen[k - 1 - j]?).bind id = (ops[j]?).bind (·.dst)) → (∀ i, l[i]? = ops[k + i]?) →
    lexS P G V base Q seen k l ts hp tr yc wr yd → lexX P G V ops base Q.q Q.p k l ts hp tr yc wr yd
  | [], _, _, _, _, _, _, _, _, _, _, h => h
  | o :: l, seen, k, ts, hp, tr, yc, wr, yd, hs, hl, h => by
    have ho : ops[k]? = some o := by have := hl 0; simpa using this.symm
    have hs' : ∀ j, j < k + 1 → ((o.dst :: seen)[k + 1 - 1 - j]?).bind id = (ops[j]?).bind (·.dst) := fun j hj => by
      by_cases e : j = k
      · subst e; simp [ho]
      · have : k + 1 - 1 - j = (k - 1 - j) + 1 := by omega
        rw [this, List.getElem?_cons_succ]; exact hs j (by omega)
    have hl' : ∀ i, l[i]? = ops[k + 1 + i]? := fun i => by
      have := hl (i + 1)
      rw [List.getElem?_cons_succ] at this
      rw [this]; congr 1; omega
    simp only [lexS] at h
    simp only [lexX]
    cases hw : wantedS seen k o ts with
    | none => rw [hw] at h; exact h.elim
    | some b =>
      rw [hw] at h
      rw [wantedS_eq hs hw]
      cases b with
      | true =>
        rw [wayG_true] at h
        refine opX_mono (fun e he => ⟨he.1, ?_⟩) h
        have he := he.2
        cases hpn : e.pan with
        | none => rw [hpn] at he; exact lexX_of_lexS l _ _ _ _ _ _ _ _ hs' hl' he
        | some pv => rw [hpn] at he; exact ⟨fun hd => by simpa using he.1 hd, he.2⟩
      | false => exact ⟨h.1, lexX_of_lexS l _ _ _ _ _ _ _ _ hs' hl' h.2⟩
theorem GW_draw' {Ct : Ctx} {n : Nat} {d : List Deferred} {ro : Option Nat} {s : GS} {K : Exit → GS → Prop} {id : Nat} {l : List Oper} (pn : List FuncId) (hm : P.follows .mixedOrders = true) (hB : Region.lexFrom .any l.toArray l.length 0 (Array.replicate l.length false) = true) (hdst : (dstOk n l && unOk P l) = true)
    (h : ∀ (Q : QQ), (∀ ts hp tr yc, chk .any l.toArray tr = true → K .normal ⟨ts, hp, s.B + 8 * l.length, yc⟩ → Q.q ts hp tr yc) →
      (∀ pv tr, chk .any l.toArray tr = true → (∀ yc, K (.panic [{ v := pv, recovered := false }]) ⟨keepT l s.ts, s.hp, s.B, yc⟩) → Q.p pv tr) → lexS P Ct.G ⟨Ct.Y, pn, true⟩ s.B Q [] 0 l s.ts s.hp [] s.yc false false) : GW P Ct n d ro (.region id l.toArray true) s K :=
  GW_draw pn hm hB hdst fun Q Qp hQ hQp => lexX_of_lexS (Q := ⟨Q, Qp⟩) l [] 0 _ _ _ _ _ _ (fun j hj => absurd hj (Nat.not_lt_zero j)) (fun i => by simp) (h ⟨Q, Qp⟩ hQ hQp)
theorem GW_region' {Ct : Ctx} {n : Nat} {d : List Deferred} {ro : Option Nat} {s : GS} {K : Exit → GS → Prop} {id : Nat} {l : List Oper} (pn : List FuncId) (hdst : (dstOk n l && unOk P l) = true)
    (h : ∀ (Q : QQ), (∀ ts hp tr yc, K .normal ⟨ts, hp, s.B + 8 * l.length, yc⟩ → Q.q ts hp tr yc) →
      (∀ pv tr, (∀ yc, K (.panic [{ v := pv, recovered := false }]) ⟨keepT l s.ts, s.hp, s.B, yc⟩) → Q.p pv tr) → lexS P Ct.G ⟨Ct.Y, pn, false⟩ s.B Q [] 0 l s.ts s.hp [] s.yc false false) : GW P Ct n d ro (.region id l.toArray false) s K :=
  GW_region pn hdst fun Q Qp hQ hQp => lexX_of_lexS (Q := ⟨Q, Qp⟩) l [] 0 _ _ _ _ _ _ (fun j hj => absurd hj (Nat.not_lt_zero j)) (fun i => by simp) (h ⟨Q, Qp⟩ hQ hQp)

def callC (C : Eff → Prop) (v : Value) : Prop := C (val v [])
@[simp] theorem callC_app (v : Value) : callC C v = C (val v []) := nr rfl
/-- What comes after an operation. -/
def contX (P : Program) (G : Hp) (V : XV) (base : Nat) (Q : QQ) (seen : List (Option Tmp)) (k : Nat) (rest : List Oper) (dst : Option Tmp) (ts : Nat → Value) (hp : Hp) (tr : Tr) (yc : Nat) (wr yd : Bool) (e : Eff) : Prop :=
  (e.yl = true → yd = false) ∧ panX e.pan
        (lexS P G V base Q (dst :: seen) (k + 1) rest (putT ts dst e.v) (updL hp (e.ws ++ e.ns)) (tcons k (e.rs ++ keys e.ns) (keys e.ws ++ keys e.ns) tr) (if e.yl then yc + 1 else yc) (wr || !e.ws.isEmpty) (yd || e.yl))
        (fun pv => (V.dr = true → rest.isEmpty = true) ∧ (wr || !e.ws.isEmpty) = false ∧ Q.p pv (tcons k (e.rs ++ keys e.ns) (keys e.ws ++ keys e.ns) tr))
@[simp] theorem contX_val (base : Nat) (Q : QQ) (seen : List (Option Tmp)) (k : Nat) (rest : List Oper) (tr : Tr) (wr yd : Bool) (v : Value) (rs : List Nat) : contX P G V base Q seen k rest dst ts hp tr yc wr yd (val v rs) =
  lexS P G V base Q (dst :: seen) (k + 1) rest (putT ts dst v) hp (tcons k rs [] tr) yc wr yd := by simp [contX]
@[simp] theorem contX_mk (base : Nat) (Q : QQ) (seen : List (Option Tmp)) (k : Nat) (rest : List Oper) (tr : Tr) (wr yd : Bool) (v : Value) (rs : List Nat) (ws ns : List (Nat × Blk)) : contX P G V base Q seen k rest dst ts hp tr yc wr yd ⟨v, rs, ws, ns, none, false⟩ =
  lexS P G V base Q (dst :: seen) (k + 1) rest (putT ts dst v) (updL hp (ws ++ ns)) (tcons k (rs ++ keys ns) (keys ws ++ keys ns) tr) yc (wr || !ws.isEmpty) yd := by simp [contX]
@[simp] theorem contX_yl (base : Nat) (Q : QQ) (seen : List (Option Tmp)) (k : Nat) (rest : List Oper) (tr : Tr) (wr yd : Bool) (v : Value) : contX P G V base Q seen k rest dst ts hp tr yc wr yd ⟨v, [], [], [], none, true⟩ =
  (yd = false ∧ lexS P G V base Q (dst :: seen) (k + 1) rest (putT ts dst v) hp tr (yc + 1) wr true) := by simp [contX]
@[simp] theorem contX_pan (base : Nat) (Q : QQ) (seen : List (Option Tmp)) (k : Nat) (rest : List Oper) (tr : Tr) (wr yd : Bool) (v pv : Value) (rs : List Nat) : contX P G V base Q seen k rest dst ts hp tr yc wr yd ⟨v, rs, [], [], some pv, false⟩ =
  ((V.dr = true → rest.isEmpty = true) ∧ wr = false ∧ Q.p pv (tcons k rs [] tr)) := by simp [contX]
@[simp] theorem contX_pny (base : Nat) (Q : QQ) (seen : List (Option Tmp)) (k : Nat) (rest : List Oper) (tr : Tr) (wr yd : Bool) (v pv : Value) : contX P G V base Q seen k rest dst ts hp tr yc wr yd ⟨v, [], [], [], some pv, true⟩ =
  (yd = false ∧ (V.dr = true → rest.isEmpty = true) ∧ wr = false ∧ Q.p pv tr) := by simp [contX]
@[simp] theorem lexS_nil (base : Nat) (Q : QQ) (seen : List (Option Tmp)) (k : Nat) (tr : Tr) (wr yd : Bool) : lexS P G V base Q seen k [] ts hp tr yc wr yd = Q.q ts hp tr yc := nr rfl
@[simp] theorem lexS_cons (base : Nat) (Q : QQ) (seen : List (Option Tmp)) (k : Nat) (tr : Tr) (wr yd : Bool) (op : Op) (rest : List Oper) : lexS P G V base Q seen k (⟨dst, op, type, pos, after, guard⟩ :: rest) ts hp tr yc wr yd =
    wayG (wantedS seen k ⟨dst, op, type, pos, after, guard⟩ ts) (opX P G V yc ⟨dst, op, type, pos, after, guard⟩ ts hp (base + 8 * k) (contX P G V base Q seen k rest dst ts hp tr yc wr yd))
      (unD ⟨dst, op, type, pos, after, guard⟩ ts ∧ lexS P G V base Q (dst :: seen) (k + 1) rest (putT ts dst undef) hp tr yc wr yd) := nr rfl

@[simp] theorem unD_move (x : Operand) : unD ⟨dst, .move x, type, pos, after, guard⟩ ts = True := nr rfl
@[simp] theorem unD_assign (x : Operand) : unD ⟨dst, .assign x, type, pos, after, guard⟩ ts = True := nr rfl
@[simp] theorem unD_pick (c : Operand) (x : Operand) (y : Operand) : unD ⟨dst, .pick c x y, type, pos, after, guard⟩ ts = True := nr rfl
@[simp] theorem unD_alloc (T : TypeId) : unD ⟨dst, .alloc T, type, pos, after, guard⟩ ts = True := nr rfl
@[simp] theorem unD_box (T : TypeId) (x : Operand) : unD ⟨dst, .box T x, type, pos, after, guard⟩ ts = True := nr rfl
@[simp] theorem unD_build (T : TypeId) (ps : Array (Nat × Operand)) : unD ⟨dst, .build T ps, type, pos, after, guard⟩ ts = True := nr rfl
@[simp] theorem unD_buildSlice (T : TypeId) (n : Nat) (ps : Array (Nat × Operand)) : unD ⟨dst, .buildSlice T n ps, type, pos, after, guard⟩ ts = True := nr rfl
@[simp] theorem unD_load (T : TypeId) (x : Operand) : unD ⟨dst, .load T x, type, pos, after, guard⟩ ts = True := nr rfl
@[simp] theorem unD_store (T : TypeId) (x : Operand) (y : Operand) : unD ⟨dst, .store T x y, type, pos, after, guard⟩ ts = True := nr rfl
@[simp] theorem unD_nilCheck (x : Operand) : unD ⟨dst, .nilCheck x, type, pos, after, guard⟩ ts = True := nr rfl
@[simp] theorem unD_binOp (b : BinOp) (T : TypeId) (x : Operand) (y : Operand) (T2 : TypeId) : unD ⟨dst, .binOp b T x y T2, type, pos, after, guard⟩ ts = True := nr rfl
@[simp] theorem unD_unOp (u : UnOp) (T : TypeId) (x : Operand) : unD ⟨dst, .unOp u T x, type, pos, after, guard⟩ ts = True := nr rfl
@[simp] theorem unD_convert (S : TypeId) (T : TypeId) (x : Operand) : unD ⟨dst, .convert S T x, type, pos, after, guard⟩ ts = True := nr rfl
@[simp] theorem unD_sliceToArrayPointer (T : TypeId) (x : Operand) : unD ⟨dst, .sliceToArrayPointer T x, type, pos, after, guard⟩ ts = True := nr rfl
@[simp] theorem unD_makeInterface (T : TypeId) (x : Operand) : unD ⟨dst, .makeInterface T x, type, pos, after, guard⟩ ts = True := nr rfl
@[simp] theorem unD_makeFunc (f : Fn) (a : Array Operand) (b : Array Operand) : unD ⟨dst, .makeFunc f a b, type, pos, after, guard⟩ ts = True := nr rfl
@[simp] theorem unD_makeSlice (T : TypeId) (x : Operand) (y : Operand) : unD ⟨dst, .makeSlice T x y, type, pos, after, guard⟩ ts = True := nr rfl
@[simp] theorem unD_slice (T : TypeId) (x : Operand) (lo : Option Operand) (hi : Option Operand) (mx : Option Operand) : unD ⟨dst, .slice T x lo hi mx, type, pos, after, guard⟩ ts = True := nr rfl
@[simp] theorem unD_fieldAddr (T : TypeId) (x : Operand) (f : Nat) : unD ⟨dst, .fieldAddr T x f, type, pos, after, guard⟩ ts = True := nr rfl
@[simp] theorem unD_field (T : TypeId) (x : Operand) (f : Nat) : unD ⟨dst, .field T x f, type, pos, after, guard⟩ ts = True := nr rfl
@[simp] theorem unD_indexAddr (T : TypeId) (x : Operand) (i : Operand) : unD ⟨dst, .indexAddr T x i, type, pos, after, guard⟩ ts = True := nr rfl
@[simp] theorem unD_index (T : TypeId) (x : Operand) (i : Operand) : unD ⟨dst, .index T x i, type, pos, after, guard⟩ ts = True := nr rfl
@[simp] theorem unD_lookup (T : TypeId) (x : Operand) (i : Operand) (ok : Bool) : unD ⟨dst, .lookup T x i ok, type, pos, after, guard⟩ ts = True := nr rfl
@[simp] theorem unD_typeAssert (x : Operand) (S : TypeId) (T : TypeId) (ok : Bool) : unD ⟨dst, .typeAssert x S T ok, type, pos, after, guard⟩ ts = True := nr rfl
@[simp] theorem unD_extract (x : Operand) (i : Nat) : unD ⟨dst, .extract x i, type, pos, after, guard⟩ ts = True := nr rfl
@[simp] theorem unD_panic (x : Operand) : unD ⟨dst, .panic x, type, pos, after, guard⟩ ts = True := nr rfl
@[simp] theorem unD_makeMap (T : TypeId) (r : Option Operand) : unD ⟨dst, .makeMap T r, type, pos, after, guard⟩ ts = True := nr rfl
@[simp] theorem unD_insert (T : TypeId) (a : Operand) (b : Operand) (c2 : Operand) : unD ⟨dst, .insert T a b c2, type, pos, after, guard⟩ ts = True := nr rfl
@[simp] theorem unD_mapUpdate (T : TypeId) (a : Operand) (b : Operand) (c2 : Operand) : unD ⟨dst, .mapUpdate T a b c2, type, pos, after, guard⟩ ts = True := nr rfl
@[simp] theorem unD_callt (t : Tmp) (a : Array Operand) (T : Array TypeId) : unD ⟨dst, .call ⟨.value (.tmp t), a, T⟩, type, pos, after, guard⟩ ts = (ts t = undef) := nr rfl
@[simp] theorem unD_callf (f : FuncId) (a : Array Operand) (T : Array TypeId) : unD ⟨dst, .call ⟨.value (.func f), a, T⟩, type, pos, after, guard⟩ ts = True := nr rfl
@[simp] theorem unD_callb (b : Builtin) (a : Array Operand) (T : Array TypeId) : unD ⟨dst, .call ⟨.builtin b, a, T⟩, type, pos, after, guard⟩ ts = True := nr rfl

/-! operations -/
def ifaceX (u : Option TypeDesc) (T : TypeId) (v : Value) (C : Eff → Prop) : Prop :=
  match u with
  | some (.interface _) => False
  | some _ => C (val (.iface T v) [])
  | none => False
@[simp ↓] theorem opX_move (x : Operand) : opX P G V yc ⟨dst, .move x, type, pos, after, guard⟩ ts hp nk C = (okX ts hp x ∧ C (val (gev ts x) [])) := nr rfl
@[simp ↓] theorem opX_assign (x : Operand) : opX P G V yc ⟨dst, .assign x, type, pos, after, guard⟩ ts hp nk C = (okX ts hp x ∧ C (val (gev ts x) [])) := nr rfl
def pickX (ts : Nat → Value) (hp : Hp) (v : Value) (x y : Operand) (C : Eff → Prop) : Prop :=
  match v with
  | .bool b => (b = true → okX ts hp x) ∧ (b = false → okX ts hp y) ∧ C (val (if b then gev ts x else gev ts y) [])
  | _ => False
@[simp] theorem pickX_bool (b : Bool) (x y : Operand) : pickX ts hp (.bool b) x y C = ((b = true → okX ts hp x) ∧ (b = false → okX ts hp y) ∧ C (val (if b then gev ts x else gev ts y) [])) := nr rfl
@[simp ↓] theorem opX_pick (c x y : Operand) : opX P G V yc ⟨dst, .pick c x y, type, pos, after, guard⟩ ts hp nk C = (okX ts hp c ∧ pickX ts hp (gev ts c) x y C) := nr rfl
def allocX (z : Option Value) (nk : Nat) (T : TypeId) (C : Eff → Prop) : Prop :=
  match z with
  | some z => okCells z = true ∧ flatV z = true ∧ C ⟨gptr nk, [], [], [(nk, ⟨z.cells, T⟩)], none, false⟩
  | none => False
@[simp] theorem allocX_some (z : Value) (T : TypeId) : allocX (some z) nk T C = (okCells z = true ∧ flatV z = true ∧ C ⟨gptr nk, [], [], [(nk, ⟨z.cells, T⟩)], none, false⟩) := nr rfl
@[simp ↓] theorem opX_alloc (T : TypeId) : opX P G V yc ⟨dst, .alloc T, type, pos, after, guard⟩ ts hp nk C = allocX (tyZero P T) nk T C := nr rfl
@[simp ↓] theorem opX_box (T : TypeId) (x : Operand) : opX P G V yc ⟨dst, .box T x, type, pos, after, guard⟩ ts hp nk C = (okX ts hp x ∧ okCells (gev ts x) = true ∧ C ⟨gptr nk, [], [], [(nk, ⟨(gev ts x).cells, T⟩)], none, false⟩) := nr rfl
def loadX2 (v : Option Value) (k : Nat) (C : Eff → Prop) : Prop :=
  match v with
  | some v => C (val v [k])
  | none => False
@[simp] theorem loadX2_some (v : Value) (k : Nat) : loadX2 (some v) k C = C (val v [k]) := nr rfl
def loadX1 (P : Program) (T : TypeId) (b : Option Blk) (k off : Nat) (C : Eff → Prop) : Prop :=
  match b with
  | some b => loadX2 (loadB P T b.c off) k C
  | none => False
@[simp] theorem loadX1_some (T : TypeId) (c : Array Value) (T' : TypeId) (k off : Nat) : loadX1 P T (some ⟨c, T'⟩) k off C = loadX2 (loadB P T c off) k C := nr rfl
def loadX (P : Program) (T : TypeId) (hp : Hp) (v : Value) (C : Eff → Prop) : Prop :=
  match v with
  | .pointer (some ⟨k, off, none⟩) => loadX1 P T (hp k) k off C
  | _ => False
@[simp] theorem loadX_ptr (T : TypeId) (k off : Nat) : loadX P T hp (.pointer (some ⟨k, off, none⟩)) C = loadX1 P T (hp k) k off C := nr rfl
@[simp ↓] theorem opX_load (T : TypeId) (x : Operand) : opX P G V yc ⟨dst, .load T x, type, pos, after, guard⟩ ts hp nk C = (okX ts hp x ∧ loadX P T hp (gev ts x) C) := nr rfl
def storeX1 (P : Program) (T : TypeId) (b : Option Blk) (k off : Nat) (w : Value) (C : Eff → Prop) : Prop :=
  match b with
  | some b => okCells w = true ∧ tySize P T = some w.cells.size ∧ off + w.cells.size ≤ b.c.size ∧ 100 ≤ k ∧ C ⟨undef, [k], [(k, ⟨splice b.c off w.cells.toList, b.T⟩)], [], none, false⟩
  | none => False
@[simp] theorem storeX1_some (T : TypeId) (c : Array Value) (T' : TypeId) (k off : Nat) (w : Value) : storeX1 P T (some ⟨c, T'⟩) k off w C = (okCells w = true ∧ tySize P T = some w.cells.size ∧ off + w.cells.size ≤ c.size ∧ 100 ≤ k ∧ C ⟨undef, [k], [(k, ⟨splice c off w.cells.toList, T'⟩)], [], none, false⟩) := nr rfl
def storeX (P : Program) (T : TypeId) (hp : Hp) (v w : Value) (C : Eff → Prop) : Prop :=
  match v with
  | .pointer (some ⟨k, off, none⟩) => storeX1 P T (hp k) k off w C
  | _ => False
@[simp] theorem storeX_ptr (T : TypeId) (k off : Nat) (w : Value) : storeX P T hp (.pointer (some ⟨k, off, none⟩)) w C = storeX1 P T (hp k) k off w C := nr rfl
@[simp ↓] theorem opX_store (T : TypeId) (x y : Operand) : opX P G V yc ⟨dst, .store T x y, type, pos, after, guard⟩ ts hp nk C = (okX ts hp x ∧ okX ts hp y ∧ storeX P T hp (gev ts x) (gev ts y) C) := nr rfl
def extractX1 (v : Option Value) (C : Eff → Prop) : Prop :=
  match v with
  | some v => notTup v = true ∧ C (val v [])
  | none => False
@[simp] theorem extractX1_some (v : Value) : extractX1 (some v) C = (notTup v = true ∧ C (val v [])) := nr rfl
def extractX (v : Value) (i : Nat) (C : Eff → Prop) : Prop :=
  match v with
  | .tuple vs => extractX1 vs[i]? C
  | _ => False
@[simp] theorem extractX_tuple (vs : Array Value) (i : Nat) : extractX (.tuple vs) i C = extractX1 vs[i]? C := nr rfl
@[simp ↓] theorem opX_extract (x : Operand) (i : Nat) : opX P G V yc ⟨dst, .extract x i, type, pos, after, guard⟩ ts hp nk C = (okX ts hp x ∧ extractX (gev ts x) i C) := nr rfl
def idxX1 (s : Option Nat) (k off : Nat) (m : Int) (C : Eff → Prop) : Prop :=
  match s with
  | some s => C (val (.pointer (some ⟨k, off + m.toNat * s, none⟩)) [])
  | none => False
@[simp] theorem idxX1_some (s k off : Nat) (m : Int) : idxX1 (some s) k off m C = C (val (.pointer (some ⟨k, off + m.toNat * s, none⟩)) []) := nr rfl
def idxXA (P : Program) (v : Value) (len : Nat) (e : TypeId) (m : Int) (C : Eff → Prop) : Prop :=
  match v with
  | .pointer (some ⟨k, off, none⟩) => (0 ≤ m ∧ m < len) ∧ idxX1 (tySize P e) k off m C
  | _ => False
@[simp] theorem idxXA_ptr (k off len : Nat) (e : TypeId) (m : Int) : idxXA P (.pointer (some ⟨k, off, none⟩)) len e m C = ((0 ≤ m ∧ m < len) ∧ idxX1 (tySize P e) k off m C) := nr rfl
def idxXS (P : Program) (v : Value) (e : TypeId) (m : Int) (C : Eff → Prop) : Prop :=
  match v with
  | .slice (some ⟨k, off, none⟩) len _ => (0 ≤ m ∧ m < len) ∧ idxX1 (tySize P e) k off m C
  | _ => False
@[simp] theorem idxXS_slice (k off len cap : Nat) (e : TypeId) (m : Int) : idxXS P (.slice (some ⟨k, off, none⟩) len cap) e m C = ((0 ≤ m ∧ m < len) ∧ idxX1 (tySize P e) k off m C) := nr rfl
def idxX (P : Program) (u : Option TypeDesc) (v : Value) (m : Int) (C : Eff → Prop) : Prop :=
  match u with
  | some (.array len e) => idxXA P v len e m C
  | some (.slice e) => idxXS P v e m C
  | _ => False
@[simp] theorem idxX_array (len : Nat) (e : TypeId) (v : Value) (m : Int) : idxX P (some (.array len e)) v m C = idxXA P v len e m C := nr rfl
@[simp] theorem idxX_slice (e : TypeId) (v : Value) (m : Int) : idxX P (some (.slice e)) v m C = idxXS P v e m C := nr rfl
def idxX0 (P : Program) (T : TypeId) (i v : Value) (C : Eff → Prop) : Prop :=
  match i with
  | .int _ m => idxX P (P.underlying T) v m C
  | _ => False
@[simp] theorem idxX0_int (T : TypeId) (k : IntKind) (m : Int) (v : Value) : idxX0 P T (.int k m) v C = idxX P (P.underlying T) v m C := nr rfl
@[simp ↓] theorem opX_index (T : TypeId) (x i : Operand) : opX P G V yc ⟨dst, .indexAddr T x i, type, pos, after, guard⟩ ts hp nk C = (okX ts hp x ∧ okX ts hp i ∧ idxX0 P T (gev ts i) (gev ts x) C) := nr rfl
def gevs (ts : Nat → Value) (args : Array Operand) : List Value := args.toList.map (gev ts)
@[simp] theorem gevs_eq (l : List Operand) : gevs ts l.toArray = l.map (gev ts) := by simp [gevs]
def optX {α : Type} (v : Option α) (C : α → Prop) : Prop :=
  match v with
  | some v => C v
  | none => False
def idvX (P : Program) (e : TypeId) (s : Option Nat) (v : Value) (m : Int) (C : Eff → Prop) : Prop :=
  match s with
  | some s => match v with
    | .agg cs => unX' (loadB P e cs (m.toNat * s)) C
    | _ => False
  | none => False
where unX' (v : Option Value) (C : Eff → Prop) : Prop :=
  match v with
  | some v => C (val v [])
  | none => False
@[simp] theorem idvX_some (e : TypeId) (s : Nat) (cs : Array Value) (m : Int) : idvX P e (some s) (.agg cs) m C = idvX.unX' (loadB P e cs (m.toNat * s)) C := nr rfl
@[simp] theorem idvX_un (v : Value) : idvX.unX' (some v) C = C (val v []) := nr rfl
@[congr] theorem idvX_un_congr {v v' : Option Value} (h : v = v') : idvX.unX' v C = idvX.unX' v' C := by rw [h]
@[congr] theorem idvX_congr {e : TypeId} {s s' : Option Nat} {v v' : Value} {m m' : Int} (h1 : s = s') (h2 : v = v') (h3 : m = m') : idvX P e s v m C = idvX P e s' v' m' C := by rw [h1, h2, h3]
def idvS (s : ByteArray) (m : Int) (C : Eff → Prop) : Prop :=
  match (if 0 ≤ m then s[m.toNat]? else none) with
  | some b => C (val (.int .u8 b.toNat) [])
  | none => False
def idvSV (v : Value) (m : Int) (C : Eff → Prop) : Prop :=
  match v with
  | .string s => idvS s m C
  | _ => False
@[simp] theorem idvSV_str (s : ByteArray) (m : Int) : idvSV (.string s) m C = idvS s m C := nr rfl
@[congr] theorem idvSV_congr {v v' : Value} {m m' : Int} (h1 : v = v') (h2 : m = m') : idvSV v m C = idvSV v' m' C := by rw [h1, h2]
@[congr] theorem idvS_congr {s s' : ByteArray} {m m' : Int} (h1 : s = s') (h2 : m = m') : idvS s m C = idvS s' m' C := by rw [h1, h2]
theorem idvS_at {s : ByteArray} {m : Int} {b : UInt8} (h0 : 0 ≤ m) (h : s[m.toNat]? = some b) : idvS s m C = C (val (.int .u8 b.toNat) []) := by simp [idvS, h0, h]
def idvA (P : Program) (u : Option TypeDesc) (v : Value) (m : Int) (C : Eff → Prop) : Prop :=
  match u with
  | some (.array len e) => (0 ≤ m ∧ m < len) ∧ idvX P e (tySize P e) v m C
  | some .string => idvSV v m C
  | _ => False
@[simp] theorem idvA_str (v : Value) (m : Int) : idvA P (some .string) v m C = idvSV v m C := nr rfl
@[simp] theorem idvA_arr (len : Nat) (e : TypeId) (v : Value) (m : Int) : idvA P (some (.array len e)) v m C = ((0 ≤ m ∧ m < len) ∧ idvX P e (tySize P e) v m C) := nr rfl
@[congr] theorem idvA_congr {u u' : Option TypeDesc} {v v' : Value} {m m' : Int} (h1 : u = u') (h2 : v = v') (h3 : m = m') : idvA P u v m C = idvA P u' v' m' C := by rw [h1, h2, h3]
def idv0 (P : Program) (T : TypeId) (i v : Value) (C : Eff → Prop) : Prop :=
  match i with
  | .int _ m => idvA P (P.underlying T) v m C
  | _ => False
@[simp] theorem idv0_int (T : TypeId) (k : IntKind) (m : Int) (v : Value) : idv0 P T (.int k m) v C = idvA P (P.underlying T) v m C := nr rfl
@[congr] theorem idv0_congr {T : TypeId} {i i' v v' : Value} (h1 : i = i') (h2 : v = v') : idv0 P T i v C = idv0 P T i' v' C := by rw [h1, h2]
@[simp ↓] theorem opX_indexv (T : TypeId) (x i : Operand) : opX P G V yc ⟨dst, .index T x i, type, pos, after, guard⟩ ts hp nk C = (okX ts hp x ∧ okX ts hp i ∧ idv0 P T (gev ts i) (gev ts x) C) := by
  simp only [opX, idv0]
  congr 2
  cases gev ts i <;> first | rfl | skip
  unfold idvA
  simp only
  cases hu : P.underlying T with
  | none => rfl
  | some u =>
    cases u <;> first | rfl | skip
    · simp only
      unfold idvX
      cases hg : gev ts x <;> cases hs : tySize P _ <;> first | rfl | (simp; done) | skip
      all_goals (simp only [idvX.unX']; cases loadB P _ _ _ <;> rfl)
    all_goals (simp only; unfold idvSV idvS; cases gev ts x <;> rfl)
def fldX (P : Program) (f : Option (TypeId × Nat)) (v : Value) (C : Eff → Prop) : Prop :=
  match f with
  | some (t, off) => match v with
    | .agg cs => idvX.unX' (loadB P t cs off) C
    | _ => False
  | none => False
@[simp] theorem fldX_some (t : TypeId) (off : Nat) (cs : Array Value) : fldX P (some (t, off)) (.agg cs) C = idvX.unX' (loadB P t cs off) C := nr rfl
@[congr] theorem fldX_congr {f f' : Option (TypeId × Nat)} {v v' : Value} (h1 : f = f') (h2 : v = v') : fldX P f v C = fldX P f' v' C := by rw [h1, h2]
@[simp ↓] theorem opX_field (T : TypeId) (x : Operand) (f : Nat) : opX P G V yc ⟨dst, .field T x f, type, pos, after, guard⟩ ts hp nk C = (okX ts hp x ∧ fldX P (fdX P T f) (gev ts x) C) := by
  simp only [opX, fldX]
  congr 1
def fdaX (f : Option (TypeId × Nat)) (v : Value) (C : Eff → Prop) : Prop :=
  match f with
  | some (_, off) => match v with
    | .pointer (some ⟨k, o, none⟩) => C (val (.pointer (some ⟨k, o + off, none⟩)) [])
    | _ => False
  | none => False
@[simp] theorem fdaX_some (t : TypeId) (off k o : Nat) : fdaX (some (t, off)) (.pointer (some ⟨k, o, none⟩)) C = C (val (.pointer (some ⟨k, o + off, none⟩)) []) := nr rfl
@[congr] theorem fdaX_congr {f f' : Option (TypeId × Nat)} {v v' : Value} (h1 : f = f') (h2 : v = v') : fdaX f v C = fdaX f' v' C := by rw [h1, h2]
@[simp ↓] theorem opX_fieldAddr (T : TypeId) (x : Operand) (f : Nat) : opX P G V yc ⟨dst, .fieldAddr T x f, type, pos, after, guard⟩ ts hp nk C = (okX ts hp x ∧ fdaX (fdX P T f) (gev ts x) C) := nr rfl
def gevO (ts : Nat → Value) (o : Option Operand) : Option Value := o.map (gev ts)
@[simp] theorem gevO_some (x : Operand) : gevO ts (some x) = some (gev ts x) := nr rfl
@[simp] theorem gevO_none : gevO ts none = none := nr rfl
@[simp ↓] theorem opX_slice (T : TypeId) (x : Operand) (lo hi mx : Option Operand) : opX P G V yc ⟨dst, .slice T x lo hi mx, type, pos, after, guard⟩ ts hp nk C =
  (okX ts hp x ∧ (∀ y ∈ lo.toList, okX ts hp y) ∧ (∀ y ∈ hi.toList, okX ts hp y) ∧ mx.isNone = true ∧ idvX.unX' (slX P T (gev ts x) (gevO ts lo) (gevO ts hi)) C) := by
  simp only [opX, gevO]
  cases slX P T (gev ts x) (lo.map (gev ts)) (hi.map (gev ts)) <;> rfl
def slU (P : Program) (u : Option TypeDesc) (v : Value) (lo hi : Option Value) : Option Value :=
  match u with
  | some (.array n e) => match v with
    | .pointer (some ⟨k, off, none⟩) => match tySize P e with
      | some s => slV (some (k, off)) s n (sliceG n n lo hi)
      | none => none
    | _ => none
  | some (.slice e) => match v with
    | .slice (some ⟨k, off, none⟩) n c => match tySize P e with
      | some s => slV (some (k, off)) s c (sliceG n c lo hi)
      | none => none
    | .slice none n c => match tySize P e with
      | some s => slV none s c (sliceG n c lo hi)
      | none => none
    | _ => none
  | some .string => match v with
    | .string s => slS s (sliceG s.size s.size lo hi)
    | _ => none
  | _ => none
@[simp] theorem slX_eq (T : TypeId) (v : Value) (lo hi : Option Value) : slX P T v lo hi = slU P (P.underlying T) v lo hi := nr rfl
def slZ (a : Option (Nat × Nat)) (s : Option Nat) (c : Nat) (p : Option (Nat × Nat)) : Option Value :=
  match s with
  | some s => slV a s c p
  | none => none
@[simp] theorem slZ_some (a : Option (Nat × Nat)) (s c : Nat) (p : Option (Nat × Nat)) : slZ a (some s) c p = slV a s c p := nr rfl
@[simp] theorem slU_arr (n : Nat) (e : TypeId) (k off : Nat) (lo hi : Option Value) : slU P (some (.array n e)) (.pointer (some ⟨k, off, none⟩)) lo hi = slZ (some (k, off)) (tySize P e) n (sliceG n n lo hi) := nr rfl
@[simp] theorem slU_slice (e : TypeId) (k off n c : Nat) (lo hi : Option Value) : slU P (some (.slice e)) (.slice (some ⟨k, off, none⟩) n c) lo hi = slZ (some (k, off)) (tySize P e) c (sliceG n c lo hi) := nr rfl
@[simp] theorem slU_nil (e : TypeId) (n c : Nat) (lo hi : Option Value) : slU P (some (.slice e)) (.slice none n c) lo hi = slZ none (tySize P e) c (sliceG n c lo hi) := nr rfl
@[simp] theorem slU_str (s : ByteArray) (lo hi : Option Value) : slU P (some .string) (.string s) lo hi = slS s (sliceG s.size s.size lo hi) := nr rfl
@[simp] theorem slV_some (k off s c l h : Nat) : slV (some (k, off)) s c (some (l, h)) = some (.slice (some ⟨k, if c = l then off else off + l * s, none⟩) (h - l) (c - l)) := nr rfl
@[simp] theorem slV_none (s c l h : Nat) : slV none s c (some (l, h)) = some (.slice none (h - l) (c - l)) := nr rfl
@[simp] theorem slS_some (s : ByteArray) (l h : Nat) : slS s (some (l, h)) = some (.string (s.extract l h)) := nr rfl
@[simp] theorem hiG_none (len cap : Nat) : hiG len cap none = some len := nr rfl
@[simp] theorem hiG_some (len cap : Nat) (k : IntKind) (m : Int) : hiG len cap (some (.int k m)) = if 0 ≤ m ∧ m ≤ cap then some m.toNat else none := nr rfl
@[simp] theorem loG_none (h : Nat) : loG h none = some 0 := nr rfl
@[simp] theorem loG_some (h : Nat) (k : IntKind) (m : Int) : loG h (some (.int k m)) = if 0 ≤ m ∧ m ≤ h then some m.toNat else none := nr rfl
def sliceH (lo : Option Value) (h : Option Nat) : Option (Nat × Nat) :=
  match h with
  | none => none
  | some h => (loG h lo).map fun l => (l, h)
@[simp] theorem sliceG_eq (len cap : Nat) (lo hi : Option Value) : sliceG len cap lo hi = sliceH lo (hiG len cap hi) := nr rfl
@[simp] theorem sliceH_some (lo : Option Value) (h : Nat) : sliceH lo (some h) = (loG h lo).map fun l => (l, h) := nr rfl
@[simp ↓] theorem opX_arr (T : TypeId) (x : Operand) : opX P G V yc ⟨dst, .sliceToArrayPointer T x, type, pos, after, guard⟩ ts hp nk C = (okX ts hp x ∧ idvX.unX' (arrX P T (gev ts x)) C) := by
  simp only [opX]
  cases arrX P T (gev ts x) <;> rfl
def arrU (u : Option TypeDesc) (v : Value) : Option Value :=
  match u with
  | some (.array n _) => match v with
    | .slice a len _ => if n ≤ len then some (.pointer a) else none
    | _ => none
  | _ => none
@[simp] theorem arrX_eq (T : TypeId) (v : Value) : arrX P T v = arrU (P.underlying T) v := nr rfl
@[simp] theorem arrU_arr (n : Nat) (e : TypeId) (a : Option Addr) (len c : Nat) : arrU (some (.array n e)) (.slice a len c) = if n ≤ len then some (.pointer a) else none := nr rfl
def lenU (u : Option TypeDesc) (v : Value) : Option Value :=
  match u with
  | some .string => match v with
    | .string s => some (.int .i64 s.size)
    | _ => none
  | some (.array n _) => some (.int .i64 n)
  | some (.slice _) => match v with
    | .slice _ n _ => some (.int .i64 n)
    | _ => none
  | _ => none
@[simp] theorem lenX_eq (T : TypeId) (v : Value) : lenX P T v = lenU (P.underlying T) v := nr rfl
@[simp] theorem lenU_str (s : ByteArray) : lenU (some .string) (.string s) = some (.int .i64 s.size) := nr rfl
@[simp] theorem lenU_arr (n : Nat) (e : TypeId) (v : Value) : lenU (some (.array n e)) v = some (.int .i64 n) := nr rfl
@[simp] theorem lenU_slice (e : TypeId) (a : Option Addr) (n c : Nat) : lenU (some (.slice e)) (.slice a n c) = some (.int .i64 n) := nr rfl
@[simp ↓] theorem opX_len (x : Operand) (T : TypeId) : opX P G V yc ⟨dst, .call ⟨.builtin .len, #[x], #[T]⟩, type, pos, after, guard⟩ ts hp nk C = (okX ts hp x ∧ idvX.unX' (lenX P T (gev ts x)) C) := by
  simp only [opX, callX, builtX]
  simp
  intro _
  cases lenX P T (gev ts x) <;> rfl
@[simp] theorem max2G_t (k k' : IntKind) (a c : Int) : max2G true (.int k a) (.int k' c) = some (.int k (if a < c then c else a)) := nr rfl
@[simp] theorem max2G_f (k k' : IntKind) (a c : Int) : max2G false (.int k a) (.int k' c) = some (.int k (if c < a then c else a)) := nr rfl
def maxO (b : Bool) (z : Option Value) (l : List Value) : Option Value :=
  match z with
  | some z => maxF b z l
  | none => none
@[simp] theorem maxO_some (b : Bool) (z : Value) (l : List Value) : maxO b (some z) l = maxF b z l := nr rfl
@[simp] theorem maxF_nil (b : Bool) (k : IntKind) (a : Int) : maxF b (.int k a) [] = some (.int k a) := nr rfl
@[simp] theorem maxF_cons (b : Bool) (x y : Value) (l : List Value) : maxF b x (y :: l) = maxO b (max2G b x y) l := nr rfl
@[simp] theorem maxG_cons (b : Bool) (x : Value) (l : List Value) : maxG b (x :: l) = maxF b x l := nr rfl
@[simp ↓] theorem opX_max (l : List Operand) (T : Array TypeId) : opX P G V yc ⟨dst, .call ⟨.builtin .max, l.toArray, T⟩, type, pos, after, guard⟩ ts hp nk C = ((∀ x ∈ l, okX ts hp x) ∧ idvX.unX' (maxG true (gevs ts l.toArray)) C) := by
  simp only [opX, callX, builtX, gevs]
  cases maxG true (l.map (gev ts)) <;> rfl
@[simp ↓] theorem opX_min (l : List Operand) (T : Array TypeId) : opX P G V yc ⟨dst, .call ⟨.builtin .min, l.toArray, T⟩, type, pos, after, guard⟩ ts hp nk C = ((∀ x ∈ l, okX ts hp x) ∧ idvX.unX' (maxG false (gevs ts l.toArray)) C) := by
  simp only [opX, callX, builtX, gevs]
  cases maxG false (l.map (gev ts)) <;> rfl
def pnX (v : Value) (C : Eff → Prop) : Prop :=
  match v with
  | .iface T u => C ⟨junk, [], [], [], some (.iface T u), false⟩
  | _ => False
@[simp ↓] theorem opX_panic (x : Operand) : opX P G V yc ⟨dst, .panic x, type, pos, after, guard⟩ ts hp nk C = (okX ts hp x ∧ flatV (gev ts x) = true ∧ pnX (gev ts x) C) := nr rfl
@[simp] theorem pnX_iface (T : TypeId) (u : Value) : pnX (.iface T u) C = C ⟨junk, [], [], [], some (.iface T u), false⟩ := nr rfl
@[congr] theorem pnX_congr {v v' : Value} (h : v = v') : pnX v C = pnX v' C := by rw [h]
@[simp] theorem outr_eff (v : Value) : (Out.ret v).eff = val v [] := nr rfl
@[simp] theorem outp_eff (v : Value) : (Out.pan v).eff = ⟨junk, [], [], [], some v, false⟩ := nr rfl
@[simp ↓] theorem opX_makeFunc (fn : Fn) (first cap : Array Operand) : opX P G V yc ⟨dst, .makeFunc fn first cap, type, pos, after, guard⟩ ts hp nk C =
  ((∀ x ∈ first.toList, okX ts hp x ∧ plain0 (gev ts x) = true) ∧ (∀ x ∈ cap.toList, okX ts hp x ∧ plain0 (gev ts x) = true) ∧ C (val (.func fn (first.map (gev ts)) (cap.map (gev ts))) [])) := nr rfl
def binX (P : Program) (v : Option Value) (o : Oper) (ts : Nat → Value) (hp : Hp) (C : Eff → Prop) : Prop :=
  match v with
  | some v => C (val v [])
  | none => pureV P o ts hp fun v => C (val v [])
@[simp] theorem binX_some (v : Value) (o : Oper) : binX P (some v) o ts hp C = C (val v []) := nr rfl
@[simp ↓] theorem opX_bin (op : BinOp) (T yT : TypeId) (x y : Operand) : opX P G V yc ⟨dst, .binOp op T x y yT, type, pos, after, guard⟩ ts hp nk C =
  (okX ts hp x ∧ okX ts hp y ∧ binX P (bin2 P op T (gev ts x) (gev ts y)) ⟨dst, .binOp op T x y yT, type, pos, after, guard⟩ ts hp C) := nr rfl
def unX (v : Option Value) (C : Eff → Prop) : Prop :=
  match v with
  | some v => C (val v [])
  | none => False
@[simp] theorem unX_some (v : Value) : unX (some v) C = C (val v []) := nr rfl
@[simp ↓] theorem opX_un (op : UnOp) (T : TypeId) (x : Operand) : opX P G V yc ⟨dst, .unOp op T x, type, pos, after, guard⟩ ts hp nk C = (okX ts hp x ∧ unX (un1 op (gev ts x)) C) := nr rfl
@[simp ↓] theorem opX_conv (S T : TypeId) (x : Operand) : opX P G V yc ⟨dst, .convert S T x, type, pos, after, guard⟩ ts hp nk C = (okX ts hp x ∧ binX P (conv1 P S T (gev ts x)) ⟨dst, .convert S T x, type, pos, after, guard⟩ ts hp C) := nr rfl
@[simp] theorem okT_tmp (t : Tmp) : okT ts (.tmp t) = nj (ts t) := nr rfl
@[simp] theorem okT_const (v : Value) : okT ts (.const v) = (flatV v = true) := nr rfl
@[simp] theorem okT_func (f : FuncId) : okT ts (.func f) = True := nr rfl
def pickK (b : Bool) (x y : Prop) : Prop :=
  match b with
  | true => x
  | false => y
@[simp] theorem pickK_true (x y : Prop) : pickK true x y = x := nr rfl
@[simp] theorem pickK_false (x y : Prop) : pickK false x y = y := nr rfl
@[congr] theorem pickK_congr {b b' : Bool} {x y : Prop} (h : b = b') : pickK b x y = pickK b' x y := by rw [h]
def argsK (l : List Value) : Array Value := l.toArray
@[simp] theorem argsK_eq (l : List Value) : argsK l = l.toArray := nr rfl
def callX2 (P : Program) (G : Hp) (V : XV) (nk yc : Nat) (ts : Nat → Value) (hp : Hp) (v : Value) (args : Array Operand) (C : Eff → Prop) : Prop := calleeX P G V nk yc ts hp v args C
@[congr] theorem callX2_congr {v v' : Value} {args : Array Operand} (h : v = v') : callX2 P G V nk yc ts hp v args C = callX2 P G V nk yc ts hp v' args C := by rw [h]
def callX3 (P : Program) (G : Hp) (V : XV) (nk : Nat) (hp : Hp) (g : FuncId) (l : List Value) (cap : List Value) (C : Eff → Prop) : Prop :=
  pickK (cap.isEmpty && !V.pn.contains g && l.all flatV) (pickK (V.pn.contains (g + 1000000)) (callP P G g (argsK l) C) (callK P G g (argsK l) (callC C))) (cap.all plain0 = true ∧ heapK P G g (argsK (l ++ cap)) hp nk C)
@[congr] theorem callX3_congr {g : FuncId} {l l' cap cap' : List Value} (h : l = l') (h' : cap = cap') : callX3 P G V nk hp g l cap C = callX3 P G V nk hp g l' cap' C := by rw [h, h']
@[simp] theorem callX3_eq (g : FuncId) (l cap : List Value) : callX3 P G V nk hp g l cap C = pickK (cap.isEmpty && !V.pn.contains g && l.all flatV) (pickK (V.pn.contains (g + 1000000)) (callP P G g (argsK l) C) (callK P G g (argsK l) (callC C))) (cap.all plain0 = true ∧ heapK P G g (argsK (l ++ cap)) hp nk C) := nr rfl
@[simp] theorem callX2_func (g : FuncId) (args : List Operand) (capv : List Value) : callX2 P G V nk yc ts hp (.func (.func g) #[] capv.toArray) args.toArray C = ((∀ x ∈ args, okX ts hp x) ∧ callX3 P G V nk hp g (gevs ts args.toArray) capv C) := by
  have e : (Array.map (gev ts) args.toArray) = (args.map (gev ts)).toArray := by simp
  have ea : ((args.map (gev ts)).toArray ++ capv.toArray) = (args.map (gev ts) ++ capv).toArray := by simp
  unfold callX2 calleeX callX3 callC gevs argsK
  simp only [e, ea, List.size_toArray, List.length_nil, true_and]
  congr 1
  by_cases h : capv = [] ∧ V.pn.contains g = false ∧ (args.map (gev ts)).all flatV = true
  · obtain ⟨h1, h2, h3⟩ := h
    subst h1
    have h4 : (args.map (gev ts)).toArray.all flatV = true := by simpa using h3
    rw [if_pos ⟨rfl, h2, h4⟩]
    simp only [List.isEmpty_nil, h2, h3, Bool.not_false, Bool.and_self, pickK_true]
    cases V.pn.contains (g + 1000000) <;> simp [pickK]
  · rw [if_neg (by
      rintro ⟨h1, h2, h3⟩
      exact h ⟨List.eq_nil_of_length_eq_zero h1, h2, by simpa using h3⟩)]
    have hb : (capv.isEmpty && !V.pn.contains g && (args.map (gev ts)).all flatV) = false := by
      cases hb : (capv.isEmpty && !V.pn.contains g && (args.map (gev ts)).all flatV) with
      | false => rfl
      | true =>
        simp only [Bool.and_eq_true, List.isEmpty_iff, Bool.not_eq_true'] at hb
        exact absurd ⟨hb.1.1, hb.1.2, hb.2⟩ h
    simp only [hb, pickK]
    simp
def yieldX (Y : Option YG) (yc l : Nat) (args : List Value) (C : Eff → Prop) : Prop := yieldK Y yc l args.toArray C
@[simp] theorem yieldX_some (l' : Nat) (xs : List (Array Value)) (st l : Nat) (args : List Value) : yieldX (some ⟨l', xs, st, none⟩) yc l args C = (l = l' ∧ yc ≤ st ∧ xs[yc]? = some args.toArray ∧ C ⟨.bool (yc != st), [], [], [], none, true⟩) := by
  have : (YG.mk l' xs st none).pan yc = none := by unfold YG.pan; split <;> rfl
  simp only [yieldX, yieldK, yEff, this]
def yieldE (b : Bool) (pv : Value) : Eff := if b then ⟨junk, [], [], [], some pv, true⟩ else ⟨.bool true, [], [], [], none, true⟩
@[simp] theorem yieldE_t (pv : Value) : yieldE true pv = ⟨junk, [], [], [], some pv, true⟩ := nr rfl
@[simp] theorem yieldE_f (pv : Value) : yieldE false pv = ⟨.bool true, [], [], [], none, true⟩ := nr rfl
def yC (C : Eff → Prop) (b : Bool) (pv : Value) : Prop := C (yieldE b pv)
@[congr] theorem yC_congr {b b' : Bool} {pv : Value} (h : b = b') : yC C b pv = yC C b' pv := by rw [h]
@[simp] theorem yC_t (pv : Value) : yC C true pv = C ⟨junk, [], [], [], some pv, true⟩ := nr rfl
@[simp] theorem yC_f (pv : Value) : yC C false pv = C ⟨.bool true, [], [], [], none, true⟩ := nr rfl
@[simp] theorem yieldX_pan (l' : Nat) (xs : List (Array Value)) (st l : Nat) (pv : Value) (args : List Value) : yieldX (some ⟨l', xs, st, some pv⟩) yc l args C = (l = l' ∧ yc ≤ st ∧ xs[yc]? = some args.toArray ∧ yC C (yc == st) pv) := by
  simp only [yieldX, yieldK, yEff, YG.pan, yC, yieldE]
  by_cases h : yc = st
  · simp [h]
  · have e : (yc != st) = true := by simpa using h
    simp [h, e]
@[congr] theorem yieldX_congr {Y Y' : Option YG} {yc' l : Nat} {args args' : List Value} (h0 : Y = Y') (h1 : yc = yc') (h : args = args') : yieldX Y yc l args C = yieldX Y' yc' l args' C := by rw [h0, h1, h]
@[simp] theorem callX2_yield (l : Nat) (args : List Operand) : callX2 P G V nk yc ts hp (.func (.yield l) #[] #[]) args.toArray C = ((∀ x ∈ args, okT ts x ∧ flatV (gev ts x) = true) ∧ yieldX V.Y yc l (gevs ts args.toArray) C) := by
  have e : (Array.map (gev ts) args.toArray) = (args.map (gev ts)).toArray := by simp
  unfold callX2 calleeX yieldX gevs
  simp only [e, List.size_toArray, List.length_nil, true_and]
@[simp ↓] theorem opX_call (f : Operand) (args : Array Operand) (argTypes : Array TypeId) : opX P G V yc ⟨dst, .call ⟨.value f, args, argTypes⟩, type, pos, after, guard⟩ ts hp nk C = (okT ts f ∧ callX2 P G V nk yc ts hp (gev ts f) args C) := nr rfl
@[congr] theorem callP_congr {f f' : FuncId} {args args' : Array Value} (hf : f = f') (h : args = args') : callP P G f args C = callP P G f' args' C := by rw [hf, h]
@[congr] theorem callK_congr {f f' : FuncId} {args args' : Array Value} {K : Value → Prop} (hf : f = f') (h : args = args') : callK P G f args K = callK P G f' args' K := by rw [hf, h]
@[simp ↓] theorem opX_iface (T : TypeId) (x : Operand) : opX P G V yc ⟨dst, .makeInterface T x, type, pos, after, guard⟩ ts hp nk C = (okX ts hp x ∧ plain0 (gev ts x) = true ∧ ifaceX (P.underlying T) T (gev ts x) C) := nr rfl
def bsX (o : Option (Array Value)) (e : TypeId) (len nk : Nat) (C : Eff → Prop) : Prop :=
  match o with
  | some cs => C ⟨.slice (some ⟨nk, 0, none⟩) len len, [], [], [(nk, ⟨cs, e⟩)], none, false⟩
  | none => False
@[simp] theorem bsX_some (cs : Array Value) (e : TypeId) (len : Nat) : bsX (some cs) e len nk C = C ⟨.slice (some ⟨nk, 0, none⟩) len len, [], [], [(nk, ⟨cs, e⟩)], none, false⟩ := nr rfl
def buX (pl : Option (List (Nat × Nat) ⊕ Nat)) (z : Value) (parts : List (Nat × Value)) (C : Eff → Prop) : Prop :=
  match pl with
  | some pl => unX ((fillG pl z.cells parts).map .agg) C
  | none => False
@[simp] theorem buX_some (pl : List (Nat × Nat) ⊕ Nat) (z : Value) (parts : List (Nat × Value)) : buX (some pl) z parts C = unX ((fillG pl z.cells parts).map .agg) C := nr rfl
def buildX (P : Program) (T : TypeId) (z : Option Value) (parts : List (Nat × Value)) (C : Eff → Prop) : Prop :=
  match z with
  | some z => okCells z = true ∧ flatV z = true ∧ buX (placesOf P T) z parts C
  | none => False
@[simp] theorem buildX_some (T : TypeId) (z : Value) (parts : List (Nat × Value)) : buildX P T (some z) parts C = (okCells z = true ∧ flatV z = true ∧ buX (placesOf P T) z parts C) := nr rfl
@[simp ↓] theorem opX_build (T : TypeId) (parts : Array (Nat × Operand)) : opX P G V yc ⟨dst, .build T parts, type, pos, after, guard⟩ ts hp nk C =
    ((∀ p ∈ parts.toList, okX ts hp p.2 ∧ okCells (gev ts p.2) = true) ∧ buildX P T (tyZero P T) (partsG ts parts) C) := by
  unfold opX buildX
  simp only
  cases hz : tyZero P T with
  | none => rfl
  | some z =>
    simp only
    cases hp : placesOf P T with
    | none => rfl
    | some pl =>
      simp only [buX_some]
      cases hf : fillG pl z.cells (partsG ts parts) <;> rfl
@[simp] theorem partsG_eq (parts : Array (Nat × Operand)) : partsG ts parts = parts.toList.map fun p => (p.1, gev ts p.2) := nr rfl
@[simp] theorem plAt_inr (m i : Nat) : plAt (.inr m) i = some (i * m, m) := nr rfl
@[simp] theorem plAt_inl (l : List (Nat × Nat)) (i : Nat) : plAt (.inl l) i = l[i]? := nr rfl
@[simp] theorem fillG_nil (pl : List (Nat × Nat) ⊕ Nat) (cells : Array Value) : fillG pl cells [] = some cells := nr rfl
def fillS (pl : List (Nat × Nat) ⊕ Nat) (cells : Array Value) (os : Option (Nat × Nat)) (v : Value) (rest : List (Nat × Value)) : Option (Array Value) :=
  match os with
  | none => none
  | some (off, size) => if v.cells.size = size ∧ off + v.cells.size ≤ cells.size then fillG pl (splice cells off v.cells.toList) rest else none
@[simp] theorem fillS_some (pl : List (Nat × Nat) ⊕ Nat) (cells : Array Value) (off size : Nat) (v : Value) (rest : List (Nat × Value)) : fillS pl cells (some (off, size)) v rest = if v.cells.size = size ∧ off + v.cells.size ≤ cells.size then fillG pl (splice cells off v.cells.toList) rest else none := nr rfl
@[simp] theorem fillG_cons (pl : List (Nat × Nat) ⊕ Nat) (cells : Array Value) (i : Nat) (v : Value) (rest : List (Nat × Value)) : fillG pl cells ((i, v) :: rest) = fillS pl cells (plAt pl i) v rest := nr rfl

/-! where 'simp' may go: never into what comes after -/
@[congr] theorem lexS_congr {base : Nat} {Q : QQ} {seen : List (Option Tmp)} {k k' : Nat} {l : List Oper} {ts' : Nat → Value} {hp' : Hp} {tr tr' : Tr} {yc' : Nat} {wr wr' yd yd' : Bool} (h1 : k = k') (h2 : ts = ts') (h3 : hp = hp') (h4 : tr = tr') (h5 : yc = yc') (h6 : wr = wr') (h7 : yd = yd') :
    lexS P G V base Q seen k l ts hp tr yc wr yd = lexS P G V base Q seen k' l ts' hp' tr' yc' wr' yd' := by rw [h1, h2, h3, h4, h5, h6, h7]
@[congr] theorem wantedS_congr {seen : List (Option Tmp)} {k k' : Nat} {o : Oper} (h1 : k = k') : wantedS seen k o ts = wantedS seen k' o ts := by rw [h1]
@[congr] theorem opX_congr {o : Oper} {ts' : Nat → Value} {hp' : Hp} {nk' : Nat} (h2 : ts = ts') (h3 : hp = hp') (h4 : nk = nk') : opX P G V yc o ts hp nk C = opX P G V yc o ts' hp' nk' C := by rw [h2, h3, h4]
@[congr] theorem wayG_congr {w w' : Option Bool} {a b : Prop} (h : w = w') : wayG w a b = wayG w' a b := by rw [h]
@[congr] theorem pickX_congr {v v' : Value} {x y : Operand} (h : v = v') : pickX ts hp v x y C = pickX ts hp v' x y C := by rw [h]
@[congr] theorem allocX_congr {z z' : Option Value} {nk' : Nat} {T : TypeId} (h : z = z') (h1 : nk = nk') : allocX z nk T C = allocX z' nk' T C := by rw [h, h1]
@[congr] theorem loadX2_congr {v v' : Option Value} {k k' : Nat} (h : v = v') (h1 : k = k') : loadX2 v k C = loadX2 v' k' C := by rw [h, h1]
@[congr] theorem loadX1_congr {T : TypeId} {b b' : Option Blk} {k off k' off' : Nat} (h : b = b') (h1 : k = k') (h2 : off = off') : loadX1 P T b k off C = loadX1 P T b' k' off' C := by rw [h, h1, h2]
@[congr] theorem loadX_congr {T : TypeId} {v v' : Value} (h : v = v') : loadX P T hp v C = loadX P T hp v' C := by rw [h]
@[congr] theorem storeX1_congr {T : TypeId} {b b' : Option Blk} {k off k' off' : Nat} {w w' : Value} (h : b = b') (h1 : k = k') (h2 : off = off') (h3 : w = w') : storeX1 P T b k off w C = storeX1 P T b' k' off' w' C := by rw [h, h1, h2, h3]
@[congr] theorem storeX_congr {T : TypeId} {v v' w w' : Value} (h : v = v') (h1 : w = w') : storeX P T hp v w C = storeX P T hp v' w' C := by rw [h, h1]
@[congr] theorem extractX1_congr {v v' : Option Value} (h : v = v') : extractX1 v C = extractX1 v' C := by rw [h]
@[congr] theorem extractX_congr {v v' : Value} {i : Nat} (h : v = v') : extractX v i C = extractX v' i C := by rw [h]
@[congr] theorem idxX1_congr {s s' : Option Nat} {k k' off off' : Nat} {m m' : Int} (h : s = s') (h1 : k = k') (h2 : off = off') (h3 : m = m') : idxX1 s k off m C = idxX1 s' k' off' m' C := by rw [h, h1, h2, h3]
@[congr] theorem idxXA_congr {v v' : Value} {len : Nat} {e : TypeId} {m m' : Int} (h : v = v') (h1 : m = m') : idxXA P v len e m C = idxXA P v' len e m' C := by rw [h, h1]
@[congr] theorem idxXS_congr {v v' : Value} {e : TypeId} {m m' : Int} (h : v = v') (h1 : m = m') : idxXS P v e m C = idxXS P v' e m' C := by rw [h, h1]
@[congr] theorem idxX_congr {u u' : Option TypeDesc} {v v' : Value} {m m' : Int} (h0 : u = u') (h : v = v') (h1 : m = m') : idxX P u v m C = idxX P u' v' m' C := by rw [h, h1, h0]
@[congr] theorem idxX0_congr {T : TypeId} {i i' v v' : Value} (h : i = i') (h1 : v = v') : idxX0 P T i v C = idxX0 P T i' v' C := by rw [h, h1]
@[congr] theorem binX_congr {o : Oper} {v v' : Option Value} (h : v = v') : binX P v o ts hp C = binX P v' o ts hp C := by rw [h]
@[congr] theorem unX_congr {v v' : Option Value} (h : v = v') : unX v C = unX v' C := by rw [h]
@[congr] theorem heapK_congr {f : FuncId} {args args' : Array Value} (h : args = args') : heapK P G f args hp nk C = heapK P G f args' hp nk C := by rw [h]
@[congr] theorem bsX_congr {o o' : Option (Array Value)} {e : TypeId} {len nk' : Nat} (h : o = o') (h1 : nk = nk') : bsX o e len nk C = bsX o' e len nk' C := by rw [h, h1]
@[congr] theorem buX_congr {pl pl' : Option (List (Nat × Nat) ⊕ Nat)} {z z' : Value} {parts parts' : List (Nat × Value)} (h : pl = pl') (h1 : z = z') (h2 : parts = parts') : buX pl z parts C = buX pl' z' parts' C := by rw [h, h1, h2]
@[congr] theorem buildX_congr {T : TypeId} {z z' : Option Value} {parts parts' : List (Nat × Value)} (h1 : z = z') (h2 : parts = parts') : buildX P T z parts C = buildX P T z' parts' C := by rw [h1, h2]

/-! operators -/
@[simp] theorem bin2_int (op : BinOp) (T : TypeId) (k k' : IntKind) (a b : Int) : bin2 P op T (.int k a) (.int k' b) = int2 op k a k' b := nr rfl
@[simp] theorem bin2_bool_eql (T : TypeId) (a b : Bool) : bin2 P .eql T (.bool a) (.bool b) = if boolT P T then some (.bool (a == b)) else none := nr rfl
@[simp] theorem bin2_bool_neq (T : TypeId) (a b : Bool) : bin2 P .neq T (.bool a) (.bool b) = if boolT P T then some (.bool (a != b)) else none := nr rfl
def boolO (r : Option Bool) (neg : Bool) : Option Value :=
  match r with
  | some r => some (.bool (if neg then !r else r))
  | none => none
@[simp] theorem boolO_f (r : Bool) : boolO (some r) false = some (.bool r) := nr rfl
@[simp] theorem boolO_t (r : Bool) : boolO (some r) true = some (.bool !r) := nr rfl
@[simp] theorem bin2_agg_eql (T : TypeId) (a b : Array Value) : bin2 P .eql T (.agg a) (.agg b) = boolO (agg2 P T a b) false := by unfold bin2 boolO; simp only; split <;> simp_all
@[simp] theorem bin2_agg_neq (T : TypeId) (a b : Array Value) : bin2 P .neq T (.agg a) (.agg b) = boolO (agg2 P T a b) true := by unfold bin2 boolO; simp only; split <;> simp_all
def agg2O (n : Option Nat) (xs ys : Array Value) : Option Bool :=
  match n with
  | some n => if xs.size = n ∧ ys.size = n then eqIA xs.toList ys.toList else none
  | none => none
@[simp] theorem agg2_eq (T : TypeId) (xs ys : Array Value) : agg2 P T xs ys = agg2O (arrT P T) xs ys := nr rfl
@[simp] theorem agg2O_some (n : Nat) (xs ys : Array Value) : agg2O (some n) xs ys = if xs.size = n ∧ ys.size = n then eqIA xs.toList ys.toList else none := nr rfl
@[simp] theorem eqIA_nil : eqIA [] [] = some true := nr rfl
def andO (b : Bool) (r : Option Bool) : Option Bool :=
  match r with
  | some r => some (b && r)
  | none => none
@[simp] theorem andO_some (b r : Bool) : andO b (some r) = some (b && r) := nr rfl
@[simp] theorem eqIA_cons (k k' : IntKind) (a b : Int) (xs ys : List Value) : eqIA (.int k a :: xs) (.int k' b :: ys) = if k = k' then andO (a == b) (eqIA xs ys) else none := nr rfl
@[simp] theorem int2_add (k k' : IntKind) (a b : Int) : int2 .add k a k' b = if k = k' then some (.int k (k.wrap (a + b))) else none := nr rfl
@[simp] theorem int2_sub (k k' : IntKind) (a b : Int) : int2 .sub k a k' b = if k = k' then some (.int k (k.wrap (a - b))) else none := nr rfl
@[simp] theorem int2_mul (k k' : IntKind) (a b : Int) : int2 .mul k a k' b = if k = k' then some (.int k (k.wrap (a * b))) else none := nr rfl
@[simp] theorem int2_quo (k k' : IntKind) (a b : Int) : int2 .quo k a k' b = if k = k' then if b = 0 then none else some (.int k (k.wrap (a.tdiv b))) else none := nr rfl
@[simp] theorem int2_rem (k k' : IntKind) (a b : Int) : int2 .rem k a k' b = if k = k' then if b = 0 then none else some (.int k (a.tmod b)) else none := nr rfl
@[simp] theorem int2_shl (k k' : IntKind) (a b : Int) : int2 .shl k a k' b = if 0 ≤ b then some (.int k (k.wrap (a * 2 ^ min b.toNat k.bits))) else none := nr rfl
@[simp] theorem int2_shr (k k' : IntKind) (a b : Int) : int2 .shr k a k' b = if 0 ≤ b then some (.int k (a.fdiv (2 ^ min b.toNat k.bits))) else none := nr rfl
@[simp] theorem int2_and (k k' : IntKind) (a b : Int) : int2 .and k a k' b = if k = k' then some (.int k (bitI .and k a b)) else none := nr rfl
@[simp] theorem int2_or (k k' : IntKind) (a b : Int) : int2 .or k a k' b = if k = k' then some (.int k (bitI .or k a b)) else none := nr rfl
@[simp] theorem int2_xor (k k' : IntKind) (a b : Int) : int2 .xor k a k' b = if k = k' then some (.int k (bitI .xor k a b)) else none := nr rfl
@[simp] theorem int2_andNot (k k' : IntKind) (a b : Int) : int2 .andNot k a k' b = if k = k' then some (.int k (bitI .andNot k a b)) else none := nr rfl
@[simp] theorem int2_eql (k k' : IntKind) (a b : Int) : int2 .eql k a k' b = if k = k' then some (.bool (a == b)) else none := nr rfl
@[simp] theorem int2_neq (k k' : IntKind) (a b : Int) : int2 .neq k a k' b = if k = k' then some (.bool (a != b)) else none := nr rfl
@[simp] theorem int2_lss (k k' : IntKind) (a b : Int) : int2 .lss k a k' b = if k = k' then some (.bool (a < b)) else none := nr rfl
@[simp] theorem int2_leq (k k' : IntKind) (a b : Int) : int2 .leq k a k' b = if k = k' then some (.bool (a ≤ b)) else none := nr rfl
@[simp] theorem int2_gtr (k k' : IntKind) (a b : Int) : int2 .gtr k a k' b = if k = k' then some (.bool (b < a)) else none := nr rfl
@[simp] theorem int2_geq (k k' : IntKind) (a b : Int) : int2 .geq k a k' b = if k = k' then some (.bool (b ≤ a)) else none := nr rfl
@[simp] theorem un1_neg (k : IntKind) (a : Int) : un1 .neg (.int k a) = some (.int k (k.wrap (0 - a))) := nr rfl
@[simp] theorem un1_not (b : Bool) : un1 .not (.bool b) = some (.bool !b) := nr rfl
@[simp] theorem un1_xor (k : IntKind) (a : Int) : un1 .xor (.int k a) = some (.int k (bitI .xor k (if k.signed then -1 else k.max) a)) := nr rfl
def conv2 (s t : Option TypeDesc) (n : Int) : Option Value :=
  match s, t with
  | some _, some (.int k) => some (.int k (k.wrap n))
  | _, _ => none
@[simp] theorem conv2_int (s : TypeDesc) (k : IntKind) (n : Int) : conv2 (some s) (some (.int k)) n = some (.int k (k.wrap n)) := nr rfl
@[simp] theorem conv1_int (S T : TypeId) (k : IntKind) (n : Int) : conv1 P S T (.int k n) = conv2 (P.underlying S) (P.underlying T) n := by
  unfold conv1 conv2
  cases hs : P.underlying S with
  | none => rfl
  | some s =>
    cases ht : P.underlying T with
    | none => rfl
    | some d => cases d <;> rfl

@[simp] theorem keepT_app (l : List Oper) (ts : Nat → Value) (t : Nat) : keepT l ts t = if l.any (fun o => o.dst == some t) then junk else ts t := nr rfl
/-! results -/
def resT (v : Value) : Option Value := if notTup v then some v else none
theorem resT_of {v : Value} (h : notTup v = true) : resT v = some v := by simp [resT, h]
def resO (v : Option Value) : Option Value :=
  match v with
  | some v => resT v
  | none => none
@[simp] theorem resO_some (v : Value) : resO (some v) = resT v := nr rfl
@[simp] theorem resG1_tmp (t : Tmp) : resG1 P ts hp (.tmp t) = resT (ts t) := nr rfl
def resC2 (P : Program) (T : TypeId) (b : Option Blk) (off : Nat) : Option Value :=
  match b with
  | some b => resO (loadB P T b.c off)
  | none => none
@[simp] theorem resC2_some (T : TypeId) (c : Array Value) (T' : TypeId) (off : Nat) : resC2 P T (some ⟨c, T'⟩) off = resO (loadB P T c off) := nr rfl
def resC (P : Program) (T : TypeId) (hp : Hp) (v : Value) : Option Value :=
  match v with
  | .pointer (some ⟨k, off, none⟩) => resC2 P T (hp k) off
  | _ => none
@[simp] theorem resC_ptr (T : TypeId) (k off : Nat) : resC P T hp (.pointer (some ⟨k, off, none⟩)) = resC2 P T (hp k) off := nr rfl
@[simp] theorem resG1_cell (t : Tmp) (T : TypeId) : resG1 P ts hp (.cell t T) = resC P T hp (ts t) := by
  unfold resG1 resC
  simp only
  split
  · unfold resC2
    split
    · unfold resO resT; split <;> simp_all
    · simp_all
  · simp_all
@[simp] theorem resT_bool (b : Bool) : resT (.bool b) = some (.bool b) := nr rfl
@[simp] theorem resT_int (k : IntKind) (n : Int) : resT (.int k n) = some (.int k n) := nr rfl
@[simp] theorem resT_agg (cs : Array Value) : resT (.agg cs) = some (.agg cs) := nr rfl
@[simp] theorem resT_func (f : Fn) (a b : Array Value) : resT (.func f a b) = some (.func f a b) := nr rfl
@[simp] theorem resT_slice (a : Option Addr) (n c : Nat) : resT (.slice a n c) = some (.slice a n c) := nr rfl
@[simp] theorem resT_string (s : ByteArray) : resT (.string s) = some (.string s) := nr rfl
def resK (v : Option Value) (r : Option (List Value)) : Option (List Value) :=
  match v, r with
  | some v, some vs => some (v :: vs)
  | _, _ => none
@[simp] theorem resK_some (v : Value) (vs : List Value) : resK (some v) (some vs) = some (v :: vs) := nr rfl
@[simp] theorem resGL_nil : resGL P ts hp [] = some [] := nr rfl
@[simp] theorem resGL_cons (x : ResultVar) (l : List ResultVar) : resGL P ts hp (x :: l) = resK (resG1 P ts hp x) (resGL P ts hp l) := by
  simp only [resGL]
  cases h1 : resG1 P ts hp x with
  | none => rfl
  | some v => cases h2 : resGL P ts hp l <;> rfl
def resTu (l : Option (List Value)) : Option Value :=
  match l with
  | some [v] => some v
  | some vs => some (.tuple vs.toArray)
  | none => none
@[simp] theorem resTu_1 (v : Value) : resTu (some [v]) = some v := nr rfl
@[simp] theorem resTu_2 (v u : Value) (l : List Value) : resTu (some (v :: u :: l)) = some (.tuple (v :: u :: l).toArray) := nr rfl
@[simp] theorem resTu_0 : resTu (some []) = some (.tuple #[]) := nr rfl
@[simp] theorem resG_eq (rs : List ResultVar) : resG P rs ts hp = resTu (resGL P ts hp rs) := nr rfl
@[simp] theorem thenG_normal (next : GS → Prop) (K : Exit → GS → Prop) (s : GS) : thenG next K .normal s = next s := nr rfl
@[simp] theorem thenG_ret (next : GS → Prop) (K : Exit → GS → Prop) (s : GS) : thenG next K .ret s = K .ret s := nr rfl
@[simp] theorem thenG_exit (next : GS → Prop) (K : Exit → GS → Prop) (i : Nat) (s : GS) : thenG next K (.exit i) s = K (.exit i) s := nr rfl
@[simp] theorem thenG_goto (next : GS → Prop) (K : Exit → GS → Prop) (i : Nat) (s : GS) : thenG next K (.goto i) s = K (.goto i) s := nr rfl
@[simp] theorem thenG_panic (next : GS → Prop) (K : Exit → GS → Prop) (ch : List PanicEntry) (s : GS) : thenG next K (.panic ch) s = K (.panic ch) s := nr rfl
@[simp] theorem blockG_panic (i : Nat) (K : Exit → GS → Prop) (ch : List PanicEntry) (s : GS) : blockG i K (.panic ch) s = K (.panic ch) s := nr rfl
@[simp] theorem jumpG_normal (l : Nat) (J : GS → Prop) (K : Exit → GS → Prop) (s : GS) : jumpG l J K .normal s = K .normal s := nr rfl
@[simp] theorem jumpG_ret (l : Nat) (J : GS → Prop) (K : Exit → GS → Prop) (s : GS) : jumpG l J K .ret s = K .ret s := nr rfl
@[simp] theorem jumpG_exit (l i : Nat) (J : GS → Prop) (K : Exit → GS → Prop) (s : GS) : jumpG l J K (.exit i) s = K (.exit i) s := nr rfl
@[simp] theorem jumpG_panic (l : Nat) (ch : List PanicEntry) (J : GS → Prop) (K : Exit → GS → Prop) (s : GS) : jumpG l J K (.panic ch) s = K (.panic ch) s := nr rfl
@[simp] theorem jumpG_goto (l l' : Nat) (J : GS → Prop) (K : Exit → GS → Prop) (s : GS) : jumpG l J K (.goto l') s = (l' = l ∧ J s) := nr rfl
@[simp] theorem blockG_normal (i : Nat) (K : Exit → GS → Prop) (s : GS) : blockG i K .normal s = K .normal s := nr rfl
@[simp] theorem blockG_ret (i : Nat) (K : Exit → GS → Prop) (s : GS) : blockG i K .ret s = K .ret s := nr rfl
@[simp] theorem blockG_exit (i j : Nat) (K : Exit → GS → Prop) (s : GS) : blockG i K (.exit j) s = if j = i then K .normal s else K (.exit j) s := nr rfl
@[simp] theorem blockG_goto (i j : Nat) (K : Exit → GS → Prop) (s : GS) : blockG i K (.goto j) s = K (.goto j) s := nr rfl
end

/-! a type's facts, out of what the loaded program gives -/
section
variable {P : Program}
theorem loadB_agg {T : TypeId} {m : Nat} (h1 : tyAgg P T = some true) (h2 : tySize P T = some m) (c : Array Value) (off : Nat) : loadB P T c off = if off + m ≤ c.size then some (.agg (c.extract off (off + m))) else none := by
  simp [loadB, h1, h2]
def selB (v : Option Value) : Option Value :=
  match v with
  | some v => if scal v then some v else none
  | none => none
@[simp] theorem selB_bool (b : Bool) : selB (some (.bool b)) = some (.bool b) := nr rfl
@[simp] theorem selB_int (k : IntKind) (n : Int) : selB (some (.int k n)) = some (.int k n) := nr rfl
@[simp] theorem selB_pointer (a : Option Addr) : selB (some (.pointer a)) = some (.pointer a) := nr rfl
@[simp] theorem selB_slice (a : Option Addr) (n c : Nat) : selB (some (.slice a n c)) = some (.slice a n c) := nr rfl
@[simp] theorem selB_func (f : Fn) (a b : Array Value) : selB (some (.func f a b)) = some (.func f a b) := nr rfl
@[simp] theorem selB_nilFunc : selB (some .nilFunc) = some .nilFunc := nr rfl
@[simp] theorem selB_string (s : ByteArray) : selB (some (.string s)) = some (.string s) := nr rfl
@[simp] theorem selB_iface (t : TypeId) (v : Value) : selB (some (.iface t v)) = some (.iface t v) := nr rfl
@[simp] theorem selB_nilIface : selB (some .nilIface) = some .nilIface := nr rfl
theorem loadB_one {T : TypeId} (h1 : tyAgg P T = some false) (c : Array Value) (off : Nat) : loadB P T c off = selB c[off]? := by
  unfold loadB selB
  simp only [h1]
  rfl
theorem tyZero_of {T : TypeId} {z : Value} (h : ∀ w, (zeroValue T).run P w = .ok z w) : tyZero P T = some z := by
  have h := h default
  unfold tyZero
  unfold zeroValue typeInfo at h
  cases hi : P.info? T with
  | none => simp [hi, stuck] at h
  | some i =>
    simp [hi] at h
    cases hz : i.zero with
    | none => simp [hz, unsupported] at h
    | some u => simp [hz] at h; simp [hz, h]
theorem tySize_of {T : TypeId} {m : Nat} (h : ∀ w, (sizeOf T).run P w = .ok m w) : tySize P T = some m := by
  have h := h default
  unfold tySize
  unfold sizeOf typeInfo at h
  cases hi : P.info? T with
  | none => simp [hi, stuck] at h
  | some i => simp [hi] at h; simp [h]
theorem tyAgg_of {T : TypeId} {b : Bool} (h : ∀ w, (isAgg T).run P w = .ok b w) : tyAgg P T = some b := by
  have h := h default
  unfold tyAgg
  unfold isAgg underlying at h
  cases hi : P.underlying T with
  | none => simp [hi, stuck] at h
  | some i => cases i <;> simp_all
theorem placesOf_arr {T e : TypeId} {n m : Nat} (hu : P.underlying T = some (.array n e)) (hs : tySize P e = some m) : placesOf P T = some (.inr m) := by simp [placesOf, hu, hs]
theorem arrT_of {T e : TypeId} {n : Nat} {k : IntKind} (hu : P.underlying T = some (.array n e)) (he : P.underlying e = some (.int k)) (hs : tySize P e = some 1) (hg : P.eqGuardType P.depth T = false) : arrT P T = some n := by
  simp [arrT, hu, he, hs, hg]
theorem boolT_of {T : TypeId} (hu : P.underlying T = some .bool) : boolT P T = true := by simp [boolT, hu]
end
end Go.Gy
