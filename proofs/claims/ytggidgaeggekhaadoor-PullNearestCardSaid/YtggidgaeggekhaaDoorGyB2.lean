/-
  The ghost layer: the operators on numbers, truth values, arrays of numbers, as functions; and that the model's run does just that.
  Conditions: none beyond the hypotheses of each theorem.
-/
import Derived.Test.YtggidgaeggekhaaDoorGyD
import Derived.ChangeKeysEq
namespace Go.Gy
open Go Go.RowKit

def bitI (op : BinOp) (k : IntKind) (a b : Int) : Int :=
  match op with
  | .and => k.wrap (BitVec.ofInt k.bits a &&& BitVec.ofInt k.bits b).toNat
  | .or => k.wrap (BitVec.ofInt k.bits a ||| BitVec.ofInt k.bits b).toNat
  | .xor => k.wrap (BitVec.ofInt k.bits a ^^^ BitVec.ofInt k.bits b).toNat
  | _ => k.wrap (BitVec.ofInt k.bits a &&& ~~~ BitVec.ofInt k.bits b).toNat

def int2 (op : BinOp) (k : IntKind) (a : Int) (k' : IntKind) (b : Int) : Option Value :=
  match op with
  | .shl => if 0 ≤ b then some (.int k (k.wrap (a * 2 ^ min b.toNat k.bits))) else none
  | .shr => if 0 ≤ b then some (.int k (a.fdiv (2 ^ min b.toNat k.bits))) else none
  | .add => if k = k' then some (.int k (k.wrap (a + b))) else none
  | .sub => if k = k' then some (.int k (k.wrap (a - b))) else none
  | .mul => if k = k' then some (.int k (k.wrap (a * b))) else none
  | .quo => if k = k' then if b = 0 then none else some (.int k (k.wrap (a.tdiv b))) else none
  | .rem => if k = k' then if b = 0 then none else some (.int k (a.tmod b)) else none
  | .and => if k = k' then some (.int k (bitI .and k a b)) else none
  | .or => if k = k' then some (.int k (bitI .or k a b)) else none
  | .xor => if k = k' then some (.int k (bitI .xor k a b)) else none
  | .andNot => if k = k' then some (.int k (bitI .andNot k a b)) else none
  | .eql => if k = k' then some (.bool (a == b)) else none
  | .neq => if k = k' then some (.bool (a != b)) else none
  | .lss => if k = k' then some (.bool (a < b)) else none
  | .leq => if k = k' then some (.bool (a ≤ b)) else none
  | .gtr => if k = k' then some (.bool (b < a)) else none
  | .geq => if k = k' then some (.bool (b ≤ a)) else none

/-- Arrays of numbers, held against each other. -/
def eqIA : List Value → List Value → Option Bool
  | [], [] => some true
  | .int k a :: xs, .int k' b :: ys => if k = k' then match eqIA xs ys with
    | some r => some (a == b && r)
    | none => none
    else none
  | _, _ => none

def boolT (P : Program) (T : TypeId) : Bool := match P.underlying T with | some .bool => true | _ => false
/-- An array of numbers' length. -/
def arrT (P : Program) (T : TypeId) : Option Nat :=
  match P.underlying T with
  | some (.array n e) => match P.underlying e with
    | some (.int _) => match tySize P e with
      | some 1 => if P.eqGuardType P.depth T then none else some n
      | _ => none
    | _ => none
  | _ => none

def agg2 (P : Program) (T : TypeId) (xs ys : Array Value) : Option Bool :=
  match arrT P T with
  | some n => if xs.size = n ∧ ys.size = n then eqIA xs.toList ys.toList else none
  | none => none

def bin2 (P : Program) (op : BinOp) (T : TypeId) (x y : Value) : Option Value :=
  match x, y with
  | .int k a, .int k' b => int2 op k a k' b
  | .bool a, .bool b => match op with
    | .eql => if boolT P T then some (.bool (a == b)) else none
    | .neq => if boolT P T then some (.bool (a != b)) else none
    | _ => none
  | .agg xs, .agg ys => match op with
    | .eql => match agg2 P T xs ys with
      | some r => some (.bool r)
      | none => none
    | .neq => match agg2 P T xs ys with
      | some r => some (.bool (!r))
      | none => none
    | _ => none
  | _, _ => none

def un1 (op : UnOp) (x : Value) : Option Value :=
  match op, x with
  | .neg, .int k a => some (.int k (k.wrap (0 - a)))
  | .xor, .int k a => some (.int k (bitI .xor k (if k.signed then -1 else k.max) a))
  | .not, .bool b => some (.bool !b)
  | _, _ => none

def conv1 (P : Program) (src dst : TypeId) (x : Value) : Option Value :=
  match P.underlying src, P.underlying dst, x with
  | some _, some (.int k), .int _ n => some (.int k (k.wrap n))
  | _, _, _ => none

section
variable {P : Program}

theorem int2_sound {op : BinOp} {T : TypeId} {k k' : IntKind} {a b : Int} {v : Value} (h : int2 op k a k' b = some v) (W : World) :
    (binOp op T (.int k a) (.int k' b)).run P W = .ok v W ∧ flatV v = true := by
  cases op <;> simp only [int2] at h
  case shl =>
    split at h
    · cases h; rename_i hb
      refine ⟨?_, rfl⟩
      have : ¬ b < 0 := by omega
      simp [binOp, Op.shift, this]
    · cases h
  case shr =>
    split at h
    · cases h; rename_i hb
      refine ⟨?_, rfl⟩
      have : ¬ b < 0 := by omega
      simp [binOp, Op.shift, this]
    · cases h
  case quo =>
    split at h
    · split at h
      · cases h
      · cases h; rename_i hk hb; subst hk
        exact ⟨by simp [binOp, Op.intDiv, hb], rfl⟩
    · cases h
  case rem =>
    split at h
    · split at h
      · cases h
      · cases h; rename_i hk hb; subst hk
        exact ⟨by simp [binOp, Op.intDiv, hb], rfl⟩
    · cases h
  all_goals
    split at h
    · cases h; rename_i hk; subst hk
      exact ⟨by simp [binOp, Op.intArith, Op.intBits, Op.intCmp, bitI], rfl⟩
    · cases h

theorem run_part1 {e : TypeId} {kk : IntKind} (hu : P.underlying e = some (.int kk)) {cs : Array Value} {i : Nat} {v : Value} (h : cs[i]? = some v) (W : World) : (part e cs (i * 1)).run P W = .ok v W := by
  have ha : (isAgg e).run P W = .ok false W := run_isAgg (by simp [tyAgg, hu]) W
  simp [part, ha, h]

theorem run_eqItems_int {d : Nat} {e : TypeId} {kk : IntKind} (hu : P.underlying e = some (.int kk)) (W : World) : ∀ (m j : Nat) (xs ys : Array Value) (r : Bool), j + m = xs.size → j + m = ys.size → eqIA (xs.toList.drop j) (ys.toList.drop j) = some r →
    (Op.eqItems (d + 1) e 1 xs ys (List.range' j m)).run P W = .ok r W
  | 0, j, xs, ys, r, hx, hy, h => by
    rw [List.drop_eq_nil_of_le (by simp; omega), List.drop_eq_nil_of_le (by simp; omega)] at h
    simp only [eqIA, Option.some.injEq] at h
    subst h
    simp [Op.eqItems]
  | m + 1, j, xs, ys, r, hx, hy, h => by
    have hjx : j < xs.size := by omega
    have hjy : j < ys.size := by omega
    rw [List.drop_eq_getElem_cons (l := xs.toList) (by simpa using hjx), List.drop_eq_getElem_cons (l := ys.toList) (by simpa using hjy)] at h
    have gx : xs[j]? = some xs[j] := Array.getElem?_eq_getElem hjx
    have gy : ys[j]? = some ys[j] := Array.getElem?_eq_getElem hjy
    simp only [Array.getElem_toList] at h
    generalize xs[j] = x at *
    generalize ys[j] = y at *
    unfold eqIA at h
    split at h
    · rename_i e1 _; cases e1
    · rename_i k a xs' k' b ys' e1 e2
      simp only [List.cons.injEq] at e1 e2
      obtain ⟨rfl, rfl⟩ := e1
      obtain ⟨rfl, rfl⟩ := e2
      split at h
      · rename_i hk; subst hk
        split at h
        · rename_i q hq
          cases h
          have hrec := run_eqItems_int (d := d) hu W m (j + 1) xs ys q (by omega) (by omega) hq
          have heq : (Op.equalIn (d + 1) e (.int k a) (.int k b)).run P W = .ok (a == b) W := by simp [Op.equalIn, run_underlying hu]
          simp only [List.range'_succ, Op.eqItems, Sem.run_bind, run_part1 hu gx, run_part1 hu gy, Result.andThen_ok, heq]
          cases hab : a == b
          · simp
          · simpa using hrec
        · cases h
      · cases h
    · cases h

theorem eqIA_size : ∀ (xs ys : List Value) (r : Bool), eqIA xs ys = some r → xs.length = ys.length
  | [], [], _, _ => rfl
  | .int k a :: xs, .int k' b :: ys, r, h => by
    simp only [eqIA] at h
    split at h
    · split at h
      · rename_i q hq; simp [eqIA_size xs ys q hq]
      · cases h
    · cases h

theorem agg2_sound {T : TypeId} {xs ys : Array Value} {r : Bool} (h : agg2 P T xs ys = some r) (W : World) : (Op.equal T (.agg xs) (.agg ys)).run P W = .ok r W ∧ P.eqGuardType P.depth T = false := by
  unfold agg2 at h
  split at h
  · rename_i n hn
    split at h
    · rename_i hs
      unfold arrT at hn
      split at hn
      · rename_i m e hu
        split at hn
        · rename_i kk hue
          split at hn
          · rename_i hsz
            split at hn
            · cases hn
            · rename_i hg
              cases hn
              refine ⟨?_, by simpa using hg⟩
              unfold tySize at hsz
              cases hi : P.info? e with
              | none => simp [hi] at hsz
              | some i =>
                have hi1 : i.size = 1 := by simpa [hi] using hsz
                have hc : P.cellsOf e = 1 := by simp [Program.cellsOf, hi, hi1]
                unfold Op.equal Op.maxDepth
                rw [run_equalIn_array W 9999 xs ys hu hi, hc, List.range_eq_range']
                exact run_eqItems_int (d := 9998) hue W _ 0 xs ys r (by omega) (by omega) (by simpa using h)
          · cases hn
        · cases hn
      · cases hn
    · cases h
  · cases h

theorem bin2_sound {op : BinOp} {T : TypeId} {x y : Value} {ox oy : Operand} {v : Value} (h : bin2 P op T x y = some v) (W : World) :
    (do eqGuard op T ox oy x y; binOp op T x y).run P W = .ok v W ∧ flatV v = true := by
  unfold bin2 at h
  split at h
  · rename_i k a k' b
    have h1 := int2_sound (P := P) (T := T) h W
    refine ⟨?_, h1.2⟩
    have hg : (eqGuard op T ox oy (.int k a) (.int k' b)).run P W = .ok () W := by unfold eqGuard; split <;> rfl
    simp only [Sem.run_bind, hg, Result.andThen_ok, h1.1]
  · rename_i a b
    have hg : (eqGuard op T ox oy (.bool a) (.bool b)).run P W = .ok () W := by unfold eqGuard; split <;> rfl
    split at h
    · split at h
      · rename_i hb
        cases h
        have hu : P.underlying T = some .bool := by unfold boolT at hb; split at hb <;> simp_all
        exact ⟨by simp only [Sem.run_bind, hg, Result.andThen_ok, binOp, run_equal_bool W T a b hu, Sem.run_pure], rfl⟩
      · cases h
    · split at h
      · rename_i hb
        cases h
        have hu : P.underlying T = some .bool := by unfold boolT at hb; split at hb <;> simp_all
        exact ⟨by simp only [Sem.run_bind, hg, Result.andThen_ok, binOp, run_equal_bool W T a b hu, Sem.run_pure]; cases a <;> cases b <;> rfl, rfl⟩
      · cases h
    · cases h
  · rename_i xs ys
    split at h
    · split at h
      · rename_i r hr
        cases h
        have h1 := agg2_sound hr W
        have hg : (eqGuard .eql T ox oy (.agg xs) (.agg ys)).run P W = .ok () W := by simp [eqGuard, h1.2]
        exact ⟨by simp [Sem.run_bind, hg, binOp, h1.1], rfl⟩
      · cases h
    · split at h
      · rename_i r hr
        cases h
        have h1 := agg2_sound hr W
        have hg : (eqGuard .neq T ox oy (.agg xs) (.agg ys)).run P W = .ok () W := by simp [eqGuard, h1.2]
        exact ⟨by simp [Sem.run_bind, hg, binOp, h1.1], rfl⟩
      · cases h
    · cases h
  · cases h

theorem un1_sound {op : UnOp} {x v : Value} (h : un1 op x = some v) (W : World) : (Op.unary op x).run P W = .ok v W ∧ flatV v = true := by
  unfold un1 at h
  split at h
  · cases h; exact ⟨by simp [Op.unary, Op.intArith], rfl⟩
  · cases h; exact ⟨by simp [Op.unary, Op.intBits, bitI], rfl⟩
  · cases h; exact ⟨by simp [Op.unary], rfl⟩
  · cases h

theorem conv1_sound {src dst : TypeId} {x v : Value} (h : conv1 P src dst x = some v) (W : World) : (convert src dst x).run P W = .ok v W ∧ flatV v = true := by
  unfold conv1 at h
  split at h
  · rename_i u k kk m hs hd
    cases h
    refine ⟨?_, rfl⟩
    unfold convert
    simp only [Sem.run_bind, run_underlying hs, run_underlying hd, Result.andThen_ok]
    cases u <;> simp [Conv.intToInt]
  · cases h
end
end Go.Gy
