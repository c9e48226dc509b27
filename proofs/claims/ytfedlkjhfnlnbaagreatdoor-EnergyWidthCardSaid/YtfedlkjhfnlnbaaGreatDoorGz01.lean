/-
  Lemmas of this claim, in their order (GyE, GyF).
  Conditions: those of each theorem.
-/
import Derived.Test.YtfedlkjhfnlnbaaGreatDoorGz00
namespace Go.Gy
open Go Go.RowKit

def val (v : Value) (rs : List Nat) : Eff := ⟨v, rs, [], [], none, false⟩
def gptr (k : Nat) : Value := .pointer (some ⟨k, 0, none⟩)

def GFlat (G : Hp) : Prop := ∀ k b, G k = some b → k < 100 ∧ ∀ x ∈ b.c, flatF x = true

inductive Out
  | ret (v : Value)
  | pan (v : Value)
def Out.eff : Out → Eff
  | .ret v => val v []
  | .pan v => ⟨junk, [], [], [], some v, false⟩
def Out.holds (W : World) : Out → Ending → World → Prop
  | .ret v, e, W' => e = .returned v ∧ Below W.heap.size W W'
  | .pan v, e, W' => e = .panicked [{ v := v, recovered := false }] ∧ Below W.heap.size W W'

def Ret (P : Program) (G : Hp) (f : FuncId) (args : Array Value) (v : Value) : Prop :=
  flatV v = true ∧ (∀ x ∈ args, flatV x = true) ∧ (∀ a w, (callFunc f a).run P w = .ok (.enter f a) w) ∧
    ∀ W, GOK G W → CallsS P f args W fun e W' => e = .returned v ∧ Below W.heap.size W W'
def RetV (P : Program) (f : FuncId) (args : Array Value) (v : Value) : Prop := flatV v = true ∧ (∀ x ∈ args, flatV x = true) ∧ ∀ w, (callFunc f args).run P w = .ok (.value v) w
def RetP (P : Program) (G : Hp) (f : FuncId) (args : Array Value) (o : Out) : Prop :=
  (∀ v, o = .ret v → flatV v = true) ∧ (∀ x ∈ args, flatV x = true) ∧ (∀ a w, (callFunc f a).run P w = .ok (.enter f a) w) ∧ ∀ W, GOK G W → CallsS P f args W (o.holds W)
def callP (P : Program) (G : Hp) (f : FuncId) (args : Array Value) (C : Eff → Prop) : Prop := ∃ o, RetP P G f args o ∧ C o.eff
theorem callP_of {P : Program} {G : Hp} {f : FuncId} {args : Array Value} {C : Eff → Prop} {o : Out} (h : RetP P G f args o) (hk : C o.eff) : callP P G f args C := ⟨o, h, hk⟩
def callK (P : Program) (G : Hp) (f : FuncId) (args : Array Value) (K : Value → Prop) : Prop := ∃ v, (Ret P G f args v ∨ RetV P f args v) ∧ K v

inductive Res
  | ret (v : Value) (ws : List (Nat × Blk))
  | pan (v : Value)
  | new (v : Value) (ns : List (Nat × Blk))
def Res.eff (rs : List Nat) : Res → Eff
  | .ret v ws => ⟨v, rs, ws, [], none, false⟩
  | .pan v => ⟨junk, rs, [], [], some v, false⟩
  | .new v ns => ⟨v, rs, [], ns, none, false⟩
def Res.holds (r : Nat → Nat) (D : Nat → Prop) (W : World) : Res → Ending → World → Prop
  | .new v ns, e, W' => (∀ k ∈ keys ns, ¬ D k) → ∃ r', (∀ k, D k → r' k = r k) ∧ e = .returned (ren r' v) ∧ Turn r' (extD D ns) W W' [] ns
  | .ret v ws, e, W' => e = .returned (ren r v) ∧ Turn r (extD D []) W W' ws []
  | .pan v, e, W' => e = .panicked [{ v := v, recovered := false }] ∧ Below W.heap.size W W'
def Res.fits (hp : Hp) (rs : List Nat) : Res → Prop
  | .ret v ws => idsV (dom (rst hp rs)) v ∧ (∀ k ∈ keys ws, k ∈ rs ∧ dom hp k ∧ 100 ≤ k) ∧ (∀ k b c, (k, b) ∈ ws → (k, c) ∈ ws → b = c) ∧ ∀ p ∈ ws, p.2.ids (dom (rst hp rs))
  | .pan _ => True
  | .new v ns => idsV (extD (dom (rst hp rs)) ns) v ∧ (∀ k ∈ keys ns, 100 ≤ k) ∧ (∀ k b c, (k, b) ∈ ns → (k, c) ∈ ns → b = c)

structure Fun (P : Program) (G : Hp) (f : FuncId) (args : Array Value) (hp : Hp) (rs : List Nat) (res : Res) : Prop where
  enter : ∀ a w, (callFunc f a).run P w = .ok (.enter f a) w
  ids : ∀ x ∈ args, idsV (dom (rst hp rs)) x
  closed : ∀ k b, rst hp rs k = some b → b.ids (dom (rst hp rs))
  fits : res.fits hp rs
  run : ∀ r W, GOK G W → Sat r (dom (rst hp rs)) (rst hp rs) W → Inj r (dom (rst hp rs)) → (∀ k, k < 100 → dom (rst hp rs) k → r k = k) → CallsS P f (args.map (ren r)) W (res.holds r (dom (rst hp rs)) W)
def Res.at (nk : Nat) : Res → Prop
  | .new _ ns => ∀ k ∈ keys ns, nk ≤ k ∧ k < nk + 8
  | _ => True
def heapK (P : Program) (G : Hp) (f : FuncId) (args : Array Value) (hp : Hp) (nk : Nat) (K : Eff → Prop) : Prop := ∃ hp' rs res, (∀ k ∈ rs, hp' k = hp k) ∧ (∀ k, k < 100 → hp' k = G k) ∧ Fun P G f args hp' rs res ∧ res.at nk ∧ K (res.eff rs)
theorem Fun.under {P : Program} {G : Hp} {f : FuncId} {args : Array Value} {hp hp' : Hp} {rs : List Nat} {res : Res} (h : Fun P G f args hp' rs res) (e : ∀ k, (k < 100 ∨ k ∈ rs) → hp' k = hp k) : Fun P G f args hp rs res := by
  have er : rst hp' rs = rst hp rs := rst_congr e
  refine ⟨h.enter, by rw [← er]; exact h.ids, by rw [← er]; exact h.closed, ?_, by rw [← er]; exact h.run⟩
  have hf := h.fits
  cases res with
  | ret v ws =>
    simp only [Res.fits] at hf ⊢
    rw [← er]
    refine ⟨hf.1, fun k hk => ?_, hf.2.2⟩
    have := hf.2.1 k hk
    exact ⟨this.1, by unfold dom at *; rw [← e k (.inr this.1)]; exact this.2.1, this.2.2⟩
  | pan v => trivial
  | new v ns => simp only [Res.fits] at hf ⊢; rw [← er]; exact hf

structure XV where
  Y : Option YG
  pn : List FuncId
  dr : Bool

def notTup : Value → Bool
  | .tuple _ => false
  | .complex _ _ _ => false
  | _ => true
def plain0 : Value → Bool
  | .tuple _ => false
  | .agg _ => false
  | .func _ _ _ => false
  | .iface _ _ => false
  | _ => true
theorem ren_plain0 {r : Nat → Nat} {v : Value} (h : plain0 v = true) : ren r v = ren0 r v := by cases v <;> simp_all [plain0, ren, renA, renF]
theorem ids_plain0 {D : Nat → Prop} {v : Value} (h : plain0 v = true) : idsV D v ↔ ids0 D v := by cases v <;> simp_all [plain0, idsV, idsA, idsF]

def partsG (ts : Nat → Value) (parts : Array (Nat × Operand)) : List (Nat × Value) := parts.toList.map fun p => (p.1, gev ts p.2)

def placesOf (P : Program) (T : TypeId) : Option (List (Nat × Nat) ⊕ Nat) :=
  match P.underlying T with
  | some (.array _ e) => (tySize P e).map .inr
  | some (.struct fs) => (fs.toList.mapM fun f => (P.info? f.type).map fun i => (f.offset, i.size)).map .inl
  | _ => none
def plAt : List (Nat × Nat) ⊕ Nat → Nat → Option (Nat × Nat)
  | .inl l, i => l[i]?
  | .inr m, i => some (i * m, m)
def fillG (pl : List (Nat × Nat) ⊕ Nat) (cells : Array Value) : List (Nat × Value) → Option (Array Value)
  | [] => some cells
  | (i, v) :: rest =>
    match plAt pl i with
    | none => none
    | some (off, size) => if v.cells.size = size ∧ off + v.cells.size ≤ cells.size then fillG pl (splice cells off v.cells.toList) rest else none

def hiG (len cap : Nat) : Option Value → Option Nat
  | none => some len
  | some (.int _ m) => if 0 ≤ m ∧ m ≤ cap then some m.toNat else none
  | _ => none
def loG (h : Nat) : Option Value → Option Nat
  | none => some 0
  | some (.int _ m) => if 0 ≤ m ∧ m ≤ h then some m.toNat else none
  | _ => none
def sliceG (len cap : Nat) (lo hi : Option Value) : Option (Nat × Nat) :=
  match hiG len cap hi with
  | none => none
  | some h => (loG h lo).map fun l => (l, h)
def slV (a : Option (Nat × Nat)) (s c : Nat) : Option (Nat × Nat) → Option Value
  | some (l, h) => some (.slice (a.map fun p => ⟨p.1, if c = l then p.2 else p.2 + l * s, none⟩) (h - l) (c - l))
  | none => none
def slS (s : ByteArray) : Option (Nat × Nat) → Option Value
  | some (l, h) => some (.string (s.extract l h))
  | none => none
def slX (P : Program) (T : TypeId) (v : Value) (lo hi : Option Value) : Option Value :=
  match P.underlying T with
  | some (.array n e) => match v with
    | .pointer (some ⟨k, off, none⟩) => match tySize P e with
      | some s => slV (some (k, off)) s n (sliceG n n lo hi)
      | none => none
    | _ => none
  | some (.slice e) => match v with
    | .slice (some ⟨k, off, none⟩) n c => match tySize P e with
      | some s => slV (some (k, off)) s c (sliceG n c lo hi)
      | none => none
    | .slice none n c => match tySize P e with
      | some s => slV none s c (sliceG n c lo hi)
      | none => none
    | _ => none
  | some .string => match v with
    | .string s => slS s (sliceG s.size s.size lo hi)
    | _ => none
  | _ => none
def arrX (P : Program) (T : TypeId) (v : Value) : Option Value :=
  match P.underlying T with
  | some (.array n _) => match v with
    | .slice a len _ => if n ≤ len then some (.pointer a) else none
    | _ => none
  | _ => none
def lenX (P : Program) (T : TypeId) (v : Value) : Option Value :=
  match P.underlying T with
  | some .string => match v with
    | .string s => some (.int .i64 s.size)
    | _ => none
  | some (.array n _) => some (.int .i64 n)
  | some (.slice _) => match v with
    | .slice _ n _ => some (.int .i64 n)
    | _ => none
  | _ => none
def max2G (b : Bool) (x y : Value) : Option Value :=
  match x, y with
  | .int k a, .int _ c => some (.int k (if b then (if a < c then c else a) else (if c < a then c else a)))
  | _, _ => none
def maxE : Value → Option Value
  | .int k a => some (.int k a)
  | _ => none
def maxF (b : Bool) (x : Value) : List Value → Option Value
  | [] => maxE x
  | y :: l => match max2G b x y with
    | some z => maxF b z l
    | none => none
def maxG (b : Bool) : List Value → Option Value
  | [] => none
  | x :: l => maxF b x l
def builtX (P : Program) (ts : Nat → Value) (c : Call) : Option Value :=
  match c.callee with
  | .builtin .len => match c.args.toList, c.argTypes.toList with
    | [x], [T] => lenX P T (gev ts x)
    | _, _ => none
  | .builtin .max => maxG true (c.args.toList.map (gev ts))
  | .builtin .min => maxG false (c.args.toList.map (gev ts))
  | _ => none
def fdX (P : Program) (T : TypeId) (f : Nat) : Option (TypeId × Nat) :=
  match P.underlying T with
  | some (.struct fs) => match fs[f]? with
    | some fd => match tySize P fd.type with
      | some (_ + 1) => some (fd.type, fd.offset)
      | _ => none
    | none => none
  | _ => none

def pureV (P : Program) (o : Oper) (ts : Nat → Value) (hp : Hp) (K : Value → Prop) : Prop :=
  (∀ x ∈ o.op.operands.toList, okX ts hp x ∧ flatV (gev ts x) = true) ∧ ∃ v, flatV v = true ∧ (∀ W, (execOp (gev ts) o).run P W = .ok (.value v) W) ∧ K v

def okT (ts : Nat → Value) : Operand → Prop
  | .tmp t => nj (ts t)
  | .const v => flatV v = true
  | .func _ => True
  | _ => False
def yEff (y : YG) (yc : Nat) : Eff :=
  match y.pan yc with
  | none => ⟨.bool (yc != y.stop), [], [], [], none, true⟩
  | some pv => ⟨junk, [], [], [], some pv, true⟩
def OpY (Y : Option YG) (o : Oper) (ts : Nat → Value) (yc : Nat) (e : Eff) : Prop :=
  ∃ y f args T, Y = some y ∧ o.op = .call ⟨.value f, args, T⟩ ∧ okT ts f ∧ (∀ x ∈ args.toList, okT ts x ∧ flatV (gev ts x) = true) ∧ gev ts f = .func (.yield y.l) #[] #[] ∧ yc ≤ y.stop ∧ y.xs[yc]? = some (args.map (gev ts)) ∧
    e = yEff y yc
def yieldK (Y : Option YG) (yc l : Nat) (args : Array Value) (C : Eff → Prop) : Prop :=
  match Y with
  | some y => l = y.l ∧ yc ≤ y.stop ∧ y.xs[yc]? = some args ∧ C (yEff y yc)
  | none => False

def calleeX (P : Program) (G : Hp) (V : XV) (nk yc : Nat) (ts : Nat → Value) (hp : Hp) (v : Value) (args : Array Operand) (C : Eff → Prop) : Prop :=
  match v with
  | .func (.func g) first cap => first.size = 0 ∧ (∀ x ∈ args.toList, okX ts hp x) ∧
      if cap.size = 0 ∧ V.pn.contains g = false ∧ (args.map (gev ts)).all flatV = true then (if V.pn.contains (g + 1000000) = true then callP P G g (args.map (gev ts)) C else callK P G g (args.map (gev ts)) fun v => C (val v [])) else cap.all plain0 = true ∧ heapK P G g (args.map (gev ts) ++ cap) hp nk C
  | .func (.yield l) first cap => first.size = 0 ∧ cap.size = 0 ∧ (∀ x ∈ args.toList, okT ts x ∧ flatV (gev ts x) = true) ∧ yieldK V.Y yc l (args.map (gev ts)) C
  | _ => False
def callX (P : Program) (G : Hp) (V : XV) (nk yc : Nat) (ts : Nat → Value) (hp : Hp) (c : Call) (C : Eff → Prop) : Prop :=
  match c.callee with
  | .value f => okT ts f ∧ calleeX P G V nk yc ts hp (gev ts f) c.args C
  | _ => (∀ x ∈ c.args.toList, okX ts hp x) ∧ match builtX P ts c with
    | some v => C (val v [])
    | none => False

def fnV : Value → Bool
  | .func _ _ _ => true
  | _ => false
def insX1 (b : Option Blk) (k : Nat) (s : ByteArray) (v : Value) (C : Eff → Prop) : Prop := match b.bind mpOf with
  | some l => findL s l = none ∧ 100 ≤ k ∧ C ⟨undef, [k], [(k, mpB (l ++ [(s, v)]))], [], none, false⟩
  | none => False
def insX (hp : Hp) (m k v : Value) (C : Eff → Prop) : Prop := match m with
  | .map (some q) => (match k with | .string s => insX1 (hp q) q s v C | _ => False)
  | _ => False
def lkX1 (b : Option Blk) (k : Nat) (s : ByteArray) (C : Eff → Prop) : Prop := match b.bind mpOf with
  | some l => (match findL s l with | some v => fnV v = true ∧ C (val v [k]) | none => False)
  | none => False
def lkX (hp : Hp) (m k : Value) (C : Eff → Prop) : Prop := match m with
  | .map (some q) => (match k with | .string s => lkX1 (hp q) q s C | _ => False)
  | _ => False
def opX (P : Program) (G : Hp) (V : XV) (yc : Nat) (o : Oper) (ts : Nat → Value) (hp : Hp) (nk : Nat) (C : Eff → Prop) : Prop :=
  match o.op with
  | .move x => okX ts hp x ∧ C (val (gev ts x) [])
  | .assign x => okX ts hp x ∧ C (val (gev ts x) [])
  | .pick c x y => okX ts hp c ∧ match gev ts c with
    | .bool b => (b = true → okX ts hp x) ∧ (b = false → okX ts hp y) ∧ C (val (if b then gev ts x else gev ts y) [])
    | _ => False
  | .alloc T => match tyZero P T with
    | some z => okCells z = true ∧ flatV z = true ∧ C ⟨gptr nk, [], [], [(nk, ⟨z.cells, T⟩)], none, false⟩
    | none => False
  | .box T x => okX ts hp x ∧ okCells (gev ts x) = true ∧ C ⟨gptr nk, [], [], [(nk, ⟨(gev ts x).cells, T⟩)], none, false⟩
  | .load T x => okX ts hp x ∧ match gev ts x with
    | .pointer (some ⟨k, off, none⟩) => match hp k with
      | some b => match loadK P T b off with
        | some v => C (val v [k])
        | none => False
      | none => False
    | _ => False
  | .store T x y => okX ts hp x ∧ okX ts hp y ∧ match gev ts x with
    | .pointer (some ⟨k, off, none⟩) => match hp k with
      | some b => b.T.own = true ∧ okCells (gev ts y) = true ∧ tySize P T = some (gev ts y).cells.size ∧ off + (gev ts y).cells.size ≤ b.c.size ∧ 100 ≤ k ∧
          C ⟨undef, [k], [(k, ⟨splice b.c off (gev ts y).cells.toList, b.T⟩)], [], none, false⟩
      | none => False
    | _ => False
  | .extract x i => okX ts hp x ∧ match gev ts x with
    | .tuple vs => match vs[i]? with
      | some v => notTup v = true ∧ C (val v [])
      | none => False
    | _ => False
  | .indexAddr T x i => okX ts hp x ∧ okX ts hp i ∧ match gev ts i with
    | .int _ m => match P.underlying T with
      | some (.array len e) => match gev ts x with
        | .pointer (some ⟨k, off, none⟩) => (0 ≤ m ∧ m < len) ∧ match tySize P e with
          | some s => C (val (.pointer (some ⟨k, off + m.toNat * s, none⟩)) [])
          | none => False
        | _ => False
      | some (.slice e) => match gev ts x with
        | .slice (some ⟨k, off, none⟩) len _ => (0 ≤ m ∧ m < len) ∧ match tySize P e with
          | some s => C (val (.pointer (some ⟨k, off + m.toNat * s, none⟩)) [])
          | none => False
        | _ => False
      | _ => False
    | _ => False
  | .index T x i => okX ts hp x ∧ okX ts hp i ∧ match gev ts i with
    | .int _ m => match P.underlying T with
      | some (.array len e) => match gev ts x with
        | .agg cs => (0 ≤ m ∧ m < len) ∧ match tySize P e with
          | some s => match loadB P e cs (m.toNat * s) with
            | some v => C (val v [])
            | none => False
          | none => False
        | _ => False
      | some .string => match gev ts x with
        | .string s => match (if 0 ≤ m then s[m.toNat]? else none) with
          | some b => C (val (.int .u8 b.toNat) [])
          | none => False
        | _ => False
      | _ => False
    | _ => False
  | .field T x f => okX ts hp x ∧ match fdX P T f with
    | some (t, off) => match gev ts x with
      | .agg cs => match loadB P t cs off with
        | some v => C (val v [])
        | none => False
      | _ => False
    | none => False
  | .fieldAddr T x f => okX ts hp x ∧ match fdX P T f with
    | some (_, off) => match gev ts x with
      | .pointer (some ⟨k, o, none⟩) => C (val (.pointer (some ⟨k, o + off, none⟩)) [])
      | _ => False
    | none => False
  | .slice T x lo hi mx => okX ts hp x ∧ (∀ y ∈ lo.toList, okX ts hp y) ∧ (∀ y ∈ hi.toList, okX ts hp y) ∧ mx.isNone = true ∧ match slX P T (gev ts x) (lo.map (gev ts)) (hi.map (gev ts)) with
    | some v => C (val v [])
    | none => False
  | .sliceToArrayPointer T x => okX ts hp x ∧ match arrX P T (gev ts x) with
    | some v => C (val v [])
    | none => False
  | .makeFunc fn first cap => (∀ x ∈ first.toList, okX ts hp x ∧ plain0 (gev ts x) = true) ∧ (∀ x ∈ cap.toList, okX ts hp x ∧ plain0 (gev ts x) = true) ∧ C (val (.func fn (first.map (gev ts)) (cap.map (gev ts))) [])
  | .build T parts => (∀ p ∈ parts.toList, okX ts hp p.2 ∧ okCells (gev ts p.2) = true) ∧ match tyZero P T with
    | some z => okCells z = true ∧ flatV z = true ∧ match placesOf P T with
      | some pl => match fillG pl z.cells (partsG ts parts) with
        | some cs => C (val (.agg cs) [])
        | none => False
      | none => False
    | none => False
  | .buildSlice T len parts => (∀ p ∈ parts.toList, okX ts hp p.2 ∧ okCells (gev ts p.2) = true) ∧ match P.underlying T with
    | some (.slice e) => match tySize P e with
      | some m => match tyZero P e with
        | some z => okCells z = true ∧ flatV z = true ∧ 0 < len * m ∧ len * m ≤ 16777216 ∧ match fillG (.inr m) ((Array.range (len * m)).map (z.cells[· % z.cells.size]!)) (partsG ts parts) with
          | some cs => C ⟨.slice (some ⟨nk, 0, none⟩) len len, [], [], [(nk, ⟨cs, e⟩)], none, false⟩
          | none => False
        | none => False
      | none => False
    | _ => False
  | .makeInterface T x => okX ts hp x ∧ plain0 (gev ts x) = true ∧ match P.underlying T with
    | some (.interface _) => False
    | some _ => C (val (.iface T (gev ts x)) [])
    | none => False
  | .binOp op T x y _ => okX ts hp x ∧ okX ts hp y ∧ match bin2 P op T (gev ts x) (gev ts y) with
    | some v => C (val v [])
    | none => pureV P o ts hp fun v => C (val v [])
  | .unOp op _ x => okX ts hp x ∧ match un1 op (gev ts x) with
    | some v => C (val v [])
    | none => False
  | .convert S T x => okX ts hp x ∧ match conv1 P S T (gev ts x) with
    | some v => C (val v [])
    | none => pureV P o ts hp fun v => C (val v [])
  | .call c => callX P G V nk yc ts hp c C
  | .panic x => okX ts hp x ∧ flatV (gev ts x) = true ∧ match gev ts x with
    | .iface T u => C ⟨junk, [], [], [], some (.iface T u), false⟩
    | _ => False
  | .makeMap _ y => y.isNone = true ∧ C ⟨.map (some nk), [], [], [(nk, mpB [])], none, false⟩
  | .insert T m k x => okX ts hp m ∧ okX ts hp k ∧ okX ts hp x ∧ strMap P T = true ∧ fnV (gev ts x) = true ∧ insX hp (gev ts m) (gev ts k) (gev ts x) C
  | .lookup T x i ok => okX ts hp x ∧ okX ts hp i ∧ ok = false ∧ strMap P T = true ∧ lkX hp (gev ts x) (gev ts i) C
  | .select _ _ => False
  | _ => pureV P o ts hp fun v => C (val v [])

structure Shape (hp : Hp) (nk : Nat) (e : Eff) : Prop where
  ws : ∀ k ∈ keys e.ws, k ∈ e.rs ∧ dom hp k ∧ 100 ≤ k
  ns : ∀ k ∈ keys e.ns, nk ≤ k ∧ k < nk + 8
  once : ∀ k b c, (k, b) ∈ e.ws ++ e.ns → (k, c) ∈ e.ws ++ e.ns → b = c

theorem Shape.val {hp : Hp} {nk : Nat} {v : Value} {rs : List Nat} : Shape hp nk (val v rs) := ⟨by simp [Gy.val, keys], by simp [Gy.val, keys], by simp [Gy.val]⟩
theorem Shape.new {hp : Hp} {nk : Nat} {v : Value} {b : Blk} : Shape hp nk ⟨v, [], [], [(nk, b)], none, false⟩ := ⟨by simp [keys], by simp [keys], by simp; rintro k b c h1 h2 h3 h4; rw [h2, h4]⟩
theorem Shape.wr {hp : Hp} {nk k : Nat} {v : Value} {b : Blk} (hk : dom hp k) (h1 : 100 ≤ k) : Shape hp nk ⟨v, [k], [(k, b)], [], none, false⟩ := ⟨by simp [keys]; exact ⟨hk, h1⟩, by simp [keys], by simp; rintro k b c h1 h2 h3 h4; rw [h2, h4]⟩

section
variable {P : Program} {o : Oper} {ts : Nat → Value} {hp : Hp} {nk : Nat} {G : Hp} {V : XV} {yc : Nat}

theorem extD_nil {D : Nat → Prop} : extD D [] = D := funext fun k => by simp [extD, keys]

theorem evR {r : Nat → Nat} {D : Nat → Prop} {a : Act} {rs : List Nat} {x : Operand} (h : RelOn o r D ts a) (hx : x ∈ o.op.operands) (hk : okX ts hp x) (hlow : ∀ k, k < 100 → D k → r k = k)
    (hD : ∀ k, dom (rst hp rs) k → D k) : a.eval x = ren r (gev ts x) ∧ idsV D (gev ts x) :=
  ev h hx hk hlow fun k hk' hd => hD k (by unfold dom rst at *; simp [hk', hd])

theorem OpD_val {v : Value} {rs : List Nat} (h : ∀ r D a W, RelOn o r D ts a → Sat r D (rst hp rs) W → (∀ k, k < 100 → D k → r k = k) → (∀ k, dom (rst hp rs) k → D k) →
    (execOp a.eval o).run P W = .ok (.value (ren r v)) W ∧ idsV D v) : OpD P o ts (rst hp (val v rs).rs) (val v rs) := by
  intro r D a W hR hS _ hlow hD _
  obtain ⟨h1, h2⟩ := h r D a W hR hS hlow hD
  unfold Upon
  rw [h1]
  exact ⟨rfl, r, fun _ _ => rfl, rfl, by simp only [val, extD_nil]; exact h2, Turn.of_below (Below.refl _ _)⟩

theorem OpD_move {x : Operand} (ho : o.op = .move x ∨ o.op = .assign x) (hx : okX ts hp x) : OpD P o ts (rst hp (val (gev ts x) []).rs) (val (gev ts x) []) :=
  OpD_val fun r D a W hR _ hlow hD => by
    have := evR hR (x := x) (by rcases ho with h | h <;> simp [h, Op.operands]) hx hlow hD
    refine ⟨?_, this.2⟩
    rcases ho with h | h <;> simp [execOp, h, this.1]

theorem OpD_pick {c x y : Operand} {b : Bool} (ho : o.op = .pick c x y) (hc : okX ts hp c) (hb : gev ts c = .bool b) (hx : b = true → okX ts hp x) (hy : b = false → okX ts hp y) :
    OpD P o ts (rst hp (val (if b then gev ts x else gev ts y) []).rs) (val (if b then gev ts x else gev ts y) []) :=
  OpD_val fun r D a W hR _ hlow hD => by
    have h1 := evR hR (x := c) (by simp [ho, Op.operands]) hc hlow hD
    rw [hb] at h1
    have h1' : a.eval c = .bool b := h1.1
    cases b with
    | true =>
      have := evR hR (x := x) (by simp [ho, Op.operands]) (hx rfl) hlow hD
      exact ⟨by simp [execOp, ho, h1', asBool, this.1], this.2⟩
    | false =>
      have := evR hR (x := y) (by simp [ho, Op.operands]) (hy rfl) hlow hD
      exact ⟨by simp [execOp, ho, h1', asBool, this.1], this.2⟩

theorem OpD_newV {b : Blk} {v : Value} (hids : idsV (fun k => k = nk) v) (h : ∀ r D a W, RelOn o r D ts a → Sat r D (rst hp []) W → (∀ k, k < 100 → D k → r k = k) → (∀ k, dom (rst hp []) k → D k) →
    (execOp a.eval o).run P W = .ok (.value (ren (fun _ => W.heap.size) v)) (W.alloc (b.obj r)) ∧ b.ids D) :
    OpD P o ts (rst hp (Eff.mk v [] [] [(nk, b)] none false).rs) ⟨v, [], [], [(nk, b)], none, false⟩ := by
  intro r D a W hR hS _ hlow hD hns
  obtain ⟨h1, h2⟩ := h r D a W hR hS hlow hD
  have hnk : ¬ D nk := (hns (nk, b) (by simp)).1
  have hr : ∀ k, D k → upd r nk W.heap.size k = r k := fun k hk => upd_other _ _ (fun e => hnk (e ▸ hk))
  unfold Upon
  rw [h1]
  refine ⟨rfl, upd r nk W.heap.size, hr, (ren_congr (D := fun k => k = nk) (fun k hk => by subst hk; exact (upd_same _ _ _).symm) hids), idsV_mono (fun k hk => .inr (by simp [keys, hk])) hids, ?_⟩
  refine ⟨rfl, rfl, rfl, by simp, fun k hk _ => Below.heap_alloc _ _ _ hk, fun p hp1 => ?_, fun p hp1 => ?_, fun p hp1 q hq1 _ => ?_⟩
  · simp only [List.nil_append, List.mem_singleton] at hp1; subst hp1
    refine ⟨?_, Blk.ids_mono (fun k hk => .inl hk) h2⟩
    simp only [upd_same]
    rw [Blk.obj_congr hr h2]
    exact World.alloc_heap_new W _
  · simp only [List.mem_singleton] at hp1; subst hp1; simp [upd_same]
  · simp only [List.mem_singleton] at hp1 hq1; rw [hp1, hq1]

theorem OpD_new {b : Blk} (h : ∀ r D a W, RelOn o r D ts a → Sat r D (rst hp []) W → (∀ k, k < 100 → D k → r k = k) → (∀ k, dom (rst hp []) k → D k) →
    (execOp a.eval o).run P W = .ok (.value (.pointer (some ⟨W.heap.size, 0, none⟩))) (W.alloc (b.obj r)) ∧ b.ids D) :
    OpD P o ts (rst hp (Eff.mk (gptr nk) [] [] [(nk, b)] none false).rs) ⟨gptr nk, [], [], [(nk, b)], none, false⟩ :=
  OpD_newV (by simp [gptr, idsV, idsA, idsF, ids0]) fun r D a W hR hS hl hD => by
    have := h r D a W hR hS hl hD
    exact ⟨by rw [this.1]; simp [gptr, ren, renA, renF, ren0], this.2⟩

theorem run_newVar {T : TypeId} {v : Value} (W : World) : (newVar T v).run P W = .ok ⟨W.heap.size, 0, none⟩ (W.alloc (.cells v.cells T)) := by
  simp [newVar, newRow, newObj, Sem.run]

theorem OpD_alloc {T : TypeId} {z : Value} (ho : o.op = .alloc T) (hz : tyZero P T = some z) (hc : okCells z = true) (hf : flatV z = true) :
    OpD P o ts (rst hp (Eff.mk (gptr nk) [] [] [(nk, ⟨z.cells, T⟩)] none false).rs) ⟨gptr nk, [], [], [(nk, ⟨z.cells, T⟩)], none, false⟩ :=
  OpD_new fun r D a W _ _ _ _ => by
    have h1 : z.cells.map (renF r) = z.cells := by rw [← cells_ren (okCells_nt hc), flatV_ren hf]
    refine ⟨?_, ?_⟩
    · simp [execOp, ho, Instr.alloc, run_zeroValue hz, run_newVar, Blk.obj, h1]
    · exact cells_ids (okCells_nt hc) (flatV_ids hf)

theorem OpD_box {T : TypeId} {x : Operand} (ho : o.op = .box T x) (hx : okX ts hp x) (hc : okCells (gev ts x) = true) :
    OpD P o ts (rst hp (Eff.mk (gptr nk) [] [] [(nk, ⟨(gev ts x).cells, T⟩)] none false).rs) ⟨gptr nk, [], [], [(nk, ⟨(gev ts x).cells, T⟩)], none, false⟩ :=
  OpD_new fun r D a W hR _ hlow hD => by
    have h1 := evR hR (x := x) (by simp [ho, Op.operands]) hx hlow hD
    refine ⟨?_, cells_ids (okCells_nt hc) h1.2⟩
    simp [execOp, ho, Instr.box, run_newVar, h1.1, cells_ren (okCells_nt hc), Blk.obj]

theorem rst_mem {k : Nat} {rs : List Nat} (h : k ∈ rs) : rst hp rs k = hp k := by simp [rst, h]

theorem OpD_load {T : TypeId} {x : Operand} {k off : Nat} {b : Blk} {v : Value} (ho : o.op = .load T x) (hx : okX ts hp x) (hg : gev ts x = .pointer (some ⟨k, off, none⟩)) (hb : hp k = some b) (hv : loadK P T b off = some v) :
    OpD P o ts (rst hp (val v [k]).rs) (val v [k]) :=
  OpD_val fun r D a W hR hS hlow hD => by
    have h1 := evR hR (x := x) (by simp [ho, Op.operands]) hx hlow hD
    rw [hg] at h1
    have h2 := hS k b (by rw [rst_mem (by simp)]; exact hb)
    have h3 : a.eval x = .pointer (some ⟨r k, off, none⟩) := h1.1
    refine ⟨?_, loadK_ids hv h2.2⟩
    simp [execOp, ho, Instr.loadAt, Instr.sureAddr, h3, run_loadVar_K hv h2.1]

theorem putObj_size (W : World) (k : Nat) (ob : Obj) : (W.putObj k ob).heap.size = W.heap.size := by simp [World.putObj]

theorem OpD_store {T : TypeId} {x y : Operand} {k off : Nat} {b : Blk} (ho : o.op = .store T x y) (hx : okX ts hp x) (hy : okX ts hp y) (hg : gev ts x = .pointer (some ⟨k, off, none⟩)) (hb : hp k = some b) (hown : b.T.own = true)
    (hc : okCells (gev ts y) = true) (hs : tySize P T = some (gev ts y).cells.size) (hle : off + (gev ts y).cells.size ≤ b.c.size) :
    OpD P o ts (rst hp (Eff.mk undef [k] [(k, ⟨splice b.c off (gev ts y).cells.toList, b.T⟩)] [] none false).rs) ⟨undef, [k], [(k, ⟨splice b.c off (gev ts y).cells.toList, b.T⟩)], [], none, false⟩ := by
  intro r D a W hR hS _ hlow hD _
  have h1 := evR hR (x := x) (by simp [ho, Op.operands]) hx hlow hD
  have h1' := evR hR (x := y) (by simp [ho, Op.operands]) hy hlow hD
  rw [hg] at h1
  have h2 := hS k b (by rw [rst_mem (by simp)]; exact hb)
  have h3 : a.eval x = .pointer (some ⟨r k, off, none⟩) := h1.1
  obtain ⟨bc, bt⟩ := b
  cases bt with
  | raw _ _ => cases hown
  | mp => cases hown
  | ty bt =>
  have hrun := run_storeVar_blk (P := P) (r := r) (T := T) hc hs hle h2.1
  have hlt : r k < W.heap.size := (Array.getElem?_eq_some_iff.1 h2.1).1
  have : (execOp a.eval o).run P W = .ok .skip (W.putObj (r k) (.cells ((splice bc off (gev ts y).cells.toList).map (renF r)) bt (0, 0))) := by
    simp [execOp, ho, Instr.storeAt, Instr.sureAddr, h3, h1'.1, hrun]
  unfold Upon
  rw [this]
  refine ⟨rfl, r, fun _ _ => rfl, (ren_undef r).symm, ids_undef _, ?_⟩
  refine ⟨rfl, rfl, rfl, by rw [putObj_size]; exact Nat.le_refl _, fun j _ hn => World.putObj_heap_other (fun e => hn _ (List.mem_singleton.2 rfl) e.symm), fun p hp1 => ?_, by simp, by simp⟩
  simp only [List.append_nil, List.mem_singleton] at hp1; subst hp1
  refine ⟨World.putObj_heap_same hlt, ?_⟩
  simp only [extD_nil]
  exact splice_mem (Q := idsF D) _ (fun z hz => cells_ids (okCells_nt hc) h1'.2 z (by simpa using hz)) _ _ h2.2

theorem fnV_ren {v : Value} (h : fnV v = true) (r : Nat → Nat) : ren r v = renF r v := by cases v <;> first | rfl | cases h
theorem fnV_ids {v : Value} (h : fnV v = true) {D : Nat → Prop} : idsV D v ↔ idsF D v := by cases v <;> first | exact Iff.rfl | cases h
theorem mpC_mem {l : List (ByteArray × Value)} {x : Value} (h : x ∈ mpC l) : (∃ s, x = .string s) ∨ ∃ p ∈ l, x = p.2 := by
  simp only [mpC, List.mem_toArray, List.mem_flatMap, List.mem_cons, List.not_mem_nil, or_false] at h
  obtain ⟨p, hp, rfl | rfl⟩ := h
  · exact .inl ⟨_, rfl⟩
  · exact .inr ⟨p, hp, rfl⟩
theorem mpB_ids {l : List (ByteArray × Value)} {D : Nat → Prop} : (mpB l).ids D ↔ ∀ p ∈ l, idsF D p.2 := by
  constructor
  · intro h p hp
    refine h p.2 ?_
    simp only [mpB, mpC, List.mem_toArray, List.mem_flatMap]
    exact ⟨p, hp, by simp⟩
  · intro h x hx
    rcases mpC_mem hx with ⟨s, rfl⟩ | ⟨p, hp, rfl⟩
    · trivial
    · exact h p hp
theorem findL_mem {s : ByteArray} {v : Value} : ∀ {l : List (ByteArray × Value)}, findL s l = some v → ∃ p ∈ l, p.2 = v
  | [], h => by cases h
  | p :: l, h => by
    simp only [findL] at h
    split at h
    · cases h; exact ⟨p, by simp, rfl⟩
    · obtain ⟨q, hq, e⟩ := findL_mem h
      exact ⟨q, List.mem_cons_of_mem _ hq, e⟩
theorem OpD_makeMap {T : TypeId} {y : Option Operand} (ho : o.op = .makeMap T y) (hy : y.isNone = true) : OpD P o ts (rst hp (Eff.mk (.map (some nk)) [] [] [(nk, mpB [])] none false).rs) ⟨.map (some nk), [], [], [(nk, mpB [])], none, false⟩ :=
  OpD_newV (by simp [idsV, idsA, idsF, ids0]) fun r D a W _ _ _ _ => by
    obtain rfl : y = none := by simpa using hy
    refine ⟨?_, mpB_ids.2 (by simp)⟩
    rw [mpB_obj]
    simp [execOp, ho, Instr.makeMap, newObj, Sem.run, ren, renA, renF, ren0, entL]
theorem OpD_insert {T : TypeId} {m k x : Operand} {q : Nat} {s : ByteArray} {l : List (ByteArray × Value)} (ho : o.op = .insert T m k x) (hm : okX ts hp m) (hk : okX ts hp k) (hx : okX ts hp x) (hT : strMap P T = true) (hf : fnV (gev ts x) = true) (hgm : gev ts m = .map (some q)) (hgk : gev ts k = .string s) (hb : hp q = some (mpB l)) (hn : findL s l = none) :
    OpD P o ts (rst hp (Eff.mk undef [q] [(q, mpB (l ++ [(s, gev ts x)]))] [] none false).rs) ⟨undef, [q], [(q, mpB (l ++ [(s, gev ts x)]))], [], none, false⟩ := by
  intro r D a W hR hS _ hlow hD _
  have h1 := evR hR (x := m) (by simp [ho, Op.operands]) hm hlow hD
  have h2 := evR hR (x := k) (by simp [ho, Op.operands]) hk hlow hD
  have h3 := evR hR (x := x) (by simp [ho, Op.operands]) hx hlow hD
  rw [hgm] at h1
  rw [hgk] at h2
  have hs := hS q _ (by rw [rst_mem (by simp)]; exact hb)
  have e1 : a.eval m = .map (some (r q)) := h1.1
  have e2 : a.eval k = .string s := h2.1
  have hrun := run_insert (P := P) (T := T) (x := a.eval x) (v := gev ts x) hT hs.1 hn (by rw [h3.1, fnV_ren hf])
  have hlt : r q < W.heap.size := (Array.getElem?_eq_some_iff.1 hs.1).1
  have : (execOp a.eval o).run P W = .ok .skip (W.putObj (r q) ((mpB (l ++ [(s, gev ts x)])).obj r)) := by
    simp [execOp, ho, e1, e2, hrun]
  unfold Upon
  rw [this]
  refine ⟨rfl, r, fun _ _ => rfl, (ren_undef r).symm, ids_undef _, ?_⟩
  refine ⟨rfl, rfl, rfl, by rw [putObj_size]; exact Nat.le_refl _, fun j _ hn => World.putObj_heap_other (fun e => hn _ (List.mem_singleton.2 rfl) e.symm), fun p hp1 => ?_, by simp, by simp⟩
  simp only [List.append_nil, List.mem_singleton] at hp1; subst hp1
  refine ⟨World.putObj_heap_same hlt, ?_⟩
  simp only [extD_nil]
  refine mpB_ids.2 fun p hp2 => ?_
  rcases List.mem_append.1 hp2 with hp2 | hp2
  · exact mpB_ids.1 hs.2 p hp2
  · simp only [List.mem_singleton] at hp2
    subst hp2
    exact (fnV_ids hf).1 h3.2
theorem OpD_lookup {T : TypeId} {m k : Operand} {q : Nat} {s : ByteArray} {l : List (ByteArray × Value)} {v : Value} (ho : o.op = .lookup T m k false) (hm : okX ts hp m) (hk : okX ts hp k) (hT : strMap P T = true) (hgm : gev ts m = .map (some q)) (hgk : gev ts k = .string s) (hb : hp q = some (mpB l)) (hn : findL s l = some v) (hf : fnV v = true) :
    OpD P o ts (rst hp (val v [q]).rs) (val v [q]) :=
  OpD_val fun r D a W hR hS hlow hD => by
    have h1 := evR hR (x := m) (by simp [ho, Op.operands]) hm hlow hD
    have h2 := evR hR (x := k) (by simp [ho, Op.operands]) hk hlow hD
    rw [hgm] at h1
    rw [hgk] at h2
    have hs := hS q _ (by rw [rst_mem (by simp)]; exact hb)
    have e1 : a.eval m = .map (some (r q)) := h1.1
    have e2 : a.eval k = .string s := h2.1
    have hrun := run_lookup (P := P) (T := T) hT hs.1 hn
    refine ⟨by simp [execOp, ho, e1, e2, hrun, fnV_ren hf], ?_⟩
    obtain ⟨p, hp, rfl⟩ := findL_mem hn
    exact (fnV_ids hf).2 (mpB_ids.1 hs.2 p hp)
theorem OpD_extract {x : Operand} {i : Nat} {vs : Array Value} {v : Value} (ho : o.op = .extract x i) (hx : okX ts hp x) (hg : gev ts x = .tuple vs) (hv : vs[i]? = some v) (hn : notTup v = true) :
    OpD P o ts (rst hp (val v []).rs) (val v []) :=
  OpD_val fun r D a W hR _ hlow hD => by
    have h1 := evR hR (x := x) (by simp [ho, Op.operands]) hx hlow hD
    rw [hg] at h1
    have h3 : a.eval x = .tuple (vs.map (renA r)) := h1.1
    have h4 : ren r v = renA r v := by cases v <;> simp_all [notTup, ren]
    refine ⟨by simp [execOp, ho, Instr.extract, h3, hv, h4], ?_⟩
    have := h1.2 v (Array.mem_of_getElem? hv)
    cases v <;> simp_all [notTup, idsV]

theorem Addr_add (k off m : Nat) : (⟨k, off, none⟩ : Addr).add m = ⟨k, off + m, none⟩ := Addr.add_mid k off m

theorem OpD_indexA {T e : TypeId} {x i : Operand} {kd : IntKind} {m : Int} {len k off s : Nat} (ho : o.op = .indexAddr T x i) (hx : okX ts hp x) (hi : okX ts hp i) (hgi : gev ts i = .int kd m)
    (hu : P.underlying T = some (.array len e)) (hg : gev ts x = .pointer (some ⟨k, off, none⟩)) (h0 : 0 ≤ m) (hl : m < len) (hs : tySize P e = some s) :
    OpD P o ts (rst hp (val (.pointer (some ⟨k, off + m.toNat * s, none⟩)) []).rs) (val (.pointer (some ⟨k, off + m.toNat * s, none⟩)) []) :=
  OpD_val fun r D a W hR _ hlow hD => by
    have h1 := evR hR (x := x) (by simp [ho, Op.operands]) hx hlow hD
    have h2 := evR hR (x := i) (by simp [ho, Op.operands]) hi hlow hD
    rw [hg] at h1
    rw [hgi] at h2
    have h3 : a.eval x = .pointer (some ⟨r k, off, none⟩) := h1.1
    have h4 : a.eval i = .int kd m := h2.1
    refine ⟨?_, h1.2⟩
    have hD' : D k := by simpa [idsV, idsA, idsF, ids0] using h1.2
    simp [execOp, ho, Instr.indexAt, h3, h4, asIntOf, run_underlying hu, Instr.sureAddr, h0, hl, run_sizeOf hs, Addr_add, ren, renA, renF, ren0]

theorem OpD_indexS {T e : TypeId} {x i : Operand} {kd : IntKind} {m : Int} {len cap k off s : Nat} (ho : o.op = .indexAddr T x i) (hx : okX ts hp x) (hi : okX ts hp i) (hgi : gev ts i = .int kd m)
    (hu : P.underlying T = some (.slice e)) (hg : gev ts x = .slice (some ⟨k, off, none⟩) len cap) (h0 : 0 ≤ m) (hl : m < len) (hs : tySize P e = some s) :
    OpD P o ts (rst hp (val (.pointer (some ⟨k, off + m.toNat * s, none⟩)) []).rs) (val (.pointer (some ⟨k, off + m.toNat * s, none⟩)) []) :=
  OpD_val fun r D a W hR _ hlow hD => by
    have h1 := evR hR (x := x) (by simp [ho, Op.operands]) hx hlow hD
    have h2 := evR hR (x := i) (by simp [ho, Op.operands]) hi hlow hD
    rw [hg] at h1
    rw [hgi] at h2
    have h3 : a.eval x = .slice (some ⟨r k, off, none⟩) len cap := h1.1
    have h4 : a.eval i = .int kd m := h2.1
    refine ⟨?_, by simpa [idsV, idsA, idsF, ids0] using h1.2⟩
    simp [execOp, ho, Instr.indexAt, h3, h4, asIntOf, run_underlying hu, h0, hl, run_sizeOf hs, Addr_add, ren, renA, renF, ren0]

theorem OpD_makeFunc {fn : Fn} {first cap : Array Operand} (ho : o.op = .makeFunc fn first cap) (h1 : ∀ x ∈ first.toList, okX ts hp x ∧ plain0 (gev ts x) = true) (h2 : ∀ x ∈ cap.toList, okX ts hp x ∧ plain0 (gev ts x) = true) :
    OpD P o ts (rst hp (val (.func fn (first.map (gev ts)) (cap.map (gev ts))) []).rs) (val (.func fn (first.map (gev ts)) (cap.map (gev ts))) []) :=
  OpD_val fun r D a W hR _ hlow hD => by
    have e1 : ∀ x ∈ first, a.eval x = ren0 r (gev ts x) ∧ ids0 D (gev ts x) := fun x hx => by
      have h := h1 x (by simpa using hx)
      have := evR hR (x := x) (by simp [ho, Op.operands, hx]) h.1 hlow hD
      exact ⟨by rw [this.1, ren_plain0 h.2], (ids_plain0 h.2).1 this.2⟩
    have e2 : ∀ x ∈ cap, a.eval x = ren0 r (gev ts x) ∧ ids0 D (gev ts x) := fun x hx => by
      have h := h2 x (by simpa using hx)
      have := evR hR (x := x) (by simp [ho, Op.operands, hx]) h.1 hlow hD
      exact ⟨by rw [this.1, ren_plain0 h.2], (ids_plain0 h.2).1 this.2⟩
    refine ⟨?_, ?_⟩
    · simp only [execOp, ho, Instr.makeFunc, ren, renA, renF, Array.map_map]
      rw [Array.map_congr_left (g := ren0 r ∘ gev ts) (fun x hx => (e1 x hx).1), Array.map_congr_left (g := ren0 r ∘ gev ts) (fun x hx => (e2 x hx).1)]
      rfl
    · refine ⟨fun v hv => ?_, fun v hv => ?_⟩
      · obtain ⟨x, hx, rfl⟩ := Array.mem_map.1 hv; exact (e1 x hx).2
      · obtain ⟨x, hx, rfl⟩ := Array.mem_map.1 hv; exact (e2 x hx).2

theorem OpD_pure {v : Value} (hs : ∀ cs b, o.op ≠ .select cs b) (h1 : ∀ x ∈ o.op.operands.toList, okX ts hp x ∧ flatV (gev ts x) = true) (hv : flatV v = true) (hr : ∀ W, (execOp (gev ts) o).run P W = .ok (.value v) W) :
    OpD P o ts (rst hp (val v []).rs) (val v []) :=
  OpD_val fun r D a W hR _ hlow hD => by
    refine ⟨?_, flatV_ids hv⟩
    rw [flatV_ren hv, ← hr W]
    congr 1
    refine execOp_congr o hs fun x hx => ?_
    have h := h1 x (by simpa using hx)
    rw [(evR hR hx h.1 hlow hD).1, flatV_ren h.2]

theorem OpD_call {c : Call} {f : Operand} {g : FuncId} {first cap : Array Value} {v : Value} (hGF : GFlat G) (hG : ∀ k, k < 100 → hp k = G k) (ho : o.op = .call c) (hc : c.callee = .value f) (hf : okX ts hp f) (hgf : gev ts f = .func (.func g) first cap)
    (hfi : first.size = 0) (hca : cap.size = 0) (ha : ∀ x ∈ c.args.toList, okX ts hp x) (hr : Ret P G g (c.args.map (gev ts)) v ∨ RetV P g (c.args.map (gev ts)) v) : OpD P o ts (rst hp (val v []).rs) (val v []) := by
  intro r D a W hR hS _ hlow hD _
  have hfl : ∀ x ∈ c.args.map (gev ts), flatV x = true := hr.elim (fun h => h.2.1) (fun h => h.2.1)
  obtain rfl : first = #[] := by cases first; simpa using hfi
  obtain rfl : cap = #[] := by cases cap; simpa using hca
  have h1 := evR hR (x := f) (by simp [ho, hc, Op.operands, Call.operands]) hf hlow hD
  rw [hgf] at h1
  have h3 : a.eval f = .func (.func g) #[] #[] := by rw [h1.1]; simp [ren, renA, renF]
  have hargs : c.args.map a.eval = c.args.map (gev ts) := Array.map_congr_left fun x hx => by
    rw [(evR hR (x := x) (by simp [ho, Op.operands, Call.operands, hx]) (ha x (by simpa using hx)) hlow hD).1]
    exact flatV_ren (hfl _ (Array.mem_map.2 ⟨x, hx, rfl⟩))
  rcases hr with hr | ⟨hv, _, hen⟩
  rotate_left
  · have hrun : (execOp a.eval o).run P W = .ok (.value v) W := by
      simp [execOp, ho, resolve, hc, h3, Deferred.ofValue, invoke, hargs, hen]
    unfold Upon
    rw [hrun]
    exact ⟨rfl, r, fun _ _ => rfl, (flatV_ren hv).symm, flatV_ids hv, Turn.of_below (Below.refl _ _)⟩
  obtain ⟨hv, _, hen, hcall⟩ := hr
  have hrun : (execOp a.eval o).run P W = .ok (.enter g (c.args.map (gev ts))) W := by
    simp [execOp, ho, resolve, hc, h3, Deferred.ofValue, invoke, hargs, hen]
  have hgok : GOK G W := fun k b hk => by
    obtain ⟨hlt, hfl⟩ := hGF k b hk
    have hb : rst hp [] k = some b := by simp [rst, hlt, hG k hlt, hk]
    have h2 := hS k b hb
    have hDk : D k := hD k (by unfold dom; show rst hp [] k ≠ none; rw [hb]; simp)
    rw [hlow k hlt hDk] at h2
    rw [h2.1]
    rw [Blk.obj_flat (fun x hx => hfl x hx)]
  unfold Upon
  rw [hrun]
  refine (hcall W hgok).mono fun e W'' ⟨he, hb⟩ => ?_
  subst he
  exact ⟨rfl, r, fun _ _ => rfl, (flatV_ren hv).symm, flatV_ids hv, Turn.of_below hb⟩

theorem gok_of {r : Nat → Nat} {D : Nat → Prop} {W : World} {rs : List Nat} (hGF : GFlat G) (hG : ∀ k, k < 100 → hp k = G k) (hS : Sat r D (rst hp rs) W) (hlow : ∀ k, k < 100 → D k → r k = k) (hD : ∀ k, dom (rst hp rs) k → D k) : GOK G W := fun k b hk => by
  obtain ⟨hlt, hfl⟩ := hGF k b hk
  have hb : rst hp rs k = some b := by simp [rst, hlt, hG k hlt, hk]
  have h2 := hS k b hb
  have hDk : D k := hD k (by unfold dom; rw [hb]; simp)
  rw [hlow k hlt hDk] at h2
  rw [h2.1]
  rw [Blk.obj_flat (fun x hx => hfl x hx)]

theorem okT_okX {x : Operand} (h : okT ts x) : okX ts hp x := by cases x <;> first | exact h | exact h.elim

theorem OpD_fun {c : Call} {f : Operand} {g : FuncId} {first cap : Array Value} {rs : List Nat} {res : Res} (hGF : GFlat G) (hG : ∀ k, k < 100 → hp k = G k) (ho : o.op = .call c) (hc : c.callee = .value f) (hf : okT ts f) (hgf : gev ts f = .func (.func g) first cap)
    (hfi : first.size = 0) (hcp : cap.all plain0 = true) (ha : ∀ x ∈ c.args.toList, okX ts hp x) (hr : Fun P G g (c.args.map (gev ts) ++ cap) hp rs res) : OpD P o ts (rst hp (res.eff rs).rs) (res.eff rs) := by
  have ers : (res.eff rs).rs = rs := by cases res <;> rfl
  rw [ers]
  intro r D a W hR hS hinj hlow hD hnsD
  obtain rfl : first = #[] := by cases first; simpa using hfi
  have hD' : ∀ k, k < 100 → dom hp k → D k := fun k hk hd => hD k (by unfold dom rst at *; simp [hk, hd])
  have h1 := ev hR (x := f) (by simp [ho, hc, Op.operands, Call.operands]) (okT_okX (hp := hp) hf) hlow hD'
  rw [hgf] at h1
  have h3 : a.eval f = .func (.func g) #[] (cap.map (ren0 r)) := by rw [h1.1]; simp [ren, renA, renF]
  have hargs : c.args.map a.eval = (c.args.map (gev ts)).map (ren r) := by
    rw [Array.map_map]
    exact Array.map_congr_left fun x hx => (ev hR (x := x) (by simp [ho, Op.operands, Call.operands, hx]) (ha x (by simpa using hx)) hlow hD').1
  have hrun : (execOp a.eval o).run P W = .ok (.enter g ((c.args.map (gev ts)).map (ren r) ++ cap.map (ren0 r))) W := by
    simp [execOp, ho, resolve, hc, h3, Deferred.ofValue, invoke, hargs, hr.enter]
  have hS' : Sat r (dom (rst hp rs)) (rst hp rs) W := fun k b hk => ⟨(hS k b hk).1, hr.closed k b hk⟩
  have hcall := hr.run r W (gok_of hGF hG hS hlow hD) hS' (fun k l hk hl => hinj k l (hD k hk) (hD l hl)) (fun k hk hd => hlow k hk (hD k hd))
  have hcap : ∀ x ∈ cap, ren r x = ren0 r x := fun x hx => ren_plain0 (Array.all_eq_true_iff_forall_mem.1 hcp x hx)
  have e2 : (c.args.map (gev ts)).map (ren r) ++ cap.map (ren0 r) = (c.args.map (gev ts) ++ cap).map (ren r) := by
    rw [Array.map_append]; congr 1; exact Array.map_congr_left fun x hx => (hcap x hx).symm
  unfold Upon
  rw [hrun]
  dsimp only
  rw [e2]
  refine hcall.mono fun e W'' he => ?_
  cases res with
  | ret v ws =>
    obtain ⟨rfl, ht⟩ := he
    refine ⟨rfl, r, fun _ _ => rfl, rfl, idsV_mono (fun k hk => .inl (hD k hk)) hr.fits.1, { ht with has := fun p hp1 => ⟨(ht.has p hp1).1, Blk.ids_mono (fun k hk => hk.imp (hD k) id) (ht.has p hp1).2⟩ }⟩
  | pan v =>
    obtain ⟨rfl, hb⟩ := he
    exact ⟨v, rfl, rfl, hb⟩
  | new v ns =>
    have hns : ∀ k ∈ keys ns, ¬ D k := fun k hk => by
      obtain ⟨p, hp1, rfl⟩ := mem_keys.1 hk
      exact (hnsD p hp1).1
    obtain ⟨r1, h1, rfl, ht⟩ := he (fun k hk hd => hns k hk (hD k hd))
    let r2 : Nat → Nat := fun k => if k ∈ keys ns then r1 k else r k
    have e1 : ∀ k, extD (dom (rst hp rs)) ns k → r2 k = r1 k := fun k hk => by
      by_cases h : k ∈ keys ns
      · simp [r2, h]
      · have hk' := hk.resolve_right h
        simp only [r2, h, if_false]
        exact (h1 k hk').symm
    have e2 : ∀ k, D k → r2 k = r k := fun k hk => by simp only [r2, if_neg (fun h => hns k h hk)]
    have e3 : ∀ p ∈ ns, r2 p.1 = r1 p.1 := fun p hp1 => e1 _ (.inr (mem_keys.2 ⟨p, hp1, rfl⟩))
    refine ⟨rfl, r2, e2, (ren_congr e1 hr.fits.1).symm, idsV_mono (fun k hk => hk.imp (hD k) id) hr.fits.1, ht.os, ht.tape, ht.output, ht.size, fun k hk _ => ht.same k hk (by simp), fun p hp1 => ?_, fun p hp1 => by rw [e3 p hp1]; exact ht.fresh p hp1, fun p hp1 q hq1 h => ht.apart p hp1 q hq1 (by rw [← e3 p hp1, ← e3 q hq1]; exact h)⟩
    have hp1 : p ∈ ns := by simpa [Res.eff] using hp1
    have hh := ht.has p (by simpa using hp1)
    rw [e3 p hp1, Blk.obj_congr e1 hh.2]
    exact ⟨hh.1, Blk.ids_mono (fun k hk => hk.imp (hD k) id) hh.2⟩


theorem foldl_put_map (f : Value → Value) (off : Nat) : ∀ (l : List (Value × Nat)) (cs : Array Value),
    (l.map fun p => (f p.1, p.2)).foldl (fun cs (p : Value × Nat) => cs.setIfInBounds (off + p.2) p.1) (cs.map f) = (l.foldl (fun cs (p : Value × Nat) => cs.setIfInBounds (off + p.2) p.1) cs).map f
  | [], cs => rfl
  | p :: l, cs => by
    simp only [List.map_cons, List.foldl_cons]
    rw [← Array.map_setIfInBounds, foldl_put_map f off l]
theorem foldl_put_mem {Q : Value → Prop} (off : Nat) : ∀ (l : List (Value × Nat)) (cs : Array Value), (∀ p ∈ l, Q p.1) → (∀ x ∈ cs, Q x) → ∀ x ∈ l.foldl (fun cs (p : Value × Nat) => cs.setIfInBounds (off + p.2) p.1) cs, Q x
  | [], _, _, h => h
  | p :: l, cs, hl, h => by
    simp only [List.foldl_cons]
    refine foldl_put_mem off l _ (fun q hq => hl q (List.mem_cons_of_mem _ hq)) (fun x hx => ?_)
    rcases Array.mem_or_eq_of_mem_setIfInBounds hx with h' | h'
    · exact h x h'
    · exact h' ▸ hl p (by simp)
theorem zip_foldl (off : Nat) (vs cs : Array Value) : vs.zipIdx.foldl (fun cs (c, j) => cs.setIfInBounds (off + j) c) cs = vs.toList.zipIdx.foldl (fun cs (p : Value × Nat) => cs.setIfInBounds (off + p.2) p.1) cs := by
  rw [← Array.foldl_toList, Array.toList_zipIdx]

theorem fill_ren {r : Nat → Nat} {pl : Nat → Option (Nat × Nat)} : ∀ (parts : List (Nat × Value)) (cells cs : Array Value), (∀ p ∈ parts, okCells p.2 = true) → Instr.fill pl cells parts = some cs →
    Instr.fill pl (cells.map (renF r)) (parts.map fun p => (p.1, ren r p.2)) = some (cs.map (renF r))
  | [], cells, cs, _, h => by simp only [Instr.fill, Option.some.injEq] at h; subst h; rfl
  | (i, v) :: rest, cells, cs, hp, h => by
    simp only [Instr.fill, List.map_cons] at h ⊢
    cases hpl : pl i with
    | none => simp [hpl] at h
    | some os =>
      obtain ⟨off, size⟩ := os
      simp only [hpl] at h ⊢
      have hc := cells_ren (r := r) (okCells_nt (hp (i, v) (by simp)))
      rw [hc]
      simp only [Array.size_map]
      split at h
      · cases h
      · rename_i hn
        rw [if_neg hn]
        have := fill_ren (r := r) rest _ cs (fun p hp' => hp p (List.mem_cons_of_mem _ hp')) h
        rw [← this]
        congr 1
        rw [zip_foldl, zip_foldl, ← foldl_put_map]
        congr 1
        simp [List.zipIdx_map]

theorem fill_ids {D : Nat → Prop} {pl : Nat → Option (Nat × Nat)} : ∀ (parts : List (Nat × Value)) (cells cs : Array Value), (∀ p ∈ parts, okCells p.2 = true ∧ idsV D p.2) → (∀ x ∈ cells, idsF D x) → Instr.fill pl cells parts = some cs → ∀ x ∈ cs, idsF D x
  | [], cells, cs, _, hc, h => by simp only [Instr.fill, Option.some.injEq] at h; subst h; exact hc
  | (i, v) :: rest, cells, cs, hp, hc, h => by
    simp only [Instr.fill] at h
    cases hpl : pl i with
    | none => simp [hpl] at h
    | some os =>
      obtain ⟨off, size⟩ := os
      simp only [hpl] at h
      split at h
      · cases h
      · refine fill_ids rest _ cs (fun p hp' => hp p (List.mem_cons_of_mem _ hp')) ?_ h
        rw [zip_foldl]
        have h0 := hp (i, v) (by simp)
        refine foldl_put_mem off _ _ (fun q hq => ?_) hc
        have : q.1 ∈ v.cells.toList := by
          have := List.mem_zipIdx' (x := q.1) (i := q.2) (by simpa using hq)
          rw [this.2]; exact List.getElem_mem _
        exact cells_ids (okCells_nt h0.1) h0.2 _ (by simpa using this)

theorem built_ren {r : Nat → Nat} {T : TypeId} {parts : List (Nat × Value)} {cs : Array Value} {z : Value} (hz : tyZero P T = some z) (hzc : okCells z = true) (hzf : flatV z = true) (hp : ∀ p ∈ parts, okCells p.2 = true)
    (h : P.built T parts = some cs) : P.built T (parts.map fun p => (p.1, ren r p.2)) = some (cs.map (renF r)) := by
  have hzm : z.cells.map (renF r) = z.cells := by rw [← cells_ren (okCells_nt hzc), flatV_ren hzf]
  unfold Program.built at h ⊢
  unfold tyZero at hz
  cases hi : P.info? T with
  | none => simp [hi] at hz
  | some it =>
    simp [hi] at hz
    simp only [hi] at h ⊢
    cases hu : P.underlying T with
    | none => simp [hu] at h
    | some dd =>
      cases dd <;> try (simp [hu] at h; done)
      case array n e =>
        simp only [hu, hz] at h ⊢
        cases hie : P.info? e with
        | none => simp [hie] at h
        | some ie =>
          simp only [hie] at h ⊢
          rw [← hzm]
          exact fill_ren _ _ _ hp h
      case struct fs =>
        simp only [hu, hz] at h ⊢
        cases hm : fs.toList.mapM (fun f => (P.info? f.type).map fun i => (f.offset, i.size)) with
        | none => simp [hm] at h
        | some pl =>
          simp only [hm] at h ⊢
          rw [← hzm]
          exact fill_ren _ _ _ hp h

theorem built_ids {D : Nat → Prop} {T : TypeId} {parts : List (Nat × Value)} {cs : Array Value} {z : Value} (hz : tyZero P T = some z) (hzc : okCells z = true) (hzf : flatV z = true) (hp : ∀ p ∈ parts, okCells p.2 = true ∧ idsV D p.2)
    (h : P.built T parts = some cs) : ∀ x ∈ cs, idsF D x := by
  have hzi : ∀ x ∈ z.cells, idsF D x := cells_ids (okCells_nt hzc) (flatV_ids hzf)
  unfold Program.built at h
  unfold tyZero at hz
  cases hi : P.info? T with
  | none => simp [hi] at hz
  | some it =>
    simp [hi] at hz
    simp only [hi] at h
    cases hu : P.underlying T with
    | none => simp [hu] at h
    | some dd =>
      cases dd <;> try (simp [hu] at h; done)
      case array n e =>
        simp only [hu, hz] at h
        cases hie : P.info? e with
        | none => simp [hie] at h
        | some ie =>
          simp only [hie] at h
          exact fill_ids _ _ _ hp hzi h
      case struct fs =>
        simp only [hu, hz] at h
        cases hm : fs.toList.mapM (fun f => (P.info? f.type).map fun i => (f.offset, i.size)) with
        | none => simp [hm] at h
        | some pl =>
          simp only [hm] at h
          exact fill_ids _ _ _ hp hzi h

theorem OpD_build {T : TypeId} {parts : Array (Nat × Operand)} {z : Value} {cs : Array Value} (ho : o.op = .build T parts) (h1 : ∀ p ∈ parts.toList, okX ts hp p.2 ∧ okCells (gev ts p.2) = true)
    (hz : tyZero P T = some z) (hzc : okCells z = true) (hzf : flatV z = true) (hcs : P.built T (partsG ts parts) = some cs) : OpD P o ts (rst hp (val (.agg cs) []).rs) (val (.agg cs) []) :=
  OpD_val fun r D a W hR _ hlow hD => by
    have e1 : ∀ p ∈ parts.toList, a.eval p.2 = ren r (gev ts p.2) ∧ idsV D (gev ts p.2) := fun p hp1 =>
      evR hR (x := p.2) (by
        simp only [ho, Op.operands]
        simp only [List.mem_toArray, List.mem_map]
        exact ⟨p, hp1, rfl⟩) (h1 p hp1).1 hlow hD
    have e2 : (parts.map fun (i, x) => (i, a.eval x)).toList = (partsG ts parts).map fun p => (p.1, ren r p.2) := by
      simp only [Array.toList_map, partsG, List.map_map]
      refine List.map_congr_left fun p hp1 => ?_
      simp only [Function.comp]
      rw [(e1 p hp1).1]
    have h3 := built_ren (r := r) hz hzc hzf (fun p hp1 => by
      simp only [partsG, List.mem_map] at hp1
      obtain ⟨q, hq, rfl⟩ := hp1
      exact (h1 q hq).2) hcs
    rw [← e2] at h3
    refine ⟨?_, built_ids (D := D) hz hzc hzf (fun p hp1 => ?_) hcs⟩
    · simp only [execOp, ho, Sem.run_bind, run_build W T _ _ h3, Result.andThen_ok, Sem.run_pure, ren, renA]
    · simp only [partsG, List.mem_map] at hp1
      obtain ⟨q, hq, rfl⟩ := hp1
      exact ⟨(h1 q hq).2, (e1 q hq).2⟩

theorem splice_foldl (off : Nat) : ∀ (l : List Value) (j : Nat) (cs : Array Value), (l.zipIdx j).foldl (fun cs (p : Value × Nat) => cs.setIfInBounds (off + p.2) p.1) cs = splice cs (off + j) l
  | [], _, _ => rfl
  | v :: l, j, cs => by
    simp only [List.zipIdx_cons, List.foldl_cons, splice]
    rw [splice_foldl off l (j + 1)]
    rfl
theorem fill_of_G {pl : List (Nat × Nat) ⊕ Nat} : ∀ (parts : List (Nat × Value)) (cells cs : Array Value), fillG pl cells parts = some cs → Instr.fill (plAt pl) cells parts = some cs
  | [], _, _, h => h
  | (i, v) :: rest, cells, cs, h => by
    simp only [fillG] at h
    simp only [Instr.fill]
    cases hpl : plAt pl i with
    | none => simp [hpl] at h
    | some os =>
      obtain ⟨off, size⟩ := os
      simp only [hpl] at h ⊢
      split at h
      · rename_i hc
        rw [if_neg (by simp [hc.1]; rw [← hc.1]; exact hc.2), zip_foldl]
        have := splice_foldl off v.cells.toList 0 cells
        rw [this]
        exact fill_of_G rest _ cs h
      · cases h
theorem built_of_fillG {T : TypeId} {z : Value} {pl : List (Nat × Nat) ⊕ Nat} {parts : List (Nat × Value)} {cs : Array Value} (hz : tyZero P T = some z) (hpl : placesOf P T = some pl) (h : fillG pl z.cells parts = some cs) : P.built T parts = some cs := by
  have h := fill_of_G _ _ _ h
  unfold tyZero at hz
  unfold placesOf at hpl
  unfold Program.built
  cases hi : P.info? T with
  | none => simp [hi] at hz
  | some it =>
    have hz' : it.zero = some z := by simpa [hi] using hz
    cases hu : P.underlying T with
    | none => simp [hu] at hpl
    | some dd =>
      cases dd <;> try (simp [hu] at hpl; done)
      case array n e =>
        simp only [hu] at hpl ⊢
        unfold tySize at hpl
        cases hie : P.info? e with
        | none => simp [hie] at hpl
        | some ie =>
          simp [hie] at hpl
          subst hpl
          simp only [hz']
          exact h
      case struct fs =>
        simp only [hu] at hpl ⊢
        cases hm : fs.toList.mapM (fun f => (P.info? f.type).map fun i => (f.offset, i.size)) with
        | none => simp [hm] at hpl
        | some l =>
          simp [hm] at hpl
          subst hpl
          simp only [hz']
          have : (fun x => l.toArray[x]?) = plAt (.inl l) := by funext x; simp [plAt]
          rw [this]
          exact h

theorem OpD_iface {T : TypeId} {x : Operand} {dd : TypeDesc} (ho : o.op = .makeInterface T x) (hx : okX ts hp x) (h1 : plain0 (gev ts x) = true) (hu : P.underlying T = some dd) (hn : ∀ ms, dd ≠ .interface ms) :
    OpD P o ts (rst hp (val (.iface T (gev ts x)) []).rs) (val (.iface T (gev ts x)) []) :=
  OpD_val fun r D a W hR _ hlow hD => by
    have := evR hR (x := x) (by simp [ho, Op.operands]) hx hlow hD
    refine ⟨?_, (ids_plain0 h1).1 this.2⟩
    simp only [execOp, ho, Instr.makeInterface, Sem.run_bind, run_underlying hu, Result.andThen_ok]
    rw [this.1, ren_plain0 h1]
    cases dd <;> first
      | exact absurd rfl (hn _)
      | simp [ren, renA, renF]

theorem eqIA_flat : ∀ (xs ys : List Value) (r : Bool), eqIA xs ys = some r → (∀ x ∈ xs, flatF x = true) ∧ (∀ y ∈ ys, flatF y = true)
  | [], [], _, _ => ⟨by simp, by simp⟩
  | .int k a :: xs, .int k' b :: ys, r, h => by
    simp only [eqIA] at h
    split at h
    · split at h
      · rename_i q hq
        have := eqIA_flat xs ys q hq
        exact ⟨by simpa [flatF, flat0] using this.1, by simpa [flatF, flat0] using this.2⟩
      · cases h
    · cases h

theorem bin2_ren {op : BinOp} {T : TypeId} {x y v : Value} (r : Nat → Nat) (h : bin2 P op T x y = some v) : bin2 P op T (ren r x) (ren r y) = some v := by
  have key : ∀ {xs ys : Array Value} {q : Bool}, agg2 P T xs ys = some q → flatV (.agg xs) = true ∧ flatV (.agg ys) = true := fun {xs ys q} h => by
    unfold agg2 agg2S at h
    split at h
    · unfold arr2 at h
      split at h
      · split at h
        · have := eqIA_flat _ _ _ h
          exact ⟨Array.all_eq_true_iff_forall_mem.2 (fun x hx => this.1 x (by simpa using hx)), Array.all_eq_true_iff_forall_mem.2 (fun x hx => this.2 x (by simpa using hx))⟩
        · cases h
      · cases h
    · split at h
      · split at h
        · rename_i hf
          simp only [Bool.and_eq_true] at hf
          exact hf
        · cases h
      · cases h
  have h0 := h
  unfold bin2 at h
  split at h
  · exact h0
  · exact h0
  · split at h
    · split at h
      · rename_i q hq; rw [flatV_ren (key hq).1, flatV_ren (key hq).2]; exact h0
      · cases h
    · split at h
      · rename_i q hq; rw [flatV_ren (key hq).1, flatV_ren (key hq).2]; exact h0
      · cases h
    · cases h
  · rename_i p l c
    cases p with
    | none => exact h0
    | some a => exact h0
  · cases h

theorem OpD_bin {op : BinOp} {T yT : TypeId} {x y : Operand} {v : Value} (ho : o.op = .binOp op T x y yT) (hx : okX ts hp x) (hy : okX ts hp y) (hv : bin2 P op T (gev ts x) (gev ts y) = some v) :
    OpD P o ts (rst hp (val v []).rs) (val v []) :=
  OpD_val fun r D a W hR _ hlow hD => by
    have h1 := evR hR (x := x) (by simp [ho, Op.operands]) hx hlow hD
    have h2 := evR hR (x := y) (by simp [ho, Op.operands]) hy hlow hD
    have hs := bin2_sound (ox := x) (oy := y) (bin2_ren r hv) W
    refine ⟨?_, flatV_ids hs.2⟩
    rw [flatV_ren hs.2]
    have := hs.1
    simp only [execOp, ho, h1.1, h2.1]
    rw [Sem.run_bind, this]
    rfl

theorem un1_flat {op : UnOp} {x v : Value} (h : un1 op x = some v) : flatV x = true := by
  unfold un1 at h; split at h <;> first | rfl | cases h

theorem OpD_un {op : UnOp} {T : TypeId} {x : Operand} {v : Value} (ho : o.op = .unOp op T x) (hx : okX ts hp x) (hv : un1 op (gev ts x) = some v) : OpD P o ts (rst hp (val v []).rs) (val v []) :=
  OpD_val fun r D a W hR _ hlow hD => by
    have h1 := evR hR (x := x) (by simp [ho, Op.operands]) hx hlow hD
    have hs := un1_sound (P := P) hv W
    rw [flatV_ren (un1_flat hv)] at h1
    refine ⟨?_, flatV_ids hs.2⟩
    rw [flatV_ren hs.2]
    simp only [execOp, ho, h1.1]
    rw [Sem.run_bind, hs.1]
    rfl

theorem conv1_flat {S T : TypeId} {x v : Value} (h : conv1 P S T x = some v) : flatV x = true := by
  unfold conv1 at h; split at h <;> first | rfl | cases h

theorem OpD_conv {S T : TypeId} {x : Operand} {v : Value} (ho : o.op = .convert S T x) (hx : okX ts hp x) (hv : conv1 P S T (gev ts x) = some v) : OpD P o ts (rst hp (val v []).rs) (val v []) :=
  OpD_val fun r D a W hR _ hlow hD => by
    have h1 := evR hR (x := x) (by simp [ho, Op.operands]) hx hlow hD
    have hs := conv1_sound hv W
    rw [flatV_ren (conv1_flat hv)] at h1
    refine ⟨?_, flatV_ids hs.2⟩
    rw [flatV_ren hs.2]
    simp only [execOp, ho, h1.1]
    rw [Sem.run_bind, hs.1]
    rfl

theorem OpD_buildSlice {T e : TypeId} {len m : Nat} {parts : Array (Nat × Operand)} {z : Value} {cs : Array Value} (ho : o.op = .buildSlice T len parts) (h0 : ∀ p ∈ parts.toList, okX ts hp p.2 ∧ okCells (gev ts p.2) = true)
    (hu : P.underlying T = some (.slice e)) (hm : tySize P e = some m) (hz : tyZero P e = some z) (hzc : okCells z = true) (hzf : flatV z = true) (hpos : 0 < len * m) (hle : len * m ≤ 16777216)
    (hcs : fillG (.inr m) ((Array.range (len * m)).map (z.cells[· % z.cells.size]!)) (partsG ts parts) = some cs) :
    OpD P o ts (rst hp (Eff.mk (.slice (some ⟨nk, 0, none⟩) len len) [] [] [(nk, ⟨cs, e⟩)] none false).rs) ⟨.slice (some ⟨nk, 0, none⟩) len len, [], [], [(nk, ⟨cs, e⟩)], none, false⟩ :=
  OpD_newV (by simp [idsV, idsA, idsF, ids0]) fun r D a W hR _ hlow hD => by
    have e1 : ∀ p ∈ parts.toList, a.eval p.2 = ren r (gev ts p.2) ∧ idsV D (gev ts p.2) := fun p hp1 =>
      evR hR (x := p.2) (by
        simp only [ho, Op.operands]
        simp only [List.mem_toArray, List.mem_map]
        exact ⟨p, hp1, rfl⟩) (h0 p hp1).1 hlow hD
    have e2 : (parts.map fun (i, x) => (i, a.eval x)).toList = (partsG ts parts).map fun p => (p.1, ren r p.2) := by
      simp only [Array.toList_map, partsG, List.map_map]
      refine List.map_congr_left fun p hp1 => ?_
      simp only [Function.comp]
      rw [(e1 p hp1).1]
    have hzi : ∀ x ∈ z.cells, flatF x = true := fun x hx => by
      cases z with
      | tuple vs => exact absurd rfl (okCells_nt hzc vs)
      | agg cs' => exact Array.all_eq_true_iff_forall_mem.1 hzf x hx
      | _ => simp only [Value.cells] at hx; simp at hx; subst hx; exact hzf
    have hbase : ∀ x ∈ (Array.range (len * m)).map (z.cells[· % z.cells.size]!), flatF x = true := fun x hx => by
      obtain ⟨j, _, rfl⟩ := Array.mem_map.1 hx
      by_cases hlt : j % z.cells.size < z.cells.size
      · rw [getElem!_pos z.cells _ hlt]; exact hzi _ (Array.getElem_mem hlt)
      · rw [getElem!_neg z.cells _ hlt]; rfl
    have hb2 : ((Array.range (len * m)).map (z.cells[· % z.cells.size]!)).map (renF r) = (Array.range (len * m)).map (z.cells[· % z.cells.size]!) := map_eq_self fun x hx => flatF_ren (hbase x hx)
    have hf := fill_of_G _ _ _ hcs
    have hparts : ∀ p ∈ partsG ts parts, okCells p.2 = true ∧ idsV D p.2 := fun p hp1 => by
      simp only [partsG, List.mem_map] at hp1
      obtain ⟨q, hq, rfl⟩ := hp1
      exact ⟨(h0 q hq).2, (e1 q hq).2⟩
    have hfr := fill_ren (r := r) _ _ _ (fun p hp1 => (hparts p hp1).1) hf
    rw [hb2, ← e2] at hfr
    refine ⟨?_, fill_ids (D := D) _ _ _ hparts (fun x hx => flatF_ids (hbase x hx)) hf⟩
    have hne : ¬ len * m = 0 := by omega
    have hle' : ¬ len * m > 2 ^ 24 := by omega
    simp only [execOp, ho, Instr.buildSlice, Sem.run_bind, run_underlying hu, Result.andThen_ok, run_sizeOf hm, hne, hle', if_false, run_zeroValue hz, Sem.run_pure]
    have : plAt (.inr m) = fun i => some (i * m, m) := rfl
    rw [this] at hfr
    rw [hfr]
    simp [newRow, newObj, Sem.run, ren, renA, renF, ren0, Blk.obj]

theorem run_part {r : Nat → Nat} {T : TypeId} {cs : Array Value} {off : Nat} {v : Value} (h : loadB P T cs off = some v) (W : World) : (part T (cs.map (renF r)) off).run P W = .ok (ren r v) W := by
  unfold loadB at h
  unfold part
  cases ha : tyAgg P T with
  | none => simp [ha] at h
  | some bb =>
    rw [Sem.run_bind, run_isAgg ha]
    simp only [Result.andThen_ok]
    cases bb with
    | true =>
      simp only [ha] at h
      cases hs : tySize P T with
      | none => simp [hs] at h
      | some m =>
        simp only [hs] at h
        split at h
        · cases h
          simp [Sem.run_bind, run_sizeOf hs, ren, renA]
        · simp at h
    | false =>
      simp only [ha] at h
      cases hc : cs[off]? with
      | none => simp [hc] at h
      | some u =>
        simp only [hc] at h
        split at h
        · rename_i hsc
          cases h
          simp [hc, ren_scal hsc]
        · cases h

theorem fdX_spec {T : TypeId} {f : Nat} {t : TypeId} {off : Nat} (h : fdX P T f = some (t, off)) : ∃ fs fd, P.underlying T = some (.struct fs) ∧ fs[f]? = some fd ∧ fd.type = t ∧ fd.offset = off ∧ ∃ m, tySize P fd.type = some (m + 1) := by
  unfold fdX at h
  split at h
  · rename_i fs hu
    split at h
    · rename_i fd hf
      split at h
      · rename_i m hs
        cases h
        exact ⟨fs, fd, hu, hf, rfl, rfl, m, hs⟩
      · cases h
    · cases h
  · cases h

theorem OpD_index {T e : TypeId} {x i : Operand} {kd : IntKind} {m : Int} {len s : Nat} {cs : Array Value} {v : Value} (ho : o.op = .index T x i) (hx : okX ts hp x) (hi : okX ts hp i) (hgi : gev ts i = .int kd m)
    (hu : P.underlying T = some (.array len e)) (hg : gev ts x = .agg cs) (h0 : 0 ≤ m) (hl : m < len) (hs : tySize P e = some s) (hv : loadB P e cs (m.toNat * s) = some v) :
    OpD P o ts (rst hp (val v []).rs) (val v []) :=
  OpD_val fun r D a W hR _ hlow hD => by
    have h1 := evR hR (x := x) (by simp [ho, Op.operands]) hx hlow hD
    have h2 := evR hR (x := i) (by simp [ho, Op.operands]) hi hlow hD
    rw [hg] at h1
    rw [hgi] at h2
    have h3 : a.eval x = .agg (cs.map (renF r)) := h1.1
    have h4 : a.eval i = .int kd m := h2.1
    refine ⟨?_, loadB_ids hv h1.2⟩
    have := run_part (r := r) hv W
    simp [execOp, ho, Instr.index, h3, h4, asIntOf, run_underlying hu, h0, hl, run_sizeOf hs, this]

theorem OpD_indexStr {T : TypeId} {x i : Operand} {kd : IntKind} {m : Int} {s : ByteArray} {b : UInt8} (ho : o.op = .index T x i) (hx : okX ts hp x) (hi : okX ts hp i) (hgi : gev ts i = .int kd m)
    (hu : P.underlying T = some .string) (hg : gev ts x = .string s) (hb : (if 0 ≤ m then s[m.toNat]? else none) = some b) :
    OpD P o ts (rst hp (val (.int .u8 b.toNat) []).rs) (val (.int .u8 b.toNat) []) :=
  OpD_val fun r D a W hR _ hlow hD => by
    have h1 := evR hR (x := x) (by simp [ho, Op.operands]) hx hlow hD
    have h2 := evR hR (x := i) (by simp [ho, Op.operands]) hi hlow hD
    rw [hg] at h1
    rw [hgi] at h2
    have h3 : a.eval x = .string s := h1.1
    have h4 : a.eval i = .int kd m := h2.1
    refine ⟨?_, trivial⟩
    simp [execOp, ho, Instr.index, h3, h4, asIntOf, run_underlying hu, hb, ren, renA, renF, ren0]

theorem OpD_field {T t : TypeId} {x : Operand} {f off : Nat} {cs : Array Value} {v : Value} (ho : o.op = .field T x f) (hx : okX ts hp x) (hf : fdX P T f = some (t, off)) (hg : gev ts x = .agg cs) (hv : loadB P t cs off = some v) :
    OpD P o ts (rst hp (val v []).rs) (val v []) :=
  OpD_val fun r D a W hR _ hlow hD => by
    have h1 := evR hR (x := x) (by simp [ho, Op.operands]) hx hlow hD
    rw [hg] at h1
    obtain ⟨fs, fd, hu, hfd, rfl, rfl, _⟩ := fdX_spec hf
    have h3 : a.eval x = .agg (cs.map (renF r)) := h1.1
    refine ⟨?_, loadB_ids hv h1.2⟩
    have := run_part (r := r) hv W
    simp [execOp, ho, Instr.field, h3, asAgg, run_underlying hu, hfd, this]

theorem OpD_fieldAddr {T t : TypeId} {x : Operand} {f off k oo : Nat} (ho : o.op = .fieldAddr T x f) (hx : okX ts hp x) (hf : fdX P T f = some (t, off)) (hg : gev ts x = .pointer (some ⟨k, oo, none⟩)) :
    OpD P o ts (rst hp (val (.pointer (some ⟨k, oo + off, none⟩)) []).rs) (val (.pointer (some ⟨k, oo + off, none⟩)) []) :=
  OpD_val fun r D a W hR _ hlow hD => by
    have h1 := evR hR (x := x) (by simp [ho, Op.operands]) hx hlow hD
    rw [hg] at h1
    obtain ⟨fs, fd, hu, hfd, rfl, rfl, m, hs⟩ := fdX_spec hf
    have h3 : a.eval x = .pointer (some ⟨r k, oo, none⟩) := h1.1
    refine ⟨?_, by simpa [idsV, idsA, idsF, ids0] using h1.2⟩
    simp [execOp, ho, Instr.fieldAt, h3, Instr.sureAddr, run_underlying hu, hfd, fieldPlace, run_sizeOf hs, Addr_add, ren, renA, renF, ren0]

theorem run_bound {y : Nat} {k : IntKind} {m : Int} {c : BoundsCode} (h : 0 ≤ m ∧ m ≤ y) (W : World) : (Instr.sliceBound (.int k m) y c).run P W = .ok m.toNat W := by
  simp [Instr.sliceBound, asIntOf, h]
theorem run_sliceBounds {b : Bool} {len cap l h : Nat} {lo hi : Option Value} (hs : sliceG len cap lo hi = some (l, h)) (W : World) : (Instr.sliceBounds b len cap lo hi none).run P W = .ok (l, h, cap) W := by
  unfold sliceG at hs
  cases hh : hiG len cap hi with
  | none => rw [hh] at hs; cases hs
  | some h' =>
    rw [hh] at hs
    simp only [Option.map_eq_some_iff] at hs
    obtain ⟨l', hl, e⟩ := hs
    cases e
    unfold Instr.sliceBounds
    cases hi with
    | none =>
      simp only [hiG, Option.some.injEq] at hh; subst hh
      cases lo with
      | none => simp only [loG, Option.some.injEq] at hl; subst hl; simp
      | some v =>
        cases v <;> simp only [loG] at hl <;> first | (cases hl; done) | skip
        split at hl
        · rename_i hc
          cases hl
          simp [run_bound hc]
        · cases hl
    | some u =>
      cases u <;> simp only [hiG] at hh <;> first | (cases hh; done) | skip
      split at hh
      · rename_i hd
        cases hh
        cases lo with
        | none => simp only [loG, Option.some.injEq] at hl; subst hl; simp [run_bound hd]
        | some v =>
          cases v <;> simp only [loG] at hl <;> first | (cases hl; done) | skip
          split at hl
          · rename_i hc
            cases hl
            simp [run_bound hd, run_bound hc]
          · cases hl
      · cases hh

theorem sliceG_int {len cap : Nat} {lo hi : Option Value} {p : Nat × Nat} (h : sliceG len cap lo hi = some p) : (∀ v, lo = some v → flatV v = true) ∧ (∀ v, hi = some v → flatV v = true) := by
  unfold sliceG at h
  split at h
  · cases h
  · rename_i h' hh
    refine ⟨fun v e => ?_, fun v e => ?_⟩
    · subst e
      cases v <;> first | rfl | (simp [loG] at h)
    · subst e
      cases v <;> first | rfl | (simp [hiG] at hh)

theorem slV_spec {a : Option (Nat × Nat)} {s c : Nat} {p : Option (Nat × Nat)} {v : Value} (h : slV a s c p = some v) : ∃ l hh, p = some (l, hh) ∧ v = .slice (a.map fun p => ⟨p.1, if c = l then p.2 else p.2 + l * s, none⟩) (hh - l) (c - l) := by
  unfold slV at h
  split at h
  · rename_i l hh
    cases h; exact ⟨l, hh, rfl, rfl⟩
  · cases h

theorem OpD_slice {T : TypeId} {x : Operand} {lo hi mx : Option Operand} {v : Value} (ho : o.op = .slice T x lo hi mx) (hx : okX ts hp x) (hlo : ∀ y ∈ lo.toList, okX ts hp y) (hhi : ∀ y ∈ hi.toList, okX ts hp y) (hmx : mx.isNone = true)
    (hv : slX P T (gev ts x) (lo.map (gev ts)) (hi.map (gev ts)) = some v) : OpD P o ts (rst hp (val v []).rs) (val v []) :=
  OpD_val fun r D a W hR _ hlow hD => by
    obtain rfl : mx = none := by cases mx <;> simp_all
    have h1 := evR hR (x := x) (by simp [ho, Op.operands]) hx hlow hD
    have key : ∀ {n c : Nat} {p : Nat × Nat}, sliceG n c (lo.map (gev ts)) (hi.map (gev ts)) = some p → lo.map a.eval = lo.map (gev ts) ∧ hi.map a.eval = hi.map (gev ts) := fun {n c p} hp1 => by
      obtain ⟨f1, f2⟩ := sliceG_int hp1
      constructor
      · cases lo with
        | none => rfl
        | some y =>
          simp only [Option.map_some] at f1 ⊢
          rw [(evR hR (x := y) (by simp [ho, Op.operands]) (hlo y (by simp)) hlow hD).1, flatV_ren (f1 _ rfl)]
      · cases hi with
        | none => rfl
        | some y =>
          simp only [Option.map_some] at f2 ⊢
          rw [(evR hR (x := y) (by simp [ho, Op.operands]) (hhi y (by simp)) hlow hD).1, flatV_ren (f2 _ rfl)]
    have ifs : ∀ (c l k o1 o2 : Nat), (if c = l then (⟨k, o1, none⟩ : Addr) else ⟨k, o2, none⟩) = ⟨k, if c = l then o1 else o2, none⟩ := fun c l k o1 o2 => by split <;> rfl
    unfold slX at hv
    split at hv
    · rename_i n e hu
      split at hv
      · rename_i k off hg
        split at hv
        · rename_i s hs
          obtain ⟨l, hh, hp1, rfl⟩ := slV_spec hv
          obtain ⟨q1, q2⟩ := key hp1
          rw [hg] at h1
          have h3 : a.eval x = .pointer (some ⟨r k, off, none⟩) := h1.1
          refine ⟨?_, by simpa [idsV, idsA, idsF, ids0] using h1.2⟩
          have e1 := run_sliceBounds (P := P) (b := false) hp1 W
          simp only [execOp, ho, Option.map_none, q1, q2, h3, Instr.sliceAt, Sem.run_bind, run_underlying hu, Result.andThen_ok, Instr.sureAddr, Sem.run_pure, e1, run_sizeOf hs, Addr_add]
          simp [ren, renA, renF, ren0, ifs]
        · cases hv
      · cases hv
    · rename_i e hu
      split at hv
      · rename_i k off n c hg
        split at hv
        · rename_i s hs
          obtain ⟨l, hh, hp1, rfl⟩ := slV_spec hv
          obtain ⟨q1, q2⟩ := key hp1
          rw [hg] at h1
          have h3 : a.eval x = .slice (some ⟨r k, off, none⟩) n c := h1.1
          refine ⟨?_, by simpa [idsV, idsA, idsF, ids0] using h1.2⟩
          have e1 := run_sliceBounds (P := P) (b := true) hp1 W
          simp only [execOp, ho, Option.map_none, q1, q2, h3, Instr.sliceAt, Instr.slice, Sem.run_bind, run_underlying hu, Result.andThen_ok, Sem.run_pure, e1, run_sizeOf hs]
          simp [ren, renA, renF, ren0, Addr_add]
          split <;> rfl
        · cases hv
      · rename_i n c hg
        split at hv
        · rename_i s hs
          obtain ⟨l, hh, hp1, rfl⟩ := slV_spec hv
          obtain ⟨q1, q2⟩ := key hp1
          rw [hg] at h1
          have h3 : a.eval x = .slice none n c := h1.1
          refine ⟨?_, by trivial⟩
          have e1 := run_sliceBounds (P := P) (b := true) hp1 W
          simp only [execOp, ho, Option.map_none, q1, q2, h3, Instr.sliceAt, Instr.slice, Sem.run_bind, run_underlying hu, Result.andThen_ok, Sem.run_pure, e1, run_sizeOf hs]
          simp [ren, renA, renF, ren0]
        · cases hv
      · cases hv
    · rename_i hu
      split at hv
      · rename_i s hg
        unfold slS at hv
        split at hv
        · rename_i l hh hp1
          cases hv
          obtain ⟨q1, q2⟩ := key hp1
          rw [hg] at h1
          have h3 : a.eval x = .string s := h1.1
          refine ⟨?_, by trivial⟩
          have e1 := run_sliceBounds (P := P) (b := false) hp1 W
          simp only [execOp, ho, Option.map_none, q1, q2, h3, Instr.sliceAt, Instr.slice, Sem.run_bind, run_underlying hu, Result.andThen_ok, Sem.run_pure]
          simp [Sem.run_bind, e1, ren, renA, renF, ren0]
        · cases hv
      · cases hv
    · cases hv

theorem OpD_arr {T : TypeId} {x : Operand} {v : Value} (ho : o.op = .sliceToArrayPointer T x) (hx : okX ts hp x) (hv : arrX P T (gev ts x) = some v) : OpD P o ts (rst hp (val v []).rs) (val v []) :=
  OpD_val fun r D a W hR _ hlow hD => by
    have h1 := evR hR (x := x) (by simp [ho, Op.operands]) hx hlow hD
    unfold arrX at hv
    split at hv
    · rename_i n e hu
      split at hv
      · rename_i ad len c hg
        split at hv
        · rename_i hle
          cases hv
          rw [hg] at h1
          have hn : ¬ len < n := by omega
          cases ad with
          | none =>
            have h3 : a.eval x = .slice none len c := h1.1
            exact ⟨by simp [execOp, ho, Instr.arrayAt, h3, run_underlying hu, hn, ren, renA, renF, ren0], by trivial⟩
          | some ad =>
            have h3 : a.eval x = .slice (some { ad with block := r ad.block }) len c := h1.1
            exact ⟨by simp [execOp, ho, Instr.arrayAt, h3, run_underlying hu, hn, ren, renA, renF, ren0], by simpa [idsV, idsA, idsF, ids0] using h1.2⟩
        · cases hv
      · cases hv
    · cases hv

theorem lenX_run {r : Nat → Nat} {T t : TypeId} {u v : Value} (h : lenX P T u = some v) (W : World) : (Builtin.len_ #[T] t #[ren r u]).run P W = .ok v W ∧ flatV v = true := by
  unfold lenX at h
  split at h
  · rename_i hu
    split at h
    · cases h
      exact ⟨by simp [Builtin.len_, run_underlying hu, ren, renA, renF, ren0, goInt], rfl⟩
    · cases h
  · rename_i n e hu
    cases h
    exact ⟨by simp [Builtin.len_, run_underlying hu, goInt], rfl⟩
  · rename_i e hu
    split at h
    · rename_i ad n c
      cases h
      cases ad <;> exact ⟨by simp [Builtin.len_, run_underlying hu, ren, renA, renF, ren0, goInt], rfl⟩
    · cases h
  · cases h
theorem maxF_flat {b : Bool} : ∀ {l : List Value} {x v : Value}, maxF b x l = some v → flatV x = true ∧ (∀ x ∈ l, flatV x = true) ∧ flatV v = true
  | [], x, v, h => by
    cases x <;> simp only [maxF, maxE] at h <;> first | (cases h; done) | skip
    cases h; exact ⟨rfl, by simp, rfl⟩
  | y :: l, x, v, h => by
    simp only [maxF] at h
    split at h
    · rename_i z hz
      have ih := maxF_flat h
      unfold max2G at hz
      split at hz
      · cases hz
        exact ⟨rfl, fun q hq => by
          simp only [List.mem_cons] at hq
          rcases hq with rfl | hq
          · rfl
          · exact ih.2.1 q hq, ih.2.2⟩
      · cases hz
    · cases h
theorem maxG_flat {b : Bool} {l : List Value} {v : Value} (h : maxG b l = some v) : (∀ x ∈ l, flatV x = true) ∧ flatV v = true := by
  cases l with
  | nil => cases h
  | cons x l =>
    have := maxF_flat h
    exact ⟨fun q hq => by
      simp only [List.mem_cons] at hq
      rcases hq with rfl | hq
      · exact this.1
      · exact this.2.1 q hq, this.2.2⟩
theorem maxF_run : ∀ {l : List Value} {x v : Value} (W : World), maxF true x l = some v → (l.foldlM Builtin.max2 x).run P W = .ok v W
  | [], x, v, W, h => by
    cases x <;> simp only [maxF, maxE] at h <;> first | (cases h; done) | skip
    cases h; rfl
  | y :: l, x, v, W, h => by
    simp only [maxF] at h
    split at h
    · rename_i z hz
      have hr := maxF_run W h
      unfold max2G at hz
      split at hz
      · cases hz
        simp only [if_true] at hr
        simp only [List.foldlM_cons, Sem.run_bind, Builtin.max2, Sem.run_pure, Result.andThen_ok]
        exact hr
      · cases hz
    · cases h
theorem minF_run : ∀ {l : List Value} {x v : Value} (W : World), maxF false x l = some v → (l.foldlM Builtin.min2 x).run P W = .ok v W
  | [], x, v, W, h => by
    cases x <;> simp only [maxF, maxE] at h <;> first | (cases h; done) | skip
    cases h; rfl
  | y :: l, x, v, W, h => by
    simp only [maxF] at h
    split at h
    · rename_i z hz
      have hr := minF_run W h
      unfold max2G at hz
      split at hz
      · cases hz
        simp only [Bool.false_eq_true, if_false] at hr
        simp only [List.foldlM_cons, Sem.run_bind, Builtin.min2, Sem.run_pure, Result.andThen_ok]
        exact hr
      · cases hz
    · cases h
theorem max_run {l : List Value} {v : Value} (W : World) (h : maxG true l = some v) : ∃ x rest, l = x :: rest ∧ (rest.foldlM Builtin.max2 x).run P W = .ok v W := by
  cases l with
  | nil => cases h
  | cons x l => exact ⟨x, l, rfl, maxF_run W h⟩
theorem min_run {l : List Value} {v : Value} (W : World) (h : maxG false l = some v) : ∃ x rest, l = x :: rest ∧ (rest.foldlM Builtin.min2 x).run P W = .ok v W := by
  cases l with
  | nil => cases h
  | cons x l => exact ⟨x, l, rfl, minF_run W h⟩
theorem OpD_built {c : Call} {v : Value} (ho : o.op = .call c) (hx : ∀ x ∈ c.args.toList, okX ts hp x) (hv : builtX P ts c = some v) : OpD P o ts (rst hp (val v []).rs) (val v []) :=
  OpD_val fun r D a W hR _ hlow hD => by
    have hev : ∀ x ∈ c.args, a.eval x = ren r (gev ts x) := fun x hx1 => (evR hR (x := x) (by simp [ho, Op.operands, Call.operands, hx1]) (hx x (by simpa using hx1)) hlow hD).1
    have hlist : c.args.toList.map a.eval = c.args.toList.map fun x => ren r (gev ts x) := List.map_congr_left fun x hx1 => hev x (by simpa using hx1)
    have fl : ∀ {b : Bool}, maxG b (c.args.toList.map (gev ts)) = some v → (c.args.map a.eval).toList = c.args.toList.map (gev ts) := fun {b} h => by
      rw [Array.toList_map, hlist]
      exact List.map_congr_left fun x hx1 => flatV_ren ((maxG_flat h).1 _ (List.mem_map.2 ⟨x, hx1, rfl⟩))
    unfold builtX at hv
    split at hv
    · rename_i hc
      split at hv
      · rename_i x T h1 h2
        have e1 : c.args = #[x] := by rw [← Array.toArray_toList (xs := c.args), h1]
        have e2 : c.argTypes = #[T] := by rw [← Array.toArray_toList (xs := c.argTypes), h2]
        have e3 := lenX_run (P := P) (r := r) (t := o.type) hv W
        refine ⟨?_, flatV_ids e3.2⟩
        have e4 := hev x (by rw [e1]; simp)
        simp only [execOp, ho, resolve, hc, Sem.run_bind, Sem.run_pure, Result.andThen_ok, invoke, builtin, e1, e2, flatV_ren e3.2]
        simp only [List.map_toArray, List.map_cons, List.map_nil, e4, e3.1, Result.andThen_ok]
      · cases hv
    · rename_i hc
      have e3 := maxG_flat hv
      refine ⟨?_, flatV_ids e3.2⟩
      obtain ⟨x, rest, e5, e6⟩ := max_run (P := P) W hv
      have e4 := fl hv
      simp only [execOp, ho, resolve, hc, Sem.run_bind, Sem.run_pure, Result.andThen_ok, invoke, builtin, Builtin.max_, e4, e5, e6, flatV_ren e3.2]
    · rename_i hc
      have e3 := maxG_flat hv
      refine ⟨?_, flatV_ids e3.2⟩
      obtain ⟨x, rest, e5, e6⟩ := min_run (P := P) W hv
      have e4 := fl hv
      simp only [execOp, ho, resolve, hc, Sem.run_bind, Sem.run_pure, Result.andThen_ok, invoke, builtin, Builtin.min_, e4, e5, e6, flatV_ren e3.2]
    · cases hv

def unD (o : Oper) (ts : Nat → Value) : Prop :=
  match o.op with
  | .call c => match c.callee with
    | .value (.tmp t) => ts t = undef
    | .value (.func _) => True
    | .builtin _ => True
    | _ => False
  | _ => True
def unC (P : Program) (o : Oper) : Prop :=
  match o.op with
  | .call c => match c.callee with
    | .value (.func f) => ∃ fn, P.funcs[f]? = some fn
    | _ => True
  | _ => True

def okp (P : Program) (Y : Option YG) : OKP where
  ok o ts yc hp e := (e.yl = false ∧ OpD P o ts hp e) ∨ (e.yl = true ∧ OpY Y o ts yc e)
  congr o ts ts' yc yc' hp e ht hy h := by
    rcases h with ⟨h1, h2⟩ | ⟨h1, y, f, args, T, h2, h3, h4, h5, h6, h7, h8, h9⟩
    · exact .inl ⟨h1, h2.congr ht⟩
    · have hm : ∀ x ∈ o.op.operands, gev ts x = gev ts' x := fun x hx => by
        cases x <;> first | rfl | exact ht _ hx
      have hk : ∀ x ∈ o.op.operands, okT ts x → okT ts' x := fun x hx h => by
        cases x <;> first | exact h | (have := ht _ hx; simp only [okT] at h ⊢; rwa [← this])
      have hf : f ∈ o.op.operands := by simp [h3, Op.operands, Call.operands]
      have ha : ∀ x ∈ args, x ∈ o.op.operands := fun x hx => by simp [h3, Op.operands, Call.operands, hx]
      refine .inr ⟨h1, y, f, args, T, h2, h3, hk f hf h4, fun x hx => ⟨hk x (ha x (by simpa using hx)) (h5 x hx).1, by rw [← hm x (ha x (by simpa using hx))]; exact (h5 x hx).2⟩, by rw [← hm f hf]; exact h6, by rw [← hy h1]; exact h7, ?_, by rw [← hy h1]; exact h9⟩
      rw [← hy h1, h8]
      congr 1
      exact Array.map_congr_left fun x hx => hm x (ha x hx)
  un o ts := unD o ts ∧ unC P o
  uncongr o ts ts' ht h := by
    refine ⟨?_, h.2⟩
    have h1 := h.1
    unfold unD at *
    split
    · rename_i c hc
      simp only [hc] at h1
      cases hcc : c.callee with
      | value x =>
        simp only [hcc] at h1 ⊢
        cases x with
        | tmp t => simp only at h1 ⊢; rw [← ht t (by simp [hc, hcc, Op.operands, Call.operands])]; exact h1
        | func f => trivial
        | _ => exact h1.elim
      | invoke x m => simp only [hcc] at h1
      | builtin b => trivial
    · trivial

theorem meetsU {Y : Option YG} : MeetsU P (okp P Y) := by
  intro o ts r D a W hR hu f hf
  obtain ⟨h1, h2⟩ := hu
  unfold Oper.about at hf
  unfold unD at h1
  unfold unC at h2
  split at hf
  · rename_i c hc
    simp only [hc] at h1 h2
    cases hcc : c.callee with
    | value x =>
      simp only [hcc] at h1 h2
      cases x with
      | tmp t =>
        simp only at h1
        have := ((hR t).resolve_left (by rw [h1]; simp [undef, junk])).1
        rw [h1, ren_undef] at this
        have he : a.eval (.tmp t) = undef := this
        simp [resolve, hcc, he, Deferred.ofValue, undef, stuck] at hf
      | func g =>
        simp only at h2
        simp [resolve, hcc, Act.eval, Deferred.ofValue, Target.leads] at hf
        subst hf; exact h2
      | _ => exact h1.elim
    | invoke x m => simp only [hcc] at h1
    | builtin b => simp [resolve, hcc, Target.leads] at hf
  · cases hf
theorem RetP_call {c : Call} {f : Operand} {g : FuncId} {first cap : Array Value} {oc : Out} (hGF : GFlat G) (hG : ∀ k, k < 100 → hp k = G k) (ho : o.op = .call c) (hc : c.callee = .value f) (hf : okX ts hp f) (hgf : gev ts f = .func (.func g) first cap)
    (hfi : first.size = 0) (hca : cap.size = 0) (ha : ∀ x ∈ c.args.toList, okX ts hp x) (hr : RetP P G g (c.args.map (gev ts)) oc) : OpD P o ts (rst hp oc.eff.rs) oc.eff := by
  have ers : oc.eff.rs = [] := by cases oc <;> rfl
  rw [ers]
  intro r D a W hR hS _ hlow hD _
  have hfl : ∀ x ∈ c.args.map (gev ts), flatV x = true := hr.2.1
  obtain rfl : first = #[] := by cases first; simpa using hfi
  obtain rfl : cap = #[] := by cases cap; simpa using hca
  have h1 := evR (rs := []) hR (x := f) (by simp [ho, hc, Op.operands, Call.operands]) hf hlow hD
  rw [hgf] at h1
  have h3 : a.eval f = .func (.func g) #[] #[] := by rw [h1.1]; simp [ren, renA, renF]
  have hargs : c.args.map a.eval = c.args.map (gev ts) := Array.map_congr_left fun x hx => by
    rw [(evR (rs := []) hR (x := x) (by simp [ho, Op.operands, Call.operands, hx]) (ha x (by simpa using hx)) hlow hD).1]
    exact flatV_ren (hfl _ (Array.mem_map.2 ⟨x, hx, rfl⟩))
  obtain ⟨hv, _, hen, hcall⟩ := hr
  have hrun : (execOp a.eval o).run P W = .ok (.enter g (c.args.map (gev ts))) W := by
    simp [execOp, ho, resolve, hc, h3, Deferred.ofValue, invoke, hargs, hen]
  have hgok : GOK G W := gok_of hGF hG hS hlow hD
  unfold Upon
  rw [hrun]
  refine (hcall W hgok).mono fun e W'' he => ?_
  cases oc with
  | ret v =>
    obtain ⟨rfl, hb⟩ := he
    have hv := hv v rfl
    exact ⟨rfl, r, fun _ _ => rfl, (flatV_ren hv).symm, flatV_ids hv, Turn.of_below hb⟩
  | pan v =>
    obtain ⟨rfl, hb⟩ := he
    exact ⟨v, rfl, rfl, hb⟩
theorem OpD_panic {x : Operand} {T : TypeId} {u : Value} (ho : o.op = .panic x) (hx : okX ts hp x) (hf : flatV (gev ts x) = true) (hg : gev ts x = .iface T u) : OpD P o ts (rst hp []) ⟨junk, [], [], [], some (.iface T u), false⟩ := by
  intro r D a W hR _ _ hlow hD _
  have h1 := evR (rs := []) hR (x := x) (by simp [ho, Op.operands]) hx hlow hD
  have h2 : a.eval x = .iface T u := by rw [h1.1, flatV_ren hf, hg]
  unfold Upon
  have : (execOp a.eval o).run P W = .halt (.panic (.iface T u)) W := by
    simp [execOp, ho, h2, Instr.panic]
  rw [this]
  exact ⟨by simp [Oper.about, ho], rfl, Below.refl _ _⟩

theorem opX_sound {C : Eff → Prop} (hGF : GFlat G) (hG : ∀ k, k < 100 → hp k = G k) (h : opX P G V yc o ts hp nk C) : ∃ e, (okp P V.Y).ok o ts yc (rst hp e.rs) e ∧ Shape hp nk e ∧ C e := by
  unfold opX at h
  split at h
  case h_1 x ho => exact ⟨_, .inl ⟨rfl, OpD_move (.inl ho) h.1⟩, .val, h.2⟩
  case h_2 x ho => exact ⟨_, .inl ⟨rfl, OpD_move (.inr ho) h.1⟩, .val, h.2⟩
  case h_3 c x y ho =>
    obtain ⟨h0, h⟩ := h
    split at h
    · rename_i b hb
      exact ⟨_, .inl ⟨rfl, OpD_pick ho h0 hb h.1 h.2.1⟩, .val, h.2.2⟩
    · exact h.elim
  case h_4 T ho =>
    split at h
    · rename_i z hz
      exact ⟨_, .inl ⟨rfl, OpD_alloc ho hz h.1 h.2.1⟩, .new, h.2.2⟩
    · exact h.elim
  case h_5 T x ho => exact ⟨_, .inl ⟨rfl, OpD_box ho h.1 h.2.1⟩, .new, h.2.2⟩
  case h_6 T x ho =>
    obtain ⟨h0, h⟩ := h
    split at h
    · rename_i k off hg
      split at h
      · rename_i b hb
        split at h
        · rename_i v hv
          exact ⟨_, .inl ⟨rfl, OpD_load ho h0 hg hb hv⟩, .val, h⟩
        · exact h.elim
      · exact h.elim
    · exact h.elim
  case h_7 T x y ho =>
    obtain ⟨h0, h0', h⟩ := h
    split at h
    · rename_i k off hg
      split at h
      · rename_i b hb
        obtain ⟨hown, h1, h2, h3, h4, h5⟩ := h
        exact ⟨_, .inl ⟨rfl, OpD_store ho h0 h0' hg hb hown h1 h2 h3⟩, .wr (by unfold dom; rw [hb]; simp) h4, h5⟩
      · exact h.elim
    · exact h.elim
  case h_8 x i ho =>
    obtain ⟨h0, h⟩ := h
    split at h
    · rename_i vs hg
      split at h
      · rename_i v hv
        exact ⟨_, .inl ⟨rfl, OpD_extract ho h0 hg hv h.1⟩, .val, h.2⟩
      · exact h.elim
    · exact h.elim
  case h_9 T x i ho =>
    obtain ⟨h0, h0', h⟩ := h
    split at h
    · rename_i kd m hgi
      split at h
      · rename_i len e hu
        split at h
        · rename_i k off hg
          obtain ⟨⟨h1, h2⟩, h⟩ := h
          split at h
          · rename_i s hs
            exact ⟨_, .inl ⟨rfl, OpD_indexA ho h0 h0' hgi hu hg h1 h2 hs⟩, .val, h⟩
          · exact h.elim
        · exact h.elim
      · rename_i e hu
        split at h
        · rename_i k off len cap hg
          obtain ⟨⟨h1, h2⟩, h⟩ := h
          split at h
          · rename_i s hs
            exact ⟨_, .inl ⟨rfl, OpD_indexS ho h0 h0' hgi hu hg h1 h2 hs⟩, .val, h⟩
          · exact h.elim
        · exact h.elim
      · exact h.elim
    · exact h.elim
  case h_10 T x i ho =>
    obtain ⟨h0, h0', h⟩ := h
    split at h
    · rename_i kd m hgi
      split at h
      · rename_i len e hu
        split at h
        · rename_i cs hg
          obtain ⟨⟨h1, h2⟩, h⟩ := h
          split at h
          · rename_i s hs
            split at h
            · rename_i v hv
              exact ⟨_, .inl ⟨rfl, OpD_index ho h0 h0' hgi hu hg h1 h2 hs hv⟩, .val, h⟩
            · exact h.elim
          · exact h.elim
        · exact h.elim
      · rename_i hu
        split at h
        · rename_i s hg
          split at h
          · rename_i b hb
            exact ⟨_, .inl ⟨rfl, OpD_indexStr ho h0 h0' hgi hu hg hb⟩, .val, h⟩
          · exact h.elim
        · exact h.elim
      · exact h.elim
    · exact h.elim
  case h_11 T x f ho =>
    obtain ⟨h0, h⟩ := h
    split at h
    · rename_i t off hf
      split at h
      · rename_i cs hg
        split at h
        · rename_i v hv
          exact ⟨_, .inl ⟨rfl, OpD_field ho h0 hf hg hv⟩, .val, h⟩
        · exact h.elim
      · exact h.elim
    · exact h.elim
  case h_12 T x f ho =>
    obtain ⟨h0, h⟩ := h
    split at h
    · rename_i t off hf
      split at h
      · rename_i k oo hg
        exact ⟨_, .inl ⟨rfl, OpD_fieldAddr ho h0 hf hg⟩, .val, h⟩
      · exact h.elim
    · exact h.elim
  case h_13 T x lo hi mx ho =>
    obtain ⟨h0, h1, h2, h3, h⟩ := h
    split at h
    · rename_i v hv
      exact ⟨_, .inl ⟨rfl, OpD_slice ho h0 h1 h2 h3 hv⟩, .val, h⟩
    · exact h.elim
  case h_14 T x ho =>
    obtain ⟨h0, h⟩ := h
    split at h
    · rename_i v hv
      exact ⟨_, .inl ⟨rfl, OpD_arr ho h0 hv⟩, .val, h⟩
    · exact h.elim
  case h_15 fn first cap ho => exact ⟨_, .inl ⟨rfl, OpD_makeFunc ho h.1 h.2.1⟩, .val, h.2.2⟩
  case h_16 T parts ho =>
    obtain ⟨h0, h⟩ := h
    split at h
    · rename_i z hz
      obtain ⟨h1, h2, h⟩ := h
      split at h
      · rename_i pl hpl
        split at h
        · rename_i cs hcs
          exact ⟨_, .inl ⟨rfl, OpD_build ho h0 hz h1 h2 (built_of_fillG hz hpl hcs)⟩, .val, h⟩
        · exact h.elim
      · exact h.elim
    · exact h.elim
  case h_17 T len parts ho =>
    obtain ⟨h0, h⟩ := h
    split at h
    · rename_i e hu
      split at h
      · rename_i m hm
        split at h
        · rename_i z hz
          obtain ⟨h1, h2, h3, h4, h⟩ := h
          split at h
          · rename_i cs hcs
            exact ⟨_, .inl ⟨rfl, OpD_buildSlice ho h0 hu hm hz h1 h2 h3 h4 hcs⟩, .new, h⟩
          · exact h.elim
        · exact h.elim
      · exact h.elim
    · exact h.elim
  case h_18 T x ho =>
    obtain ⟨h0, h1, h⟩ := h
    split at h
    · exact h.elim
    · rename_i dd hn hu
      exact ⟨_, .inl ⟨rfl, OpD_iface ho h0 h1 hu (fun ms e => hn ms e)⟩, .val, h⟩
    · exact h.elim
  case h_19 op T x y yT ho =>
    obtain ⟨h0, h1, h⟩ := h
    split at h
    · rename_i v hv
      exact ⟨_, .inl ⟨rfl, OpD_bin ho h0 h1 hv⟩, .val, h⟩
    · obtain ⟨h1, v, hv, hr, hC⟩ := h
      exact ⟨_, .inl ⟨rfl, OpD_pure (fun cs b e => by simp_all) h1 hv hr⟩, .val, hC⟩
  case h_20 op T x ho =>
    obtain ⟨h0, h⟩ := h
    split at h
    · rename_i v hv
      exact ⟨_, .inl ⟨rfl, OpD_un ho h0 hv⟩, .val, h⟩
    · exact h.elim
  case h_21 S T x ho =>
    obtain ⟨h0, h⟩ := h
    split at h
    · rename_i v hv
      exact ⟨_, .inl ⟨rfl, OpD_conv ho h0 hv⟩, .val, h⟩
    · obtain ⟨h1, v, hv, hr, hC⟩ := h
      exact ⟨_, .inl ⟨rfl, OpD_pure (fun cs b e => by simp_all) h1 hv hr⟩, .val, hC⟩
  case h_22 c ho =>
    unfold callX at h
    split at h
    · rename_i f hc
      obtain ⟨h1, h⟩ := h
      unfold calleeX at h
      split at h
      · rename_i g first cap hgf
        obtain ⟨h2, h4, h⟩ := h
        split at h
        · rename_i hcond
          split at h
          · obtain ⟨oc, h5, h6⟩ := h
            refine ⟨_, .inl ⟨by cases oc <;> rfl, RetP_call hGF hG ho hc (okT_okX h1) hgf h2 hcond.1 h4 h5⟩, ?_, h6⟩
            cases oc <;> exact ⟨by simp [Out.eff, val, keys], by simp [Out.eff, val, keys], by simp [Out.eff, val]⟩
          · obtain ⟨v, h5, h6⟩ := h
            exact ⟨_, .inl ⟨rfl, OpD_call hGF hG ho hc (okT_okX h1) hgf h2 hcond.1 h4 h5⟩, .val, h6⟩
        · obtain ⟨h3, hp', rs, res, hq1, hq2, h5, hat, h6⟩ := h
          replace h5 := h5.under (hp := hp) fun k hk => hk.elim (fun hk => (hq2 k hk).trans (hG k hk).symm) (fun hk => hq1 k hk)
          have hfit := h5.fits
          refine ⟨res.eff rs, .inl ⟨by cases res <;> rfl, OpD_fun hGF hG ho hc h1 hgf h2 h3 h4 h5⟩, ?_, h6⟩
          cases res with
          | ret v ws => exact ⟨fun k hk => hfit.2.1 k hk, by simp [Res.eff, keys], fun k b c hb hc => hfit.2.2.1 k b c (by simpa [Res.eff] using hb) (by simpa [Res.eff] using hc)⟩
          | pan v => exact ⟨by simp [Res.eff, keys], by simp [Res.eff, keys], by simp [Res.eff]⟩
          | new v ns => exact ⟨by simp [Res.eff, keys], hat, fun k b c hb hc => hfit.2.2 k b c (by simpa [Res.eff] using hb) (by simpa [Res.eff] using hc)⟩
      · rename_i l first cap hgf
        obtain ⟨h2, h3, h4, h⟩ := h
        obtain rfl : first = #[] := by cases first; simpa using h2
        obtain rfl : cap = #[] := by cases cap; simpa using h3
        unfold yieldK at h
        split at h
        · rename_i y hy
          obtain ⟨rfl, h5, h6, h7⟩ := h
          obtain ⟨callee, args, T⟩ := c
          simp only at hc
          subst hc
          refine ⟨_, .inr ⟨by unfold yEff; split <;> rfl, y, f, args, T, hy, ho, h1, h4, hgf, h5, h6, rfl⟩, ?_, h7⟩
          unfold yEff
          split <;> exact ⟨by simp [keys], by simp [keys], by simp⟩
        · exact h.elim
      · exact h.elim
    · rename_i hnv
      obtain ⟨h1, h⟩ := h
      split at h
      · rename_i v hv
        exact ⟨_, .inl ⟨rfl, OpD_built ho h1 hv⟩, .val, h⟩
      · exact h.elim
  case h_23 x ho =>
    obtain ⟨h0, h1, h⟩ := h
    split at h
    · rename_i T u hg
      exact ⟨_, .inl ⟨rfl, OpD_panic ho h0 h1 hg⟩, ⟨by simp [keys], by simp [keys], by simp⟩, h⟩
    · exact h.elim
  case h_24 T y ho => exact ⟨_, .inl ⟨rfl, OpD_makeMap ho h.1⟩, .new, h.2⟩
  case h_25 T m k x ho =>
    obtain ⟨h0, h1, h2, h3, h4, h⟩ := h
    unfold insX at h
    split at h
    · rename_i q hq
      split at h
      · rename_i s hs
        unfold insX1 at h
        split at h
        · rename_i l hl
          obtain ⟨b, hb, hml⟩ := Option.bind_eq_some_iff.1 hl
          obtain rfl := mpOf_inv hml
          exact ⟨_, .inl ⟨rfl, OpD_insert ho h0 h1 h2 h3 h4 hq hs hb h.1⟩, .wr (by unfold dom; rw [hb]; simp) h.2.1, h.2.2⟩
        · exact h.elim
      · exact h.elim
    · exact h.elim
  case h_26 T x i ok ho =>
    obtain ⟨h0, h1, h2, h3, h⟩ := h
    subst h2
    unfold lkX at h
    split at h
    · rename_i q hq
      split at h
      · rename_i s hs
        unfold lkX1 at h
        split at h
        · rename_i l hl
          obtain ⟨b, hb, hml⟩ := Option.bind_eq_some_iff.1 hl
          obtain rfl := mpOf_inv hml
          split at h
          · rename_i v hv
            exact ⟨_, .inl ⟨rfl, OpD_lookup ho h0 h1 h3 hq hs hb hv h.1⟩, .val, h.2⟩
          · exact h.elim
        · exact h.elim
      · exact h.elim
    · exact h.elim
  case h_27 cs b ho => exact h.elim
  case h_28 hns =>
    obtain ⟨h1, v, hv, hr, hC⟩ := h
    exact ⟨_, .inl ⟨rfl, OpD_pure (fun cs b e => by simp_all) h1 hv hr⟩, .val, hC⟩

theorem meets {C : Ctx} {n : Nat} {d : List Deferred} {ro : Option Nat} (hGF : GFlat C.G) (hR : ∀ y, C.Y = some y → Rounds P C.G C.E y) : Meets P C n d ro (okp P C.Y) := by
  intro o e ts hp yc r a W m next Q h hd hok hws hns hn hp'
  rcases hok with ⟨h1, h2⟩ | ⟨h1, y, f, args, T, h2, h3, h4, h5, h6, h7, h8, rfl⟩
  · rw [h1] at hn
    exact step_eff h hd h2 hws hns hn (fun pv W' hpn hi => hp' pv W' yc hpn hi)
  · have evT : ∀ {x : Operand}, okT ts x → flatV (gev ts x) = true → a.eval x = gev ts x := fun {x} hk hf => by
      cases x with
      | tmp t =>
        have := ((h.rel t).resolve_left (nj_ne hk)).1
        rw [flatV_ren (by exact hf)] at this
        exact this
      | const v => rfl
      | func f => rfl
      | global g => exact hk.elim
    have hfv : a.eval f = .func (.yield y.l) #[] #[] := by rw [evT h4 (by rw [h6]; simp [flatV, flatA, flatF]), h6]
    have hargs : args.map a.eval = args.map (gev ts) := Array.map_congr_left fun x hx => evT (h5 x (by simpa using hx)).1 (h5 x (by simpa using hx)).2
    obtain ⟨S, ms, hX, hS1, hS2, hd1, hd2⟩ := h.ext
    have gsame : ∀ {W' : World}, GOK C.G W' → ∀ k b, k < 100 → hp k = some b → W'.heap[r k]? = some (b.obj r) := fun {W'} hg k b hk hb => by
      have e1 : r k = k := h.low k hk (by unfold dom; rw [hb]; simp)
      have e2 : C.G k = some b := by rw [← h.glob k hk]; exact hb
      rw [e1, hg k b e2]
      rw [Blk.obj_flat (fun x hx => (hGF k b e2).2 x hx)]
    have hgok : GOK C.G W := fun k b hk => by
      obtain ⟨hlt, hfl⟩ := hGF k b hk
      have hb : hp k = some b := (h.glob k hlt).trans hk
      have h9 := (h.sat k b hb).1
      rw [h.low k hlt (by unfold dom; rw [hb]; simp)] at h9
      rw [h9]
      rw [Blk.obj_flat (fun x hx => hfl x hx)]
    obtain ⟨fn, tmps, assign, body, hy, hround⟩ := hR y h2 yc _ S W hgok h8 h7 hX hS1
    have hrun : (execOp a.eval o).run P W = .ok (.round y.l fn tmps assign body) W := by
      simp [execOp, h3, resolve, hfv, Deferred.ofValue, invoke, hargs, hy]
    refine ⟨about_ok hrun, ?_⟩
    have e : (Fw P ro).round = ro := rfl
    rw [e, Oper.semAt_eq ro a.eval o hd.2, hrun]
    refine ⟨fun h => (by cases h), ?_⟩
    have hround' : RoundIn (Fw P ro) (m - 1) P _ _ _ _ _ _ _ := ⟨hround.1, fun c cs _ => hround.2 c cs (room_Fs P _)⟩
    refine RoundIn.mono hround' ?_
    rintro e' W' ⟨hend, hgok', hsz, hsame, S', hX', hS1', hS2'⟩
    have base : RI C n d r ts hp (yc + 1) a W' :=
      { h with
        sat := fun k b hk => by
          have hdk : dom hp k := by unfold dom; rw [hk]; simp
          have := h.sat k b hk
          refine ⟨?_, this.2⟩
          by_cases hk1 : k < 100
          · exact gsame hgok' k b hk1 hk
          · exact (hsame _ (h.lt hdk) (hS2 k hdk (by omega))).trans this.1
        ext := ⟨S', ms, hX', hS1', fun i hi h1i hS => hS2 i hi h1i (hS2' _ hS (h.lt hi)), hd1, fun D hD => by
          have hlt := (Array.getElem?_eq_some_iff.1 (hd2 D hD).1).1
          exact ⟨(hsame D hlt (hd2 D hD).2.1).trans (hd2 D hD).1, fun hS => (hd2 D hD).2.1 (hS2' D hS hlt), (hd2 D hD).2.2⟩⟩ }
    have heff : yEff y yc = match y.pan yc with
      | none => ⟨.bool (yc != y.stop), [], [], [], none, true⟩
      | some pv => ⟨junk, [], [], [], some pv, true⟩ := rfl
    cases hpn : y.pan yc with
    | none =>
      rw [hpn] at hend heff
      simp only at hend heff
      subst hend
      refine hn r _ W' (by rw [heff]) ?_
      have := base.put hd.1 (v := .bool (yc != y.stop)) (by trivial)
      rw [heff]
      simpa [ren, renA, renF, ren0, updL] using this
    | some pv =>
      rw [hpn] at hend heff
      simp only at hend heff
      subst hend
      exact hp' pv W' (yc + 1) (by rw [heff]) base

end

abbrev Tr := List (Nat × List Nat × List Nat)
def disj (xs ys : List Nat) : Bool := xs.all fun x => !ys.contains x
def chk (md : Region.Mode) (ops : Array Oper) : Tr → Bool
  | [] => true
  | (i, rd, wr) :: tl => (tl.all fun q => (disj rd q.2.2 && disj wr q.2.1) || waitsB md ops i q.1) && chk md ops tl
def tcons (k : Nat) (rd wr : List Nat) (tr : Tr) : Tr :=
  match rd with
  | [] => match wr with
    | [] => tr
    | _ :: _ => (k, rd, wr) :: tr
  | _ :: _ => (k, rd, wr) :: tr

def lexX (P : Program) (G : Hp) (V : XV) (ops : Array Oper) (base : Nat) (Q : (Nat → Value) → Hp → Tr → Nat → Prop) (Qp : Value → Tr → Prop) : Nat → List Oper → (Nat → Value) → Hp → Tr → Nat → Bool → Bool → Prop
  | _, [], ts, hp, tr, yc, _, _ => Q ts hp tr yc
  | k, o :: rest, ts, hp, tr, yc, wr, yd => match wantedG ops o ts with
    | some true => opX P G V yc o ts hp (base + 8 * k) fun e => (e.yl = true → yd = false) ∧ match e.pan with
      | none => lexX P G V ops base Q Qp (k + 1) rest (putT ts o.dst e.v) (updL hp (e.ws ++ e.ns)) (tcons k (e.rs ++ keys e.ns) (keys e.ws ++ keys e.ns) tr) (if e.yl then yc + 1 else yc) (wr || !e.ws.isEmpty) (yd || e.yl)
      | some pv => (V.dr = true → rest = []) ∧ (wr || !e.ws.isEmpty) = false ∧ Qp pv (tcons k (e.rs ++ keys e.ns) (keys e.ws ++ keys e.ns) tr)
    | some false => unD o ts ∧ lexX P G V ops base Q Qp (k + 1) rest (putT ts o.dst undef) hp tr yc wr yd
    | none => False

theorem tcons_eq (k : Nat) (rd wr : List Nat) (tr : Tr) : tcons k rd wr tr = (k, rd, wr) :: tr ∨ (rd = [] ∧ wr = [] ∧ tcons k rd wr tr = tr) := by
  cases rd with
  | nil => cases wr with
    | nil => exact .inr ⟨rfl, rfl, rfl⟩
    | cons => exact .inl rfl
  | cons => exact .inl rfl

theorem chk_tcons {md : Region.Mode} {ops : Array Oper} {k : Nat} {rd wr : List Nat} {tr : Tr} (h : chk md ops (tcons k rd wr tr) = true) :
    chk md ops tr = true ∧ ∀ q ∈ tr, ((∀ x ∈ rd, x ∉ q.2.2) ∧ (∀ x ∈ wr, x ∉ q.2.1)) ∨ waitsB md ops k q.1 = true := by
  rcases tcons_eq k rd wr tr with e | ⟨h1, h2, e⟩
  · rw [e] at h
    simp only [chk, Bool.and_eq_true, List.all_eq_true, Bool.or_eq_true] at h
    refine ⟨h.2, fun q hq => (h.1 q hq).imp (fun h => ⟨fun x hx => ?_, fun x hx => ?_⟩) id⟩
    · have := List.all_eq_true.1 h.1 x hx; simpa using this
    · have := List.all_eq_true.1 h.2 x hx; simpa using this
  · rw [e] at h; subst h1; subst h2
    exact ⟨h, fun q _ => .inl ⟨fun x hx => (by cases hx), fun x hx => (by cases hx)⟩⟩

section
variable {P : Program} {G : Hp} {V : XV}

def LogIn (lg : Nat → List Nat × List Nat) (tr : Tr) : Prop :=
  ∀ j, lg j = ([], []) ∨ ∃ rd wr, (j, rd, wr) ∈ tr ∧ (∀ x ∈ (lg j).1, x ∈ rd) ∧ (∀ x ∈ (lg j).2, x ∈ wr)

theorem LogIn.step {lg : Nat → List Nat × List Nat} {tr : Tr} (h : LogIn lg tr) (k : Nat) (e : Eff) : LogIn (upd lg k (e.rs, keys e.ws ++ keys e.ns)) (tcons k (e.rs ++ keys e.ns) (keys e.ws ++ keys e.ns) tr) := by
  intro j
  rcases tcons_eq k (e.rs ++ keys e.ns) (keys e.ws ++ keys e.ns) tr with e1 | ⟨h1, h2, e1⟩
  · rw [e1]
    by_cases hj : j = k
    · subst hj
      rw [upd_same]
      exact .inr ⟨_, _, List.mem_cons_self .., fun x hx => List.mem_append_left _ hx, fun x hx => hx⟩
    · rw [upd_other _ _ hj]
      exact (h j).imp id fun ⟨rd, wr, hm, a, b⟩ => ⟨rd, wr, List.mem_cons_of_mem _ hm, a, b⟩
  · rw [e1]
    by_cases hj : j = k
    · subst hj
      rw [upd_same]
      have : e.rs = [] := (List.append_eq_nil_iff.1 h1).1
      exact .inl (by rw [this, h2])
    · rw [upd_other _ _ hj]; exact h j

theorem lexX_chk {ops : Array Oper} {base : Nat} {K : (Nat → Value) → Hp → Nat → Prop} {Kp : Value → Prop} (hGF : GFlat G) (hb : 100 ≤ base) : ∀ (l : List Oper) (k : Nat) (ts : Nat → Value) (hp : Hp) (tr : Tr) (yc : Nat) (wr yd : Bool), (∀ x, x < 100 → hp x = G x) →
    lexX P G V ops base (fun ts hp tr yc => chk .any ops tr = true ∧ K ts hp yc) (fun pv tr => chk .any ops tr = true ∧ Kp pv) k l ts hp tr yc wr yd → chk .any ops tr = true
  | [], _, _, _, _, _, _, _, _, h => h.1
  | o :: l, k, ts, hp, tr, yc, wr, yd, hG, h => by
    simp only [lexX] at h
    split at h
    · obtain ⟨e, _, hs, _, h3⟩ := opX_sound hGF hG h
      split at h3
      · refine (chk_tcons (lexX_chk hGF hb l _ _ _ _ _ _ _ (fun x hx => ?_) h3)).1
        rw [updL_other (fun hm => ?_)]
        · exact hG x hx
        · have : x ∈ keys e.ws ∨ x ∈ keys e.ns := by simpa [keys] using hm
          rcases this with h | h
          · have := (hs.ws x h).2.2; omega
          · have := hs.ns x h; omega
      · exact (chk_tcons h3.2.2.1).1
    · exact lexX_chk hGF hb l _ _ _ _ _ _ _ hG h.2
    · exact h.elim

def endK (Kn : (Nat → Value) → Hp → Nat → Prop) (Kp : Value → Prop) (B : Nat) (s : St) : Prop :=
  (s.pn = none → Kn s.ts s.hp s.yc ∧ ∀ x, B ≤ x → s.hp x = none) ∧ ∀ pv, s.pn = some pv → s.wr = false ∧ Kp pv

theorem lexX_sound {ops : Array Oper} {base : Nat} {K : (Nat → Value) → Hp → Nat → Prop} {Kp : Value → Prop} (hGF : GFlat G) (hb : 100 ≤ base) (hdr : V.dr = true) : ∀ (l : List Oper) (k : Nat) (ts : Nat → Value) (hp : Hp) (tr : Tr) (yc : Nat) (wr yd : Bool) (lg : Nat → List Nat × List Nat), (∀ x, x < 100 → hp x = G x) →
    (∀ x, base + 8 * k ≤ x → hp x = none) → LogIn lg tr → (∀ j, k ≤ j → lg j = ([], [])) → (∀ o ∈ l, unC P o) →
    lexX P G V ops base (fun ts hp tr yc => chk .any ops tr = true ∧ K ts hp yc) (fun pv tr => chk .any ops tr = true ∧ Kp pv) k l ts hp tr yc wr yd →
    wpLex (okp P V.Y) .any ops base (endK K Kp (base + 8 * (k + l.length))) k l ⟨ts, hp, lg, yc, yd, none, wr⟩
  | [], k, ts, hp, tr, yc, wr, yd, lg, hG, hn, hl, hz, hu, h => ⟨fun _ => ⟨h.2, by simpa using hn⟩, fun _ h => (by cases h)⟩
  | o :: l, k, ts, hp, tr, yc, wr, yd, lg, hG, hn, hl, hz, hu, h => by
    have hlen : k + (o :: l).length = (k + 1) + l.length := by simp; omega
    rw [hlen]
    simp only [lexX] at h
    simp only [wpLex]
    cases hw : wantedG ops o ts with
    | none => rw [hw] at h; exact h.elim
    | some b =>
      rw [hw] at h
      cases b with
      | true =>
        simp only at h ⊢
        obtain ⟨e, h1, hs, hyd, h3⟩ := opX_sound hGF hG h
        have big : ∀ x ∈ keys (e.ws ++ e.ns), 100 ≤ x := fun x hm => by
          have : x ∈ keys e.ws ∨ x ∈ keys e.ns := by simpa [keys] using hm
          rcases this with h | h
          · exact (hs.ws x h).2.2
          · have := hs.ns x h; omega
        have hG' : ∀ x, x < 100 → updL hp (e.ws ++ e.ns) x = G x := fun x hx => by
          rw [updL_other (fun hm => by have := big x hm; omega)]; exact hG x hx
        have hn' : ∀ x, base + 8 * (k + 1) ≤ x → updL hp (e.ws ++ e.ns) x = none := fun x hx => by
          rw [updL_other (fun hm => ?_)]
          · exact hn x (by omega)
          · have : x ∈ keys e.ws ∨ x ∈ keys e.ns := by simpa [keys] using hm
            rcases this with h | h
            · exact (hs.ws x h).2.1 (hn x (by omega))
            · have := hs.ns x h; omega
        have fits : chk .any ops (tcons k (e.rs ++ keys e.ns) (keys e.ws ++ keys e.ns) tr) = true → Fits .any ops base k ⟨ts, hp, lg, yc, yd, none, wr⟩ e := fun hc => by
          have hc := chk_tcons hc
          refine ⟨hs.ws, fun x hx => ?_, fun x hx => ?_, hs.once, fun j hj => ?_, hz k (Nat.le_refl _), fun _ => rfl, hyd⟩
          · have := hs.ns x hx; omega
          · have := hs.ns x hx; exact hn x (by omega)
          · rcases hl j with h0 | ⟨rd, wr, hm, a, b⟩
            · simp only [h0]; exact ⟨fun _ _ h => (by cases h), fun _ _ h => (by cases h)⟩
            · rcases hc.2 _ hm with ⟨c1, c2⟩ | c
              · exact ⟨fun x hx hm => c1 x hx (b x hm), fun x hx hm => c2 x hx (a x hm)⟩
              · rw [hj] at c; cases c
        cases hpn : e.pan with
        | none =>
          rw [hpn] at h3
          simp only at h3
          refine ⟨e, h1, fits (lexX_chk hGF hb l _ _ _ _ _ _ _ hG' h3), ?_⟩
          have := lexX_sound hGF hb hdr l (k + 1) _ _ _ _ _ _ _ hG' hn' (hl.step k e) (fun j hj => by rw [upd_other _ _ (by omega)]; exact hz j (by omega)) (fun o ho => hu o (List.mem_cons_of_mem _ ho)) h3
          simpa [St.after, hpn] using this
        | some pv =>
          rw [hpn] at h3
          obtain ⟨hrest, hwr, hch, hkp⟩ := h3
          obtain rfl := hrest hdr
          refine ⟨e, h1, fits hch, ?_⟩
          simp only [wpLex, St.after, hpn]
          refine ⟨fun h => ?_, fun pv' h => ?_⟩
          · simp at h
          · simp at h; subst h; exact ⟨hwr, hkp⟩
      | false =>
        simp only at h ⊢
        exact ⟨⟨h.1, hu o (by simp)⟩, lexX_sound hGF hb hdr l (k + 1) _ _ _ _ _ _ _ hG (fun x hx => hn x (by omega)) hl (fun j hj => hz j (by omega)) (fun o ho => hu o (List.mem_cons_of_mem _ ho)) h.2⟩

def unOk (P : Program) (ops : List Oper) : Bool := ops.all fun o => match o.op with
  | .call c => match c.callee with
    | .value (.func f) => decide (f < P.funcs.size)
    | _ => true
  | _ => true
theorem unOk_spec {ops : List Oper} (h : unOk P ops = true) : ∀ o ∈ ops, unC P o := fun o ho => by
  have := List.all_eq_true.1 h o ho
  unfold unC
  split
  · rename_i c hc
    simp only [hc] at this
    split
    · rename_i f hcc
      simp only [hcc, decide_eq_true_eq] at this
      exact ⟨_, Array.getElem?_eq_getElem this⟩
    · trivial
  · trivial

structure GS where
  ts : Nat → Value
  hp : Hp
  B : Nat
  yc : Nat

structure GI (P : Program) (C : Ctx) (n : Nat) (d : List Deferred) (r : Nat → Nat) (s : GS) (a : Act) (W : World) : Prop where
  ri : RI C n d r s.ts s.hp s.yc a W
  free : ∀ x, s.B ≤ x → s.hp x = none
  low : 100 ≤ s.B
  flat : GFlat C.G
  rounds : ∀ y, C.Y = some y → Rounds P C.G C.E y

def GW (P : Program) (C : Ctx) (n : Nat) (d : List Deferred) (ro : Option Nat) (c : Code) (s : GS) (K : Exit → GS → Prop) : Prop :=
  ∀ r a W, GI P C n d r s a W → c.wpIn (Fw P ro) 0 P (fun e a' W' => ∃ s' r', K e s' ∧ GI P C n d r' s' a' W') a W

variable {C : Ctx} {n : Nat} {d : List Deferred} {ro : Option Nat} {s : GS} {K : Exit → GS → Prop} {yc : Nat}

def thenG (next : GS → Prop) (K : Exit → GS → Prop) : Exit → GS → Prop
  | .normal, s => next s
  | e, s => K e s

theorem GW_mono {c : Code} {K' : Exit → GS → Prop} (h : GW P C n d ro c s K) (hk : ∀ e s, K e s → K' e s) : GW P C n d ro c s K' :=
  fun r a W hi => wpIn_mono (h r a W hi) fun _ _ _ ⟨s', r', k, i⟩ => ⟨s', r', hk _ _ k, i⟩

theorem GW_seq {x y : Code} (h : GW P C n d ro x s (thenG (fun s' => GW P C n d ro y s' K) K)) : GW P C n d ro (.seq x y) s K := by
  intro r a W hi
  refine wpIn_seq (wpIn_mono (h r a W hi) ?_)
  rintro e a' W' ⟨s', r', k, i⟩
  cases e with
  | normal => exact k r' a' W' i
  | _ => exact ⟨s', r', k, i⟩

theorem GW_skip (h : K .normal s) : GW P C n d ro .skip s K := fun r _ _ hi => wpIn_skip ⟨s, r, h, hi⟩
theorem GW_ret (h : K .ret s) : GW P C n d ro .ret s K := fun r _ _ hi => wpIn_ret ⟨s, r, h, hi⟩
theorem GW_exit {id : Nat} (h : K (.exit id) s) : GW P C n d ro (.exit id) s K := fun r _ _ hi => wpIn_exit ⟨s, r, h, hi⟩
theorem GW_goto {id : Nat} (h : K (.goto id) s) : GW P C n d ro (.goto id) s K := fun r _ _ hi => wpIn_goto ⟨s, r, h, hi⟩
theorem GW_label {id : Nat} (h : K .normal s) : GW P C n d ro (.label id) s K := fun r _ _ hi => wpIn_label ⟨s, r, h, hi⟩

theorem GW_cond {t : Tmp} {x y : Code} {b : Bool} (hb : s.ts t = .bool b) (ht : b = true → GW P C n d ro x s K) (hf : b = false → GW P C n d ro y s K) : GW P C n d ro (.cond (.tmp t) x y) s K := by
  intro r a W hi
  have he : a.eval (.tmp t) = .bool b := by
    have := (hi.ri.rel t).resolve_left (by rw [hb]; simp [junk])
    rw [hb] at this
    exact this.1
  exact wpIn_cond_split he (fun h => ht h r a W hi) (fun h => hf h r a W hi)

def blockG (id : Nat) (K : Exit → GS → Prop) : Exit → GS → Prop
  | .exit id', s => if id' = id then K .normal s else K (.exit id') s
  | e, s => K e s

theorem GW_block {id : Nat} {c : Code} (h : GW P C n d ro c s (blockG id K)) : GW P C n d ro (.block id c) s K := by
  intro r a W hi
  refine wpIn_block (wpIn_mono (h r a W hi) ?_)
  rintro e a' W' ⟨s', r', k, i⟩
  cases e with
  | exit id' =>
    simp only [Exit.inBlock, blockG] at k ⊢
    split
    · rename_i h; rw [if_pos h] at k; exact ⟨s', r', k, i⟩
    · rename_i h; rw [if_neg h] at k; exact ⟨s', r', k, i⟩
  | _ => exact ⟨s', r', k, i⟩

structure Weak (C : Ctx) (s s' : GS) : Prop where
  ts : ∀ t, s'.ts t = junk ∨ (s'.ts t = s.ts t ∧ idsV (dom s'.hp) (s'.ts t))
  hp : ∀ k, 100 ≤ k → s'.hp k = none ∨ s'.hp k = s.hp k
  ids : ∀ k b, s'.hp k = some b → b.ids (dom s'.hp)
  keep : ∀ k, 100 ≤ k → dom C.hp0 k → s'.hp k = s.hp k
  glob : ∀ k, k < 100 → s'.hp k = C.G k
  yc : s'.yc = s.yc
  free : ∀ x, s'.B ≤ x → s'.hp x = none
  low : 100 ≤ s'.B

theorem GI.weak {r : Nat → Nat} {a : Act} {W : World} {s' : GS} (h : GI P C n d r s a W) (hw : Weak C s s') : GI P C n d r s' a W := by
  have hhp : ∀ k, s'.hp k = none ∨ s'.hp k = s.hp k := fun k => by
    by_cases hk : 100 ≤ k
    · exact hw.hp k hk
    · exact .inr ((hw.glob k (by omega)).trans (h.ri.glob k (by omega)).symm)
  have sub : ∀ k, dom s'.hp k → dom s.hp k := fun k hk => by
    rcases hhp k with h | h
    · exact absurd h hk
    · unfold dom at *; rwa [← h]
  refine ⟨{ h.ri with rel := fun t => ?_, sat := fun k b hb => ?_, inj := fun k l hk hl => h.ri.inj k l (sub k hk) (sub l hl), ext := ?_, keep := fun i hi => ?_, glob := hw.glob, low := fun k hk hd => h.ri.low k hk (sub k hd) }, hw.free, hw.low, h.flat, h.rounds⟩
  · rcases hw.ts t with e | ⟨e, hi⟩
    · exact .inl e
    · rcases h.ri.rel t with e' | e'
      · exact .inl (e.trans e')
      · exact .inr ⟨by rw [e]; exact e'.1, hi⟩
  · rcases hhp k with e | e
    · rw [e] at hb; cases hb
    · exact ⟨(h.ri.sat k b (by rw [← e]; exact hb)).1, hw.ids k b hb⟩
  · obtain ⟨S, ms, h1, h2, h3, h4⟩ := h.ri.ext
    exact ⟨S, ms, by rw [hw.yc]; exact h1, h2, fun i hi => h3 i (sub i hi), h4⟩
  · have := h.ri.keep i hi
    exact ⟨by unfold dom; rw [show s'.hp i = s.hp i by
      by_cases h1 : 100 ≤ i
      · exact hw.keep i h1 hi
      · exact (hw.glob i (by omega)).trans (h.ri.glob i (by omega)).symm]; exact this.1, this.2⟩

theorem GW_weak {c : Code} {s' : GS} (hw : Weak C s s') (h : GW P C n d ro c s' K) : GW P C n d ro c s K :=
  fun r a W hi => h r a W (hi.weak hw)

theorem GW_loop {c : Code} (I : Nat → GS → Prop) {m0 : Nat} {s0 : GS} (hw : Weak C s s0) (h0 : I m0 s0)
    (round : ∀ m s, I m s → GW P C n d ro c s (thenG (fun s' => ∃ s'' m', Weak C s' s'' ∧ I m' s'' ∧ m' < m) K)) : GW P C n d ro (.loop c) s K := by
  have key : ∀ (m : Nat) (s : GS), I m s → ∀ r a W, GI P C n d r s a W → ∀ (b : Frame) (k : List Item) (cs : List Frame), b.roundOf = ro →
      (Fs P).fn b.fn → ∃ e a' w', (∃ s' r', K e s' ∧ GI P C n d r' s' a' w') ∧ ArrivesIn (Machine.fenced P (Fw P ro)) P (lone (b.atR a (.code c :: .inLoop c :: k)) cs W) b k cs e a' w' := by
    intro m
    induction m using Nat.strongRecOn with
    | _ m ih =>
      intro s hI r a W hi b k cs hro hfn
      obtain ⟨e, a₁, w₁, ⟨s', r', hk, hi'⟩, harr⟩ := round m s hI r a W hi b (.inLoop c :: k) cs hro hfn (room_Fs P _)
      cases e with
      | normal =>
        obtain ⟨s'', m', hw'', hI'', hlt⟩ := hk
        obtain ⟨e₂, a₂, w₂, hq₂, harr₂⟩ := ih m' hlt s'' hI'' r' a₁ w₁ (hi'.weak hw'') b k cs hro hfn
        exact ⟨e₂, a₂, w₂, hq₂, .of_steps (StepsIn.trans harr (.one (fenced_calm (F := Fw P ro) (n := 0) hfn (room_Fs P _) rfl) stepR_inLoop)) harr₂⟩
      | exit id => exact ⟨_, a₁, w₁, ⟨s', r', hk, hi'⟩, .pass (x := .inLoop c) rfl (fun _ _ => .inl (by simp)) harr⟩
      | goto l => exact ⟨_, a₁, w₁, ⟨s', r', hk, hi'⟩, .pass (x := .inLoop c) rfl (fun _ _ => .inl (by simp)) harr⟩
      | ret => exact ⟨_, a₁, w₁, ⟨s', r', hk, hi'⟩, .pass (x := .inLoop c) rfl (fun _ _ => .inl (by simp)) harr⟩
      | panic ch => exact ⟨_, a₁, w₁, ⟨s', r', hk, hi'⟩, .pass (x := .inLoop c) rfl (fun _ _ => .inl (by simp)) harr⟩
      | outgrown => exact ⟨_, a₁, w₁, ⟨s', r', hk, hi'⟩, .pass (x := .inLoop c) rfl (fun _ _ => .inl (by simp)) harr⟩
  intro r a W hi b k cs hro hb hr
  obtain ⟨e, a', w', hq, harr⟩ := key m0 s0 h0 r a W (hi.weak hw) b k cs hro hb
  exact ⟨e, a', w', hq, .of_steps (.one (fenced_calm hb hr rfl) stepR_loop) harr⟩

theorem GW_for {c : Code} (N : Nat) (St : Nat → GS) (hw : Weak C s (St 0)) (round : ∀ i, i < N → GW P C n d ro c (St i) (thenG (fun s' => Weak C s' (St (i + 1))) K))
    (last : GW P C n d ro c (St N) (thenG (fun _ => False) K)) : GW P C n d ro (.loop c) s K := by
  refine GW_loop (m0 := N) (fun m s => ∃ i, i + m = N ∧ s = St i) hw ⟨0, by omega, rfl⟩ ?_
  rintro m _ ⟨i, hi, rfl⟩
  cases m with
  | zero =>
    obtain rfl : i = N := by omega
    refine GW_mono last fun e s h => ?_
    cases e <;> first | exact h | exact h.elim
  | succ m =>
    refine GW_mono (round i (by omega)) fun e s h => ?_
    cases e <;> first | exact h | exact ⟨St (i + 1), m, h, ⟨i + 1, by omega, rfl⟩, by omega⟩

theorem stepR_scope {b : Frame} {a : Act} {c : Code} {k : List Item} {cs : List Frame} {w : World} : step P (lone (b.atR a (.code (.scope c) :: k)) cs w) = .next (lone (b.atR a (.code c :: .inScope c :: k)) cs w) := by
  exact step_lone_go (by simp [stepG, stepG.exec, Frame.atR])
theorem stepR_inScope {b : Frame} {a : Act} {c : Code} {k : List Item} {cs : List Frame} {w : World} : step P (lone (b.atR a (.inScope c :: k)) cs w) = .next (lone (b.atR a k) cs w) := by
  exact step_lone_go (by simp [stepG, stepG.exec, Frame.atR])
def jumpG (l : Nat) (J : GS → Prop) (K : Exit → GS → Prop) : Exit → GS → Prop
  | .goto l', s => l' = l ∧ J s
  | e, s => K e s
theorem GW_scope {c rest : Code} (l : Nat) (I : Nat → GS → Prop) (hfl : findLabel c l = some rest) (first : GW P C n d ro c s (jumpG l (fun s' => ∃ s'' m', Weak C s' s'' ∧ I m' s'') K))
    (pass : ∀ m s, I m s → GW P C n d ro rest s (jumpG l (fun s' => ∃ s'' m', Weak C s' s'' ∧ I m' s'' ∧ m' < m) K)) : GW P C n d ro (.scope c) s K := by
  intro r a W hi b k cs hro hb hr
  have hg : gotoIn l (.inScope c :: k) = some (.code rest :: .inScope c :: k) := by simp [gotoIn, hfl]
  have sIn : ∀ {a W}, StepsIn (Machine.fenced P (Fw P ro)) P (lone (b.atR a (.inScope c :: k)) cs W) (lone (b.atR a k) cs W) := fun {a W} =>
    .one (fenced_calm (F := Fw P ro) (n := 0) hb (room_Fs P _) rfl) stepR_inScope
  have s0 : StepsIn (Machine.fenced P (Fw P ro)) P (lone (b.atR a (.code (.scope c) :: k)) cs W) (lone (b.atR a (.code c :: .inScope c :: k)) cs W) :=
    .one (fenced_calm (F := Fw P ro) (n := 0) hb (room_Fs P _) rfl) stepR_scope
  have key : ∀ (m : Nat) (s : GS), I m s → ∀ r a W, GI P C n d r s a W →
      ∃ e a' w', (∃ s' r', K e s' ∧ GI P C n d r' s' a' w') ∧ ArrivesIn (Machine.fenced P (Fw P ro)) P (lone (b.atR a (.code rest :: .inScope c :: k)) cs W) b k cs e a' w' := by
    intro m
    induction m using Nat.strongRecOn with
    | _ m ih =>
      intro s hI r a W hi
      obtain ⟨e, a₁, w₁, ⟨s', r', hk, hi'⟩, harr⟩ := pass m s hI r a W hi b (.inScope c :: k) cs hro hb hr
      cases e with
      | normal => exact ⟨.normal, a₁, w₁, ⟨s', r', hk, hi'⟩, StepsIn.trans harr sIn⟩
      | goto l' =>
        obtain ⟨rfl, s'', m', hw, hI', hlt⟩ := hk
        obtain ⟨e₂, a₂, w₂, hq₂, harr₂⟩ := ih m' hlt s'' hI' r' a₁ w₁ (hi'.weak hw)
        exact ⟨e₂, a₂, w₂, hq₂, .of_steps (harr.1 _ hg) harr₂⟩
      | exit id => exact ⟨_, a₁, w₁, ⟨s', r', hk, hi'⟩, fun k' hk => harr.1 k' (by simp [exitTo, hk]), fun hr' hk => harr.2 hr' (by simpa [exitTo] using hk)⟩
      | ret => exact ⟨_, a₁, w₁, ⟨s', r', hk, hi'⟩, harr⟩
      | panic ch => exact ⟨_, a₁, w₁, ⟨s', r', hk, hi'⟩, harr⟩
      | outgrown => exact ⟨_, a₁, w₁, ⟨s', r', hk, hi'⟩, harr⟩
  obtain ⟨e, a₁, w₁, ⟨s', r', hk, hi'⟩, harr⟩ := first r a W hi b (.inScope c :: k) cs hro hb hr
  cases e with
  | normal => exact ⟨.normal, a₁, w₁, ⟨s', r', hk, hi'⟩, StepsIn.trans s0 (StepsIn.trans harr sIn)⟩
  | goto l' =>
    obtain ⟨rfl, s'', m', hw, hI'⟩ := hk
    obtain ⟨e₂, a₂, w₂, hq₂, harr₂⟩ := key m' s'' hI' r' a₁ w₁ (hi'.weak hw)
    exact ⟨e₂, a₂, w₂, hq₂, .of_steps (StepsIn.trans s0 (harr.1 _ hg)) harr₂⟩
  | exit id => exact ⟨_, a₁, w₁, ⟨s', r', hk, hi'⟩, .of_steps s0 (e := .exit id) ⟨fun k' hk => harr.1 k' (by simp [exitTo, hk]), fun hr' hk => harr.2 hr' (by simpa [exitTo] using hk)⟩⟩
  | ret => exact ⟨_, a₁, w₁, ⟨s', r', hk, hi'⟩, .of_steps s0 harr⟩
  | panic ch => exact ⟨_, a₁, w₁, ⟨s', r', hk, hi'⟩, .of_steps s0 harr⟩
  | outgrown => exact ⟨_, a₁, w₁, ⟨s', r', hk, hi'⟩, .of_steps s0 harr⟩

def keepT (l : List Oper) (ts : Nat → Value) : Nat → Value := fun t => if l.any (fun o => o.dst == some t) then junk else ts t
theorem GI.panicked {l : List Oper} {r r' : Nat → Nat} {a a' : Act} {W W' : World} {ts' : Nat → Value} {hp' : Hp} {yc' : Nat} (h0 : GI P C n d r s a W) (hs : ∀ k b, s.hp k = some b → hp' k = some b) (hts : ∀ t, (∀ o ∈ l, o.dst ≠ some t) → ts' t = s.ts t) (h : RI C n d r' ts' hp' yc' a' W') :
    GI P C n d r' ⟨keepT l s.ts, s.hp, s.B, yc'⟩ a' W' := by
  have sub : ∀ k, dom s.hp k → dom hp' k := fun k hk => by
    unfold dom at *
    cases hb : s.hp k with
    | none => exact absurd hb hk
    | some b => rw [hs k b hb]; simp
  exact ⟨{ h with
    rel := fun t => by
      show (if l.any (fun o => o.dst == some t) then junk else s.ts t) = junk ∨ _
      cases hd : l.any (fun o => o.dst == some t) with
      | true => exact .inl rfl
      | false =>
        have ht := hts t (fun o ho e => by
          have := List.any_eq_false.1 hd o ho
          rw [e] at this; simp at this)
        rcases h0.ri.rel t with e | e
        · exact .inl e
        · rcases h.rel t with e' | e'
          · exact .inl (ht.symm.trans e')
          · refine .inr ⟨?_, ?_⟩
            · rw [e'.1, ht]; simp [keepT, hd]
            · simp only [keepT, hd]; exact e.2
    sat := fun k b hk => ⟨(h.sat k b (hs k b hk)).1, (h0.ri.sat k b hk).2⟩
    inj := fun k l hk hl => h.inj k l (sub k hk) (sub l hl)
    ext := by
      obtain ⟨S, ms, h1, h2, h3, h4⟩ := h.ext
      exact ⟨S, ms, h1, h2, fun i hi => h3 i (sub i hi), h4⟩
    keep := fun i hi => ⟨(h0.ri.keep i hi).1, (h.keep i hi).2⟩
    glob := h0.ri.glob
    low := fun k hk hd => h.low k hk (sub k hd) }, h0.free, h0.low, h0.flat, h0.rounds⟩

theorem GW_draw {id : Nat} {l : List Oper} (pn : List FuncId) (hm : P.follows .mixedOrders = true) (hB : Region.lexFrom .any l.toArray l.length 0 (Array.replicate l.length false) = true) (hdst : (dstOk n l && unOk P l) = true)
    (h : ∀ (Q : (Nat → Value) → Hp → Tr → Nat → Prop) (Qp : Value → Tr → Prop), (∀ ts hp tr yc, chk .any l.toArray tr = true → K .normal ⟨ts, hp, s.B + 8 * l.length, yc⟩ → Q ts hp tr yc) →
      (∀ pv tr, chk .any l.toArray tr = true → (∀ yc, K (.panic [{ v := pv, recovered := false }]) ⟨keepT l s.ts, s.hp, s.B, yc⟩) → Qp pv tr) → lexX P C.G ⟨C.Y, pn, true⟩ l.toArray s.B Q Qp 0 l s.ts s.hp [] s.yc false false) : GW P C n d ro (.region id l.toArray true) s K := by
  intro r a W hi
  simp only [Bool.and_eq_true] at hdst
  replace h := h (fun ts hp tr yc => chk .any l.toArray tr = true ∧ K .normal ⟨ts, hp, s.B + 8 * l.length, yc⟩) (fun pv tr => chk .any l.toArray tr = true ∧ ∀ yc, K (.panic [{ v := pv, recovered := false }]) ⟨keepT l s.ts, s.hp, s.B, yc⟩) (fun _ _ _ _ a b => ⟨a, b⟩) (fun _ _ a b => ⟨a, b⟩)
  have hw := lexX_sound (P := P) (G := C.G) (V := ⟨C.Y, pn, true⟩) (base := s.B) (K := fun ts hp yc => K .normal ⟨ts, hp, s.B + 8 * l.length, yc⟩) (Kp := fun pv => ∀ yc, K (.panic [{ v := pv, recovered := false }]) ⟨keepT l s.ts, s.hp, s.B, yc⟩) hi.flat hi.low rfl l 0 s.ts s.hp [] s.yc false false (fun _ => ([], [])) hi.ri.glob (by simpa using hi.free) (fun _ => .inl rfl) (fun _ _ => rfl) (unOk_spec hdst.2) h
  refine region_draw (meets hi.flat hi.rounds) meetsU hm hB hdst.1 hi.ri hw ?_ ?_ ?_
  · rintro s' hk hpn r' a' W' hi'
    obtain ⟨hk, hf⟩ := hk.1 hpn
    exact ⟨⟨s'.ts, s'.hp, s.B + 8 * l.length, s'.yc⟩, r', hk, hi', by simpa using hf, by have := hi.low; simp; omega, hi.flat, hi.rounds⟩
  · intro s' pv hk hpn _ r' a' W' ts' hp' yc' hs hts hi'
    exact ⟨_, r', (hk.2 pv hpn).2 yc', hi.panicked hs hts hi'⟩
  · intro s' hk hpn
    cases hp : s'.pn with
    | none => exact absurd hp hpn
    | some pv => exact (hk.2 pv hp).1

theorem wpList_of_lexX {ops : Array Oper} {base : Nat} {pn : List FuncId} {Q : Exit → Act → World → Prop} {Kn : (Nat → Value) → Hp → Nat → Prop} {Kp : Value → Prop} {hp0 : Hp} {ts0 : Nat → Value} {l0 : List Oper} (hGF : GFlat C.G) (hR : ∀ y, C.Y = some y → Rounds P C.G C.E y) (hb : 100 ≤ base) : ∀ (l : List Oper) (k : Nat) (ts : Nat → Value) (hp : Hp) (tr : Tr) (yc : Nat) (wr yd : Bool) (r : Nat → Nat) (a : Act) (W : World),
    (∀ o ∈ l, (((∀ dd, o.dst = some dd → dd < n) ∧ ∀ c, o.op ≠ .defer c) ∧ unC P o) ∧ o ∈ l0) → (∀ t, (∀ o ∈ l0, o.dst ≠ some t) → ts t = ts0 t) → RI C n d r ts hp yc a W → (∀ x, base + 8 * k ≤ x → hp x = none) → (wr = false → ∀ k b, hp0 k = some b → hp k = some b) →
    (∀ ts hp yc r a W, Kn ts hp yc → RI C n d r ts hp yc a W → (∀ x, base + 8 * (k + l.length) ≤ x → hp x = none) → Q .normal a W) →
    (∀ pv ts hp yc r a W, Kp pv → (∀ k b, hp0 k = some b → hp k = some b) → (∀ t, (∀ o ∈ l0, o.dst ≠ some t) → ts t = ts0 t) → RI C n d r ts hp yc a W → Q (.panic [{ v := pv, recovered := false }]) a W) →
    lexX P C.G ⟨C.Y, pn, false⟩ ops base (fun ts hp _ yc => Kn ts hp yc) (fun pv _ => Kp pv) k l ts hp tr yc wr yd → wpListIn (Fw P ro) 0 P ops Q l a W
  | [], k, ts, hp, tr, yc, wr, yd, r, a, W, _, _, hi, hn, _, hQ, _, h => hQ ts hp yc r a W h hi (by simpa using hn)
  | o :: l, k, ts, hp, tr, yc, wr, yd, r, a, W, hd, hts, hi, hn, hs0, hQ, hQp, h => by
    have hlen : k + (o :: l).length = (k + 1) + l.length := by simp; omega
    rw [hlen] at hQ
    refine wpListIn_step fun K hK => ?_
    simp only [lexX] at h
    cases hw : wantedG ops o ts with
    | none => rw [hw] at h; exact h.elim
    | some b =>
      rw [hw] at h
      rw [wantedG_eq hi.rel hw]
      cases b with
      | true =>
        simp only at h
        simp only [if_true]
        obtain ⟨e, h1, hs, hyd, h3⟩ := opX_sound hGF hi.glob h
        have hs1 : (wr || !e.ws.isEmpty) = false → ∀ k b, hp0 k = some b → updL hp (e.ws ++ e.ns) k = some b := fun hwr k' b hk' => by
          simp only [Bool.or_eq_false_iff] at hwr
          have e0 : e.ws = [] := by have := hwr.2; simpa using this
          have hh := hs0 hwr.1 k' b hk'
          rw [e0, List.nil_append, updL_other (fun hm => by have := hs.ns k' hm; rw [hn k' (by omega)] at hh; cases hh)]
          exact hh
        refine meets hGF hR o e ts hp yc r a W 0 _ _ hi (hd o (by simp)).1.1 h1 (fun x hx => (hs.ws x hx).2) (fun x hx => ?_) (fun r' a' W' hpn hi' => hK _ _ ?_) (fun pv W' yc' hpn hi' => ?_)
        · have := hs.ns x hx; exact ⟨hn x (by omega), by omega⟩
        · rw [hpn] at h3
          refine wpList_of_lexX hGF hR hb l (k + 1) _ _ _ _ _ _ r' a' W' (fun o ho => hd o (List.mem_cons_of_mem _ ho)) (fun t ht => (putT_keep (ht o (hd o (by simp)).2)).trans (hts t ht)) hi' (fun x hx => ?_) hs1 hQ hQp h3
          rw [updL_other (fun hm => ?_)]
          · exact hn x (by omega)
          · have : x ∈ keys e.ws ∨ x ∈ keys e.ns := by simpa [keys] using hm
            rcases this with h | h
            · exact (hs.ws x h).2.1 (hn x (by omega))
            · have := hs.ns x h; omega
        · rw [hpn] at h3
          obtain ⟨_, hwr, hkp⟩ := h3
          simp only [Bool.or_eq_false_iff] at hwr
          exact hQp pv ts hp yc' r a W' hkp (hs0 hwr.1) hts hi'
      | false =>
        simp only at h
        simp only [Bool.false_eq_true, if_false]
        exact ⟨meetsU (Y := none) o ts r _ a W hi.rel ⟨h.1, (hd o (by simp)).1.2⟩, hK _ _ (wpList_of_lexX hGF hR hb l (k + 1) _ _ _ _ _ _ r _ W (fun o ho => hd o (List.mem_cons_of_mem _ ho)) (fun t ht => (putT_keep (ht o (hd o (by simp)).2)).trans (hts t ht)) (hi.put_undef (hd o (by simp)).1.1.1) (fun x hx => hn x (by omega)) hs0 hQ hQp h.2)⟩

theorem GW_region {id : Nat} {l : List Oper} (pn : List FuncId) (hdst : (dstOk n l && unOk P l) = true) (h : ∀ (Q : (Nat → Value) → Hp → Tr → Nat → Prop) (Qp : Value → Tr → Prop), (∀ ts hp tr yc, K .normal ⟨ts, hp, s.B + 8 * l.length, yc⟩ → Q ts hp tr yc) →
      (∀ pv tr, (∀ yc, K (.panic [{ v := pv, recovered := false }]) ⟨keepT l s.ts, s.hp, s.B, yc⟩) → Qp pv tr) → lexX P C.G ⟨C.Y, pn, false⟩ l.toArray s.B Q Qp 0 l s.ts s.hp [] s.yc false false) : GW P C n d ro (.region id l.toArray false) s K := by
  intro r a W hi
  simp only [Bool.and_eq_true] at hdst
  replace h := h (fun ts hp _ yc => K .normal ⟨ts, hp, s.B + 8 * l.length, yc⟩) (fun pv _ => ∀ yc, K (.panic [{ v := pv, recovered := false }]) ⟨keepT l s.ts, s.hp, s.B, yc⟩) (fun _ _ _ _ a => a) (fun _ _ a => a)
  refine wpIn_region_lit (wpList_of_lexX (Kn := fun ts hp yc => K .normal ⟨ts, hp, s.B + 8 * l.length, yc⟩) (Kp := fun pv => ∀ yc, K (.panic [{ v := pv, recovered := false }]) ⟨keepT l s.ts, s.hp, s.B, yc⟩) (hp0 := s.hp) (ts0 := s.ts) (l0 := l) hi.flat hi.rounds hi.low l 0 s.ts s.hp [] s.yc false false r a W (fun o ho => ⟨⟨dstOk_spec hdst.1 ho, unOk_spec hdst.2 o ho⟩, ho⟩) (fun _ _ => rfl) hi.ri (by simpa using hi.free) (fun _ _ _ h => h) ?_ ?_ h)
  · intro ts hp yc r' a' W' hk hi' hf
    exact ⟨⟨ts, hp, s.B + 8 * l.length, yc⟩, r', hk, hi', by simpa using hf, by have := hi.low; simp; omega, hi.flat, hi.rounds⟩
  · intro pv ts hp yc r' a' W' hk hs hts hi'
    exact ⟨_, r', hk yc, hi.panicked hs hts hi'⟩

def resG1 (P : Program) (ts : Nat → Value) (hp : Hp) : ResultVar → Option Value
  | .tmp t => if notTup (ts t) then some (ts t) else none
  | .cell t T => match ts t with
    | .pointer (some ⟨k, off, none⟩) => match hp k with
      | some b => match loadK P T b off with
        | some v => if notTup v then some v else none
        | none => none
      | none => none
    | _ => none
def resGL (P : Program) (ts : Nat → Value) (hp : Hp) : List ResultVar → Option (List Value)
  | [] => some []
  | x :: l => match resG1 P ts hp x with
    | some v => match resGL P ts hp l with
      | some vs => some (v :: vs)
      | none => none
    | none => none
def resG (P : Program) (rs : List ResultVar) (ts : Nat → Value) (hp : Hp) : Option Value :=
  match resGL P ts hp rs with
  | some [v] => some v
  | some vs => some (.tuple vs.toArray)
  | none => none

def resRun (tmps : Array Value) : ResultVar → Sem Value
  | .tmp t => pure (tmps.getD t undef)
  | .cell a t => do loadVar t (← asAddr (tmps.getD a undef))
theorem results_eq (fn : Func) (tmps : Array Value) : results fn tmps = (do let vs ← fn.results.mapM (resRun tmps); pure (if h : vs.size = 1 then vs[0] else .tuple vs)) := by
  unfold results
  congr 2

theorem run_resG1 {r : Nat → Nat} {D : Nat → Prop} {ts : Nat → Value} {hp : Hp} {a : Act} {W : World} (h : Rel r D ts a) (hs : Sat r D hp W) {x : ResultVar} {v : Value} (hv : resG1 P ts hp x = some v) :
    (resRun a.tmps x).run P W = .ok (ren r v) W ∧ notTup v = true := by
  cases x with
  | tmp t =>
    simp only [resG1] at hv
    split at hv
    · rename_i hn
      cases hv
      have := (h t).resolve_left (by intro e; rw [e] at hn; simp [notTup, junk] at hn)
      exact ⟨by simp only [resRun, Sem.run_pure, this.1], hn⟩
    · cases hv
  | cell t T =>
    simp only [resG1] at hv
    split at hv
    · rename_i k off hg
      split at hv
      · rename_i b hb
        split at hv
        · rename_i u hu
          split at hv
          · rename_i hn
            cases hv
            have h1 := (h t).resolve_left (by rw [hg]; simp [junk])
            rw [hg] at h1
            have h3 : a.tmps.getD t undef = .pointer (some ⟨r k, off, none⟩) := h1.1
            refine ⟨?_, hn⟩
            simp only [resRun, h3, asAddr]
            have := run_loadVar_K hu (hs k b hb).1
            simpa using this
          · cases hv
        · cases hv
      · cases hv
    · cases hv

theorem run_resGL {r : Nat → Nat} {D : Nat → Prop} {ts : Nat → Value} {hp : Hp} {a : Act} {W : World} (h : Rel r D ts a) (hs : Sat r D hp W) : ∀ (l : List ResultVar) (vs : List Value), resGL P ts hp l = some vs →
    (l.mapM (resRun a.tmps)).run P W = .ok (vs.map (ren r)) W ∧ ∀ v ∈ vs, notTup v = true
  | [], vs, hv => by simp only [resGL, Option.some.injEq] at hv; subst hv; simp
  | x :: l, vs, hv => by
    simp only [resGL] at hv
    split at hv
    · rename_i v h1
      split at hv
      · rename_i us h2
        cases hv
        have e1 := run_resG1 h hs h1
        have e2 := run_resGL h hs l us h2
        refine ⟨?_, fun u hu => ?_⟩
        · rw [List.mapM_cons, Sem.run_bind, e1.1]
          simp only [Result.andThen_ok, Sem.run_bind, e2.1, Sem.run_pure, List.map_cons]
        · rcases List.mem_cons.1 hu with rfl | hu
          · exact e1.2
          · exact e2.2 u hu
      · cases hv
    · cases hv

theorem ren_notTup {r : Nat → Nat} {v : Value} (h : notTup v = true) : ren r v = renA r v := by cases v <;> simp_all [notTup, ren]

theorem run_resG' {fn : Func} {r : Nat → Nat} {D : Nat → Prop} {ts : Nat → Value} {hp : Hp} {a : Act} {W : World} (h : Rel r D ts a) (hs : Sat r D hp W) {v : Value} (hv : resG P fn.results.toList ts hp = some v) : (results fn a.tmps).run P W = .ok (ren r v) W := by
  unfold resG at hv
  have key : ∀ vs, resGL P ts hp fn.results.toList = some vs → (results fn a.tmps).run P W = .ok (if h : (vs.map (ren r)).toArray.size = 1 then (vs.map (ren r)).toArray[0] else .tuple (vs.map (ren r)).toArray) W ∧ ∀ v ∈ vs, notTup v = true := fun vs hvs => by
    have e := run_resGL h hs _ _ hvs
    refine ⟨?_, e.2⟩
    rw [results_eq, Array.mapM_eq_mapM_toList]
    simp only [Sem.run_bind, Sem.run_map, e.1, Result.andThen_ok, Sem.run_pure]
  split at hv
  · rename_i u hu
    cases hv
    have := (key _ hu).1
    simpa using this
  · rename_i vs hn hu
    cases hv
    have e := key _ hu
    rw [e.1]
    have hlen : vs.length ≠ 1 := fun hl => by
      match vs, hl with
      | [u], _ => exact hn u rfl
    rw [dif_neg (by simpa using hlen)]
    simp only [ren]
    congr 2
    apply Array.ext'
    simp only [Array.toList_map]
    exact List.map_congr_left fun v hv => ren_notTup (e.2 v hv)
  · cases hv

theorem leavesM {n : Nat} {fn : Func} {tmps : Array Value} {R : Ending → World → Prop} {u : FrameMode} (hu : u ≠ .run) : ∀ (ms : List Nat) (W : World), ms.Nodup → (∀ D ∈ ms, W.heap[D]? = some (.deferred (some []))) →
    (∀ W' : World, W'.heap.size = W.heap.size → W'.os = W.os → W'.tape = W.tape → W'.output = W.output → (∀ k, k ∉ ms → W'.heap[k]? = W.heap[k]?) → LeavesIn (Fw P none) n P fn tmps R [] u W') → LeavesInM (Fw P none) n P fn tmps R (ms.map mark) u W
  | [], W, _, _, h => h W rfl rfl rfl rfl fun _ _ => rfl
  | D :: ms, W, hn, hd, h => by
    have hD := hd D (by simp)
    have hn' := List.nodup_cons.1 hn
    refine ⟨hu, .inl ⟨D, _, rfl, run_takeDeferred hD, leavesM hu ms _ hn'.2 (fun E hE => ?_) fun W' e1 e2 e3 e4 e5 => h W' ?_ e2 e3 e4 fun k hk => ?_⟩⟩
    · rw [World.putObj_heap_other (fun e => hn'.1 (by rw [← e]; exact hE))]; exact hd E (List.mem_cons_of_mem _ hE)
    · rw [e1, putObj_size]
    · simp only [List.mem_cons, not_or] at hk
      rw [e5 k hk.2, World.putObj_heap_other (fun e => hk.1 e)]

def callE (W : World) (D : Nat → Prop) : Ext where
  X _ S W' := (∀ k, S k ↔ k < W.heap.size ∧ ¬ D k) ∧ W'.os = W.os ∧ W'.tape = W.tape ∧ W'.output = W.output ∧ W.heap.size ≤ W'.heap.size ∧ ∀ k, S k → W'.heap[k]? = W.heap[k]?
  ok _ _ _ _ h hs os tape output size := ⟨h.1, os.trans h.2.1, tape.trans h.2.2.1, output.trans h.2.2.2.1, Nat.le_trans h.2.2.2.2.1 size, fun k hk => (hs k hk).trans (h.2.2.2.2.2 k hk)⟩

def resP (P : Program) (fn : Func) (hp : Hp) (res : Res) (e : Exit) (s : GS) : Prop :=
  match res with
  | .ret v ws => (e = .normal ∨ e = .ret) ∧ resG P fn.results.toList s.ts s.hp = some v ∧ ∀ k, dom hp k → s.hp k = updL hp ws k
  | .pan v => e = .panic [{ v := v, recovered := false }] ∧ ∀ k, dom hp k → s.hp k = hp k
  | .new _ _ => False

theorem updL_once : ∀ {ws : List (Nat × Blk)} {hp : Hp} {p : Nat × Blk}, p ∈ ws → (∀ k b c, (k, b) ∈ ws → (k, c) ∈ ws → b = c) → updL hp ws p.1 = some p.2 := fun {ws hp p} hp1 ho => by
  have hd : dom (updL hp ws) p.1 := updL_dom.2 (.inr (mem_keys.2 ⟨p, hp1, rfl⟩))
  unfold dom at hd
  cases hb : updL hp ws p.1 with
  | none => exact absurd hb hd
  | some b =>
    rcases updL_mem hb with ⟨_, h2⟩ | h2
    · exact absurd (mem_keys.2 ⟨p, hp1, rfl⟩) h2
    · rw [ho p.1 b p.2 h2 hp1]

theorem fun_of {f : FuncId} {fn : Func} {c : Code} {args : Array Value} {hp : Hp} {rs : List Nat} {res : Res} {B : Nat} (hGF : GFlat G) (hG : ∀ k, k < 100 → hp k = G k) (hf : P.funcs[f]? = some fn) (hb : fn.body = some c) (hcall : ∀ a w, (callFunc f a).run P w = .ok (.enter f a) w)
    (ha : ∀ x ∈ args, idsV (dom (rst hp rs)) x) (hcl : ∀ k b, rst hp rs k = some b → b.ids (dom (rst hp rs))) (hfit : res.fits hp rs) (hn : args.size ≤ fn.ntmps) (hB : 100 ≤ B) (hfree : ∀ x, B ≤ x → rst hp rs x = none)
    (h : ∀ C : Ctx, C.G = G → C.hp0 = rst hp rs → C.Y = none → GW P C fn.ntmps [] none c ⟨fun t => args.getD t undef, rst hp rs, B, 0⟩ (resP P fn (rst hp rs) res)) : Fun P G f args hp rs res := by
  refine ⟨hcall, ha, hcl, hfit, fun r W hgok hsat hinj hlow => callsIn_of_wp_marks hf hb ⟨fn, hf⟩ ?_⟩
  have ltW : ∀ k, dom (rst hp rs) k → r k < W.heap.size := fun k hk => by
    unfold dom at hk
    cases hb : rst hp rs k with
    | none => exact absurd hb hk
    | some b => exact (Array.getElem?_eq_some_iff.1 (hsat k b hb).1).1
  let im : Nat → Prop := fun j => ∃ i, dom (rst hp rs) i ∧ r i = j
  let C : Ctx := ⟨callE W im, rst hp rs, r, G, none⟩
  have hi : GI P C fn.ntmps [] r ⟨fun t => args.getD t undef, rst hp rs, B, 0⟩ { tmps := args.map (ren r) ++ Array.replicate (fn.ntmps - (args.map (ren r)).size) undef, defers := [] } W := by
    refine ⟨⟨by simp; omega, fun t => ?_, hsat, hinj, ⟨fun k => k < W.heap.size ∧ ¬ im k, [], ⟨fun _ => Iff.rfl, rfl, rfl, rfl, Nat.le_refl _, fun _ _ => rfl⟩, fun k hk => hk.1, fun i hi _ hS => hS.2 ⟨i, hi, rfl⟩, ⟨rfl, List.nodup_nil⟩, by simp⟩,
      fun i hi => ⟨hi, rfl⟩, fun k hk => ?_, hlow⟩, hfree, hB, hGF, fun y hy => by cases hy⟩
    · right
      dsimp only
      by_cases ht : t < args.size
      · have hm : args[t] ∈ args := Array.getElem_mem ht
        have e : args.getD t undef = args[t] := by simp [Array.getD, ht]
        rw [e]
        refine ⟨?_, ha _ hm⟩
        have : t < (args.map (ren r)).size := by simpa using ht
        simp [Array.getElem?_append_left this, ht]
      · have e : args.getD t undef = undef := by simp [Array.getElem?_eq_none (Nat.le_of_not_lt ht)]
        rw [e]
        refine ⟨?_, ids_undef _⟩
        rw [ren_undef]
        simp only [Array.getD_eq_getD_getElem?]
        rw [Array.getElem?_append_right (by simpa using Nat.le_of_not_lt ht), Array.getElem?_replicate]
        split <;> rfl
    · show rst hp rs k = G k
      simp [rst, hk, hG k hk]
  refine wpIn_mono (h C rfl rfl rfl r _ W hi) ?_
  rintro e a' W' ⟨s', r', hres, hi'⟩
  obtain ⟨S, ms, ⟨hS, os, tape, output, size, hsame⟩, hS1, hS2, ⟨hdef, hnd⟩, hms⟩ := hi'.ri.ext
  have hkeep : ∀ i, dom (rst hp rs) i → dom s'.hp i ∧ r' i = r i := hi'.ri.keep
  have hobj : ∀ b : Blk, b.ids (dom (rst hp rs)) → b.obj r' = b.obj r := fun b hb => Blk.obj_congr (fun k hk => (hkeep k hk).2) hb
  -- the blocks of what was there
  have old : ∀ W'' : World, (∀ k, k ∉ ms → W''.heap[k]? = W'.heap[k]?) → ∀ k, k < W.heap.size → ¬ im k → W''.heap[k]? = W.heap[k]? := fun W'' hW k hk hi => by
    have hSk : S k := (hS k).2 ⟨hk, hi⟩
    rw [hW k (fun hm => (hms k hm).2.1 hSk)]
    exact hsame k hSk
  have mine : ∀ W'' : World, (∀ k, k ∉ ms → W''.heap[k]? = W'.heap[k]?) → ∀ i b, s'.hp i = some b → W''.heap[r' i]? = some (b.obj r') := fun W'' hW i b hb => by
    rw [hW _ (fun hm => hi'.ri.ne_mark (by unfold dom; rw [hb]; simp) (hms _ hm).1 rfl)]
    exact (hi'.ri.sat i b hb).1
  cases res with
  | ret v ws =>
    obtain ⟨he, hr, hhp⟩ := hres
    have hend : ∀ W'' : World, W''.heap.size = W'.heap.size → W''.os = W'.os → W''.tape = W'.tape → W''.output = W'.output → (∀ k, k ∉ ms → W''.heap[k]? = W'.heap[k]?) →
        LeavesIn (Fw P none) 0 P fn a'.tmps ((Res.ret v ws).holds r (dom (rst hp rs)) W) [] .returning W'' := fun W'' e1 e2 e3 e4 e5 => by
      have hsat' : Sat r' (dom s'.hp) s'.hp W'' := fun k b hk => ⟨mine W'' e5 k b hk, (hi'.ri.sat k b hk).2⟩
      have hrun := run_resG' (fn := fn) hi'.ri.rel hsat' hr
      rw [ren_congr (fun k hk => (hkeep k hk).2) hfit.1] at hrun
      refine ⟨_, hrun, rfl, ?_⟩
      refine ⟨e2.trans os, e3.trans tape, e4.trans output, by rw [e1]; exact size, fun k hk hnw => ?_, fun p hp1 => ?_, by simp, by simp⟩
      · by_cases hk' : im k
        · obtain ⟨i, hi1, rfl⟩ := hk'
          have hiw : i ∉ keys ws := fun hm => by obtain ⟨p, hp1, rfl⟩ := mem_keys.1 hm; exact hnw p hp1 rfl
          cases hb : rst hp rs i with
          | none => exact absurd hb hi1
          | some b =>
            have e : s'.hp i = some b := by rw [hhp i hi1, updL_other hiw]; exact hb
            have := mine W'' e5 i b e
            rw [(hkeep i hi1).2, hobj b (hcl i b hb)] at this
            rw [this, (hsat i b hb).1]
        · exact old W'' e5 k hk hk'
      · simp only [List.append_nil] at hp1
        have hk := hfit.2.1 p.1 (mem_keys.2 ⟨p, hp1, rfl⟩)
        have hdm : dom (rst hp rs) p.1 := by unfold dom rst at *; simp [hk.1]; exact hk.2.1
        have e : s'.hp p.1 = some p.2 := by rw [hhp _ hdm]; exact updL_once hp1 hfit.2.2.1
        have := mine W'' e5 _ _ e
        have hid := hfit.2.2.2 p hp1
        rw [(hkeep _ hdm).2, hobj _ hid] at this
        exact ⟨this, Blk.ids_mono (fun k hk => .inl hk) hid⟩
    rcases he with rfl | rfl
    · show LeavesInM _ _ _ _ _ _ a'.defers _ _
      rw [hdef, List.append_nil]
      exact leavesM (by simp) ms W' hnd (fun D hD => (hms D hD).1) hend
    · show LeavesInM _ _ _ _ _ _ a'.defers _ _
      rw [hdef, List.append_nil]
      exact leavesM (by simp) ms W' hnd (fun D hD => (hms D hD).1) hend
  | new v ns => exact hres.elim
  | pan v =>
    obtain ⟨rfl, hhp⟩ := hres
    show LeavesInM _ _ _ _ _ _ a'.defers _ _
    rw [hdef, List.append_nil]
    refine leavesM (by simp) ms W' hnd (fun D hD => (hms D hD).1) fun W'' e1 e2 e3 e4 e5 => ?_
    refine ⟨rfl, e2.trans os, e3.trans tape, e4.trans output, by rw [e1]; exact size, fun k hk => ?_⟩
    by_cases hk' : im k
    · obtain ⟨i, hi1, rfl⟩ := hk'
      cases hb : rst hp rs i with
      | none => exact absurd hb hi1
      | some b =>
        have e : s'.hp i = some b := by rw [hhp i hi1]; exact hb
        have := mine W'' e5 i b e
        rw [(hkeep i hi1).2, hobj b (hcl i b hb)] at this
        rw [this, (hsat i b hb).1]
    · exact old W'' e5 k hk hk'

theorem rst_G (hGF : GFlat G) (rs : List Nat) : rst G rs = G := funext fun k => by
  unfold rst
  split
  · rfl
  · rename_i hk
    cases hg : G k with
    | none => rfl
    | some b => exact absurd (.inl (hGF k b hg).1) hk

theorem gok_sat (hGF : GFlat G) {W : World} (h : GOK G W) : Sat id (dom G) G W := fun k b hk => by
  obtain ⟨_, hfl⟩ := hGF k b hk
  refine ⟨?_, Blk.flat_ids hfl⟩
  rw [id, h k b hk]
  rw [Blk.obj_flat (fun x hx => hfl x hx)]

theorem ret_of_fun {f : FuncId} {args : Array Value} {v : Value} (hGF : GFlat G) (hv : flatV v = true) (ha : ∀ x ∈ args, flatV x = true) (h : Fun P G f args G [] (.ret v [])) : Ret P G f args v := by
  refine ⟨hv, ha, h.enter, fun W hW => ?_⟩
  have hrun := h.run id W hW (by rw [rst_G hGF]; exact gok_sat hGF hW) (fun _ _ _ _ e => e) (fun _ _ _ => rfl)
  rw [map_eq_self (fun x hx => flatV_ren (ha x hx))] at hrun
  refine hrun.mono fun e W' ⟨he, ht⟩ => ?_
  rw [flatV_ren hv] at he
  exact ⟨he, ht.os, ht.tape, ht.output, ht.size, fun k hk => ht.same k hk (by simp)⟩

theorem ret_of {f : FuncId} {fn : Func} {c : Code} {args : Array Value} {v : Value} (hGF : GFlat G) (hf : P.funcs[f]? = some fn) (hb : fn.body = some c) (hcall : ∀ a w, (callFunc f a).run P w = .ok (.enter f a) w)
    (hv : flatV v = true) (ha : ∀ x ∈ args, flatV x = true) (hn : args.size ≤ fn.ntmps)
    (h : ∀ C : Ctx, C.G = G → C.hp0 = G → C.Y = none → GW P C fn.ntmps [] none c ⟨fun t => args.getD t undef, G, 200, 0⟩ (fun e s => (e = .normal ∨ e = .ret) ∧ resG P fn.results.toList s.ts s.hp = some v)) : Ret P G f args v := by
  refine ret_of_fun hGF hv ha (fun_of (B := 200) hGF (fun _ _ => rfl) hf hb hcall (fun x hx => flatV_ids (ha x hx)) (fun k b hk => ?_) ⟨flatV_ids hv, by simp [keys], by simp, by simp⟩ hn (by omega) (fun x hx => ?_) fun C h1 h2 h3 => ?_)
  · rw [rst_G hGF] at hk ⊢
    exact Blk.flat_ids ((hGF k b hk).2)
  · rw [rst_G hGF]
    cases hg : G x with
    | none => rfl
    | some b => have := (hGF x b hg).1; omega
  · rw [rst_G hGF] at h2 ⊢
    intro r a W hi
    refine wpIn_mono (h C h1 h2 h3 r a W hi) ?_
    rintro e a' W' ⟨s', r', ⟨he, hr⟩, hi'⟩
    refine ⟨s', r', ⟨he, hr, fun k hk => ?_⟩, hi'⟩
    have hlt : k < 100 := by
      unfold dom at hk
      cases hg : G k with
      | none => exact absurd hg hk
      | some b => exact (hGF k b hg).1
    simp only [updL]
    rw [hi'.ri.glob k hlt, h1]

theorem retp_of {f : FuncId} {fn : Func} {c : Code} {args : Array Value} {oc : Out} (hGF : GFlat G) (hf : P.funcs[f]? = some fn) (hb : fn.body = some c) (hcall : ∀ a w, (callFunc f a).run P w = .ok (.enter f a) w)
    (hv : ∀ v, oc = .ret v → flatV v = true) (ha : ∀ x ∈ args, flatV x = true) (hn : args.size ≤ fn.ntmps)
    (h : ∀ C : Ctx, C.G = G → C.hp0 = G → C.Y = none → GW P C fn.ntmps [] none c ⟨fun t => args.getD t undef, G, 200, 0⟩ (fun e s => match oc with
      | .ret v => (e = .normal ∨ e = .ret) ∧ resG P fn.results.toList s.ts s.hp = some v
      | .pan v => e = .panic [{ v := v, recovered := false }])) : RetP P G f args oc := by
  refine ⟨hv, ha, hcall, fun W hW => ?_⟩
  have low : ∀ k, dom G k → k < 100 := fun k hk => by
    unfold dom at hk
    cases hg : G k with
    | none => exact absurd hg hk
    | some b => exact (hGF k b hg).1
  cases oc with
  | ret v =>
    have hr := ret_of (v := v) hGF hf hb hcall (hv v rfl) ha hn h
    exact hr.2.2.2 W hW
  | pan v =>
    have hfun : Fun P G f args G [] (.pan v) := by
      refine fun_of (B := 200) hGF (fun _ _ => rfl) hf hb hcall (fun x hx => flatV_ids (ha x hx)) (fun k b hk => ?_) trivial hn (by omega) (fun x hx => ?_) fun C h1 h2 h3 => ?_
      · rw [rst_G hGF] at hk ⊢
        exact Blk.flat_ids ((hGF k b hk).2)
      · rw [rst_G hGF]
        cases hg : G x with
        | none => rfl
        | some b => have := (hGF x b hg).1; omega
      · rw [rst_G hGF] at h2 ⊢
        intro r a W hi
        refine wpIn_mono (h C h1 h2 h3 r a W hi) ?_
        rintro e a' W' ⟨s', r', he, hi'⟩
        exact ⟨s', r', ⟨he, fun k hk => by rw [hi'.ri.glob k (low k hk), h1]⟩, hi'⟩
    have hrun := hfun.run id W hW (by rw [rst_G hGF]; exact gok_sat hGF hW) (fun _ _ _ _ e => e) (fun _ _ _ => rfl)
    rw [map_eq_self (fun x hx => flatV_ren (ha x hx))] at hrun
    exact hrun

theorem Ret.unique {f : FuncId} {args : Array Value} {v u : Value} (hW : ∃ W, GOK G W) (hi : P.inits.idxOf? f = none) (h : Ret P G f args v) (h' : Ret P G f args u) : v = u := by
  obtain ⟨W, hW⟩ := hW
  have mk : ∀ {v : Value}, Ret P G f args v → ∃ k w', runN P k (lone (Frame.enter P f args .normal) [] W) = .ended (.done v) w' := fun {v} h => by
    have := (h.2.2.2 W hW).calls.mono (R' := fun | .returned x, _ => x = v | _, _ => False) (fun e w' ⟨he, _⟩ => by subst he; rfl)
    obtain ⟨k, x, w', h1, h2⟩ := this.done hi
    exact ⟨k, w', by rw [h1]; cases h2; rfl⟩
  obtain ⟨k, w1, h1⟩ := mk h
  obtain ⟨l, w2, h2⟩ := mk h'
  have more : ∀ {k : Nat} {x : Value} {w : World}, runN P k (lone (Frame.enter P f args .normal) [] W) = .ended (.done x) w → ∀ m, runN P (k + m) (lone (Frame.enter P f args .normal) [] W) = .ended (.done x) w := fun {k x w} hk m => by
    rw [runN_add, hk]
  have e1 := more h1 l
  have e2 := more h2 k
  rw [Nat.add_comm] at e2
  rw [e1] at e2
  injection e2 with e2
  injection e2

theorem callK_iff {f : FuncId} {args : Array Value} {v : Value} {K : Value → Prop} (hW : ∃ W, GOK G W) (hi : P.inits.idxOf? f = none) (h : Ret P G f args v) : callK P G f args K ↔ K v := by
  refine ⟨fun ⟨u, hu, hk⟩ => ?_, fun hk => ⟨v, .inl h, hk⟩⟩
  rcases hu with hu | hu
  · exact Ret.unique hW hi h hu ▸ hk
  · have := h.2.2.1 args default
    rw [hu.2.2 default] at this
    cases this
theorem callK_iffV {f : FuncId} {args : Array Value} {v : Value} {K : Value → Prop} (h : RetV P f args v) : callK P G f args K ↔ K v := by
  refine ⟨fun ⟨u, hu, hk⟩ => ?_, fun hk => ⟨v, .inr h, hk⟩⟩
  rcases hu with hu | hu
  · have := hu.2.2.1 args default
    rw [h.2.2 default] at this
    cases this
  · have := hu.2.2 default
    rw [h.2.2 default] at this
    injection this with this
    injection this with this
    subst this
    exact hk

end
end Go.Gy
