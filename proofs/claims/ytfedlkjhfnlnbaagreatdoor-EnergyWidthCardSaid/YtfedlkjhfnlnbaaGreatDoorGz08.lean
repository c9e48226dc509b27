/-
  Lemmas of this claim, in their order (GyHS, GyHP, GyHT, GyHC).
  Conditions: those of each theorem.
-/
import Derived.Test.YtfedlkjhfnlnbaaGreatDoorGz07
import Derived.Deep.Slices
import Derived.ReadAgain
import Derived.Carry
import Derived.Deep.Strs
import Derived.ChangeSlices
namespace Go.Gy
set_option linter.unusedSimpArgs false
set_option linter.unusedVariables false
set_option maxRecDepth 100000
open Go Go.RowKit Go.Proofs Go.ChangeShapes Go.WideShapes Go.ChangeAt
theorem celln_int : Tryz.prog.cellsOf 3 = 1 := by kernel_rfl
theorem cells_vec : Tryz.prog.cellsOf 51 = 3 := by kernel_rfl
theorem cells_body : Tryz.prog.cellsOf 53 = 6 := by kernel_rfl
theorem cells_bodies : Tryz.prog.cellsOf 25 = 1 := by kernel_rfl
theorem cells_state : Tryz.prog.cellsOf 27 = 2 := by kernel_rfl
theorem ctypes_state : Tryz.prog.cellTypes Tryz.prog.depth 27 = some [3, 25] := by kernel_rfl
section
variable {H : Type} {enc : TypeId × Value → H} {w : World} {base : Nat} {spare : Nat → Bool} {held : Bool}
theorem vec_cells {fuel : Nat} {cs : List Value} {x : DataW H × List MemPlace} (h : DataW.trod enc Tryz.prog w base spare held fuel 51 cs = some x) : cs.length = 3 ∧ ∀ j, j < 3 → ∃ z, cs[j]? = some (.int .i64 z) ∧ i64 z := by
  obtain ⟨xs, m, _, rfl, hl, hxs, hi⟩ := DataW.trod_array Tryz.underlying51 h
  rw [cells_vec] at hl
  refine ⟨hl, fun j hj => ?_⟩
  have h1 := hi j hj
  rw [celln_int, Nat.mul_one, List.getElem?_eq_getElem (by omega)] at h1
  obtain ⟨z, e, _, hw⟩ := DataW.trod_int Tryz.underlying3 h1
  refine ⟨z, ?_, wf_i64 hw⟩
  have := congrArg (·[0]?) e
  simpa [List.getElem?_take, List.getElem?_drop] using this
theorem body_cells {fuel : Nat} {cs : List Value} {x : DataW H × List MemPlace} (h : DataW.trod enc Tryz.prog w base spare held fuel 53 cs = some x) : cs.length = 6 ∧ ∀ j, j < 6 → ∃ z, cs[j]? = some (.int .i64 z) ∧ i64 z := by
  obtain ⟨y0, y1, n, rfl, hl, h0, h1⟩ := trod_struct2 Tryz.underlying53 h
  rw [cells_body] at hl
  simp only [cells_vec] at h0 h1
  refine ⟨hl, fun j hj => ?_⟩
  by_cases c : j < 3
  · obtain ⟨z, e, hz⟩ := (vec_cells h0).2 j c
    refine ⟨z, ?_, hz⟩
    simpa [List.getElem?_take, List.getElem?_drop, c] using e
  · obtain ⟨z, e, hz⟩ := (vec_cells h1).2 (j - 3) (by omega)
    refine ⟨z, ?_, hz⟩
    rw [List.getElem?_take, if_pos (by omega), List.getElem?_drop, show 3 + (j - 3) = j by omega] at e
    exact e
theorem open_bodies {fuel : Nat} {cs : List Value} {x : DataW H × List MemPlace} (h : DataW.trod enc Tryz.prog w 0 (fun _ => true) held fuel 25 cs = some x) :
    cs = [.slice none 0 0] ∨ ∃ (a : Addr) (len cap : Nat) (f : Nat → Int), cs = [.slice (some a) len cap] ∧ len ≤ cap ∧ ∀ j, j < 6 * cap → w.cell? (a.add j) = some (.int .i64 (f j)) ∧ i64 (f j) := by
  rcases Deep.open_slice Tryz.underlying25 h with ⟨h0, _⟩ | ⟨a, len, cap, m, n, D, Pl, rfl, _, hlc, hcm, hm, _, hel⟩
  · exact .inl h0
  right
  rw [if_pos rfl] at hm
  subst hm
  refine ⟨a, len, m, fun j => match w.cell? (a.add j) with | some (.int _ z) => z | _ => 0, rfl, hlc, fun j hj => ?_⟩
  obtain ⟨cs', h1, h2⟩ := hel (j / 6) (by omega)
  rw [cells_body] at h1
  obtain ⟨z, e, hz⟩ := (body_cells h2).2 (j % 6) (by omega)
  unfold World.cells? at h1
  rw [if_pos (Nat.zero_le _)] at h1
  have h3 := mapM_some_get h1 (j % 6) (j % 6) (List.getElem?_range (by omega))
  rw [e, Deep.add_add, show j / 6 * 6 + j % 6 = j by omega] at h3
  dsimp only
  rw [h3]
  exact ⟨rfl, hz⟩
theorem rowAt_uint {fits : TypeId → Bool} (h : fits 28 = false) (d c o n : Nat) : rowAt Tryz.prog fits d 28 c o n = false := by
  cases d with
  | zero => rfl
  | succ d => simp [rowAt, h, Tryz.underlying28]
theorem rowAt_wide {fits : TypeId → Bool} (h : fits 28 = false) (h2 : fits 30 = false) (d c o n : Nat) : rowAt Tryz.prog fits d 30 c o n = false := by
  cases d with
  | zero => rfl
  | succ d => simp [rowAt, h2, Tryz.underlying30, rowAt_uint h]
theorem lies_wide (d c o n : Nat) : liesAt Tryz.prog d 30 c o 53 n = false := by
  cases d with
  | zero => rfl
  | succ d =>
    unfold liesAt
    rw [rowAt_wide (by kernel_rfl) (by kernel_rfl), Tryz.underlying53]
    rfl
theorem rowAt_str {fits : TypeId → Bool} (h : fits 9 = false) (d c o n : Nat) : rowAt Tryz.prog fits d 9 c o n = false := by
  cases d with
  | zero => rfl
  | succ d => simp [rowAt, h, Tryz.underlying9]
theorem rowAt_names {fits : TypeId → Bool} (h : fits 9 = false) (h2 : fits 123 = false) (d c o n : Nat) : rowAt Tryz.prog fits d 123 c o n = false := by
  cases d with
  | zero => rfl
  | succ d => simp [rowAt, h2, Tryz.underlying123, rowAt_str h]
theorem lies_names (d c o n : Nat) : liesAt Tryz.prog d 123 c o 53 n = false := by
  cases d with
  | zero => rfl
  | succ d =>
    unfold liesAt
    rw [rowAt_names (by kernel_rfl) (by kernel_rfl), Tryz.underlying53]
    rfl
theorem G0_lies : ∀ p ∈ G0L, ∃ t, p.2.T = .ty t ∧ ∀ d c o n, liesAt Tryz.prog d t c o 53 n = false := by
  intro p hp
  unfold G0L at hp
  rcases List.mem_cons.1 hp with rfl | hp
  · exact ⟨_, rfl, lies_wide⟩
  rcases List.mem_cons.1 hp with rfl | hp
  · exact ⟨_, rfl, lies_names⟩
  cases hp
structure StAt (W : World) (k off n cap : Nat) (b : Blk) (f : Nat → Int) : Prop where
  le : n ≤ cap
  heap : W.heap[k]? = some b.obj0
  fx : b.fx
  raw : ∃ c T fr, b = ⟨c, .raw T fr⟩
  rd : rdI b off (6 * cap) f
  i6 : ∀ j, j < 6 * cap → i64 (f j)
  lies : ∃ row c, W.shape? k = some (row, c) ∧ liesAt Tryz.prog Tryz.prog.depth row (c / Tryz.prog.cellsOf row) off 53 cap = true
theorem StAt.sb {W : World} {k off n cap : Nat} {b : Blk} {f : Nat → Int} (h : StAt W k off n cap b f) (hn : n ≤ 2932031007402) : SB b off n f := ⟨h.rd.le (by have := h.le; omega), h.fx, fun j hj => h.i6 j (by have := h.le; omega), hn⟩
theorem open_state {r : Reach} {b0 : Nat} {v : Value} {d : DataW H} {p : List MemPlace} (hv : Value.okWide Tryz.prog w r b0 27 v) (h : DataW.Trod enc Tryz.prog w 0 (fun _ => true) held 27 v d p) :
    ∃ st, i64 st ∧ (v = .agg #[.int .i64 st, .slice none 0 0] ∨ ∃ (k off n cap : Nat) (b : Blk) (f : Nat → Int), v = .agg #[.int .i64 st, .slice (some ⟨k, off, none⟩) n cap] ∧ StAt w k off n cap b f) := by
  simp only [Value.okWide, Tryz.underlying27] at hv
  obtain ⟨cs, rfl, hsz, ts, hts, _, hall⟩ := hv
  rw [ctypes_state] at hts
  simp only [Option.some.injEq] at hts
  subst hts
  obtain ⟨fuel, hf⟩ := h
  obtain ⟨y0, y1, n, _, hl, h0, h1⟩ := trod_struct2 Tryz.underlying27 hf
  rw [celln_int] at h0
  rw [cells_bodies] at h1
  simp only [Value.cells] at h0 h1
  obtain ⟨st, e0, _, hw⟩ := DataW.trod_int Tryz.underlying3 h0
  rw [cells_state] at hsz
  obtain ⟨c0, c1, rfl⟩ : ∃ c0 c1, cs = #[c0, c1] := by
    obtain ⟨l⟩ := cs
    match l, hsz with
    | [c0, c1], _ => exact ⟨c0, c1, rfl⟩
  simp at e0
  subst e0
  refine ⟨st, wf_i64 hw, ?_⟩
  rcases open_bodies h1 with e1 | ⟨a, len, cap, f, e1, hle, hc⟩
  · simp at e1
    subst e1
    exact .inl rfl
  · simp at e1
    subst e1
    right
    obtain ⟨u, hu, hok⟩ := hall 1 _ rfl
    simp at hu
    subst hu
    simp only [Cell.okWide, Cell.ok, Tryz.underlying25] at hok
    obtain ⟨_, _, _, hsp, row, cells, hsh, hlies⟩ := hok
    obtain ⟨k, off, sp⟩ := a
    simp only at hsp hsh hlies
    subst hsp
    have hsh' := hsh
    unfold World.shape? at hsh'
    split at hsh'
    · rename_i c T fr hh
      simp only [Option.some.injEq, Prod.mk.injEq] at hsh'
      obtain ⟨rfl, rfl⟩ := hsh'
      refine ⟨k, off, len, cap, ⟨c, .raw T fr⟩, f, rfl, hle, hh, trivial, ⟨c, T, fr, rfl⟩, fun j hj => ?_, fun j hj => (hc j hj).2, T, _, hsh, hlies⟩
      have h2 := (hc j hj).1
      rw [Addr.add_lit] at h2
      simpa [World.cell?, hh] using h2
    · cases hsh'
end
theorem trodAll_stays {H : Type} {enc : TypeId × Value → H} {P : Program} {base : Nat} (hl : laidOutB P = true) {W W' : World} {sp' : Nat → Bool} : ∀ (ts : List TypeId) (vs : List Value) (ds : List (DataW H)) (ps : List MemPlace), (∀ t ∈ ts, P.readableRec t = true ∧ t < P.types.size) →
    DataW.TrodAll enc P W base (fun _ => true) true ts vs ds ps → (∀ p ∈ ps, W.sameAt W' p) → (∀ p ∈ ps, sp' p.block = true) → DataW.TrodAll enc P W' base sp' true ts vs ds ps
  | [], [], [], _, _, h, _, _ => h
  | t :: _, _ :: _, _ :: _, _, hT, ⟨p, q, h1, h2, e⟩, hm, hs => ⟨p, q, WideElems.Trod_stays hl (hT t (by simp)).1 (hT t (by simp)).2 h1 (fun x hx => hm x (by rw [e]; exact List.mem_append_left _ hx)) (fun x hx => hs x (by rw [e]; exact List.mem_append_left _ hx)),
      trodAll_stays hl _ _ _ _ (fun t ht => hT t (List.mem_cons_of_mem _ ht)) h2 (fun x hx => hm x (by rw [e]; exact List.mem_append_right _ hx)) (fun x hx => hs x (by rw [e]; exact List.mem_append_right _ hx)), e⟩
theorem laid_out : laidOutB Tryz.prog = true := by kernel_rfl
theorem bytes_body : Tryz.prog.bytesOf 53 = 48 := by kernel_rfl
theorem cap_le {H : Type} {enc : TypeId × Value → H} {w : World} {held : Bool} {st : Int} {a : Addr} {n cap : Nat} {d : DataW H} {p : List MemPlace} (h : DataW.Trod enc Tryz.prog w 0 (fun _ => true) held 27 (.agg #[.int .i64 st, .slice (some a) n cap]) d p) (hw : ∀ x ∈ d.weights Tryz.prog 27, x ≤ reachBytes) : cap ≤ 2932031007402 := by
  obtain ⟨fuel, hf⟩ := h
  obtain ⟨y0, y1, m, hx, hl, h0, h1⟩ := trod_struct2 Tryz.underlying27 hf
  rw [cells_bodies] at h1
  simp only [Value.cells] at h1
  rcases Deep.open_slice Tryz.underlying25 h1 with ⟨e1, _⟩ | ⟨a', len, cap', m', n', D, Pl, e1, _, hlc, hcm, hm, hy1, _⟩
  · simp at e1
  · simp at e1
    obtain ⟨rfl, rfl, rfl⟩ := e1
    rw [if_pos rfl] at hm
    subst hm
    simp only [Prod.mk.injEq] at hx
    have hd := hx.1
    rw [hd, hy1] at hw
    have := hw ((n + (m' - n)) * 48) (by
      simp only [DataW.weights, Tryz.underlying27]
      simp [DataW.weightsEach, DataW.weights, Tryz.underlying25, bytes_body])
    unfold reachBytes at this
    omega
theorem StAt.ne {W : World} {k off n cap : Nat} {b : Blk} {f : Nat → Int} (h : StAt W k off n cap b f) (hg : GOK G0 W) : ∀ g c, G0 g = some c → k ≠ g := fun g c hc e => by
  have h1 := hg g c hc
  obtain ⟨t, ht, hl'⟩ := G0_lies _ (G0_mem hc)
  obtain ⟨row, q, hsh, hl⟩ := h.lies
  rw [e] at hsh
  unfold World.shape? at hsh
  rw [h1] at hsh
  obtain ⟨cc, T⟩ := c
  simp only at ht
  subst ht
  simp only [Blk.obj0, Option.some.injEq, Prod.mk.injEq] at hsh
  obtain ⟨rfl, rfl⟩ := hsh
  rw [hl'] at hl
  cases hl
theorem fun_state {P : Program} {G : Hp} {fn : FuncId} {args : Array Value} {b : Blk} {v : Value} {W : World} {k : Nat} (hGF : GFlat G) (hF : Fun P G fn args (hpL G [(100, b)]) (keys [(100, b)]) (.ret v [])) (hv : flatV v = true) (hgok : GOK G W) (hfx : b.fx) (hk : W.heap[k]? = some b.obj0) (hne : ∀ g c, G g = some c → k ≠ g) :
    CallsS P fn (args.map (ren fun q => if q = 100 then k else q)) W fun e W' => e = .returned v ∧ Below W.heap.size W W' := by
  have er : rst (hpL G [(100, b)]) (keys [(100, b)]) = hpL G [(100, b)] := LOk.rst hGF
  have hobj : ∀ r, b.obj r = b.obj0 := fun r => by
    obtain ⟨c, T⟩ := b
    cases T with
    | ty t => exact Blk.obj_flat hfx
    | raw t fr => rfl
    | mp => exact hfx.elim
  have hmem : ∀ q c, hpL G [(100, b)] q = some c → (q = 100 ∧ c = b) ∨ (q < 100 ∧ G q = some c) := fun q c hq => by
    rcases hpL_mem hq with h | h
    · simp at h; exact .inl h
    · exact .inr ⟨(hGF q c h).1, h⟩
  have hrun := hF.run (fun q => if q = 100 then k else q) W hgok ?_ ?_ ?_
  · refine hrun.mono fun e W' h => ?_
    obtain ⟨he, ht⟩ := h
    rw [flatV_ren hv] at he
    exact ⟨he, ht.os, ht.tape, ht.output, ht.size, fun q hq => ht.same q hq (by simp)⟩
  · rw [er]
    intro q c hq
    rcases hmem q c hq with ⟨rfl, rfl⟩ | ⟨hlt, hG⟩
    · exact ⟨by simp only [if_true]; rw [hobj]; exact hk, Blk.fx_ids hfx _⟩
    · refine ⟨?_, Blk.flat_ids (hGF q c hG).2⟩
      have e1 : (fun q => if q = 100 then k else q) q = q := if_neg (by omega)
      rw [e1, hgok q c hG]
      congr 1
      obtain ⟨cc, T⟩ := c
      cases T with
      | ty t => exact (Blk.obj_flat (hGF q _ hG).2).symm
      | raw t fr => rfl
      | mp => exact (Blk.obj_flat (hGF q _ hG).2).symm
  · rw [er]
    intro q q' hq hq' e
    have e : (if q = 100 then k else q) = if q' = 100 then k else q' := e
    unfold dom at hq hq'
    cases h1 : hpL G [(100, b)] q with
    | none => exact absurd h1 hq
    | some c =>
      cases h2 : hpL G [(100, b)] q' with
      | none => exact absurd h2 hq'
      | some c' =>
        rcases hmem q c h1 with ⟨rfl, _⟩ | ⟨hlt, hG⟩ <;> rcases hmem q' c' h2 with ⟨rfl, _⟩ | ⟨hlt', hG'⟩
        · rfl
        · rw [if_pos rfl, if_neg (by omega)] at e; exact absurd e (hne _ _ hG')
        · rw [if_neg (by omega), if_pos rfl] at e; exact absurd e.symm (hne _ _ hG)
        · rw [if_neg (by omega), if_neg (by omega)] at e; exact e
  · intro q hq _
    exact if_neg (by omega)
section
variable {H : Type} {enc : TypeId × Value → H} {w : World} {base : Nat} {spare : Nat → Bool} {held : Bool}
end
theorem raw_same {W : World} {k : Nat} {b b' : Blk} (h : W.heap[k]? = some b.obj0) (h' : W.heap[k]? = some b'.obj0) (r : ∃ c T fr, b = ⟨c, .raw T fr⟩) (r' : ∃ c T fr, b' = ⟨c, .raw T fr⟩) : b = b' := by
  obtain ⟨c, T, fr, rfl⟩ := r
  obtain ⟨c', T', fr', rfl⟩ := r'
  rw [h] at h'
  simp only [Blk.obj0, Option.some.injEq, Obj.cells.injEq] at h'
  obtain ⟨rfl, rfl, rfl⟩ := h'
  rfl
theorem fun_L {P : Program} {G : Hp} {fn : FuncId} {args : Array Value} {L : List (Nat × Blk)} {v : Value} {W : World} (r : Nat → Nat) (hGF : GFlat G) (hF : Fun P G fn args (hpL G L) (keys L) (.ret v [])) (hv : flatV v = true) (hgok : GOK G W) (hL : LOk L 200) (hfx : ∀ p ∈ L, p.2.fx)
    (hr : ∀ p ∈ L, W.heap[r p.1]? = some p.2.obj0) (hne : ∀ p ∈ L, ∀ g c, G g = some c → r p.1 ≠ g) (hinj : ∀ p ∈ L, ∀ q ∈ L, r p.1 = r q.1 → p.1 = q.1) (hlow : ∀ q, q < 100 → r q = q) :
    CallsS P fn (args.map (ren r)) W fun e W' => e = .returned v ∧ Below W.heap.size W W' := by
  have er : rst (hpL G L) (keys L) = hpL G L := LOk.rst hGF
  have hobj : ∀ (b : Blk), b.fx → ∀ r, b.obj r = b.obj0 := fun b hb r => by
    obtain ⟨c, T⟩ := b
    cases T with
    | ty t => exact Blk.obj_flat hb
    | raw t fr => rfl
    | mp => exact hb.elim
  have hmem : ∀ q c, hpL G L q = some c → (q, c) ∈ L ∨ (q < 100 ∧ G q = some c) := fun q c hq => by
    rcases hpL_mem hq with h | h
    · exact .inl h
    · exact .inr ⟨(hGF q c h).1, h⟩
  have hrun := hF.run r W hgok ?_ ?_ ?_
  · refine hrun.mono fun e W' h => ?_
    obtain ⟨he, ht⟩ := h
    rw [flatV_ren hv] at he
    exact ⟨he, ht.os, ht.tape, ht.output, ht.size, fun q hq => ht.same q hq (by simp)⟩
  · rw [er]
    intro q c hq
    rcases hmem q c hq with h | ⟨hlt, hG⟩
    · exact ⟨by rw [hobj c (hfx _ h)]; exact hr _ h, Blk.fx_ids (hfx _ h) _⟩
    · refine ⟨?_, Blk.flat_ids (hGF q c hG).2⟩
      rw [hlow q hlt, hgok q c hG]
      congr 1
      obtain ⟨cc, T⟩ := c
      cases T with
      | ty t => exact (Blk.obj_flat (hGF q _ hG).2).symm
      | raw t fr => rfl
      | mp => exact (Blk.obj_flat (hGF q _ hG).2).symm
  · rw [er]
    intro q q' hq hq' e
    unfold dom at hq hq'
    cases h1 : hpL G L q with
    | none => exact absurd h1 hq
    | some c =>
      cases h2 : hpL G L q' with
      | none => exact absurd h2 hq'
      | some c' =>
        rcases hmem q c h1 with h | ⟨hlt, hG⟩ <;> rcases hmem q' c' h2 with h' | ⟨hlt', hG'⟩
        · exact hinj _ h _ h' e
        · rw [hlow q' hlt'] at e; exact absurd e (hne _ h _ _ hG')
        · rw [hlow q hlt] at e; exact absurd e.symm (hne _ h' _ _ hG)
        · rw [hlow q hlt, hlow q' hlt'] at e; exact e
  · intro q hq _
    exact hlow q hq
def nmL (k k2 q : Nat) : Nat := if q = 100 then k else if q = 108 then k2 else q
theorem nmL_low (k k2 q : Nat) (h : q < 100) : nmL k k2 q = q := by
  unfold nmL
  rw [if_neg (by omega), if_neg (by omega)]
@[simp] theorem nmL_a (k k2 : Nat) : nmL k k2 100 = k := by simp [nmL]
@[simp] theorem nmL_b (k k2 : Nat) : nmL k k2 108 = k2 := by simp [nmL]
theorem fun_two {P : Program} {G : Hp} {fn : FuncId} {args : Nat → Array Value} {b b2 : Blk} {v : Value} {W : World} {k k2 : Nat} (hGF : GFlat G) (hF : ∀ L ks, LTwo G L ks b b2 → Fun P G fn (args ks) (hpL G L) (keys L) (.ret v [])) (hv : flatV v = true) (hgok : GOK G W)
    (h1 : b.fx) (h2 : b2.fx) (w1 : W.heap[k]? = some b.obj0) (w2 : W.heap[k2]? = some b2.obj0) (r1 : ∃ c T fr, b = ⟨c, .raw T fr⟩) (r2 : ∃ c T fr, b2 = ⟨c, .raw T fr⟩) (n1 : ∀ g c, G g = some c → k ≠ g) (n2 : ∀ g c, G g = some c → k2 ≠ g) {args' : Array Value}
    (ha : ∀ ks, ks = 100 ∧ k = k2 ∨ ks = 108 → (args ks).map (ren (nmL k k2)) = args') : CallsS P fn args' W fun e W' => e = .returned v ∧ Below W.heap.size W W' := by
  by_cases e : k = k2
  · subst e
    obtain rfl := raw_same w1 w2 r1 r2
    have := fun_L (nmL k k) hGF (hF _ _ (LTwo.one h1)) hv hgok (LTwo.one (G := G) h1).ok (LTwo.one (G := G) h1).fx (by simp [w1]) (by simp; exact n1) (by simp) (nmL_low k k)
    rwa [ha 100 (.inl ⟨rfl, rfl⟩)] at this
  · have := fun_L (nmL k k2) hGF (hF _ _ (LTwo.two h1 h2)) hv hgok (LTwo.two (G := G) h1 h2).ok (LTwo.two (G := G) h1 h2).fx (by simp [w1, w2]) (by simp; exact ⟨n1, n2⟩) (by simp; exact ⟨fun h => e h, fun h => e h.symm⟩) (nmL_low k k2)
    rwa [ha 108 (.inr rfl)] at this
theorem cells_ints : Tryz.prog.cellsOf 22 = 1 := by kernel_rfl
theorem cells_conf : Tryz.prog.cellsOf 24 = 6 := by kernel_rfl
theorem ctypes_conf : Tryz.prog.cellTypes Tryz.prog.depth 24 = some [22, 3, 3, 3, 3, 3] := by kernel_rfl
theorem bytes_int : Tryz.prog.bytesOf 3 = 8 := by kernel_rfl
theorem lies_namesI (d c o n : Nat) : liesAt Tryz.prog d 123 c o 3 n = false := by
  cases d with
  | zero => rfl
  | succ d =>
    unfold liesAt
    rw [rowAt_names (by kernel_rfl) (by kernel_rfl), Tryz.underlying3]
    rfl
theorem lies_wideI (d c o n : Nat) : liesAt Tryz.prog d 30 c o 3 n = false := by
  cases d with
  | zero => rfl
  | succ d =>
    unfold liesAt
    rw [rowAt_wide (by kernel_rfl) (by kernel_rfl), Tryz.underlying3]
    rfl
theorem G0_liesI : ∀ p ∈ G0L, ∃ t, p.2.T = .ty t ∧ ∀ d c o n, liesAt Tryz.prog d t c o 3 n = false := by
  intro p hp
  unfold G0L at hp
  rcases List.mem_cons.1 hp with rfl | hp
  · exact ⟨_, rfl, lies_wideI⟩
  rcases List.mem_cons.1 hp with rfl | hp
  · exact ⟨_, rfl, lies_namesI⟩
  cases hp
structure CfAt (W : World) (k off n cap : Nat) (b : Blk) (f : Nat → Int) : Prop where
  le : n ≤ cap
  heap : W.heap[k]? = some b.obj0
  fx : b.fx
  raw : ∃ c T fr, b = ⟨c, .raw T fr⟩
  rd : rdI b off cap f
  i6 : ∀ j, j < cap → i64 (f j)
  lies : ∃ row c, W.shape? k = some (row, c) ∧ liesAt Tryz.prog Tryz.prog.depth row (c / Tryz.prog.cellsOf row) off 3 cap = true
theorem CfAt.mb {W : World} {k off n cap : Nat} {b : Blk} {f : Nat → Int} (h : CfAt W k off n cap b f) (hn : n ≤ 17592186044416) : MB b off n f := ⟨h.rd.le h.le, h.fx, fun j hj => h.i6 j (Nat.lt_of_lt_of_le hj h.le), hn⟩
theorem CfAt.ne {W : World} {k off n cap : Nat} {b : Blk} {f : Nat → Int} (h : CfAt W k off n cap b f) (hg : GOK G0 W) : ∀ g c, G0 g = some c → k ≠ g := fun g c hc e => by
  have h1 := hg g c hc
  obtain ⟨t, ht, hl'⟩ := G0_liesI _ (G0_mem hc)
  obtain ⟨row, q, hsh, hl⟩ := h.lies
  rw [e] at hsh
  unfold World.shape? at hsh
  rw [h1] at hsh
  obtain ⟨cc, T⟩ := c
  simp only at ht
  subst ht
  simp only [Blk.obj0, Option.some.injEq, Prod.mk.injEq] at hsh
  obtain ⟨rfl, rfl⟩ := hsh
  rw [hl'] at hl
  cases hl
section
variable {H : Type} {enc : TypeId × Value → H} {w : World} {held : Bool}
theorem trod_struct6 {P : Program} {base : Nat} {spare : Nat → Bool} {t : TypeId} {f0 f1 f2 f3 f4 f5 : Field} {fuel : Nat} {cs : List Value} {x : DataW H × List MemPlace} (ht : P.underlying t = some (.struct #[f0, f1, f2, f3, f4, f5])) (h : DataW.trod enc P w base spare held fuel t cs = some x) :
    ∃ y0 y1 y2 y3 y4 y5 n, x.1 = .agg [y0.1, y1.1, y2.1, y3.1, y4.1, y5.1] ∧ DataW.trod enc P w base spare held n f0.type ((cs.drop f0.offset).take (P.cellsOf f0.type)) = some y0 ∧ DataW.trod enc P w base spare held n f1.type ((cs.drop f1.offset).take (P.cellsOf f1.type)) = some y1 ∧
      DataW.trod enc P w base spare held n f2.type ((cs.drop f2.offset).take (P.cellsOf f2.type)) = some y2 ∧ DataW.trod enc P w base spare held n f3.type ((cs.drop f3.offset).take (P.cellsOf f3.type)) = some y3 ∧ DataW.trod enc P w base spare held n f4.type ((cs.drop f4.offset).take (P.cellsOf f4.type)) = some y4 ∧ DataW.trod enc P w base spare held n f5.type ((cs.drop f5.offset).take (P.cellsOf f5.type)) = some y5 := by
  obtain ⟨xs, n, _, hx, hl, hlen, hf⟩ := DataW.trod_struct ht h
  match xs, hlen with
  | [y0, y1, y2, y3, y4, y5], _ => exact ⟨y0, y1, y2, y3, y4, y5, n, by rw [hx]; rfl, by simpa using hf 0 f0 rfl, by simpa using hf 1 f1 rfl, by simpa using hf 2 f2 rfl, by simpa using hf 3 f3 rfl, by simpa using hf 4 f4 rfl, by simpa using hf 5 f5 rfl⟩
theorem trod_conf {fuel : Nat} {cs : List Value} {x : DataW H × List MemPlace} (h : DataW.trod enc Tryz.prog w 0 (fun _ => true) held fuel 24 cs = some x) :
    ∃ y0 y1 y2 y3 y4 y5 n, x.1 = .agg [y0.1, y1.1, y2.1, y3.1, y4.1, y5.1] ∧ DataW.trod enc Tryz.prog w 0 (fun _ => true) held n 22 ((cs.drop 0).take 1) = some y0 ∧ DataW.trod enc Tryz.prog w 0 (fun _ => true) held n 3 ((cs.drop 1).take 1) = some y1 ∧ DataW.trod enc Tryz.prog w 0 (fun _ => true) held n 3 ((cs.drop 2).take 1) = some y2 ∧
      DataW.trod enc Tryz.prog w 0 (fun _ => true) held n 3 ((cs.drop 3).take 1) = some y3 ∧ DataW.trod enc Tryz.prog w 0 (fun _ => true) held n 3 ((cs.drop 4).take 1) = some y4 ∧ DataW.trod enc Tryz.prog w 0 (fun _ => true) held n 3 ((cs.drop 5).take 1) = some y5 := by
  obtain ⟨y0, y1, y2, y3, y4, y5, n, hx, f0, f1, f2, f3, f4, f5⟩ := trod_struct6 Tryz.underlying24 h
  rw [cells_ints] at f0
  rw [celln_int] at f1 f2 f3 f4 f5
  exact ⟨y0, y1, y2, y3, y4, y5, n, hx, f0, f1, f2, f3, f4, f5⟩
theorem open_conf {r : Reach} {b0 : Nat} {v : Value} {d : DataW H} {p : List MemPlace} (hv : Value.okWide Tryz.prog w r b0 24 v) (h : DataW.Trod enc Tryz.prog w 0 (fun _ => true) held 24 v d p) :
    ∃ g bx tp nr md, i64 g ∧ i64 bx ∧ i64 tp ∧ i64 nr ∧ i64 md ∧ (v = cfV (.slice none 0 0) g bx tp nr md ∨ ∃ (k off n cap : Nat) (b : Blk) (f : Nat → Int), v = cfV (.slice (some ⟨k, off, none⟩) n cap) g bx tp nr md ∧ CfAt w k off n cap b f) := by
  simp only [Value.okWide, Tryz.underlying24] at hv
  obtain ⟨cs, rfl, hsz, ts, hts, _, hall⟩ := hv
  rw [ctypes_conf] at hts
  simp only [Option.some.injEq] at hts
  subst hts
  obtain ⟨fuel, hf⟩ := h
  obtain ⟨y0, y1, y2, y3, y4, y5, n, _, h0, h1, h2, h3, h4, h5⟩ := trod_conf hf
  simp only [Value.cells] at h0 h1 h2 h3 h4 h5
  obtain ⟨g, e1, _, w1⟩ := DataW.trod_int Tryz.underlying3 h1
  obtain ⟨bx, e2, _, w2⟩ := DataW.trod_int Tryz.underlying3 h2
  obtain ⟨tp, e3, _, w3⟩ := DataW.trod_int Tryz.underlying3 h3
  obtain ⟨nr, e4, _, w4⟩ := DataW.trod_int Tryz.underlying3 h4
  obtain ⟨md, e5, _, w5⟩ := DataW.trod_int Tryz.underlying3 h5
  rw [cells_conf] at hsz
  obtain ⟨c0, c1, c2, c3, c4, c5, rfl⟩ : ∃ c0 c1 c2 c3 c4 c5, cs = #[c0, c1, c2, c3, c4, c5] := by
    obtain ⟨l⟩ := cs
    match l, hsz with
    | [c0, c1, c2, c3, c4, c5], _ => exact ⟨c0, c1, c2, c3, c4, c5, rfl⟩
  simp at e1 e2 e3 e4 e5
  subst e1 e2 e3 e4 e5
  refine ⟨g, bx, tp, nr, md, wf_i64 w1, wf_i64 w2, wf_i64 w3, wf_i64 w4, wf_i64 w5, ?_⟩
  rcases open_ints Tryz.underlying22 Tryz.underlying3 celln_int h0 with ⟨e0, _⟩ | ⟨a, len, cap, zs, e0, _, hle, _, hzl, _, hc, hw⟩
  · simp at e0
    subst e0
    exact .inl rfl
  · simp at e0
    subst e0
    right
    rw [if_pos rfl] at hzl
    obtain ⟨u, hu, hok⟩ := hall 0 _ rfl
    simp at hu
    subst hu
    simp only [Cell.okWide, Cell.ok, Tryz.underlying22] at hok
    obtain ⟨_, _, _, hsp, row, cells, hsh, hlies⟩ := hok
    obtain ⟨k, off, sp⟩ := a
    simp only at hsp hsh hlies
    subst hsp
    have hsh' := hsh
    unfold World.shape? at hsh'
    split at hsh'
    · rename_i c T fr hh
      simp only [Option.some.injEq, Prod.mk.injEq] at hsh'
      obtain ⟨rfl, rfl⟩ := hsh'
      refine ⟨k, off, len, cap, ⟨c, .raw T fr⟩, fun j => zs.getD j 0, rfl, hle, hh, trivial, ⟨c, T, fr, rfl⟩, fun j hj => ?_, fun j hj => ?_, T, _, hsh, hlies⟩
      · have h2 := hc j (by omega)
        rw [Addr.add_lit] at h2
        simpa [World.cell?, hh] using h2
      · have hjz : j < zs.length := by omega
        exact wf_i64 (hw _ (by simp [List.getD, List.getElem?_eq_getElem hjz]))
    · cases hsh'
theorem cap_leC {g bx tp nr md : Int} {a : Addr} {n cap : Nat} {d : DataW H} {p : List MemPlace} (h : DataW.Trod enc Tryz.prog w 0 (fun _ => true) held 24 (cfV (.slice (some a) n cap) g bx tp nr md) d p) (hw : ∀ x ∈ d.weights Tryz.prog 24, x ≤ reachBytes) : cap ≤ 17592186044416 := by
  obtain ⟨fuel, hf⟩ := h
  obtain ⟨y0, y1, y2, y3, y4, y5, m, hx, h0, _⟩ := trod_conf hf
  simp only [cfV, Value.cells] at h0
  rcases Deep.open_slice Tryz.underlying22 h0 with ⟨e1, _⟩ | ⟨a', len, cap', m', n', D, Pl, e1, _, hlc, hcm, hm, hy1, _⟩
  · simp at e1
  · simp at e1
    obtain ⟨rfl, rfl, rfl⟩ := e1
    rw [if_pos rfl] at hm
    subst hm
    rw [show d = _ from hx, hy1] at hw
    have := hw ((n + (m' - n)) * 8) (by
      simp only [DataW.weights, Tryz.underlying24]
      simp [DataW.weightsEach, DataW.weights, Tryz.underlying22, bytes_int])
    unfold reachBytes at this
    omega
end
end Go.Gy
