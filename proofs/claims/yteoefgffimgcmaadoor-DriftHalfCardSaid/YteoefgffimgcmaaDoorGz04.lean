/-
  Lemmas of this claim, in their order (GyDA, GyRI, GyRK, GyLA, GyV2, GyVA, GyZ1, GyZ2, GyZ3, GyRA, GyRB, GyDM, GyQA, GyVB, GyVC, GyVD, GyRC, GyRF, GyQB, GyDB, GyDC).
  Conditions: those of each theorem.
-/
import Derived.Test.YteoefgffimgcmaaDoorGz03
namespace Go.Gy
set_option linter.unusedSimpArgs false
set_option linter.unusedVariables false
open Go Go.RowKit
section
variable {P : Program}
/-- From its cell off on a block holds the ints f 0, f 1, .., N of them. -/
def rdI (b : Blk) (off N : Nat) (f : Nat → Int) : Prop := ∀ j, j < N → b.c[off + j]? = some (.int .i64 (f j))
theorem rdI_fa (N : Nat) (f : Nat → Int) (T : BTy) : rdI ⟨fa N .i64 f, T⟩ 0 N f := fun j hj => by
  rw [Nat.zero_add]; exact fa_get N .i64 f j hj
theorem loadK_of {T : TypeId} {b : Blk} {off : Nat} {v : Value} (h : loadB P T b.c off = some v) (hf : flatV v = true) : loadK P T b off = some v := by
  obtain ⟨c, t⟩ := b
  cases t with
  | ty t => exact h
  | raw t fr => simp only [loadK]; simp only at h; rw [h]; simp [hf]
theorem fa_flatV (m : Nat) (k : IntKind) (f : Nat → Int) : flatV (.agg (fa m k f)) = true := by
  simp [flatV, flatA]
theorem loadK_rd {T : TypeId} {m : Nat} (h1 : tyAgg P T = some true) (h2 : tySize P T = some m) (hm : 0 < m) {b : Blk} {off N j : Nat} {f : Nat → Int} (h : rdI b off N f) (hj : j + m ≤ N) : loadK P T b (off + j) = some (.agg (fa m .i64 fun q => f (j + q))) := by
  have hsz : off + j + m ≤ b.c.size := by
    have := h (j + m - 1) (by omega)
    have := (Array.getElem?_eq_some_iff.1 this).1
    omega
  have he : b.c.extract (off + j) (off + j + m) = fa m .i64 fun q => f (j + q) := by
    apply Array.ext_getElem?
    intro q
    rw [Array.getElem?_extract]
    by_cases hq : q < m
    · rw [if_pos (by omega), fa_get _ _ _ _ hq, Nat.add_assoc, h (j + q) (by omega)]
    · rw [if_neg (by omega)]
      simp [fa]; omega
  refine loadK_of ?_ (fa_flatV _ _ _)
  simp only [loadB, h1, h2, if_pos hsz, he]
theorem loadK_rd1 {T : TypeId} (h1 : tyAgg P T = some false) {b : Blk} {off N j : Nat} {f : Nat → Int} (h : rdI b off N f) (hj : j < N) : loadK P T b (off + j) = some (.int .i64 (f j)) := by
  refine loadK_of ?_ (by simp [flatV, flatA, flatF, flat0])
  simp only [loadB, h1, h j hj]
  rfl
theorem fa_6 (k : IntKind) (f : Nat → Int) : fa 6 k f = #[.int k (f 0), .int k (f 1), .int k (f 2), .int k (f 3), .int k (f 4), .int k (f 5)] := by
  apply Array.ext'
  simp [fa, Array.toList_ofFn, List.ofFn_succ]
theorem fa_3 (k : IntKind) (f : Nat → Int) : fa 3 k f = #[.int k (f 0), .int k (f 1), .int k (f 2)] := by
  apply Array.ext'
  simp [fa, Array.toList_ofFn, List.ofFn_succ]
/-- Three ints laid into a row. -/
def put3 (f : Nat → Int) (o : Nat) (a b c : Int) : Nat → Int := fun j => if j = o then a else if j = o + 1 then b else if j = o + 2 then c else f j
theorem splice_3 (N : Nat) (k : IntKind) (f : Nat → Int) (o : Nat) (a b c : Int) (h : o + 3 ≤ N) : splice (fa N k f) o [.int k a, .int k b, .int k c] = fa N k (put3 f o a b c) := by
  apply Array.ext_getElem?
  intro j
  rw [splice_get]
  by_cases hj : j < N
  · rw [fa_get _ _ _ _ hj, fa_get _ _ _ _ hj]
    unfold put3
    by_cases h0 : j = o
    · subst h0; simp [hj]
    · by_cases h1 : j = o + 1
      · subst h1; simp [hj]
      · by_cases h2 : j = o + 2
        · subst h2; simp [hj]
        · rw [if_neg (by simp; omega), if_neg h0, if_neg h1, if_neg h2]
  · rw [if_neg (by simp; omega)]
    have h1 : (fa N k f)[j]? = none := by simp [fa]; omega
    have h2 : (fa N k (put3 f o a b c))[j]? = none := by simp [fa]; omega
    rw [h1, h2]
/-- A row laid into a row. -/
def putN (f : Nat → Int) (a m : Nat) (g : Nat → Int) : Nat → Int := fun j => if a ≤ j ∧ j < a + m then g (j - a) else f j
/-- A row behind a row, and nought behind both. -/
def catN (f : Nat → Int) (a m : Nat) (g : Nat → Int) : Nat → Int := fun j => if j < a then f j else if j < a + m then g (j - a) else 0
theorem list_fa {l : List Value} {N : Nat} {k : IntKind} {g : Nat → Int} (hl : l.length = N) (h : ∀ j, j < N → l[j]? = some (.int k (g j))) : l.toArray = fa N k g := by
  apply Array.ext_getElem?
  intro j
  by_cases hj : j < N
  · rw [fa_get _ _ _ _ hj, List.getElem?_toArray, h j hj]
  · have h1 : (fa N k g)[j]? = none := by simp [fa]; omega
    rw [h1, List.getElem?_toArray, List.getElem?_eq_none (by omega)]
theorem fa_toList_get {N : Nat} {k : IntKind} {f : Nat → Int} {j : Nat} (h : j < N) : (fa N k f).toList[j]? = some (.int k (f j)) := by
  rw [Array.getElem?_toList]; exact fa_get _ _ _ _ h
theorem fa_toList_len (N : Nat) (k : IntKind) (f : Nat → Int) : (fa N k f).toList.length = N := by simp
theorem app_room {N a m : Nat} {k : IntKind} {f g : Nat → Int} (h : a + m ≤ N) : ((fa N k f).toList.take a ++ (fa m k g).toList ++ (fa N k f).toList.drop (a + (fa m k g).toList.length)).toArray = fa N k (putN f a m g) := by
  refine list_fa (by simp; omega) fun j hj => ?_
  rw [fa_toList_len]
  have hta : ((fa N k f).toList.take a).length = a := by simp; omega
  unfold putN
  by_cases h1 : j < a
  · rw [List.append_assoc, List.getElem?_append_left (by omega), List.getElem?_take, if_pos h1, fa_toList_get (by omega), if_neg (by omega)]
  · rw [List.append_assoc, List.getElem?_append_right (by omega), hta]
    by_cases h2 : j < a + m
    · rw [List.getElem?_append_left (by simp; omega), fa_toList_get (by omega), if_pos (by omega)]
    · rw [List.getElem?_append_right (by simp; omega), fa_toList_len, List.getElem?_drop, if_neg (by omega), show a + m + (j - a - m) = j by omega, fa_toList_get hj]
theorem zeros_fa {z : Array Value} {k : IntKind} (hz : ∀ x ∈ z, x = .int k 0) (q : Nat) : (Builtin.zeroCells z q).toList = (fa (q * z.size) k fun _ => 0).toList := by
  have e : (Builtin.zeroCells z q).toList.toArray = fa (q * z.size) k fun _ => 0 := list_fa (by simp [zc_size]) fun j hj => by
    have hj' : j < (Builtin.zeroCells z q).size := by rw [zc_size]; exact hj
    rw [Array.getElem?_toList, Array.getElem?_eq_getElem hj']
    exact congrArg some (hz _ (zc_mem (Array.getElem_mem hj')))
  rw [← e]
theorem app_grow {N a m q : Nat} {k : IntKind} {f g : Nat → Int} (h : a ≤ N) : ((fa N k f).toList.take a ++ (fa m k g).toList ++ (fa q k fun _ => 0).toList).toArray = fa (a + m + q) k (catN f a m g) := by
  refine list_fa (by simp; omega) fun j hj => ?_
  have hta : ((fa N k f).toList.take a).length = a := by simp; omega
  unfold catN
  by_cases h1 : j < a
  · rw [List.append_assoc, List.getElem?_append_left (by omega), List.getElem?_take, if_pos h1, fa_toList_get (by omega), if_pos h1]
  · rw [List.append_assoc, List.getElem?_append_right (by omega), hta, if_neg h1]
    by_cases h2 : j < a + m
    · rw [List.getElem?_append_left (by simp; omega), fa_toList_get (by omega), if_pos h2]
    · rw [List.getElem?_append_right (by simp; omega), fa_toList_len, fa_toList_get (by omega), if_neg h2]
theorem app_new {m q : Nat} {k : IntKind} {g : Nat → Int} : ((fa m k g).toList ++ (fa q k fun _ => 0).toList).toArray = fa (m + q) k (catN g m 0 g) := by
  refine list_fa (by simp) fun j hj => ?_
  unfold catN
  by_cases h1 : j < m
  · rw [List.getElem?_append_left (by simp; omega), fa_toList_get h1, if_pos h1]
  · rw [List.getElem?_append_right (by simp; omega), fa_toList_len, fa_toList_get (by omega), if_neg h1, if_neg (by omega)]
theorem fa_list_flat {N : Nat} {k : IntKind} {f : Nat → Int} : ∀ x ∈ (fa N k f).toList, flatF x = true := fun x hx => by
  obtain ⟨m, rfl⟩ := fa_mem (Array.mem_toList_iff.1 hx)
  rfl
theorem fa_list_one {N : Nat} {k : IntKind} {f : Nat → Int} : ∀ x ∈ (fa N k f).toList, x.oneCell' = true := fun x hx => by
  obtain ⟨m, rfl⟩ := fa_mem (Array.mem_toList_iff.1 hx)
  rfl
/-- What an append reads of a row. -/
theorem rdI_nw {b : Blk} {off N : Nat} {f : Nat → Int} (h : rdI b off N f) : ∀ q u, (fa N .i64 f).toList[q]? = some u → b.c[off + q]? = some u := fun q u hq => by
  by_cases hN : q < N
  · rw [fa_toList_get hN] at hq; rw [h q hN]; exact hq
  · rw [List.getElem?_eq_none (by simp; omega)] at hq; cases hq
theorem fa_rn {N : Nat} {f : Nat → Int} {k : IntKind} {T : TypeId} {ρ : Nat → Nat} : (Blk.mk (fa N k f) (.ty T)).rn ρ = ⟨fa N k f, .ty T⟩ := Blk.rn_flat fun x hx => by
  obtain ⟨m, rfl⟩ := fa_mem hx; rfl
end
end Go.Gy
namespace Go.Gy
open Go Go.RowKit
section
variable {P : Program} {G : Hp}
variable {C : Ctx} {n : Nat} {d : List Deferred} {s : GS} {K : Exit → GS → Prop}
theorem WeakR.subd {ρ : Nat → Nat} {s' : GS} (hw : WeakR C ρ s s') (hg : ∀ k, k < 100 → s.hp k = C.G k) (k : Nat) (hk : dom s'.hp k) : dom s.hp (ρ k) := by
  unfold dom at hk
  cases hb : s'.hp k with
  | none => exact absurd hb hk
  | some b =>
    by_cases h1 : 100 ≤ k
    · unfold dom; rw [(hw.hp k b hb h1).1]; simp
    · rw [hw.id k (by omega)]
      unfold dom; rw [hg k (by omega), ← hw.glob k (by omega), hb]; simp
theorem Own0.rename {So : Nat → Prop} {ms : List Nat} {yc B2 B yc' : Nat} {a : Act} {r ρ : Nat → Nat} {ts : Nat → Value} {hp hq : Hp} {V : World} (h : Own0 C d So ms yc a r ts hp V) (hw : WeakR C ρ ⟨ts, hp, B2, yc'⟩ ⟨ts, hq, B, yc'⟩) : Own0 C d So ms yc a (fun k => r (ρ k)) ts hq V := by
  have subd := hw.subd (fun k hk => h.glob k hk)
  have sub : ∀ k b, hq k = some b → hp (ρ k) = some (b.rn ρ) := fun k b hb => by
    by_cases hk : 100 ≤ k
    · exact (hw.hp k b hb hk).1
    · have hg : C.G k = some b := (hw.glob k (by omega)).symm.trans hb
      rw [hw.id k (by omega), hw.rest k b (by omega) hg, h.glob k (by omega)]
      exact hg
  refine ⟨fun t => ?_, fun k b hb => ?_, fun k l hk hl e => hw.inj k l hk hl (h.inj _ _ (subd k hk) (subd l hl) e), h.X, fun i hd h1 => ?_, h.mks, fun i hi => ?_, hw.glob, fun k hk hd => ?_⟩
  · rcases hw.ts t with e | ⟨e, hne, hi⟩
    · exact .inl e
    · have e' := (h.ri t).resolve_left hne
      refine .inr ⟨?_, hi⟩
      have e2 : ts t = ren ρ (ts t) := e
      rw [e'.1]
      conv => lhs; rw [e2]
      rw [ren_comp]
  · have hs := (h.sat _ _ (sub k b hb)).1
    rw [Blk.rn_obj] at hs
    exact ⟨hs, hw.ids k b hb⟩
  · refine h.sep _ (subd i hd) ?_
    have hd' : dom hq i := hd
    unfold dom at hd'
    cases hb : hq i with
    | none => exact absurd hb hd'
    | some b => exact (hw.hp i b hb h1).2
  · have hk := h.keep i hi
    by_cases h1 : 100 ≤ i
    · have hh := hw.keep i h1 hi
      exact ⟨hh.1, by rw [hh.2]; exact hk.2⟩
    · refine ⟨?_, by rw [hw.id i (by omega)]; exact hk.2⟩
      show dom hq i
      unfold dom
      have e1 : hq i = C.G i := hw.glob i (by omega)
      rw [e1, ← h.glob i (by omega)]; exact hk.1
  · have hd' := subd k hd
    rw [hw.id k hk] at hd' ⊢
    exact h.low k hk hd'
end
end Go.Gy
namespace Go.Gy
open Go Go.RowKit
section
variable {P : Program} {G : Hp}
/-- An iterator's contract, that besides leaves its blocks as they were. -/
structure IterK (P : Program) (G : Hp) (f : FuncId) (caps : Array Value) (hp : Hp) (rs : List Nat) (xs : List (Array Value)) : Prop where
  enter : ∀ a w, (callFunc f a).run P w = .ok (.enter f a) w
  cids : ∀ x ∈ caps, plain0 x = true ∧ idsV (dom (rst hp rs)) x
  closed : ∀ k b, rst hp rs k = some b → b.ids (dom (rst hp rs))
  run : ∀ (E : Ext) (l stop : Nat) r S W, GOK G W → Sat r (dom (rst hp rs)) (rst hp rs) W → Inj r (dom (rst hp rs)) → (∀ k, k < 100 → dom (rst hp rs) k → r k = k) → Rounds P G E ⟨l, xs, stop, none⟩ → E.X 0 S W → (∀ k, S k → k < W.heap.size) →
    (∀ i, dom (rst hp rs) i → 100 ≤ i → ¬ S (r i)) →
    CallsS P f (#[Value.func (.yield l) #[] #[]] ++ caps.map (ren r)) W fun e W' => (∃ v, e = .returned v) ∧ (∃ S', E.X (min (stop + 1) xs.length) S' W') ∧ ∀ k, dom (rst hp rs) k → W'.heap[r k]? = W.heap[r k]?
theorem IterK.g {f : FuncId} {caps : Array Value} {hp : Hp} {rs : List Nat} {xs : List (Array Value)} (h : IterK P G f caps hp rs xs) : IterG P G f caps hp rs xs :=
  ⟨h.enter, h.cids, h.closed, fun E l stop r S W h1 h2 h3 h4 _ h5 h6 h7 h8 => (h.run E l stop r S W h1 h2 h3 h4 h5 h6 h7 h8).mono fun _ _ hh => ⟨hh.1, hh.2.1⟩⟩
theorem iterk_of {f : FuncId} {fn : Func} {c : Code} {caps : Array Value} {hp : Hp} {rs : List Nat} {xs : List (Array Value)} {B : Nat} {v : Value} (hGF : GFlat G) (hG : ∀ k, k < 100 → hp k = G k) (hf : P.funcs[f]? = some fn) (hb : fn.body = some c) (hcall : ∀ a w, (callFunc f a).run P w = .ok (.enter f a) w)
    (ha : ∀ x ∈ caps, plain0 x = true ∧ idsV (dom (rst hp rs)) x) (hcl : ∀ k b, rst hp rs k = some b → b.ids (dom (rst hp rs))) (hn : caps.size + 1 ≤ fn.ntmps) (hB : 100 ≤ B) (hfree : ∀ x, B ≤ x → rst hp rs x = none)
    (h : ∀ (C : Ctx) (l stop : Nat), C.G = G → C.hp0 = rst hp rs → C.Y = some ⟨l, xs, stop, none⟩ → GW P C fn.ntmps [] none c ⟨fun t => (#[Value.func (.yield l) #[] #[]] ++ caps).getD t undef, rst hp rs, B, 0⟩
      (fun e s => (e = .normal ∨ e = .ret) ∧ resG P fn.results.toList s.ts s.hp = some v ∧ s.yc = min (stop + 1) xs.length ∧ ∀ k, dom (rst hp rs) k → s.hp k = rst hp rs k)) : IterK P G f caps hp rs xs := by
  refine ⟨hcall, ha, hcl, fun E l stop r S W hgok hsat hinj hlow hR hX hS hdis => callsIn_of_wp_marks hf hb ⟨fn, hf⟩ ?_⟩
  let C : Ctx := ⟨E, rst hp rs, r, G, some ⟨l, xs, stop, none⟩⟩
  have hi : GI P C fn.ntmps [] r ⟨fun t => (#[Value.func (.yield l) #[] #[]] ++ caps).getD t undef, rst hp rs, B, 0⟩
      { tmps := (#[Value.func (.yield l) #[] #[]] ++ caps.map (ren r)) ++ Array.replicate (fn.ntmps - (#[Value.func (.yield l) #[] #[]] ++ caps.map (ren r)).size) undef, defers := [] } W := by
    have hsz : (#[Value.func (.yield l) #[] #[]] ++ caps.map (ren r)).size = (#[Value.func (.yield l) #[] #[]] ++ caps).size := by simp
    have hmap : #[Value.func (.yield l) #[] #[]] ++ caps.map (ren r) = (#[Value.func (.yield l) #[] #[]] ++ caps).map (ren r) := by simp [ren, renA, renF]
    refine ⟨⟨?_, fun t => ?_, hsat, hinj, ⟨S, [], hX, hS, fun i hi h1 => hdis i hi h1, ⟨rfl, List.nodup_nil⟩, by simp⟩, fun i hi => ⟨hi, rfl⟩, fun k hk => ?_, hlow⟩, hfree, hB, hGF, fun y hy => by cases hy; exact hR⟩
    · simp only [Array.size_append, Array.size_replicate, hsz]
      simp
      omega
    · right
      dsimp only
      rw [hmap]
      generalize hA : #[Value.func (.yield l) #[] #[]] ++ caps = A
      have hAi : ∀ x ∈ A, idsV (dom (rst hp rs)) x := fun x hx => by
        rw [← hA] at hx
        rcases Array.mem_append.1 hx with hx | hx
        · simp at hx; subst hx; simp [idsV, idsA, idsF]
        · exact (ha x hx).2
      by_cases ht : t < A.size
      · have hm : A[t] ∈ A := Array.getElem_mem ht
        have e : A.getD t undef = A[t] := by simp [Array.getD, ht]
        rw [e]
        refine ⟨?_, hAi _ hm⟩
        have : t < (A.map (ren r)).size := by simpa using ht
        simp [Array.getElem?_append_left this, ht]
      · have e : A.getD t undef = undef := by simp [Array.getElem?_eq_none (Nat.le_of_not_lt ht)]
        rw [e]
        refine ⟨?_, ids_undef _⟩
        rw [ren_undef]
        simp only [Array.getD_eq_getD_getElem?]
        rw [Array.getElem?_append_right (by simpa using Nat.le_of_not_lt ht), Array.getElem?_replicate]
        split <;> rfl
    · show rst hp rs k = G k
      simp [rst, hk, hG k hk]
  refine wpIn_mono (h C l stop rfl rfl rfl r _ W hi) ?_
  rintro e a' W' ⟨s', r', hres, hi'⟩
  obtain ⟨S', ms, hX', hS1, hS2, ⟨hdef, hnd⟩, hms⟩ := hi'.ri.ext
  obtain ⟨he, hr, hy, hkp⟩ := hres
  have hend : ∀ W'' : World, W''.heap.size = W'.heap.size → W''.os = W'.os → W''.tape = W'.tape → W''.output = W'.output → (∀ k, k ∉ ms → W''.heap[k]? = W'.heap[k]?) →
      LeavesIn (Fw P none) 0 P fn a'.tmps (fun e W' => (∃ v, e = .returned v) ∧ (∃ S', E.X (min (stop + 1) xs.length) S' W') ∧ ∀ k, dom (rst hp rs) k → W'.heap[r k]? = W.heap[r k]?) [] .returning W'' := fun W'' e1 e2 e3 e4 e5 => by
    have hsat' : Sat r' (dom s'.hp) s'.hp W'' := fun k b hk => ⟨by
      rw [e5 _ (fun hm => hi'.ri.ne_mark (by unfold dom; rw [hk]; simp) (hms _ hm).1 rfl)]
      exact (hi'.ri.sat k b hk).1, (hi'.ri.sat k b hk).2⟩
    refine ⟨_, run_resG' (fn := fn) hi'.ri.rel hsat' hr, ⟨_, rfl⟩, ⟨S', ?_⟩, fun k hk => ?_⟩
    rotate_left
    · have hkk : dom s'.hp k ∧ r' k = r k := hi'.ri.keep k hk
      unfold dom at hk
      cases hb : rst hp rs k with
      | none => exact absurd hb hk
      | some b =>
        have e6 : s'.hp k = some b := (hkp k (by unfold dom; rw [hb]; simp)).trans hb
        have e7 := (hsat' k b e6).1
        rw [hkk.2, Blk.obj_congr (fun q hq => (hi'.ri.keep q hq).2) (hcl k b hb)] at e7
        rw [e7, (hsat k b hb).1]
    rw [← hy]
    exact E.ok _ _ _ _ hX' (fun k hk => e5 k fun hm => (hms k hm).2.1 hk) e2 e3 e4 (by rw [e1]; exact Nat.le_refl _)
  rcases he with rfl | rfl
  · show LeavesInM _ _ _ _ _ _ a'.defers _ _
    rw [hdef, List.append_nil]
    exact leavesM (by simp) ms W' hnd (fun D hD => (hms D hD).1) hend
  · show LeavesInM _ _ _ _ _ _ a'.defers _ _
    rw [hdef, List.append_nil]
    exact leavesM (by simp) ms W' hnd (fun D hD => (hms D hD).1) hend
end
section
variable {P : Program} {G : Hp}
variable {C : Ctx} {n : Nat} {d : List Deferred} {s : GS} {K : Exit → GS → Prop}
/-- A range over a function that leaves its blocks as they were; what is so behind it. -/
theorem rangeK_wp {t : Tmp} {ps : Array Tmp} {assign body : Code} {f : FuncId} {caps : Array Value} {rs : List Nat} {xs : List (Array Value)} (hg : s.ts t = .func (.func f) #[] caps) (hit : IterK P C.G f caps s.hp rs xs)
    (hxs : ∀ x ∈ xs, x.size = ps.size ∧ ∀ v ∈ x, flatV v = true) (hps : ∀ p ∈ ps, p < n) (tsE : Nat → Value) (I : Nat → Hp → Prop) {hpS : Hp} (B : Nat) (N : Nat) (hN : N ≤ xs.length)
    (hw : Weak C s ⟨tsE, hpS, B, s.yc⟩) (h0 : I 0 hpS) (hdis : ∀ k ∈ rs, hpS k = none ∧ dom s.hp k)
    (rounds : ∀ i x hq, i < N → xs[i]? = some x → I i hq → ∀ (C1 : Ctx) (l : Nat), C1.G = C.G → C1.hp0 = hq → C1.Y = none → GW P C1 n [] (some l) assign ⟨roundTs ps.toList x.toList tsE, hq, B, 0⟩
      (thenG (fun s1 => ∀ C2 : Ctx, C2.G = C.G → C2.hp0 = hq → C2.Y = none → GW P C2 n [] (some l) body s1 (thenG (fun s2 => ∃ ρ hq', WeakR C ρ ⟨tsE, s2.hp, s2.B, s.yc⟩ ⟨tsE, hq', B, s.yc⟩ ∧ I (i + 1) hq') (fun _ _ => False))) (fun _ _ => False)))
    (fin : (N = xs.length ∧ ∀ hq, I N hq → K .normal ⟨tsE, hq, B, s.yc⟩) ∨ ∃ x, xs[N]? = some x ∧ ∀ hq, I N hq → ∀ (C1 : Ctx) (l : Nat), C1.G = C.G → C1.hp0 = hq → C1.Y = none → GW P C1 n [] (some l) assign ⟨roundTs ps.toList x.toList tsE, hq, B, 0⟩
        (thenG (fun s1 => ∀ C2 : Ctx, C2.G = C.G → C2.hp0 = hq → C2.Y = none → GW P C2 n [] (some l) body s1 (fun e s2 => (outCode e).isSome = true ∧ (∀ t, idsV (dom s2.hp) (tsE t)) ∧ K e ⟨tsE, s2.hp, s2.B, s.yc⟩)) (fun _ _ => False)))
    (hYn : C.Y ≠ some .still) {r : Nat → Nat} {a : Act} {W : World} (hi0 : GI P C n d r s a W) :
    (Code.rangeFunc (.tmp t) ps assign body).wpIn (Fw P none) 0 P (fun e a' W' => ∃ s' r', (K e s' ∧ GI P C n d r' s' a' W') ∧ a'.tmps = a.tmps ∧ (∀ k, dom (rst s.hp rs) k → W'.heap[r k]? = W.heap[r k]?) ∧ (∀ i, dom s'.hp i → ∀ k ∈ rs, 100 ≤ k → r' i ≠ r k)) a W := by
  obtain ⟨pn, hpn⟩ : ∃ pn : Option Value, pn = none := ⟨_, rfl⟩
  have hi := hi0.weak hw
  obtain ⟨So, ms, hX0, hSo, hsep, ⟨hdef, hnd⟩, hms⟩ := hi0.ri.ext
  have hcapv : a.eval (.tmp t) = .func (.func f) #[] (caps.map (ren0 r)) := by
    have := ((hi0.ri.rel t).resolve_left (by rw [hg]; simp [junk])).1
    rw [hg] at this
    simpa [ren, renA, renF, Act.eval] using this
  have hcap : caps.map (ren0 r) = caps.map (ren r) := Array.map_congr_left fun x hx => (ren_plain0 (hit.cids x hx).1).symm
  rw [hcap] at hcapv
  refine wpIn_rangeFunc ?_
  rintro fn ⟨fnn, hfnn⟩
  obtain ⟨rec, hrec⟩ : ∃ rec : LoopState → Option Code → Loop, rec = fun st pe => { state := st, pending := pe, fn, tmps := a.tmps, params := ps, assign, body, defers := W.heap.size } := ⟨_, rfl⟩
  obtain ⟨W1, hW1⟩ : ∃ W1, (W.alloc (.deferred (some []))).alloc (.loop (rec .ready none)) = W1 := ⟨_, rfl⟩
  have hL1 : W1.heap[W.heap.size + 1]? = some (.loop (rec .ready none)) := by
    rw [← hW1]; have := World.alloc_heap_new (W.alloc (.deferred (some []))) (.loop (rec .ready none)); rwa [World.size_alloc] at this
  have hK1 : W1.heap[W.heap.size]? = some (.deferred (some [])) := by
    rw [← hW1]; exact (Below.heap_alloc _ _ _ (by simp)).trans (World.alloc_heap_new W _)
  have hsz1 : W1.heap.size = W.heap.size + 2 := by rw [← hW1]; simp
  have hb1 : Below W.heap.size W W1 := by
    rw [← hW1]; exact (((Below.refl _ W).alloc (Nat.le_refl _) _).alloc (by simp) _)
  let l := W.heap.size + 1
  let D0 := W.heap.size
  let capd : Nat → Prop := fun j => ∃ i, i ∈ rs ∧ 100 ≤ i ∧ r i = j
  -- what is said between two rounds
  let Lv : LoopState → Option Code → World → Prop := fun st pe V => V.heap[l]? = some (.loop (rec st pe)) ∧ V.heap[D0]? = some (.deferred (some []))
  let XX : Nat → (Nat → Prop) → World → Prop := fun c S V => (∀ k, So k → S k) ∧ (∀ D ∈ ms, S D) ∧ S l ∧ S D0 ∧ (∀ k, S k → ¬ capd k) ∧
    ((c ≤ N ∧ ∃ hq, I c hq ∧ (∀ x, B ≤ x → hq x = none) ∧ ∃ rc, (∀ i, dom hq i → S (rc i)) ∧ Supp S V (fun V' => Own0 C d So ms s.yc a rc tsE hq V' ∧ Lv .ready none V')) ∨
     (c = N + 1 ∧ ∃ e hpE BE rc, ((pn = none ∧ (outCode e).isSome = true) ∨ ∃ pv, pn = some pv ∧ e = .panic [{ v := pv, recovered := false }]) ∧ K e ⟨tsE, hpE, BE, s.yc⟩ ∧ (∀ x, BE ≤ x → hpE x = none) ∧ 100 ≤ BE ∧ (∀ i, dom hpE i → S (rc i)) ∧ Supp S V (fun V' => Own0 C d So ms s.yc a rc tsE hpE V' ∧ V'.heap[D0]? = some (.deferred (some [])) ∧ ∀ j, outCode e = some j → Lv .done (some j) V')))
  let E : Ext := ⟨XX, fun c S V V' h hs os tape output size => ⟨h.1, h.2.1, h.2.2.1, h.2.2.2.1, h.2.2.2.2.1, h.2.2.2.2.2.imp (fun ⟨hc, hq, hI, hf, rc, h1, h2⟩ => ⟨hc, hq, hI, hf, rc, h1, h2.trans (fun _ h => h) hs os tape output size⟩)
    (fun ⟨hc, e, hpE, BE, rc, h1, h2, h3, h4, h5, h6⟩ => ⟨hc, e, hpE, BE, rc, h1, h2, h3, h4, h5, h6.trans (fun _ h => h) hs os tape output size⟩)⟩⟩
  have sub : ∀ i, dom (hpS) i → dom s.hp i := fun i hd => by
    have hhp : hpS i = none ∨ hpS i = s.hp i := by
      by_cases hk : 100 ≤ i
      · exact hw.hp i hk
      · exact .inr ((hw.glob i (by omega)).trans (hi0.ri.glob i (by omega)).symm)
    rcases hhp with e | e
    · exact absurd e hd
    · have e : hpS i = s.hp i := e
      unfold dom at *; rw [← e]; exact hd
  have own0 : Own0 C d So ms s.yc a r tsE (hpS) W1 := ⟨hi.ri.rel, fun k b hk => ⟨(hb1.block _ (hi.ri.lt (k := k) (by unfold dom; show hpS k ≠ none; rw [hk]; simp))).trans (hi.ri.sat k b hk).1, (hi.ri.sat k b hk).2⟩, hi.ri.inj,
    C.E.ok _ _ _ _ hX0 (fun k hk => hb1.block k (hSo k hk)) hb1.os hb1.tape hb1.output hb1.size, fun i hd h1 => hsep i (sub i hd) h1,
    fun D hD => (hb1.block D (Array.getElem?_eq_some_iff.1 (hms D hD).1).1).trans (hms D hD).1, hi.ri.keep, hi.ri.glob, hi.ri.low⟩
  have incap : ∀ i, dom s.hp i → capd (r i) → i ∈ rs := fun i hd ⟨j, hj, _, e⟩ => by
    have := hi0.ri.inj j i (hdis j hj).2 hd e
    exact this ▸ hj
  let S1 : Nat → Prop := fun k => k < W1.heap.size ∧ ¬ capd k
  have capSmall : ∀ k, capd k → k < W.heap.size := fun k ⟨i, hi1, _, e⟩ => e ▸ hi0.ri.lt (hdis i hi1).2
  have s1So : ∀ k, So k → S1 k := fun k hk => ⟨by have := hSo k hk; omega, fun ⟨i, hi1, h1, e⟩ => hsep i (hdis i hi1).2 h1 (e ▸ hk)⟩
  have s1ms : ∀ D ∈ ms, S1 D := fun D hD => ⟨by have := (Array.getElem?_eq_some_iff.1 (hms D hD).1).1; omega, fun ⟨i, hi1, _, e⟩ => hi0.ri.ne_mark (hdis i hi1).2 (hms D hD).1 e⟩
  have s1l : S1 l := ⟨by omega, fun hc => by have := capSmall _ hc; omega⟩
  have s1D : S1 D0 := ⟨by omega, fun hc => by have := capSmall _ hc; omega⟩
  have s1hp : ∀ i, dom (hpS) i → S1 (r i) := fun i hd => ⟨by have := hi0.ri.lt (sub i hd); omega, fun hc => hd (hdis i (incap i (sub i hd) hc)).1⟩
  have X0 : XX 0 S1 W1 := ⟨s1So, s1ms, s1l, s1D, fun k hk => hk.2, .inl ⟨Nat.zero_le _, hpS, h0, hw.free, r, s1hp, fun V k1 k2 k3 k4 k5 => ⟨own0.supp s1So s1hp s1ms V k1 k2 k3 k4 k5, (k1 l s1l).trans hL1, (k1 D0 s1D).trans hK1⟩⟩⟩
  have gokOf : ∀ {rc : Nat → Nat} {hpc : Hp} {V : World}, Sat rc (dom hpc) hpc V → (∀ k, k < 100 → hpc k = C.G k) → (∀ k, k < 100 → dom hpc k → rc k = k) → GOK C.G V := fun {rc hpc V} h1 h2 h3 k b hk => by
    obtain ⟨hlt, hfl⟩ := hi0.flat k b hk
    have hb : hpc k = some b := (h2 k hlt).trans hk
    have h9 := (h1 k b hb).1
    rw [h3 k hlt (by unfold dom; rw [hb]; simp)] at h9
    rw [h9]
    rw [Blk.obj_flat (fun x hx => hfl x hx)]
  -- one round
  have hround : Rounds P C.G E ⟨l, xs, N, pn⟩ := by
    intro c x S V hgok hx hc hXc hSV
    obtain ⟨kSo, kms, kl, kD, kcap, hcase⟩ := hXc
    have hcN : c ≤ N := hc
    obtain ⟨hc', hq, hI, hfreeC, rc, hrcS, hsupp⟩ : c ≤ N ∧ ∃ hq, I c hq ∧ (∀ x, B ≤ x → hq x = none) ∧ ∃ rc, (∀ i, dom hq i → S (rc i)) ∧ Supp S V (fun V' => Own0 C d So ms s.yc a rc tsE hq V' ∧ Lv .ready none V') := by
      rcases hcase with h | h
      · exact h
      · omega
    obtain ⟨hown, hl, hD⟩ := hsupp.here
    have hxm := hxs x (List.mem_of_getElem? hx)
    have hy := run_yield (P := P) (args := x) hl (by rw [hrec]; exact hxm.1)
    rw [hrec] at hy
    refine ⟨fn, _, assign, body, hy, roundIn_of_wpInP ⟨fnn, hfnn⟩ hfnn ?_⟩
    have hrel := roundRel (r := rc) (D := dom hq) (ps.toList.zip x.toList) tsE a.tmps (fun p hp1 => ⟨by rw [hi0.ri.size]; exact hps _ (by simpa using (List.of_mem_zip hp1).1), hxm.2 _ (by simpa using (List.of_mem_zip hp1).2)⟩) hown.ri
    have htm : (ps.zip x).foldl (fun t (p : Tmp × Value) => t.setIfInBounds p.1 p.2) a.tmps = (ps.toList.zip x.toList).foldl (fun t (p : Tmp × Value) => t.setIfInBounds p.1 p.2) a.tmps := by
      rw [← Array.foldl_toList, Array.toList_zip]
    have hsize : ((ps.zip x).foldl (fun t (p : Tmp × Value) => t.setIfInBounds p.1 p.2) a.tmps).size = n := by
      rw [htm, foldl_set_size, hi0.ri.size]
    let im : Nat → Prop := imO rc hq
    let RR : Ending → World → Prop := fun e W' => (match (YG.mk l xs N pn).pan c with | none => e = .returned (.bool (c != N)) | some pv => e = .panicked [{ v := pv, recovered := false }]) ∧ GOK C.G W' ∧ V.heap.size ≤ W'.heap.size ∧ (∀ k, k < V.heap.size → ¬ S k → W'.heap[k]? = V.heap[k]?) ∧
            ∃ S', XX (c + 1) S' W' ∧ (∀ k, S' k → k < W'.heap.size) ∧ ∀ k, S' k → k < V.heap.size → S k
    -- the assignment to the loop's variables
    let C1 : Ctx := ⟨callE V im, hq, rc, C.G, none⟩
    have ltV : ∀ i, dom hq i → rc i < V.heap.size := fun i hd => hSV _ (hrcS i hd)
    have gi1 : GI P C1 n [] rc ⟨roundTs ps.toList x.toList tsE, hq, B, 0⟩ { tmps := (ps.zip x).foldl (fun t (p : Tmp × Value) => t.setIfInBounds p.1 p.2) a.tmps, defers := [] } V := by
      refine ⟨⟨hsize, ?_, hown.sat, hown.inj, ⟨fun k => k < V.heap.size ∧ ¬ im k, [], ⟨fun _ => Iff.rfl, rfl, rfl, rfl, Nat.le_refl _, fun _ _ => rfl⟩, fun k hk => hk.1, fun i hd _ hS => hS.2 ⟨i, hd, rfl⟩, ⟨rfl, List.nodup_nil⟩, by simp⟩, fun i hd => ⟨hd, rfl⟩, hown.glob, hown.low⟩, hfreeC, hw.low, hi0.flat, fun y hy => by cases hy⟩
      rw [htm]; exact hrel
    have hSol : ¬ So l := fun h => by have := hSo _ h; omega
    -- a round's frame, from its assignment on
    have both : ∀ (Kb : Exit → GS → Prop), GW P C1 n [] (some l) assign ⟨roundTs ps.toList x.toList tsE, hq, B, 0⟩ (thenG (fun s1 => ∀ C2 : Ctx, C2.G = C.G → C2.hp0 = hq → C2.Y = none → GW P C2 n [] (some l) body s1 Kb) (fun _ _ => False)) →
        (∀ e s2 (r2 : Nat → Nat) (V1 V2 : World) (a1 a2 : Act) (r1 : Nat → Nat) (ts1 : Nat → Value) (hp1 : Hp) (y1 : Nat) (D1 : Nat → Prop), (∀ k, k < V.heap.size → D1 k → imO r1 hp1 k) → ¬ D1 l → Kb e s2 → RI ⟨callE V im, hq, rc, C.G, none⟩ n [] r1 ts1 hp1 y1 a1 V1 →
          GI P ⟨callE (V1.putObj l (.loop (rec .busy none))) D1, hq, rc, C.G, none⟩ n [] r2 s2 a2 V2 → roundPostP (Fs P) 0 P fnn l RR e a2 V2) →
        assign.wpIn ((Fs P).inRound l) 0 P (Exit.then (fun a₁ w₁ => ∃ w₂, (Instr.beginRound l).run P w₁ = .ok () w₂ ∧ body.wpIn ((Fs P).inRound l) 0 P (roundPostP (Fs P) 0 P fnn l RR) a₁ w₂) (fun _ _ _ => False))
          { tmps := (ps.zip x).foldl (fun t (p : Tmp × Value) => t.setIfInBounds p.1 p.2) a.tmps, defers := [] } V := fun Kb hgw hend => by
      refine wpIn_mono (hgw rc _ V gi1) ?_
      rintro e a1 V1 ⟨s1, r1, hk1, gi⟩
      cases e with
      | normal =>
        obtain ⟨T1, m1, ⟨hT1, os1, tp1, ou1, sz1, sm1⟩, hT1s, sep1, df1, dm1⟩ := gi.ri.ext
        have hl1 : V1.heap[l]? = some (.loop (rec .ready none)) := by
          rw [sm1 l ((hT1 l).2 ⟨hSV l kl, ?_⟩)]
          · exact hl
          · rintro ⟨i, hd, e⟩
            unfold dom at hd
            cases hb : hq i with
            | none => exact hd hb
            | some b => have := (hown.sat i b hb).1; rw [e, hl] at this; exact (Blk.obj_loop this).elim
        refine ⟨_, run_beginRound hl1 (by rw [hrec]), ?_⟩
        have hrb : { rec .ready none with state := .busy } = rec .busy none := by rw [hrec]
        rw [hrb]
        have hlt1 : l < V1.heap.size := (Array.getElem?_eq_some_iff.1 hl1).1
        let D1 : Nat → Prop := fun k => imO r1 s1.hp k ∨ k ∈ m1
        let C2 : Ctx := ⟨callE (V1.putObj l (.loop (rec .busy none))) D1, hq, rc, C.G, none⟩
        have gi2 : GI P C2 n [] r1 s1 a1 (V1.putObj l (.loop (rec .busy none))) := by
          refine ⟨⟨gi.ri.size, gi.ri.rel, fun k b hk => ⟨(World.putObj_heap_other (fun e => gi.ri.not_loop hl1 ⟨k, by unfold dom; rw [hk]; simp, e⟩)).trans (gi.ri.sat k b hk).1, (gi.ri.sat k b hk).2⟩, gi.ri.inj,
            ⟨fun k => k < (V1.putObj l (.loop (rec .busy none))).heap.size ∧ ¬ D1 k, m1, ⟨fun _ => Iff.rfl, rfl, rfl, rfl, Nat.le_refl _, fun _ _ => rfl⟩, fun k hk => hk.1, fun i hd _ hS => hS.2 (.inl ⟨i, hd, rfl⟩), df1, fun D hD => ⟨?_, (fun hS => hS.2 (.inr hD)), fun h => nomatch h⟩⟩,
            fun i hd => gi.ri.keep i hd, gi.ri.glob, gi.ri.low⟩, gi.free, gi.low, gi.flat, fun y hy => by cases hy⟩
          rw [World.putObj_heap_other (fun e => ?_)]
          · exact (dm1 D hD).1
          · have := (dm1 D hD).1; rw [e, hl1] at this; cases this
        refine wpIn_mono (hk1 C2 rfl rfl rfl r1 a1 _ gi2) ?_
        rintro e2 a2 V2 ⟨s2, r2, hk2, gi3⟩
        refine hend e2 s2 r2 V1 V2 a1 a2 r1 s1.ts s1.hp s1.yc D1 (fun k hk hD => ?_) (fun hD => ?_) hk2 gi.ri gi3
        · rcases hD with h | h
          · exact h
          · have h2 := (dm1 k h).2.1
            rw [hT1] at h2
            obtain ⟨i, hd, e⟩ := Classical.byContradiction fun hc => h2 ⟨hk, hc⟩
            have h3 := (dm1 k h).1
            by_cases h100 : 100 ≤ i
            · have : dom s1.hp i ∧ r1 i = rc i := gi.ri.keep i hd
              exact ⟨i, this.1, this.2.trans e⟩
            · have : dom s1.hp i ∧ r1 i = rc i := gi.ri.keep i hd
              exact ⟨i, this.1, this.2.trans e⟩
        · rcases hD with h | h
          · exact gi.ri.not_loop hl1 h
          · have := (dm1 l h).1; rw [hl1] at this; cases this
      | _ => exact hk1.elim
    -- what a round leaves, put together
    have post : ∀ (st : LoopState) (pe : Option Code) (r2 : Nat → Nat) (V1 V2 : World) (a1 a2 : Act) (r1 : Nat → Nat) (ts1 ts2 : Nat → Value) (hp1 hp2 : Hp) (y1 y2 : Nat) (D1 : Nat → Prop), (∀ k, k < V.heap.size → D1 k → imO r1 hp1 k) → ¬ D1 l → RI ⟨callE V im, hq, rc, C.G, none⟩ n [] r1 ts1 hp1 y1 a1 V1 →
        RI ⟨callE (V1.putObj l (.loop (rec .busy none))) D1, hq, rc, C.G, none⟩ n [] r2 ts2 hp2 y2 a2 V2 →
        V2.heap[l]? = some (.loop (rec .busy none)) ∧ GOK C.G (V2.putObj l (.loop (rec st pe))) ∧ V.heap.size ≤ (V2.putObj l (.loop (rec st pe))).heap.size ∧ (∀ k, k < V.heap.size → ¬ S k → (V2.putObj l (.loop (rec st pe))).heap[k]? = V.heap[k]?) ∧
        ∃ S' : Nat → Prop, (∀ k, So k → S' k) ∧ (∀ D ∈ ms, S' D) ∧ S' l ∧ S' D0 ∧ (∀ i, dom hp2 i → S' (r2 i)) ∧ Supp S' (V2.putObj l (.loop (rec st pe))) (fun V' => Own0 C d So ms s.yc a r2 tsE hp2 V' ∧ Lv st pe V') ∧
          (∀ k, S' k → k < (V2.putObj l (.loop (rec st pe))).heap.size) ∧ (∀ k, S' k → k < V.heap.size → S k) := fun st pe r2 V1 V2 a1 a2 r1 ts1 ts2 hp1 hp2 y1 y2 D1 hD1 hD1l ri1 ri2 => by
      obtain ⟨_, q1, q2, q3, q4, q5, q6⟩ := round_end (L2 := rec st pe) hi0.flat hown hSol hSV kSo kms hrcS hl ri1 hD1 hD1l ri2
      have sz : (V2.putObj l (.loop (rec st pe))).heap.size = V2.heap.size := putObj_size _ _ _
      have hnim : ∀ k, ¬ S k → ¬ imO rc hq k := fun k hk ⟨i, hd, e⟩ => hk (e ▸ hrcS i hd)
      refine ⟨q1, q6, by rw [sz]; exact q4, fun k hk hnS => q5 k hk (hnim k hnS) (fun e => hnS (e ▸ kl)), fun k => S k ∨ (V.heap.size ≤ k ∧ k < V2.heap.size), fun k hk => .inl (kSo k hk), fun D hD => .inl (kms D hD), .inl kl, .inl kD, fun i hd => ?_, ?_, fun k hk => ?_, fun k hk hlt => ?_⟩
      · rcases q3 i hd with h | h
        · exact .inr ⟨h, by
            unfold dom at hd
            cases hb : hp2 i with
            | none => exact absurd hb hd
            | some b => have := (Array.getElem?_eq_some_iff.1 (q2.sat i b hb).1).1; rwa [sz] at this⟩
        · exact .inl h
      · have hD0 : (V2.putObj l (.loop (rec st pe))).heap[D0]? = some (.deferred (some [])) := by
          rw [q5 D0 (hSV D0 kD) (fun ⟨i, hd', e⟩ => by
            unfold dom at hd'
            cases hb : hq i with
            | none => exact hd' hb
            | some b => have := (hown.sat i b hb).1; rw [e, hD] at this; exact (Blk.obj_def this).elim) (by omega)]
          exact hD
        have hlt2 : l < V2.heap.size := (Array.getElem?_eq_some_iff.1 q1).1
        refine fun V' k1 k2 k3 k4 k5 => ⟨q2.supp (S := fun k => S k ∨ (V.heap.size ≤ k ∧ k < V2.heap.size)) (fun k hk => .inl (kSo k hk)) (fun i hd => ?_) (fun D hD => .inl (kms D hD)) V' k1 k2 k3 k4 k5, (k1 l (.inl kl)).trans (World.putObj_heap_same hlt2), (k1 D0 (.inl kD)).trans hD0⟩
        rcases q3 i hd with h | h
        · exact .inr ⟨h, by
            unfold dom at hd
            cases hb : hp2 i with
            | none => exact absurd hb hd
            | some b => have := (Array.getElem?_eq_some_iff.1 (q2.sat i b hb).1).1; rwa [sz] at this⟩
        · exact .inl h
      · rw [sz]
        rcases hk with h | h
        · exact Nat.lt_of_lt_of_le (hSV k h) q4
        · exact h.2
      · exact hk.resolve_right (by omega)
    have capN : ∀ S' : Nat → Prop, (∀ k, S' k → k < V.heap.size → S k) → ∀ k, S' k → ¬ capd k := fun S' h12 k hk hc => by
      by_cases hlt : k < V.heap.size
      · exact kcap k (h12 k hk hlt) hc
      · have h5 := capSmall k hc
        have h6 := hSV D0 kD
        exact hlt (by omega)
    by_cases hcn : c < N
    · refine both _ (rounds c x hq hcn hx hI C1 l rfl rfl rfl) ?_
      intro e s2 r2 V1 V2 a1 a2 r1 ts1 hp1 y1 D1 hD1 hD1l hk ri1 gi2
      cases e with
      | normal =>
        obtain ⟨ρ, hq', hwr, hI'⟩ := hk
        obtain ⟨p1, p2, p3, p4, S', p5, p6, p7, p8, p9, p10, p11, p12⟩ := post .ready none r2 V1 V2 a1 a2 r1 ts1 _ hp1 _ y1 _ D1 hD1 hD1l ri1 gi2.ri
        have hend := run_endRound (P := P) none p1
        rw [hrec] at hend p2 p3 p4 p10 p11
        refine ⟨_, _, hend, ?_, p2, p3, p4, S', ⟨p5, p6, p7, p8, capN S' p12, .inl ⟨hcn, hq', hI', hwr.free, fun k => r2 (ρ k), fun i hd => p9 (ρ i) (hwr.subd (fun k hk => gi2.ri.glob k hk) i hd), ?_⟩⟩, p11, p12⟩
        · have h1 : (YG.mk l xs N pn).pan c = none := by
            show (if c = N then pn else none) = none
            rw [if_neg (by omega)]
          have h2 : (c != N) = true := by simp; omega
          rw [h1, h2]; rfl
        · intro V' k1 k2 k3 k4 k5
          have := p10 V' k1 k2 k3 k4 k5
          exact ⟨this.1.rename hwr, by simpa [hrec] using this.2⟩
      | _ => exact hk.elim
    · obtain rfl : c = N := by omega
      have hpanN : (YG.mk l xs c pn).pan c = pn := by
        show (if c = c then pn else none) = pn
        rw [if_pos rfl]
      cases pn with
      | none =>
        rcases fin with ⟨e, _⟩ | ⟨x', hx', hfin⟩
        · obtain ⟨h9, _⟩ := List.getElem?_eq_some_iff.1 hx; have h9 : c < xs.length := h9; omega
        · have hx : xs[c]? = some x := hx
          rw [hx] at hx'; cases hx'
          refine both _ (hfin hq hI C1 l rfl rfl rfl) ?_
          intro e s2 r2 V1 V2 a1 a2 r1 ts1 hp1 y1 D1 hD1 hD1l hk ri1 gi2
          obtain ⟨hk1, hk2, hk3⟩ := hk
          cases ho : outCode e with
          | none => rw [ho] at hk1; cases hk1
          | some j =>
            obtain ⟨p1, p2, p3, p4, S', p5, p6, p7, p8, p9, p10, p11, p12⟩ := post .done (some j) r2 V1 V2 a1 a2 r1 ts1 _ hp1 _ y1 _ D1 hD1 hD1l ri1 gi2.ri
            have hend := run_endRound (P := P) (some j) p1
            rw [hrec] at hend p2 p3 p4 p10 p11
            have hR : ∃ v w', (Instr.endRound l (some j)).run P V2 = .ok v w' ∧ RR (.returned v) w' := by
              refine ⟨_, _, hend, ?_, p2, p3, p4, S', ⟨p5, p6, p7, p8, capN S' p12, .inr ⟨rfl, e, s2.hp, s2.B, r2, .inl ⟨rfl, hk1⟩, hk3, gi2.free, gi2.low, p9, ?_⟩⟩, p11, p12⟩
              · rw [hpanN]; simp
              · intro V' k1 k2 k3 k4 k5
                obtain ⟨q1, q2⟩ := p10 V' k1 k2 k3 k4 k5
                refine ⟨q1, q2.2, fun j' hj' => ?_⟩
                rw [ho] at hj'; cases hj'
                simpa [hrec] using q2
            cases e <;> simp only [outCode, Option.some.injEq, reduceCtorEq] at ho
            · subst ho; exact hR
            · subst ho; exact hR
            · subst ho; exact hR
      | some pv => cases hpn
  -- behind the iterator
  refine ⟨l, [mark D0], W1, { target := .fn (.func f) (caps.map (ren r)), args := #[.func (.yield l) #[] #[]] }, W1, f, #[Value.func (.yield l) #[] #[]] ++ caps.map (ren r), W1, ?_, ?_, fun f' hf' => ?_, ?_, fun h => (by cases h), ?_⟩
  · rw [← hW1, hrec]; exact run_enterLoop_outer _ _ _ _ _
  · simp only [resolve, hcapv]
    simp [go_sem, Act.eval]
  · simp [Target.leads] at hf'
    subst hf'
    exact callFunc_ok (hit.enter #[] default)
  · simp [invoke, go_sem, hit.enter]
  · have hsat1 : Sat r (dom (rst s.hp rs)) (rst s.hp rs) W1 := fun k b hk => ⟨(hb1.block _ (hi0.ri.lt (k := k) (by unfold dom; rw [rst_sub hk]; simp))).trans (hi0.ri.sat k b (rst_sub hk)).1, hit.closed k b hk⟩
    have hsubr : ∀ k, dom (rst s.hp rs) k → dom s.hp k := fun k hk => by
      unfold dom at *
      cases hb : rst s.hp rs k with
      | none => exact absurd hb hk
      | some b => rw [rst_sub hb]; simp
    subst hpn
    have hcalls := hit.run E l N r S1 W1 (gokOf own0.sat own0.glob own0.low) hsat1 (fun k l' hk hl => hi0.ri.inj k l' (hsubr k hk) (hsubr l' hl)) (fun k hk hd => hi0.ri.low k hk (hsubr k hd)) hround X0 (fun k hk => hk.1) (fun i hd h1 hS => hS.2 ?_)
    · refine CallsIn.mono (hcalls : CallsIn (Fw P none) 0 P _ _ _ _) ?_
      -- the owner's activation, behind it all
      have giV : ∀ (rc : Nat → Nat) (hpE : Hp) (BE : Nat) (V : World), (∀ x, BE ≤ x → hpE x = none) → 100 ≤ BE → Own0 C d So ms s.yc a rc tsE hpE V → V.heap[D0]? = some (.deferred (some [])) → W.heap.size ≤ V.heap.size →
          GI P C n d rc ⟨tsE, hpE, BE, s.yc⟩ { a with defers := [mark D0] ++ a.defers } V := fun rc hpE BE V hfree hBE hown hD hsz =>
        ⟨⟨hi0.ri.size, hown.ri, hown.sat, hown.inj,
          ⟨So, D0 :: ms, hown.X, fun k hk => Nat.lt_of_lt_of_le (hSo k hk) hsz, hown.sep, ⟨by simp [hdef], List.nodup_cons.2 ⟨fun hm => by have := (Array.getElem?_eq_some_iff.1 (hms D0 hm).1).1; omega, hnd⟩⟩, fun D hDm => by
            rcases List.mem_cons.1 hDm with rfl | hDm
            · exact ⟨hD, (fun hS => by have := hSo _ hS; omega), hYn⟩
            · exact ⟨hown.mks D hDm, (hms D hDm).2⟩⟩,
          hown.keep, hown.glob, hown.low⟩, hfree, hBE, hi0.flat, hi0.rounds⟩
      have szOf : ∀ {S : Nat → Prop} {V : World} {c : Nat}, XX c S V → (∀ V, XX c S V → S l → True) → V.heap[D0]? = some (.deferred (some [])) → W.heap.size ≤ V.heap.size := fun {S V c} _ _ h => by
        have := (Array.getElem?_eq_some_iff.1 h).1; omega
      rintro e V ⟨⟨v, rfl⟩, ⟨S', hX⟩, hkeepB⟩
      obtain ⟨kSo, kms, kl, kD, kcap, hcase⟩ := hX
      have keepF : ∀ ob k, dom (rst s.hp rs) k → (V.putObj l ob).heap[r k]? = W.heap[r k]? := fun ob k hk => by
        have hlt := hi0.ri.lt (hsubr k hk)
        rw [World.putObj_heap_other (fun e => by have e' : W.heap.size + 1 = r k := e.symm; omega), hkeepB k hk]
        exact hb1.block _ hlt
      have noCap : ∀ (rc : Nat → Nat) (hpE : Hp), (∀ i, dom hpE i → S' (rc i)) → ∀ i, dom hpE i → ∀ k ∈ rs, 100 ≤ k → rc i ≠ r k := fun rc hpE hrcS i hd k hk h1 e => kcap (rc i) (hrcS i hd) ⟨k, hk, h1, e.symm⟩
      have fini : ∀ (st : LoopState) (pe : Option Code) (rc : Nat → Nat) (hpE : Hp) (BE : Nat), st ≠ .busy → (∀ x, BE ≤ x → hpE x = none) → 100 ≤ BE → Own0 C d So ms s.yc a rc tsE hpE V → Lv st pe V →
          (Instr.endLoop l).run P V = .ok pe (V.putObj l (.loop { rec st pe with state := .exhausted })) ∧ GI P C n d rc ⟨tsE, hpE, BE, s.yc⟩ { a with defers := [mark D0] ++ a.defers } (V.putObj l (.loop { rec st pe with state := .exhausted })) := fun st pe rc hpE BE hst hfree hBE hown ⟨hl, hD⟩ => by
        have hend := run_endLoop (P := P) hl (by rw [hrec]; exact hst)
        refine ⟨by rw [hrec] at hend ⊢; exact hend, ?_⟩
        have hlt : l < V.heap.size := (Array.getElem?_eq_some_iff.1 hl).1
        have szV : ∀ ob, (V.putObj l ob).heap.size = V.heap.size := fun ob => putObj_size _ _ _
        refine ⟨⟨hi0.ri.size, hown.ri, fun k b hk => ⟨(World.putObj_heap_other (fun e => ?_)).trans (hown.sat k b hk).1, (hown.sat k b hk).2⟩, hown.inj,
          ⟨So, D0 :: ms, C.E.ok _ _ _ _ hown.X (fun k hk => World.putObj_heap_other (fun e => by have := hSo k hk; omega)) rfl rfl rfl (by rw [szV]; exact Nat.le_refl _), fun k hk => by rw [szV]; have := hSo k hk; omega, hown.sep, ⟨by simp [hdef], List.nodup_cons.2 ⟨fun hm => ?_, hnd⟩⟩, fun D hDm => ?_⟩,
          hown.keep, hown.glob, hown.low⟩, hfree, hBE, hi0.flat, hi0.rounds⟩
        · have := (hown.sat k b hk).1; rw [e, hl] at this; exact (Blk.obj_loop this).elim
        · have := (Array.getElem?_eq_some_iff.1 (hms D0 hm).1).1; omega
        · rcases List.mem_cons.1 hDm with rfl | hDm
          · exact ⟨(World.putObj_heap_other (by omega)).trans hD, (fun hS => by have := hSo _ hS; omega), hYn⟩
          · exact ⟨(World.putObj_heap_other (fun e => by have := hown.mks D hDm; rw [e, hl] at this; cases this)).trans (hown.mks D hDm), (hms D hDm).2⟩
      rcases hcase with ⟨hc', hq, hI, hfree, rc, hrcS, hsupp⟩ | ⟨hc', e, hpE, BE, rc, ho, hk, hfree, hBE, hrcS, hsupp⟩
      · obtain ⟨hown, hLv⟩ := hsupp.here
        have hNl : N = xs.length := by omega
        have hmin : min (N + 1) xs.length = N := by omega
        rw [hmin] at hI
        obtain ⟨f1, f2⟩ := fini .ready none rc hq B (by simp) hfree hw.low hown hLv
        rcases fin with ⟨_, hK⟩ | ⟨x', hx', _⟩
        · exact ⟨none, _, f1, _, rc, ⟨hK hq hI, f2⟩, rfl, keepF _, noCap rc hq hrcS⟩
        · obtain ⟨h9, _⟩ := List.getElem?_eq_some_iff.1 hx'; omega
      · obtain ⟨hown, _, hLv⟩ := hsupp.here
        rcases ho with ⟨_, ho⟩ | ⟨pv, h1, _⟩
        · cases hoj : outCode e with
          | none => rw [hoj] at ho; cases ho
          | some j =>
            obtain ⟨f1, f2⟩ := fini .done (some j) rc hpE BE (by simp) hfree hBE hown (hLv j hoj)
            refine ⟨some j, _, f1, ?_⟩
            cases e <;> simp only [outCode, Option.some.injEq, reduceCtorEq] at hoj
            · subst hoj; exact wpIn_exit ⟨_, rc, ⟨hk, f2⟩, rfl, keepF _, noCap rc hpE hrcS⟩
            · subst hoj; exact wpIn_goto ⟨_, rc, ⟨hk, f2⟩, rfl, keepF _, noCap rc hpE hrcS⟩
            · subst hoj; exact wpIn_ret ⟨_, rc, ⟨hk, f2⟩, rfl, keepF _, noCap rc hpE hrcS⟩
        · cases h1
    · refine ⟨i, ?_, h1, rfl⟩
      unfold dom rst at hd
      split at hd
      · rename_i h; exact h.resolve_left (by omega)
      · exact absurd rfl hd
theorem IterK.under {f : FuncId} {caps : Array Value} {hp hp' : Hp} {rs : List Nat} {xs : List (Array Value)} (h : IterK P G f caps hp rs xs) (e : rst hp' rs = rst hp rs) : IterK P G f caps hp' rs xs :=
  ⟨h.enter, by rw [e]; exact h.cids, by rw [e]; exact h.closed, by rw [e]; exact h.run⟩
/-- Blocks that were put aside, laid back. -/
def addB (as : List Nat) (hp0 hp : Hp) : Hp := fun k => if k ∈ as then hp0 k else hp k
theorem WeakR.ctx {C' : Ctx} {ρ : Nat → Nat} {s s' : GS} (h : C.hp0 = C'.hp0) (hG : C.G = C'.G) (hw : WeakR C ρ s s') : WeakR C' ρ s s' := ⟨hw.ts, hw.hp, hw.ids, hw.inj, hw.id, by rw [← hG]; exact hw.rest, by rw [← h]; exact hw.keep, by rw [← hG]; exact hw.glob, hw.yc, hw.free, hw.low⟩
/-- **A RANGE OVER AN ITERATOR THAT LEAVES ITS BLOCKS AS THEY WERE**: the blocks 'as' (the iterator's own, rs, are among them) are put aside for the loop's time, and laid back behind it. -/
theorem GW_rangeK {t : Tmp} {ps : Array Tmp} {assign body : Code} {f : FuncId} {caps : Array Value} {rs : List Nat} {xs : List (Array Value)} (as : List Nat) (hY : C.Y = none) (hg : s.ts t = .func (.func f) #[] caps) (hit : IterK P C.G f caps s.hp rs xs)
    (hxs : ∀ x ∈ xs, x.size = ps.size ∧ ∀ v ∈ x, flatV v = true) (hps : ∀ p ∈ ps, p < n) (tsE tsF : Nat → Value) (I : Nat → Hp → Prop) {hpS : Hp} (B : Nat) (N : Nat) (hN : N ≤ xs.length)
    (hras : ∀ k ∈ rs, k ∈ as) (has : ∀ k ∈ as, 100 ≤ k ∧ dom s.hp k) (hcl : ∀ k ∈ as, ∀ b, s.hp k = some b → b.ids fun q => q ∈ as)
    (hw : ∀ C0 : Ctx, C0.G = C.G → (C0.hp0 = fun k => if k ∈ as then none else C.hp0 k) → Weak C0 s ⟨tsE, hpS, B, s.yc⟩) (h0 : I 0 hpS) (hnS : ∀ k ∈ as, hpS k = none)
    (hF : ∀ u, tsF u = tsE u ∨ (tsF u = s.ts u ∧ idsV (fun q => q ∈ as) (s.ts u)))
    (rounds : ∀ i x hq, i < N → xs[i]? = some x → I i hq → ∀ (C1 : Ctx) (l : Nat), C1.G = C.G → C1.hp0 = hq → C1.Y = none → GW P C1 n [] (some l) assign ⟨roundTs ps.toList x.toList tsE, hq, B, 0⟩
      (thenG (fun s1 => ∀ C2 : Ctx, C2.G = C.G → C2.hp0 = hq → C2.Y = none → GW P C2 n [] (some l) body s1 (thenG (fun s2 => ∃ ρ hq', (∀ C0 : Ctx, C0.G = C.G → (C0.hp0 = fun k => if k ∈ as then none else C.hp0 k) → WeakR C0 ρ ⟨tsE, s2.hp, s2.B, s.yc⟩ ⟨tsE, hq', B, s.yc⟩) ∧ I (i + 1) hq') (fun _ _ => False))) (fun _ _ => False)))
    (fin : (N = xs.length ∧ ∀ hq, I N hq → (∀ k ∈ as, hq k = none ∧ k < B) ∧ K .normal ⟨tsF, addB as s.hp hq, B, s.yc⟩) ∨ ∃ x, xs[N]? = some x ∧ ∀ hq, I N hq → ∀ (C1 : Ctx) (l : Nat), C1.G = C.G → C1.hp0 = hq → C1.Y = none → GW P C1 n [] (some l) assign ⟨roundTs ps.toList x.toList tsE, hq, B, 0⟩
        (thenG (fun s1 => ∀ C2 : Ctx, C2.G = C.G → C2.hp0 = hq → C2.Y = none → GW P C2 n [] (some l) body s1 (fun e s2 => (outCode e).isSome = true ∧ (∀ t, idsV (dom s2.hp) (tsE t)) ∧ (∀ k ∈ as, s2.hp k = none ∧ k < s2.B) ∧ K e ⟨tsF, addB as s.hp s2.hp, s2.B, s.yc⟩)) (fun _ _ => False))) :
    GW P C n d none (.rangeFunc (.tmp t) ps assign body) s K := by
  intro r a W hi
  obtain ⟨So, ms, hX0, hSo, hsep, hdef, hms⟩ := hi.ri.ext
  have hA100 : ∀ k, k < 100 → k ∉ as := fun k hk hm => by have := (has k hm).1; omega
  let A : Nat → Prop := fun j => ∃ i, i ∈ as ∧ i ∉ rs ∧ r i = j
  let E' : Ext := ⟨fun c S V => C.E.X c So V ∧ (∀ k, So k → S k) ∧ ∀ j, A j → S j ∧ V.heap[j]? = W.heap[j]?,
    fun c S V V' h hs os tape output size => ⟨C.E.ok _ _ _ _ h.1 (fun k hk => hs k (h.2.1 k hk)) os tape output size, h.2.1, fun j hj => ⟨(h.2.2 j hj).1, (hs j (h.2.2 j hj).1).trans (h.2.2 j hj).2⟩⟩⟩
  let C' : Ctx := { C with E := E', hp0 := fun k => if k ∈ as then none else C.hp0 k }
  have hw' := hw C' rfl rfl
  let hpR : Hp := fun k => if k ∈ rs then s.hp k else hpS k
  let s' : GS := ⟨fun u => if u = t then s.ts t else tsE u, hpR, s.B, s.yc⟩
  have subS : ∀ k b, hpS k = some b → s.hp k = some b := fun k b hb => by
    by_cases h1 : 100 ≤ k
    · rcases hw'.hp k h1 with h | h
      · have h : hpS k = none := h
        rw [h] at hb; cases hb
      · have h : hpS k = s.hp k := h
        rw [← h]; exact hb
    · have h2 : hpS k = C.G k := hw'.glob k (by omega)
      rw [hi.ri.glob k (by omega), ← h2]; exact hb
  have subR : ∀ k b, hpR k = some b → s.hp k = some b := fun k b hb => by
    by_cases h1 : k ∈ rs
    · have : hpR k = s.hp k := by simp [hpR, h1]
      rw [← this]; exact hb
    · have : hpR k = hpS k := by simp [hpR, h1]
      exact subS k b (this ▸ hb)
  have domR : ∀ k, dom hpR k → dom s.hp k := fun k hk => by
    unfold dom at hk ⊢
    cases hb : hpR k with
    | none => exact absurd hb hk
    | some b => rw [subR k b hb]; simp
  have domSR : ∀ k, dom hpS k → dom hpR k := fun k hk => by
    unfold dom at *
    by_cases h1 : k ∈ rs
    · exact absurd (hnS k (hras k h1)) hk
    · simpa [hpR, h1] using hk
  have erst : rst hpR rs = rst s.hp rs := funext fun k => by
    unfold rst
    by_cases h1 : k ∈ rs
    · simp [hpR, h1]
    · by_cases h2 : k < 100
      · have e1 : hpS k = C.G k := hw'.glob k h2
        simp [hpR, h1, h2, e1, hi.ri.glob k h2]
      · simp [h1, h2]
  have domrst : ∀ k, dom (rst s.hp rs) k → dom hpR k := fun k hk => by
    rw [← erst] at hk
    unfold dom at *
    cases hb : rst hpR rs k with
    | none => exact absurd hb hk
    | some b => rw [rst_sub hb]; simp
  have hit' : IterK P C'.G f caps s'.hp rs xs := hit.under erst
  have hi' : GI P C' n d r s' a W := by
    refine ⟨⟨hi.ri.size, fun u => ?_, fun k b hk => ⟨(hi.ri.sat k b (subR k b hk)).1, ?_⟩, fun k l hk hl e => hi.ri.inj k l (domR k hk) (domR l hl) e, ⟨fun k => So k ∨ A k, ms, ⟨hX0, fun k hk => .inl hk, fun j hj => ⟨.inr hj, rfl⟩⟩, fun k hk => ?_, fun i hd h1 hS => ?_, hdef, fun D hD => ⟨(hms D hD).1, fun hS => ?_, (hms D hD).2.2⟩⟩, fun i hd => ?_, fun k hk => ?_, fun k hk hd => hi.ri.low k hk (domR k hd)⟩, fun x hx => ?_, hi.low, hi.flat, fun y hy => by have hy : C.Y = some y := hy; rw [hY] at hy; cases hy⟩
    · by_cases hu : u = t
      · subst hu
        right
        have e := (hi.ri.rel u).resolve_left (by rw [hg]; simp [junk])
        refine ⟨by simpa [s'] using e.1, ?_⟩
        have e2 : s'.ts u = .func (.func f) #[] caps := by simp [s', hg]
        rw [e2]
        refine ⟨by simp, fun x hx => ?_⟩
        have := hit.cids x hx
        exact ids0_mono domrst ((ids_plain0 this.1).1 this.2)
      · have e2 : s'.ts u = tsE u := by simp [s', hu]
        rw [e2]
        rcases hw'.ts u with h | ⟨h, hid⟩
        · exact .inl h
        · have h : tsE u = s.ts u := h
          rcases hi.ri.rel u with h3 | h3
          · exact .inl (h.trans h3)
          · exact .inr ⟨by rw [h]; exact h3.1, idsV_mono domSR hid⟩
    · by_cases h1 : k ∈ rs
      · have hk2 : rst s.hp rs k = some b := by
          have : s.hp k = some b := subR k b hk
          simp [rst, h1, this]
        exact Blk.ids_mono domrst (hit.closed k b hk2)
      · have hk2 : hpS k = some b := by
          have : hpR k = hpS k := by simp [hpR, h1]
          exact this ▸ hk
        exact Blk.ids_mono domSR (hw'.ids k b hk2)
    · rcases hk with hk | ⟨i, hi1, _, rfl⟩
      · exact hSo k hk
      · exact hi.ri.lt (has i hi1).2
    · rcases hS with hS | ⟨i', hi1, hi2, e⟩
      · exact hsep i (domR i hd) h1 hS
      · have : i' = i := hi.ri.inj i' i (has i' hi1).2 (domR i hd) e
        subst this
        have hd' : hpR i' ≠ none := hd
        have : hpR i' = hpS i' := by simp [hpR, hi2]
        exact hd' (this.trans (hnS i' hi1))
    · rcases hS with hS | ⟨i, hi1, _, e⟩
      · exact (hms D hD).2.1 hS
      · exact hi.ri.ne_mark (has i hi1).2 (hms D hD).1 e
    · have hna : i ∉ as := fun hm => by
        have : (if i ∈ as then none else C.hp0 i) ≠ none := hd
        simp [hm] at this
      have hd0 : dom C.hp0 i := by
        have : (if i ∈ as then none else C.hp0 i) ≠ none := hd
        rw [if_neg hna] at this
        exact this
      refine ⟨?_, (hi.ri.keep i hd0).2⟩
      by_cases h1 : 100 ≤ i
      · have hk := hw'.keep i h1 hd
        refine domSR i ?_
        have h2 := (hi.ri.keep i hd0).1
        unfold dom at *
        have hk : hpS i = s.hp i := hk
        rw [hk]; exact h2
      · have h2 := (hi.ri.keep i hd0).1
        refine domSR i ?_
        have e1 : hpS i = C.G i := hw'.glob i (by omega)
        unfold dom at *
        rw [e1, ← hi.ri.glob i (by omega)]; exact h2
    · have h1 : k ∉ rs := fun hm => hA100 k hk (hras k hm)
      have : hpR k = hpS k := by simp [hpR, h1]
      show hpR k = C.G k
      rw [this]; exact hw'.glob k hk
    · cases hb : hpR x with
      | none => exact hb
      | some b =>
        have h1 : s.hp x = none := hi.free x hx
        rw [subR x b hb] at h1; cases h1
  have hw2 : Weak C' s' ⟨tsE, hpS, B, s'.yc⟩ := by
    refine ⟨fun u => ?_, fun k hk => ?_, hw'.ids, fun k h1 hd => ?_, hw'.glob, rfl, hw'.free, hw'.low⟩
    · rcases hw'.ts u with h | ⟨h, hid⟩
      · exact .inl h
      · refine .inr ⟨?_, hid⟩
        by_cases hu : u = t
        · subst hu; simpa [s'] using h
        · simp [s', hu]
    · by_cases h1 : k ∈ rs
      · exact .inl (hnS k (hras k h1))
      · exact .inr (by simp [s', hpR, h1])
    · have hna : k ∉ as := fun hm => by
        have : (if k ∈ as then none else C.hp0 k) ≠ none := hd
        simp [hm] at this
      have h2 : k ∉ rs := fun hm => hna (hras k hm)
      show hpS k = hpR k
      simp [hpR, h2]
  have main := rangeK_wp (P := P) (C := C') (n := n) (d := d) (s := s') (K := fun e s2 => (∀ k ∈ as, s2.hp k = none ∧ k < s2.B) ∧ (∀ u, s2.ts u = tsE u) ∧ s2.yc = s.yc ∧ K e ⟨tsF, addB as s.hp s2.hp, s2.B, s.yc⟩) (t := t) (ps := ps) (assign := assign) (body := body) (f := f) (caps := caps) (rs := rs) (xs := xs) (by simp [s', hg]) hit' hxs hps tsE I B N hN hw2 h0
    (fun k hk => ⟨hnS k (hras k hk), by have := (has k (hras k hk)).2; unfold dom at *; simpa [s', hpR, hk] using this⟩)
    (fun i x hq h1 h2 h3 C1 l h4 h5 h6 => GW_mono (rounds i x hq h1 h2 h3 C1 l h4 h5 h6) fun e s1 hs => by
      cases e with
      | normal =>
        intro C2 q1 q2 q3
        refine GW_mono (hs C2 q1 q2 q3) fun e s2 hs2 => ?_
        cases e with
        | normal =>
          obtain ⟨ρ, hq', hr1, hr2⟩ := hs2
          exact ⟨ρ, hq', hr1 C' rfl rfl, hr2⟩
        | _ => exact hs2.elim
      | _ => exact hs.elim)
    (fin.imp (fun ⟨h1, h2⟩ => ⟨h1, fun hq hI => ⟨(h2 hq hI).1, fun _ => rfl, rfl, (h2 hq hI).2⟩⟩) (fun ⟨x, h1, h2⟩ => ⟨x, h1, fun hq hI C1 l q1 q2 q3 => GW_mono (h2 hq hI C1 l q1 q2 q3) fun e s1 hs => by
      cases e with
      | normal =>
        intro C2 p1 p2 p3
        exact GW_mono (hs C2 p1 p2 p3) fun e s2 hs2 => ⟨hs2.1, hs2.2.1, hs2.2.2.1, fun _ => rfl, rfl, hs2.2.2.2⟩
      | _ => exact hs.elim⟩))
    (by show C.Y ≠ some .still; rw [hY]; simp) hi'
  refine wpIn_mono main ?_
  rintro e a' W' ⟨s2, r2, ⟨⟨hna, hts2, hyc, hK⟩, gi⟩, htm, hkB, hnc⟩
  obtain ⟨S2, m2, ⟨hX2, hSo2, hA2⟩, hS2, hsep2, hdef2, hms2⟩ := gi.ri.ext
  let r3 : Nat → Nat := fun k => if k ∈ as then r k else r2 k
  have r3as : ∀ k, k ∈ as → r3 k = r k := fun k hk => by simp [r3, hk]
  have r3no : ∀ k, dom s2.hp k → r3 k = r2 k := fun k hk => by
    have : k ∉ as := fun hm => hk (hna k hm).1
    simp [r3, this]
  have domF1 : ∀ k, k ∈ as → dom (addB as s.hp s2.hp) k := fun k hk => by
    have := (has k hk).2
    unfold dom addB at *; simpa [hk] using this
  have domF2 : ∀ k, dom s2.hp k → dom (addB as s.hp s2.hp) k := fun k hk => by
    have h1 : k ∉ as := fun hm => hk (hna k hm).1
    unfold dom addB at *; simpa [h1] using hk
  have hpF1 : ∀ k b, addB as s.hp s2.hp k = some b → (k ∈ as ∧ s.hp k = some b) ∨ (k ∉ as ∧ s2.hp k = some b) := fun k b hb => by
    unfold addB at hb
    by_cases h1 : k ∈ as
    · simp only [h1, if_true] at hb; exact .inl ⟨h1, hb⟩
    · simp only [h1, if_false] at hb; exact .inr ⟨h1, hb⟩
  have domF : ∀ k, dom (addB as s.hp s2.hp) k → k ∈ as ∨ (k ∉ as ∧ dom s2.hp k) := fun k hk => by
    unfold dom at hk
    cases hb : addB as s.hp s2.hp k with
    | none => exact absurd hb hk
    | some b => exact (hpF1 k b hb).imp (fun h => h.1) (fun h => ⟨h.1, by unfold dom; rw [h.2]; simp⟩)
  refine ⟨⟨tsF, addB as s.hp s2.hp, s2.B, s.yc⟩, r3, hK, ⟨⟨gi.ri.size, fun u => ?_, fun k b hk => ?_, fun k l hk hl e => ?_, ⟨So, m2, ?_, fun k hk => hS2 k (hSo2 k hk), fun i hd h1 hS => ?_, hdef2, fun D hD => ⟨(hms2 D hD).1, fun hS => (hms2 D hD).2.1 (hSo2 D hS), (hms2 D hD).2.2⟩⟩, fun i hd => ?_, fun k hk => ?_, fun k hk hd => ?_⟩, fun x hx => ?_, gi.low, hi.flat, hi.rounds⟩⟩
  · rcases hF u with h | ⟨h, hid⟩
    · rcases gi.ri.rel u with h3 | h3
      · exact .inl (h.trans ((hts2 u).symm.trans h3))
      · rw [hts2 u] at h3
        exact .inr ⟨by
          have e1 : a'.tmps.getD u undef = ren r3 (tsF u) := by rw [h, ren_congr r3no h3.2]; exact h3.1
          exact e1, by
          have e2 : idsV (dom (addB as s.hp s2.hp)) (tsF u) := by rw [h]; exact idsV_mono domF2 h3.2
          exact e2⟩
    · rcases hi.ri.rel u with h3 | h3
      · exact .inl (h.trans h3)
      · exact .inr ⟨by
          have e1 : a'.tmps.getD u undef = ren r3 (tsF u) := by rw [h, htm, ren_congr r3as hid]; exact h3.1
          exact e1, by
          have e2 : idsV (dom (addB as s.hp s2.hp)) (tsF u) := by rw [h]; exact idsV_mono domF1 hid
          exact e2⟩
  · rcases hpF1 k b hk with ⟨h1, h2⟩ | ⟨h1, h2⟩
    · have hid := hcl k h1 b h2
      refine ⟨?_, Blk.ids_mono domF1 hid⟩
      rw [r3as k h1, Blk.obj_congr r3as hid, ← (hi.ri.sat k b h2).1]
      by_cases h3 : k ∈ rs
      · refine hkB k ?_
        show dom (rst hpR rs) k
        rw [erst]
        unfold dom rst; simp [h3, h2]
      · exact (hA2 (r k) ⟨k, h1, h3, rfl⟩).2
    · have hd : dom s2.hp k := by unfold dom; rw [h2]; simp
      have h3 := gi.ri.sat k b h2
      refine ⟨?_, Blk.ids_mono domF2 h3.2⟩
      rw [r3no k hd, Blk.obj_congr r3no h3.2]
      exact h3.1
  · have mixed : ∀ k l, k ∈ as → l ∉ as → dom s2.hp l → r k = r2 l → False := fun k l hk hl hd e => by
      by_cases h3 : k ∈ rs
      · exact hnc l hd k h3 (has k hk).1 e.symm
      · by_cases h1 : 100 ≤ l
        · exact hsep2 l hd h1 (e ▸ (hA2 (r k) ⟨k, hk, h3, rfl⟩).1)
        · have e1 : s2.hp l = C.G l := gi.ri.glob l (by omega)
          have e2 : s.hp l = C.G l := hi.ri.glob l (by omega)
          have hd2 : dom s.hp l := by unfold dom at *; rw [e2, ← e1]; exact hd
          have e3 : r2 l = l := gi.ri.low l (by omega) hd
          have e4 : r l = l := hi.ri.low l (by omega) hd2
          have : k = l := hi.ri.inj k l (has k hk).2 hd2 (by rw [e, e3, e4])
          exact hl (this ▸ hk)
    rcases domF k hk with h1 | ⟨h1, hd1⟩ <;> rcases domF l hl with h2 | ⟨h2, hd2⟩
    · rw [r3as k h1, r3as l h2] at e
      exact hi.ri.inj k l (has k h1).2 (has l h2).2 e
    · rw [r3as k h1, r3no l hd2] at e
      exact (mixed k l h1 h2 hd2 e).elim
    · rw [r3no k hd1, r3as l h2] at e
      exact (mixed l k h2 h1 hd1 e.symm).elim
    · rw [r3no k hd1, r3no l hd2] at e
      exact gi.ri.inj k l hd1 hd2 e
  · have : E'.X s2.yc S2 W' := ⟨hX2, hSo2, hA2⟩
    show C.E.X s.yc So W'
    rw [← hyc]; exact hX2
  · rcases domF i hd with h2 | ⟨h2, hd2⟩
    · rw [r3as i h2] at hS; exact hsep i (has i h2).2 h1 hS
    · rw [r3no i hd2] at hS; exact hsep2 i hd2 h1 (hSo2 _ hS)
  · by_cases h1 : i ∈ as
    · exact ⟨domF1 i h1, (r3as i h1).trans (hi.ri.keep i hd).2⟩
    · have hd' : dom C'.hp0 i := by
        show (if i ∈ as then none else C.hp0 i) ≠ none
        rw [if_neg h1]; exact hd
      have hk : dom s2.hp i ∧ r2 i = C.r0 i := gi.ri.keep i hd'
      exact ⟨domF2 i hk.1, (r3no i hk.1).trans hk.2⟩
  · have h1 := hA100 k hk
    show addB as s.hp s2.hp k = C.G k
    unfold addB; rw [if_neg h1]; exact gi.ri.glob k hk
  · have h1 := hA100 k hk
    rcases domF k hd with h2 | ⟨_, hd2⟩
    · exact absurd h2 h1
    · rw [r3no k hd2]; exact gi.ri.low k hk hd2
  · have hx : s2.B ≤ x := hx
    have h1 : x ∉ as := fun hm => by have := (hna x hm).2; omega
    show addB as s.hp s2.hp x = none
    unfold addB; rw [if_neg h1]; exact gi.free x hx
section
variable {P : Program} {G : Hp}
theorem IterK.rn {f : FuncId} {caps : Array Value} {hp hp' : Hp} {rs : List Nat} {xs : List (Array Value)} (ρ : Nat → Nat) (hGF : GFlat G) (hG : ∀ k, k < 100 → hp k = G k) (h : Rn ρ hp hp' rs) (hi : IterK P G f caps hp rs xs) : IterK P G f (caps.map (ren0 ρ)) hp' (rs.map ρ) xs := by
  have hpl : ∀ x, plain0 x = true → plain0 (ren0 ρ x) = true := fun x hx => by
    cases x with
    | pointer p => cases p <;> rfl
    | slice p _ _ => cases p <;> rfl
    | map p => cases p <;> rfl
    | _ => exact hx
  have bflat : ∀ k b, k < 100 → hp k = some b → b.rn ρ = b := fun k b hk hb => by
    have hg : G k = some b := (hG k hk).symm.trans hb
    exact Blk.rn_flat (hGF k b hg).2
  have back : ∀ k b, rst hp' (rs.map ρ) k = some b → ∃ q c, rst hp rs q = some c ∧ ρ q = k ∧ b = c.rn ρ := fun k b hb => by
    unfold rst at hb
    by_cases h1 : k < 100
    · simp only [h1, true_or, if_true] at hb
      have hl := h.low k h1
      rw [hl.2] at hb
      exact ⟨k, b, by simp [rst, h1, hb], hl.1, (bflat k b h1 hb).symm⟩
    · by_cases hm : k ∈ rs.map ρ
      · obtain ⟨q, hq, rfl⟩ := List.mem_map.1 hm
        simp only [hm, or_true, if_true] at hb
        have hq1 : 100 ≤ q := by
          by_cases hq1 : 100 ≤ q
          · exact hq1
          · exact absurd (by rw [(h.low q (by omega)).1]; omega) h1
        obtain ⟨c, e1, e2⟩ := h.at' q hq hq1
        rw [e2] at hb; cases hb
        exact ⟨q, c, by simp [rst, hq, e1], rfl, rfl⟩
      · simp [h1, hm] at hb
  refine ⟨hi.enter, fun x hx => ?_, fun k b hb => ?_, fun E l stop r S W hgok hsat hinj hlow hR hX hS hdis => ?_⟩
  · obtain ⟨y, hy, rfl⟩ := Array.mem_map.1 hx
    have := hi.cids y hy
    exact ⟨hpl y this.1, (ids_plain0 (hpl y this.1)).2 (ids0_rn (fun k hk => h.dom1 hk) ((ids_plain0 this.1).1 this.2))⟩
  · obtain ⟨q, c, h1, rfl, rfl⟩ := back k b hb
    exact Blk.ids_rn (fun k hk => h.dom1 hk) (hi.closed q c h1)
  · have hcap : (caps.map (ren0 ρ)).map (ren r) = caps.map (ren fun k => r (ρ k)) := by
      rw [Array.map_map]
      refine Array.map_congr_left fun x hx => ?_
      have := (hi.cids x hx).1
      simp only [Function.comp]
      rw [← ren_plain0 (r := ρ) this, ren_comp]
    rw [hcap]
    refine (hi.run E l stop (fun k => r (ρ k)) S W hgok (fun k b hk => ⟨?_, hi.closed k b hk⟩) (fun k l hk hl e => ?_) (fun k hk hd => ?_) hR hX hS (fun i hd h1 => ?_)).mono (fun _ _ hh => ⟨hh.1, hh.2.1, fun k hk => ?_⟩)
    · have hd : dom (rst hp rs) k := by unfold dom; rw [hk]; simp
      have hd' := h.dom1 hd
      unfold dom at hd'
      cases hb : rst hp' (rs.map ρ) (ρ k) with
      | none => exact absurd hb hd'
      | some b' =>
        have e : b' = b.rn ρ := by
          unfold rst at hb hk
          by_cases h1 : k < 100
          · have hl := h.low k h1
            simp only [h1, true_or, if_true] at hk
            rw [hl.1] at hb
            simp only [h1, true_or, if_true] at hb
            rw [hl.2, hk] at hb
            cases hb
            exact (bflat k b h1 hk).symm
          · have hm : k ∈ rs := by
              by_cases hm : k ∈ rs
              · exact hm
              · simp [h1, hm] at hk
            simp only [hm, or_true, if_true] at hk
            obtain ⟨c, e1, e2⟩ := h.at' k hm (by omega)
            rw [hk] at e1; cases e1
            have hm' : ρ k ∈ rs.map ρ := List.mem_map.2 ⟨k, hm, rfl⟩
            simp only [hm', or_true, if_true] at hb
            rw [e2] at hb; cases hb; rfl
        have := (hsat _ b' hb).1
        rw [e, Blk.rn_obj] at this
        exact this
    · have e2 := hinj _ _ (h.dom1 hk) (h.dom1 hl) e
      have mem : ∀ k, dom (rst hp rs) k → 100 ≤ k → k ∈ rs := fun k hk h1 => by
        unfold dom rst at hk
        by_cases hm : k ∈ rs
        · exact hm
        · simp [hm] at hk; omega
      by_cases h1 : k < 100
      · by_cases h2 : l < 100
        · rw [(h.low k h1).1, (h.low l h2).1] at e2; exact e2
        · have := h.big l (mem l hl (by omega)) (by omega)
          rw [(h.low k h1).1] at e2; omega
      · by_cases h2 : l < 100
        · have := h.big k (mem k hk (by omega)) (by omega)
          rw [(h.low l h2).1] at e2; omega
        · exact h.inj k (mem k hk (by omega)) l (mem l hl (by omega)) (by omega) (by omega) e2
    · show r (ρ k) = k
      have := h.dom1 hd
      rw [(h.low k hk).1] at this ⊢
      exact hlow k hk this
    · refine hdis _ (h.dom1 hd) (h.big i ?_ h1)
      unfold dom rst at hd
      by_cases hm : i ∈ rs
      · exact hm
      · simp [hm] at hd; omega
    · unfold dom at hk
      cases hb : rst hp' (rs.map ρ) k with
      | none => exact absurd hb hk
      | some b =>
        obtain ⟨q, c, h1, h2, _⟩ := back k b hb
        rw [← h2]
        exact hh.2.2 q (by unfold dom; rw [h1]; simp)
end
end
end Go.Gy
namespace Go.Gy
open Go Go.RowKit
/-- A block in which no name stands. -/
def Blk.fx (b : Blk) : Prop := match b.T with
  | .ty _ => ∀ x ∈ b.c, flatF x = true
  | .raw _ _ => True
theorem Blk.fx_ids {b : Blk} (h : b.fx) (D : Nat → Prop) : b.ids D := by
  obtain ⟨c, T⟩ := b
  cases T with
  | ty t => exact Blk.flat_ids (b := ⟨c, .ty t⟩) h
  | raw t fr => trivial
theorem Blk.fx_rn {b : Blk} (h : b.fx) (ρ : Nat → Nat) : b.rn ρ = b := by
  obtain ⟨c, T⟩ := b
  cases T with
  | ty t => exact Blk.rn_flat (b := ⟨c, .ty t⟩) h
  | raw t fr => rfl
theorem fx_map {cs : Array Value} (h : ∀ x ∈ cs, flatF x = true) (ρ : Nat → Nat) : cs.map (renF ρ) = cs := by
  have := Blk.rn_flat (ρ := ρ) (b := ⟨cs, .ty 0⟩) h
  simpa [Blk.rn] using this
section
variable {P : Program} {G : Hp}
/-- The names of a list that lies on its own. -/
structure LOk (m : List (Nat × Blk)) (B : Nat) : Prop where
  big : ∀ p ∈ m, 100 ≤ p.1 ∧ p.1 < B
  one : (keys m).Nodup
  ids : ∀ p ∈ m, p.2.ids fun k => k ∈ keys m
theorem LOk.at {m : List (Nat × Blk)} (hn : (keys m).Nodup) : ∀ p ∈ m, hpL G m p.1 = some p.2 := by
  induction m with
  | nil => intro p hp; cases hp
  | cons q m ih =>
    obtain ⟨k, b⟩ := q
    intro p hp
    simp only [keys, List.map_cons, List.nodup_cons] at hn
    rw [hpL_cons]
    rcases List.mem_cons.1 hp with rfl | hp
    · simp
    · have hne : ¬ p.1 = k := fun e => hn.1 (by rw [← e]; exact List.mem_map.2 ⟨p, hp, rfl⟩)
      rw [if_neg hne]
      exact ih hn.2 p hp
theorem LOk.low {m : List (Nat × Blk)} {B : Nat} (h : LOk m B) : ∀ k, k < 100 → hpL G m k = G k := fun _ hk => hpL_low (fun p hp => (h.big p hp).1) hk
theorem LOk.rst {m : List (Nat × Blk)} (hGF : GFlat G) : rst (hpL G m) (keys m) = hpL G m := hpL_rst hGF fun p hp => mem_keys.2 ⟨p, hp, rfl⟩
theorem LOk.sub {m : List (Nat × Blk)} {B : Nat} (h : LOk m B) (k : Nat) (hk : k ∈ keys m) : dom (hpL G m) k := by
  obtain ⟨p, hp, rfl⟩ := mem_keys.1 hk
  unfold dom; rw [LOk.at h.one p hp]; simp
theorem LOk.closed {m : List (Nat × Blk)} {B : Nat} (hGF : GFlat G) (h : LOk m B) (k : Nat) (b : Blk) (hk : hpL G m k = some b) : b.ids (dom (hpL G m)) := by
  rcases hpL_mem hk with h1 | h1
  · exact Blk.ids_mono (fun q hq => h.sub q hq) (h.ids (k, b) h1)
  · exact Blk.flat_ids (hGF k b h1).2
theorem LOk.free {m : List (Nat × Blk)} {B : Nat} (hGF : GFlat G) (hB : 100 ≤ B) (h : LOk m B) (x : Nat) (hx : B ≤ x) : hpL G m x = none := by
  cases hb : hpL G m x with
  | none => rfl
  | some b =>
    rcases hpL_mem hb with h1 | h1
    · have := (h.big _ h1).2; simp at this; omega
    · have := (hGF x b h1).1; omega
theorem LOk.aside {m : List (Nat × Blk)} {B : Nat} (hGF : GFlat G) (h : LOk m B) : (fun k => if k ∈ keys m then none else hpL G m k) = hpL G [] := by
  funext k
  rw [hpL_nil]
  by_cases hk : k ∈ keys m
  · rw [if_pos hk]
    obtain ⟨p, hp, rfl⟩ := mem_keys.1 hk
    cases hb : G p.1 with
    | none => rfl
    | some b => have := (hGF _ b hb).1; have := (h.big p hp).1; omega
  · rw [if_neg hk]
    cases hb : hpL G m k with
    | none =>
      cases hg : G k with
      | none => rfl
      | some b => rw [h.low k (hGF k b hg).1, hg] at hb; cases hb
    | some b =>
      rcases hpL_mem hb with h1 | h1
      · exact absurd (mem_keys.2 ⟨_, h1, rfl⟩) hk
      · exact h1.symm
theorem LOk.clz {m : List (Nat × Blk)} {B : Nat} (h : LOk m B) {hp : Hp} (hh : ∀ p ∈ m, hp p.1 = some p.2) : ∀ k ∈ keys m, ∀ b, hp k = some b → b.ids fun q => q ∈ keys m := fun k hk b hb => by
  obtain ⟨p, hp1, rfl⟩ := mem_keys.1 hk
  rw [hh p hp1] at hb
  cases hb
  exact h.ids p hp1
theorem fun_ofL {f : FuncId} {fn : Func} {c : Code} {args : Array Value} {m : List (Nat × Blk)} {v : Value} {ws : List (Nat × Blk)} {B : Nat} (hGF : GFlat G) (hf : P.funcs[f]? = some fn) (hb : fn.body = some c) (hcall : ∀ a w, (callFunc f a).run P w = .ok (.enter f a) w)
    (hm : LOk m B) (ha : ∀ x ∈ args, idsV (fun k => k ∈ keys m) x) (hv : idsV (fun k => k ∈ keys m) v) (hw : ∀ p ∈ ws, p.1 ∈ keys m ∧ p.2.ids (fun k => k ∈ keys m)) (hw1 : ∀ k b c, (k, b) ∈ ws → (k, c) ∈ ws → b = c) (hn : args.size ≤ fn.ntmps) (hB : 100 ≤ B)
    (h : ∀ C : Ctx, C.G = G → C.hp0 = hpL G m → C.Y = none → GW P C fn.ntmps [] none c ⟨fun t => args.getD t undef, hpL G m, B, 0⟩ (resP P fn (hpL G m) (.ret v ws))) : Fun P G f args (hpL G m) (keys m) (.ret v ws) := by
  have e := LOk.rst (m := m) hGF
  refine fun_of (B := B) hGF hm.low hf hb hcall (by rw [e]; exact fun x hx => idsV_mono (fun q hq => hm.sub q hq) (ha x hx)) (by rw [e]; exact hm.closed hGF) ⟨by rw [e]; exact idsV_mono (fun q hq => hm.sub q hq) hv, fun k hk => ?_, hw1, fun p hp => ?_⟩ hn hB (by rw [e]; exact hm.free hGF hB) (by rw [e]; exact h)
  · obtain ⟨p, hp, rfl⟩ := mem_keys.1 hk
    have := (hw p hp).1
    obtain ⟨q, hq, e1⟩ := mem_keys.1 this
    exact ⟨this, hm.sub _ this, by rw [← e1]; exact (hm.big q hq).1⟩
  · rw [e]; exact Blk.ids_mono (fun q hq => hm.sub q hq) (hw p hp).2
theorem iterk_ofL {f : FuncId} {fn : Func} {c : Code} {caps : Array Value} {m : List (Nat × Blk)} {xs : List (Array Value)} {B : Nat} {v : Value} (hGF : GFlat G) (hf : P.funcs[f]? = some fn) (hb : fn.body = some c) (hcall : ∀ a w, (callFunc f a).run P w = .ok (.enter f a) w)
    (hm : LOk m B) (ha : ∀ x ∈ caps, plain0 x = true ∧ idsV (fun k => k ∈ keys m) x) (hn : caps.size + 1 ≤ fn.ntmps) (hB : 100 ≤ B)
    (h : ∀ (C : Ctx) (l stop : Nat), C.G = G → C.hp0 = hpL G m → C.Y = some ⟨l, xs, stop, none⟩ → GW P C fn.ntmps [] none c ⟨fun t => (#[Value.func (.yield l) #[] #[]] ++ caps).getD t undef, hpL G m, B, 0⟩
      (fun e s => (e = .normal ∨ e = .ret) ∧ resG P fn.results.toList s.ts s.hp = some v ∧ s.yc = min (stop + 1) xs.length ∧ ∀ k, dom (hpL G m) k → s.hp k = hpL G m k)) : IterK P G f caps (hpL G m) (keys m) xs := by
  have e := LOk.rst (m := m) hGF
  exact iterk_of (B := B) (v := v) hGF hm.low hf hb hcall (by rw [e]; exact fun x hx => ⟨(ha x hx).1, idsV_mono (fun q hq => hm.sub q hq) (ha x hx).2⟩) (by rw [e]; exact hm.closed hGF) hn hB (by rw [e]; exact hm.free hGF hB) (by rw [e]; exact h)
theorem newS_ofL {f : FuncId} {fn : Func} {c : Code} {args : Array Value} {m : List (Nat × Blk)} {R : Value → List (Nat × Blk) → Prop} {B : Nat} (hGF : GFlat G) (hf : P.funcs[f]? = some fn) (hb : fn.body = some c) (hcall : ∀ a w, (callFunc f a).run P w = .ok (.enter f a) w)
    (hm : LOk m B) (ha : ∀ x ∈ args, idsV (fun k => k ∈ keys m) x)
    (hfit : ∀ v ns, R v ns → idsV (extD (fun k => k ∈ keys m) ns) v ∧ (∀ p ∈ ns, B ≤ p.1 ∧ p.2.ids (extD (fun k => k ∈ keys m) ns)) ∧ (∀ k b c, (k, b) ∈ ns → (k, c) ∈ ns → b = c))
    (hn : args.size ≤ fn.ntmps) (hB : 100 ≤ B)
    (h : ∀ C : Ctx, C.G = G → C.hp0 = hpL G m → C.Y = none → GW P C fn.ntmps [] none c ⟨fun t => args.getD t undef, hpL G m, B, 0⟩ fun e s => (e = .normal ∨ e = .ret) ∧ (∀ k, dom (hpL G m) k → s.hp k = hpL G m k) ∧
      ∃ v ns ρ, R v ns ∧ (∀ k, k < B → ρ k = k) ∧ (∀ p ∈ ns, B ≤ ρ p.1) ∧ (∀ p ∈ ns, ∀ q ∈ ns, ρ p.1 = ρ q.1 → p.1 = q.1) ∧ resG P fn.results.toList s.ts s.hp = some (ren ρ v) ∧ ∀ p ∈ ns, s.hp (ρ p.1) = some (p.2.rn ρ)) : FunS P G f args (hpL G m) (keys m) R := by
  have e := LOk.rst (m := m) hGF
  have hlt : ∀ k, dom (hpL G m) k → k < B := fun k hk => by
    refine Classical.byContradiction fun h1 => hk (hm.free hGF hB k (by omega))
  have ext : ∀ ns k, extD (fun k => k ∈ keys m) ns k → extD (dom (hpL G m)) ns k := fun ns k hk => hk.imp (fun h1 => hm.sub k h1) id
  refine newS_of (B := B) hGF hm.low hf hb hcall (by rw [e]; exact fun x hx => idsV_mono (fun q hq => hm.sub q hq) (ha x hx)) (by rw [e]; exact hm.closed hGF) (fun v ns hR => ?_) hn hB (by rw [e]; exact hm.free hGF hB) (fun C h1 h2 h3 => ?_)
  · rw [e]
    obtain ⟨f1, f2, f3⟩ := hfit v ns hR
    refine ⟨idsV_mono (ext ns) f1, fun k hk => ?_, f3, fun p hp => Blk.ids_mono (ext ns) (f2 p hp).2⟩
    obtain ⟨p, hp, rfl⟩ := mem_keys.1 hk
    have := (f2 p hp).1
    exact ⟨by omega, fun hd => by have := hlt _ hd; omega⟩
  · rw [e] at h2 ⊢
    refine GW_mono (h C h1 h2 h3) fun e s => fun ⟨q1, q2, v, ns, ρ, q3, q4, q5, q6, q7, q8⟩ => ⟨q1, q2, v, ns, ρ, q3, fun k hk => q4 k (hlt k hk), fun p hp => ?_, q6, q7, q8⟩
    have := q5 p hp
    exact ⟨fun hd => by have := hlt _ hd; omega, by omega⟩
theorem keep_of {m : List (Nat × Blk)} (hGF : GFlat G) {hp : Hp} (h1 : ∀ p ∈ m, hp p.1 = hpL G m p.1) (h2 : ∀ k, k < 100 → hp k = hpL G m k) : ∀ k, dom (hpL G m) k → hp k = hpL G m k := fun k hk => by
  unfold dom at hk
  cases hb : hpL G m k with
  | none => exact absurd hb hk
  | some b =>
    rw [← hb]
    rcases hpL_mem hb with h | h
    · exact h1 _ h
    · exact h2 k (hGF k b h).1
/-- The list by other names. -/
theorem rn_ofL {m : List (Nat × Blk)} {B : Nat} (hm : LOk m B) (ρ : Nat → Nat) (hlow : ∀ k, k < 100 → ρ k = k) {hp : Hp} (hp0 : ∀ k, k < 100 → hp k = G k) (hat : ∀ p ∈ m, 100 ≤ ρ p.1 ∧ hp (ρ p.1) = some (p.2.rn ρ)) (hinj : ∀ k ∈ keys m, ∀ l ∈ keys m, ρ k = ρ l → k = l) : Rn ρ (hpL G m) hp (keys m) := by
  refine ⟨fun k hk => ⟨hlow k hk, by rw [hp0 k hk, hm.low k hk]⟩, fun k hk _ => ?_, fun k hk _ => ?_, fun k hk l hl _ _ e => ?_⟩
  · obtain ⟨p, hp, rfl⟩ := mem_keys.1 hk
    exact (hat p hp).1
  · obtain ⟨p, hp, rfl⟩ := mem_keys.1 hk
    exact ⟨p.2, LOk.at hm.one p hp, (hat p hp).2⟩
  · exact hinj k hk l hl e
/-- A contract over a list, used by other names. -/
theorem heapK_mvG {f : FuncId} {args args' : Array Value} {m ws : List (Nat × Blk)} {B : Nat} {v : Value} {hp : Hp} {nk : Nat} {K : Eff → Prop} (h : Fun P G f args (hpL G m) (keys m) (.ret v ws)) (hGF : GFlat G) (hm : LOk m B) (ρ : Nat → Nat) (hlow : ∀ k, k < 100 → ρ k = k) (ea : args.map (ren ρ) = args')
    (hat : ∀ p ∈ m, 100 ≤ ρ p.1 ∧ hp (ρ p.1) = some (p.2.rn ρ)) (hinj : ∀ k ∈ keys m, ∀ l ∈ keys m, ρ k = ρ l → k = l) (hK : K ((Res.ret (ren ρ v) (rnL ρ ws)).eff ((keys m).map ρ))) : heapK P G f args' hp nk K := by
  let hp' : Hp := fun k => if k < 100 then G k else hp k
  have h1 : Rn ρ (hpL G m) hp' (keys m) := rn_ofL hm ρ hlow (fun k hk => by simp [hp', hk]) (fun p hp1 => ⟨(hat p hp1).1, by
    show (if ρ p.1 < 100 then G (ρ p.1) else hp (ρ p.1)) = _
    have := (hat p hp1).1
    rw [if_neg (by omega)]; exact (hat p hp1).2⟩) hinj
  subst ea
  refine heapK_of (h.rn ρ hGF hm.low h1) (fun k hk => ?_) (fun k hk => by simp [hp', hk]) (by exact trivial) hK
  obtain ⟨q, hq, rfl⟩ := List.mem_map.1 hk
  obtain ⟨p, hp1, rfl⟩ := mem_keys.1 hq
  show (if ρ p.1 < 100 then G (ρ p.1) else hp (ρ p.1)) = _
  have := (hat p hp1).1
  rw [if_neg (by omega)]
theorem heapK_mv {f : FuncId} {args args' : Array Value} {m : List (Nat × Blk)} {B : Nat} {v : Value} {hp : Hp} {nk : Nat} {K : Eff → Prop} (h : Fun P G f args (hpL G m) (keys m) (.ret v [])) (hGF : GFlat G) (hm : LOk m B) (ρ : Nat → Nat) (hlow : ∀ k, k < 100 → ρ k = k) (ea : args.map (ren ρ) = args') (hv : flatV v = true)
    (hat : ∀ p ∈ m, 100 ≤ ρ p.1 ∧ hp (ρ p.1) = some (p.2.rn ρ)) (hinj : ∀ k ∈ keys m, ∀ l ∈ keys m, ρ k = ρ l → k = l) {rs : List Nat} (er : (keys m).map ρ = rs) (hK : K ((Res.ret v []).eff rs)) : heapK P G f args' hp nk K :=
  heapK_mvG h hGF hm ρ hlow ea hat hinj (by rw [flatV_ren hv, er]; exact hK)
theorem iterk_mv {f : FuncId} {caps caps' : Array Value} {m : List (Nat × Blk)} {B : Nat} {xs : List (Array Value)} {hp : Hp} {rs : List Nat} (h : IterK P G f caps (hpL G m) (keys m) xs) (hGF : GFlat G) (hm : LOk m B) (ρ : Nat → Nat) (hlow : ∀ k, k < 100 → ρ k = k) (ea : caps.map (ren0 ρ) = caps') (er : (keys m).map ρ = rs)
    (hp0 : ∀ k, k < 100 → hp k = G k) (hat : ∀ p ∈ m, 100 ≤ ρ p.1 ∧ hp (ρ p.1) = some (p.2.rn ρ)) (hinj : ∀ k ∈ keys m, ∀ l ∈ keys m, ρ k = ρ l → k = l) : IterK P G f caps' hp rs xs := by
  subst ea er
  exact h.rn ρ hGF hm.low (rn_ofL hm ρ hlow hp0 hat hinj)
end
section
variable {P : Program} {C : Ctx} {n : Nat} {d : List Deferred} {s : GS} {K : Exit → GS → Prop} {G : Hp}
theorem renA_id (v : Value) : renA (fun k => k) v = v := by
  cases v with
  | agg cs => simp only [renA]; rw [Array.map_congr_left (fun x _ => renF_id x)]; simp
  | _ => unfold renA; exact renF_id _
theorem ren_id (v : Value) : ren (fun k => k) v = v := by
  cases v with
  | tuple cs => simp only [ren]; rw [Array.map_congr_left (fun x _ => renA_id x)]; simp
  | _ => unfold ren; exact renA_id _
theorem Blk.rn_id (b : Blk) : b.rn (fun k => k) = b := by
  obtain ⟨c, T⟩ := b
  cases T with
  | ty t => simp only [Blk.rn]; rw [Array.map_congr_left (fun x _ => renF_id x)]; simp
  | raw t fr => rfl
theorem tsL_app {l l2 : List (Nat × Value)} {u : Nat} : tsL (l ++ l2) u = tsL l u ∨ (u, tsL (l ++ l2) u) ∈ l2 := by
  induction l with
  | nil =>
    rcases tsL_mem (l := l2) (t := u) with h | h
    · exact .inl h
    · exact .inr h
  | cons p l ih =>
    obtain ⟨k, v⟩ := p
    rw [List.cons_append, tsL_cons, tsL_cons]
    by_cases h : u = k
    · left; rw [if_pos h, if_pos h]
    · rw [if_neg h, if_neg h]; exact ih
/-- A range over an iterator that leaves its blocks; each round's blocks stand in a list. -/
theorem GW_rangeKL {t : Tmp} {ps : Array Tmp} {assign body : Code} {f : FuncId} {caps : Array Value} {rs : List Nat} {xs : List (Array Value)} {m0 : List (Nat × Blk)} (as : List Nat) (hGF : GFlat G) (hG : C.G = G) (h0 : C.hp0 = hpL G m0) (hY : C.Y = none) (hg : s.ts t = .func (.func f) #[] caps) (hit : IterK P G f caps s.hp rs xs)
    (hxs : ∀ x ∈ xs, x.size = ps.size ∧ ∀ v ∈ x, flatV v = true) (hps : ∀ p ∈ ps, p < n) (l l2 : List (Nat × Value)) (m : Nat → List (Nat × Blk)) (B : Nat) (N : Nat) (hN : N ≤ xs.length) (hB : 100 ≤ B)
    (hras : ∀ k ∈ rs, k ∈ as) (has : ∀ k ∈ as, 100 ≤ k ∧ dom s.hp k ∧ k < B) (hcl : ∀ k ∈ as, ∀ b, s.hp k = some b → b.ids fun q => q ∈ as)
    (hl : ∀ p ∈ l, s.ts p.1 = p.2) (hl2 : ∀ p ∈ l2, s.ts p.1 = p.2 ∧ idsV (fun q => q ∈ as) p.2)
    (hm0 : ∀ p ∈ m 0, s.hp p.1 = some p.2) (hm : ∀ i, i ≤ N → (∀ p ∈ l, idsV (dom (hpL G (m i))) p.2) ∧ ∀ p ∈ m i, 100 ≤ p.1 ∧ p.1 < B ∧ p.1 ∉ as ∧ p.2.ids (dom (hpL G (m i))))
    (hk : ∀ p ∈ m0, p.1 ∈ as ∨ (100 ≤ p.1 ∧ hpL G (m 0) p.1 = s.hp p.1 ∧ ∀ i, i ≤ N → dom (hpL G (m i)) p.1))
    (rounds : ∀ i x, i < N → xs[i]? = some x → ∀ (C1 : Ctx) (j : Nat), C1.G = G → C1.hp0 = hpL G (m i) → C1.Y = none → GW P C1 n [] (some j) assign ⟨roundTs ps.toList x.toList (tsL l), hpL G (m i), B, 0⟩
      (thenG (fun s1 => ∀ C2 : Ctx, C2.G = G → C2.hp0 = hpL G (m i) → C2.Y = none → GW P C2 n [] (some j) body s1 (thenG (fun s2 => ∀ p ∈ m (i + 1), s2.hp p.1 = some p.2) (fun _ _ => False))) (fun _ _ => False)))
    (fin : (N = xs.length ∧ K .normal ⟨tsL (l ++ l2), addB as s.hp (hpL G (m N)), B, s.yc⟩) ∨ ∃ x, xs[N]? = some x ∧ ∀ (C1 : Ctx) (j : Nat), C1.G = G → C1.hp0 = hpL G (m N) → C1.Y = none → GW P C1 n [] (some j) assign ⟨roundTs ps.toList x.toList (tsL l), hpL G (m N), B, 0⟩
        (thenG (fun s1 => ∀ C2 : Ctx, C2.G = G → C2.hp0 = hpL G (m N) → C2.Y = none → GW P C2 n [] (some j) body s1 (fun e s2 => (outCode e).isSome = true ∧ (∀ p ∈ l, idsV (dom s2.hp) p.2) ∧ (∀ k ∈ as, s2.hp k = none ∧ k < s2.B) ∧ K e ⟨tsL (l ++ l2), addB as s.hp s2.hp, s2.B, s.yc⟩)) (fun _ _ => False))) :
    GW P C n d none (.rangeFunc (.tmp t) ps assign body) s K := by
  have asn : ∀ i, i ≤ N → ∀ k ∈ as, hpL G (m i) k = none := fun i hi k hk1 => by
    cases hb : hpL G (m i) k with
    | none => rfl
    | some b =>
      rcases hpL_mem hb with h | h
      · exact absurd hk1 ((hm i hi).2 _ h).2.2.1
      · have := (hGF k b h).1; have := (has k hk1).1; omega
  have keepW : ∀ i, i ≤ N → ∀ C0 : Ctx, C0.G = C.G → (C0.hp0 = fun k => if k ∈ as then none else C.hp0 k) → ∀ s2 : GS, s2.yc = s.yc → (∀ p ∈ m i, s2.hp p.1 = some p.2) → s2.ts = tsL l → WeakR C0 (fun k => k) s2 ⟨tsL l, hpL G (m i), B, s.yc⟩ := fun i hi C0 c1 c2 s2 hyc hs ht => by
    refine ⟨fun u => ?_, fun k b hb h1 => ⟨?_, h1⟩, fun k b hb => ?_, fun k q _ _ e => e, fun _ _ => rfl, fun k b _ _ => Blk.rn_id b, fun k h1 hd => ⟨?_, rfl⟩, fun k h1 => ?_, hyc.symm, fun x hx => ?_, hB⟩
    · rcases tsL_mem (l := l) (t := u) with h | h
      · exact .inl h
      · by_cases hj : tsL l u = junk
        · exact .inl hj
        · exact .inr ⟨by rw [ht, ren_id], by rw [ht]; exact hj, (hm i hi).1 _ h⟩
    · rw [Blk.rn_id]
      rcases hpL_mem hb with h | h
      · exact hs _ h
      · have := (hGF k b h).1; omega
    · rcases hpL_mem hb with h | h
      · exact ((hm i hi).2 _ h).2.2.2
      · exact Blk.flat_ids (hGF k b h).2
    · have hna : k ∉ as := fun hm1 => by
        have h2 : C0.hp0 k ≠ none := hd
        rw [c2] at h2; exact h2 (if_pos hm1)
      have h2 : C0.hp0 k ≠ none := hd
      rw [c2] at h2
      simp only [if_neg hna] at h2
      rw [h0] at h2
      cases hb : hpL G m0 k with
      | none => exact absurd hb h2
      | some b =>
        rcases hpL_mem hb with h | h
        · rcases hk _ h with h3 | h3
          · exact absurd h3 hna
          · exact h3.2.2 i hi
        · have := (hGF k b h).1; omega
    · rw [c1, hG]; exact hpL_low (fun p hp => ((hm i hi).2 p hp).1) h1
    · dsimp only at hx ⊢
      cases hb : hpL G (m i) x with
      | none => rfl
      | some b =>
        rcases hpL_mem hb with h | h
        · have := ((hm i hi).2 _ h).2.1; simp at this; omega
        · have := (hGF x b h).1; omega
  refine GW_rangeK (rs := rs) (xs := xs) as hY hg (hG.symm ▸ hit) hxs hps (tsL l) (tsL (l ++ l2)) (fun i h => h = hpL G (m i)) (hpS := hpL G (m 0)) B N hN hras (fun k hk1 => ⟨(has k hk1).1, (has k hk1).2.1⟩) hcl (fun C0 c1 c2 => ?_) rfl (asn 0 (Nat.zero_le _)) (fun u => ?_) (fun i x hq hi hx hI C1 j c1 c2 c3 => ?_) ?_
  · refine ⟨fun u => ?_, fun k h1 => ?_, (keepW 0 (Nat.zero_le _) C0 c1 c2 ⟨tsL l, s.hp, s.B, s.yc⟩ rfl hm0 rfl).ids, fun k h1 hd => ?_, (keepW 0 (Nat.zero_le _) C0 c1 c2 ⟨tsL l, s.hp, s.B, s.yc⟩ rfl hm0 rfl).glob, rfl, (keepW 0 (Nat.zero_le _) C0 c1 c2 ⟨tsL l, s.hp, s.B, s.yc⟩ rfl hm0 rfl).free, hB⟩
    · rcases tsL_mem (l := l) (t := u) with h | h
      · exact .inl h
      · exact .inr ⟨(hl _ h).symm, (hm 0 (Nat.zero_le _)).1 _ h⟩
    · dsimp only
      cases hb : hpL G (m 0) k with
      | none => exact .inl rfl
      | some b =>
        rcases hpL_mem hb with h | h
        · exact .inr (hm0 _ h).symm
        · have := (hGF k b h).1; omega
    · have h2 : C0.hp0 k ≠ none := hd
      rw [c2] at h2
      have hna : k ∉ as := fun hm1 => h2 (if_pos hm1)
      simp only [if_neg hna] at h2
      rw [h0] at h2
      cases hb : hpL G m0 k with
      | none => exact absurd hb h2
      | some b =>
        rcases hpL_mem hb with h | h
        · rcases hk _ h with h3 | h3
          · exact absurd h3 hna
          · exact h3.2.1
        · have := (hGF k b h).1; omega
  · rcases tsL_app (l := l) (l2 := l2) (u := u) with h | h
    · exact .inl h
    · exact .inr ⟨(hl2 _ h).1.symm, by rw [(hl2 _ h).1]; exact (hl2 _ h).2⟩
  · subst hI
    refine GW_mono (rounds i x hi hx C1 j (c1.trans hG) c2 c3) fun e s1 hs => ?_
    cases e with
    | normal =>
      intro C2 q1 q2 q3
      refine GW_mono (hs C2 (q1.trans hG) q2 q3) fun e s2 hs2 => ?_
      cases e with
      | normal => exact ⟨fun k => k, _, fun C0 z1 z2 => keepW (i + 1) hi C0 z1 z2 _ rfl hs2 rfl, rfl⟩
      | _ => exact hs2.elim
    | _ => exact hs.elim
  · rcases fin with ⟨f1, f2⟩ | ⟨x, f1, f2⟩
    · exact .inl ⟨f1, fun hq hI => by subst hI; exact ⟨fun k hk1 => ⟨asn N (Nat.le_refl _) k hk1, (has k hk1).2.2⟩, f2⟩⟩
    · refine .inr ⟨x, f1, fun hq hI C1 j c1 c2 c3 => ?_⟩
      subst hI
      refine GW_mono (f2 C1 j (c1.trans hG) c2 c3) fun e s1 hs => ?_
      cases e with
      | normal =>
        intro C2 q1 q2 q3
        refine GW_mono (hs C2 (q1.trans hG) q2 q3) fun e s2 hs2 => ⟨hs2.1, fun u => ?_, hs2.2.2.1, hs2.2.2.2⟩
        rcases tsL_mem (l := l) (t := u) with h | h
        · rw [h]; simp [junk, idsV, idsA, idsF, ids0]
        · exact hs2.2.1 _ h
      | _ => exact hs.elim
end
end Go.Gy
namespace Go.Gy
set_option linter.unusedSimpArgs false
set_option linter.unusedVariables false
open Go Go.RowKit
section
variable {P : Program} {G : Hp} {V : XV} {yc nk : Nat} {ts : Nat → Value} {hp : Hp} {C : Eff → Prop} {dst : Option Tmp} {type : TypeId} {pos : String} {after : Array Edge} {guard : Option (Nat × Bool)}
def bsZ (e len m nk : Nat) (ps : List (Nat × Value)) (z : Option Value) (C : Eff → Prop) : Prop :=
  match z with
  | some z => okCells z = true ∧ flatV z = true ∧ 0 < len * m ∧ len * m ≤ 16777216 ∧ bsX (fillG (.inr m) ((Array.range (len * m)).map (z.cells[· % z.cells.size]!)) ps) e len nk C
  | none => False
def bsM (P : Program) (e len nk : Nat) (ps : List (Nat × Value)) (m : Option Nat) (C : Eff → Prop) : Prop :=
  match m with
  | some m => bsZ e len m nk ps (tyZero P e) C
  | none => False
def bsU (P : Program) (len nk : Nat) (ps : List (Nat × Value)) (u : Option TypeDesc) (C : Eff → Prop) : Prop :=
  match u with
  | some (.slice e) => bsM P e len nk ps (tySize P e) C
  | _ => False
@[simp ↓] theorem opX_buildSlice (T : TypeId) (len : Nat) (parts : Array (Nat × Operand)) : opX P G V yc ⟨dst, .buildSlice T len parts, type, pos, after, guard⟩ ts hp nk C =
    ((∀ p ∈ parts.toList, okX ts hp p.2 ∧ okCells (gev ts p.2) = true) ∧ bsU P len nk (partsG ts parts) (P.underlying T) C) := by
  unfold opX bsU
  simp only
  cases hu : P.underlying T with
  | none => rfl
  | some u =>
    cases u with
    | slice e =>
      simp only [bsM]
      cases hm : tySize P e with
      | none => rfl
      | some m =>
        simp only [bsZ]
        cases hz : tyZero P e with
        | none => rfl
        | some z =>
          simp only
          cases hf : fillG (.inr m) ((Array.range (len * m)).map (z.cells[· % z.cells.size]!)) (partsG ts parts) <;> rfl
    | _ => rfl
end
end Go.Gy
namespace Go.Gy
set_option linter.unusedSimpArgs false
set_option linter.unusedVariables false
open Go Go.RowKit Go.Proofs
/-- A point's coordinates. -/
def vf (x0 x1 x2 : Int) : Nat → Int
  | 0 => x0
  | 1 => x1
  | _ => x2
def vf2 (x0 x1 x2 y0 y1 y2 : Int) : Nat → Int
  | 0 => x0
  | 1 => x1
  | 2 => x2
  | 3 => y0
  | 4 => y1
  | _ => y2
/-- What parts goes over. -/
def xsV (N : Nat) (f : Nat → Int) : List (Array Value) := (List.range N).map fun j => #[.int .i64 ((j % 3 : Nat) : Int), .int .i64 (f j)]
theorem xsV_at (N : Nat) (f : Nat → Int) (i : Nat) (h : i < N) : (xsV N f)[i]? = some #[.int .i64 ((i % 3 : Nat) : Int), .int .i64 (f i)] := by simp [xsV, h]
theorem vparts_new (b k m c : Nat) (cs : Array Value) (hcs : ∀ x ∈ cs, flatF x = true) (hb : 100 ≤ b) (hb2 : b < 100000) (hk : 100 ≤ k) (hbk : b ≠ k) : Fun Tryd.prog G0 84 #[.slice (some ⟨b, 0, none⟩) m c] (hpL G0 [(b, ⟨cs, .ty 26⟩)]) [b] (.new (.func (.func 113) #[] #[.pointer (some ⟨k, 0, none⟩)]) [(k, ⟨#[.slice (some ⟨b, 0, none⟩) m c], .ty 35⟩)]) := by
  have e0 : rst (hpL G0 [(b, ⟨cs, .ty 26⟩)]) [b] = hpL G0 [(b, ⟨cs, .ty 26⟩)] := hpL_rst G0F (by simp)
  have hdom : ∀ j, dom (hpL G0 [(b, ⟨cs, .ty 26⟩)]) j → j = b ∨ j < 100 := fun j hj => by
    unfold dom at hj
    cases hq : hpL G0 [(b, ⟨cs, .ty 26⟩)] j with
    | none => exact absurd hq hj
    | some q =>
      rcases hpL_mem hq with h | h
      · simp at h; exact .inl h.1
      · exact .inr (G0F j q h).1
  have hdb : dom (hpL G0 [(b, ⟨cs, .ty 26⟩)]) b := by unfold dom; simp
  refine new_of (B := 100000) (fun j => if j = k then 100000 else j) G0F (fun j hj => hpL_low (by simp; omega) hj) Tryd.func84 rfl Tryd.call84 ?_ ?_ ?_ (by simp [Tryd.ntmps84]) (by omega) ?_ (fun j hj => ?_) ?_ ?_ ?_ ?_
  · rw [e0]; simp [idsV, idsA, idsF, ids0]; exact hdb
  · rw [e0]
    intro j q hq
    rcases hpL_mem hq with h | h
    · simp at h; rw [h.2]; exact Blk.flat_ids hcs
    · exact G0_closed _ _ _ h
  · refine ⟨by simp [idsV, idsA, idsF, ids0, extD, keys], by simp [keys]; omega, fun q b c h1 h2 => ?_⟩
    simp at h1 h2
    rw [h1.2, h2.2]
  · rw [e0]
    intro x hx
    simp [show ¬ x = b by omega, show 100 ≤ x by omega]
  · rw [e0] at hj
    rcases hdom j hj with h | h
    · rw [if_neg (by omega)]
    · rw [if_neg (by omega)]
  · rw [e0]
    intro p hp
    simp at hp
    subst hp
    refine ⟨fun h => ?_, by simp⟩
    rcases hdom _ h with h | h <;> simp at h <;> omega
  · simp
  · rw [e0]; simp [idsF, ids0]; exact hdb
  · intro C hC hC0 hY
    rw [e0]
    have hbB : ¬ b = 100000 := by omega
    have hBb : ¬ 100000 = b := by omega
    repeat' (first | refine GW_seq ?_ | simp only [List.length_cons, List.length_nil, Nat.reduceAdd, Nat.reduceMul, wN] | ((first | refine GW_region' [] (by kernel_rfl) ?_ | refine GW_draw' [] follows (by kernel_rfl) (by kernel_rfl) ?_); intro Q hQ hP; simp [hC, hY, hbB, hBb, hbk]; (first | refine hQ _ _ _ _ ?_ | refine hQ _ _ _ _ (by kernel_rfl) ?_ | refine hP _ _ (fun _ => ?_) | refine hP _ _ (by kernel_rfl) (fun _ => ?_)); clear hQ hP Q) | refine GW_block ?_ | refine GW_ret ?_ | refine GW_skip ?_ | refine GW_exit ?_ | refine GW_goto ?_ | refine GW_label ?_ | simp only [blockG_exit] | (refine GW_cond (by simp; rfl) ?_ ?_ <;> (intro hb; first | (exfalso; exact absurd hb (by decide)) | skip)))
    refine ⟨.inr trivial, ?_⟩
    simp [Tryd.results84, ren, renA, renF, ren0]
    intro j hj
    rcases hdom j hj with h | h
    · have : ¬ j = 100000 := by omega
      simp [this]
    · have : ¬ j = 100000 := by omega
      simp [this]
def pvL1 (x0 x1 x2 : Int) : List (Nat × Blk) := [(100, ⟨#[.slice (some ⟨108, 0, none⟩) 1 1], .ty 35⟩), (108, ⟨#[.int .i64 x0, .int .i64 x1, .int .i64 x2], .ty 26⟩)]
abbrev pv1 (x0 x1 x2 : Int) : Hp := hpL G0 (pvL1 x0 x1 x2)
theorem vparts1_itk (x0 x1 x2 : Int) : IterK Tryd.prog G0 113 #[.pointer (some ⟨100, 0, none⟩)] (pv1 x0 x1 x2) [100, 108] (xsV 3 (vf x0 x1 x2)) := by
  have hL : LOk (pvL1 x0 x1 x2) 200 := ⟨by simp [pvL1], by simp [pvL1, keys], by simp [pvL1, ids_lit, idsF, ids0, keys]⟩
  have hlt : ∀ k, dom (hpL G0 (pvL1 x0 x1 x2)) k → k < 200 := fun k hk => Classical.byContradiction fun h1 => hk (hL.free G0F (by omega) k (by omega))
  refine iterk_ofL (m := pvL1 x0 x1 x2) (B := 200) (v := .tuple #[]) G0F Tryd.func113 rfl Tryd.call113 hL ?_ (by simp [Tryd.ntmps113]) (by omega) ?_
  · simp [idsV, idsA, idsF, ids0, pvL1, keys]
  · intro C l stop hC hC0 hY
    have exs : xsV 3 (vf x0 x1 x2) = [#[.int .i64 0, .int .i64 x0], #[.int .i64 1, .int .i64 x1], #[.int .i64 2, .int .i64 x2]] := rfl
    rw [exs] at hY ⊢
    by_cases h3 : 3 ≤ stop
    · have q0 : (0 != stop) = true := by simp; omega
      have q1 : (1 != stop) = true := by simp; omega
      have q2 : (2 != stop) = true := by simp; omega
      have l1 : 1 ≤ stop := by omega
      have l2 : 2 ≤ stop := by omega
      repeat' (first | refine GW_seq ?_ | refine GWL_start ?_ | refine GWL_step ?_ | simp only [List.length_cons, List.length_nil, Nat.reduceAdd, Nat.reduceMul, wN] | ((first | refine GW_region' [] (by kernel_rfl) ?_ | refine GW_draw' [] follows (by kernel_rfl) (by kernel_rfl) ?_); intro Q hQ hP; simp [hC, hY, pvL1, q0, q1, q2, l1, l2, h3]; (first | refine hQ _ _ _ _ ?_ | refine hQ _ _ _ _ (by kernel_rfl) ?_ | refine hP _ _ (fun _ => ?_) | refine hP _ _ (by kernel_rfl) (fun _ => ?_)); clear hQ hP Q) | refine GW_block ?_ | refine GW_ret ?_ | refine GW_skip ?_ | refine GW_exit ?_ | refine GW_goto ?_ | refine GW_label ?_ | simp only [blockG_exit] | (refine GW_cond (by simp; rfl) ?_ ?_ <;> (intro hb; first | (exfalso; exact absurd hb (by decide)) | skip)))
      refine ⟨by simp, by simp [Tryd.results113], by first | (simp; omega) | omega, fun k hk => ?_⟩
      have hk := hlt k hk
      simp (disch := omega) only [upd_other]
      rfl
    · have : stop = 0 ∨ stop = 1 ∨ stop = 2 := by omega
      rcases this with rfl | rfl | rfl
      all_goals
        repeat' (first | refine GW_seq ?_ | refine GWL_start ?_ | refine GWL_step ?_ | simp only [List.length_cons, List.length_nil, Nat.reduceAdd, Nat.reduceMul, wN] | ((first | refine GW_region' [] (by kernel_rfl) ?_ | refine GW_draw' [] follows (by kernel_rfl) (by kernel_rfl) ?_); intro Q hQ hP; simp [hC, hY, pvL1]; (first | refine hQ _ _ _ _ ?_ | refine hQ _ _ _ _ (by kernel_rfl) ?_ | refine hP _ _ (fun _ => ?_) | refine hP _ _ (by kernel_rfl) (fun _ => ?_)); clear hQ hP Q) | refine GW_block ?_ | refine GW_ret ?_ | refine GW_skip ?_ | refine GW_exit ?_ | refine GW_goto ?_ | refine GW_label ?_ | simp only [blockG_exit] | (refine GW_cond (by simp; rfl) ?_ ?_ <;> (intro hb; first | (exfalso; exact absurd hb (by decide)) | skip)))
      all_goals
        refine ⟨by simp, by simp [Tryd.results113], by simp, fun k hk => ?_⟩
        have hk := hlt k hk
        simp (disch := omega) only [upd_other]
        rfl
theorem vparts1_it (x0 x1 x2 : Int) : IterG Tryd.prog G0 113 #[.pointer (some ⟨100, 0, none⟩)] (pv1 x0 x1 x2) [100, 108] (xsV 3 (vf x0 x1 x2)) := (vparts1_itk x0 x1 x2).g
def pvL2 (x0 x1 x2 y0 y1 y2 : Int) : List (Nat × Blk) := [(100, ⟨#[.slice (some ⟨108, 0, none⟩) 2 2], .ty 35⟩), (108, ⟨#[.int .i64 x0, .int .i64 x1, .int .i64 x2, .int .i64 y0, .int .i64 y1, .int .i64 y2], .ty 26⟩)]
abbrev pv2 (x0 x1 x2 y0 y1 y2 : Int) : Hp := hpL G0 (pvL2 x0 x1 x2 y0 y1 y2)
set_option maxRecDepth 20000 in
set_option maxHeartbeats 4000000 in
theorem vparts2_itk (x0 x1 x2 y0 y1 y2 : Int) : IterK Tryd.prog G0 113 #[.pointer (some ⟨100, 0, none⟩)] (pv2 x0 x1 x2 y0 y1 y2) [100, 108] (xsV 6 (vf2 x0 x1 x2 y0 y1 y2)) := by
  have hL : LOk (pvL2 x0 x1 x2 y0 y1 y2) 200 := ⟨by simp [pvL2], by simp [pvL2, keys], by simp [pvL2, ids_lit, idsF, ids0, keys]⟩
  have hlt : ∀ k, dom (hpL G0 (pvL2 x0 x1 x2 y0 y1 y2)) k → k < 200 := fun k hk => Classical.byContradiction fun h1 => hk (hL.free G0F (by omega) k (by omega))
  refine iterk_ofL (m := pvL2 x0 x1 x2 y0 y1 y2) (B := 200) (v := .tuple #[]) G0F Tryd.func113 rfl Tryd.call113 hL ?_ (by simp [Tryd.ntmps113]) (by omega) ?_
  · simp [idsV, idsA, idsF, ids0, pvL2, keys]
  · intro C l stop hC hC0 hY
    have exs : xsV 6 (vf2 x0 x1 x2 y0 y1 y2) = [#[.int .i64 0, .int .i64 x0], #[.int .i64 1, .int .i64 x1], #[.int .i64 2, .int .i64 x2], #[.int .i64 0, .int .i64 y0], #[.int .i64 1, .int .i64 y1], #[.int .i64 2, .int .i64 y2]] := rfl
    rw [exs] at hY ⊢
    by_cases h6 : 6 ≤ stop
    · have q0 : (0 != stop) = true := by simp; omega
      have q1 : (1 != stop) = true := by simp; omega
      have q2 : (2 != stop) = true := by simp; omega
      have q3 : (3 != stop) = true := by simp; omega
      have q4 : (4 != stop) = true := by simp; omega
      have q5 : (5 != stop) = true := by simp; omega
      have l1 : 1 ≤ stop := by omega
      have l2 : 2 ≤ stop := by omega
      have l3 : 3 ≤ stop := by omega
      have l4 : 4 ≤ stop := by omega
      have l5 : 5 ≤ stop := by omega
      repeat' (first | refine GW_seq ?_ | refine GWL_start ?_ | refine GWL_step ?_ | simp only [List.length_cons, List.length_nil, Nat.reduceAdd, Nat.reduceMul, wN] | ((first | refine GW_region' [] (by kernel_rfl) ?_ | refine GW_draw' [] follows (by kernel_rfl) (by kernel_rfl) ?_); intro Q hQ hP; simp [hC, hY, pvL2, q0, q1, q2, q3, q4, q5, l1, l2, l3, l4, l5, h6]; (first | refine hQ _ _ _ _ ?_ | refine hQ _ _ _ _ (by kernel_rfl) ?_ | refine hP _ _ (fun _ => ?_) | refine hP _ _ (by kernel_rfl) (fun _ => ?_)); clear hQ hP Q) | refine GW_block ?_ | refine GW_ret ?_ | refine GW_skip ?_ | refine GW_exit ?_ | refine GW_goto ?_ | refine GW_label ?_ | simp only [blockG_exit] | (refine GW_cond (by simp; rfl) ?_ ?_ <;> (intro hb; first | (exfalso; exact absurd hb (by decide)) | skip)))
      refine ⟨by simp, by simp [Tryd.results113], by first | (simp; omega) | omega, fun k hk => ?_⟩
      have hk := hlt k hk
      simp (disch := omega) only [upd_other]
      rfl
    · have : stop = 0 ∨ stop = 1 ∨ stop = 2 ∨ stop = 3 ∨ stop = 4 ∨ stop = 5 := by omega
      rcases this with rfl | rfl | rfl | rfl | rfl | rfl
      all_goals
        repeat' (first | refine GW_seq ?_ | refine GWL_start ?_ | refine GWL_step ?_ | simp only [List.length_cons, List.length_nil, Nat.reduceAdd, Nat.reduceMul, wN] | ((first | refine GW_region' [] (by kernel_rfl) ?_ | refine GW_draw' [] follows (by kernel_rfl) (by kernel_rfl) ?_); intro Q hQ hP; simp [hC, hY, pvL2]; (first | refine hQ _ _ _ _ ?_ | refine hQ _ _ _ _ (by kernel_rfl) ?_ | refine hP _ _ (fun _ => ?_) | refine hP _ _ (by kernel_rfl) (fun _ => ?_)); clear hQ hP Q) | refine GW_block ?_ | refine GW_ret ?_ | refine GW_skip ?_ | refine GW_exit ?_ | refine GW_goto ?_ | refine GW_label ?_ | simp only [blockG_exit] | (refine GW_cond (by simp; rfl) ?_ ?_ <;> (intro hb; first | (exfalso; exact absurd hb (by decide)) | skip)))
      all_goals
        refine ⟨by simp, by simp [Tryd.results113], by simp, fun k hk => ?_⟩
        have hk := hlt k hk
        simp (disch := omega) only [upd_other]
        rfl
end Go.Gy
namespace Go.Gy
set_option linter.unusedSimpArgs false
set_option linter.unusedVariables false
open Go Go.RowKit Go.Proofs
end Go.Gy
namespace Go.Gy
set_option linter.unusedSimpArgs false
set_option linter.unusedVariables false
open Go Go.RowKit Go.Proofs
end Go.Gy
namespace Go.Gy
set_option linter.unusedSimpArgs false
set_option linter.unusedVariables false
open Go Go.RowKit Go.Proofs
def hp1 (a : Int) : Hp := hpL G0 [(200, wb a)]
end Go.Gy
namespace Go.Gy
set_option linter.unusedSimpArgs false
set_option linter.unusedVariables false
open Go Go.RowKit Go.Proofs
end Go.Gy
namespace Go.Gy
set_option linter.unusedSimpArgs false
set_option linter.unusedVariables false
open Go Go.RowKit Go.Proofs
end Go.Gy
namespace Go.Gy
set_option linter.unusedSimpArgs false
set_option linter.unusedVariables false
/-- The nearest to a / b. -/
def nearQ (a b : Int) : Int := if b < 2 * (a % b) ∨ (2 * (a % b) = b ∧ 0 ≤ a / b) then a / b + 1 else a / b
theorem nearQ_pos {a b : Int} (hb : 0 < b) (h : 0 ≤ a) : nearQ a b = (2 * a + b) / (2 * b) := by
  have h1 := Int.mul_ediv_add_emod a b
  have h2 := Int.emod_nonneg a (show b ≠ 0 by omega)
  have h3 := Int.emod_lt_of_pos a hb
  have h4 := Int.ediv_nonneg h (Int.le_of_lt hb)
  unfold nearQ
  generalize a % b = r at *
  generalize a / b = q at *
  subst h1
  have e : 2 * (b * q + r) + b = 2 * b * q + (2 * r + b) := by rw [Int.mul_add, ← Int.mul_assoc]; omega
  rw [e, Int.mul_add_ediv_left _ _ (by omega)]
  split
  · rename_i hc
    rw [show (2 * r + b) / (2 * b) = 1 from by
      rw [show 2 * r + b = 2 * b * 1 + (2 * r - b) by omega, Int.mul_add_ediv_left _ _ (by omega), Int.ediv_eq_zero_of_lt (by omega) (by omega)]; rfl]
  · rename_i hc
    rw [Int.ediv_eq_zero_of_lt (by omega) (by omega)]; omega
theorem nearQ_neg' {a b : Int} (hb : 0 < b) (h : a < 0) : nearQ a b = -((2 * -a + b) / (2 * b)) := by
  have h1 := Int.mul_ediv_add_emod a b
  have h2 := Int.emod_nonneg a (show b ≠ 0 by omega)
  have h3 := Int.emod_lt_of_pos a hb
  have h4 : a / b < 0 := Int.ediv_neg_of_neg_of_pos h hb
  unfold nearQ
  generalize a % b = r at *
  generalize a / b = q at *
  subst h1
  have e : 2 * -(b * q + r) + b = 2 * b * (-q) + (b - 2 * r) := by rw [Int.mul_neg (2 * b) q, Int.mul_assoc]; omega
  rw [e, Int.mul_add_ediv_left _ _ (by omega)]
  split
  · rename_i hc
    rw [show (b - 2 * r) / (2 * b) = -1 from by
      rw [show b - 2 * r = 2 * b * (-1) + (3 * b - 2 * r) by omega, Int.mul_add_ediv_left _ _ (by omega), Int.ediv_eq_zero_of_lt (by omega) (by omega)]; rfl]
    omega
  · rename_i hc
    rw [Int.ediv_eq_zero_of_lt (by omega) (by omega)]; omega
theorem nearQ_neg {a b : Int} (hb : 0 < b) : nearQ (-a) b = -nearQ a b := by
  by_cases h0 : a = 0
  · subst h0
    simp [nearQ]; omega
  · by_cases h : a < 0
    · rw [nearQ_neg' hb h, nearQ_pos hb (show 0 ≤ -a by omega)]; omega
    · rw [nearQ_pos hb (show 0 ≤ a by omega), nearQ_neg' hb (show -a < 0 by omega), Int.neg_neg]
/-- How far it is. -/
theorem nearQ_rest {a b : Int} (hb : 0 < b) : -b ≤ 2 * (a - nearQ a b * b) ∧ 2 * (a - nearQ a b * b) ≤ b ∧ (2 * (a - nearQ a b * b) = b → nearQ a b ≤ 0) ∧ (2 * (a - nearQ a b * b) = -b → 0 ≤ nearQ a b) := by
  have h1 := Int.mul_ediv_add_emod a b
  have h2 := Int.emod_nonneg a (show b ≠ 0 by omega)
  have h3 := Int.emod_lt_of_pos a hb
  unfold nearQ
  generalize a % b = r at *
  generalize a / b = q at *
  subst h1
  split
  · rename_i hc
    have e : b * q + r - (q + 1) * b = r - b := by rw [Int.add_mul, Int.mul_comm q b]; omega
    rw [e]
    omega
  · rename_i hc
    have e : b * q + r - q * b = r := by rw [Int.mul_comm q b]; omega
    rw [e]
    omega
theorem nearQ_dbl {a b : Int} (hb : 0 < b) : nearQ (2 * a) (2 * b) = nearQ a b := by
  unfold nearQ
  rw [Int.mul_ediv_mul_of_pos _ _ (by decide), Int.mul_emod_mul_of_pos _ _ (by decide)]
  have e1 : (2 * b < 2 * (2 * (a % b)) ∨ 2 * (2 * (a % b)) = 2 * b ∧ 0 ≤ a / b) ↔ (b < 2 * (a % b) ∨ 2 * (a % b) = b ∧ 0 ≤ a / b) := by omega
  simp only [e1]
theorem nearQ_le {a b c : Int} (hc : 0 < c) (h : a ≤ b) : nearQ a c ≤ nearQ b c := by
  by_cases hab : a = b
  · subst hab; exact Int.le_refl _
  refine Classical.byContradiction fun hn => ?_
  obtain ⟨a1, _, _, _⟩ := nearQ_rest (a := a) hc
  obtain ⟨_, b2, _, _⟩ := nearQ_rest (a := b) hc
  generalize nearQ a c = x at *
  generalize nearQ b c = y at *
  have e : (y + 1) * c ≤ x * c := Int.mul_le_mul_of_nonneg_right (by omega) (by omega)
  rw [Int.add_mul, Int.one_mul] at e
  omega
theorem nearQ_self {v d : Int} (hd : 0 < d) : nearQ (v * d) d = v := by
  unfold nearQ
  rw [Int.mul_emod_left, Int.mul_ediv_cancel _ (by omega)]
  split <;> omega
theorem nearQ_bd {a b p : Int} (hb : 0 < b) (h0 : -p ≤ a) (h1 : a ≤ p) (hp : 0 ≤ p) : -p ≤ nearQ a b ∧ nearQ a b ≤ p := by
  have e1 := nearQ_le hb h1
  have e2 := nearQ_le hb h0
  have e3 : nearQ p b ≤ p := by
    refine Int.le_trans (nearQ_le hb (show p ≤ p * b from ?_)) (by rw [nearQ_self hb]; exact Int.le_refl _)
    calc p = p * 1 := (Int.mul_one p).symm
      _ ≤ p * b := Int.mul_le_mul_of_nonneg_left (by omega) hp
  have e4 := nearQ_neg (a := p) hb
  omega
end Go.Gy
namespace Go.Gy
set_option linter.unusedSimpArgs false
set_option linter.unusedVariables false
open Go Go.RowKit Go.Proofs
/-- Not great: within 2^120. -/
def sm (z : Int) : Prop := -1329227995784915872903807060280344576 ≤ z ∧ z ≤ 1329227995784915872903807060280344576
theorem sm.wr {z : Int} (h : sm z) : wr z := ⟨Int.le_trans (by decide) h.1, Int.lt_of_le_of_lt h.2 (by decide)⟩
theorem sm.lst {z : Int} (h : sm z) : z ≠ lst := fun e => by rw [e] at h; exact absurd h.1 (by decide)
theorem sm.sz {z : Int} (h : sm z) : sz z = z := wr_sz h.wr
theorem sm.up {z : Int} (h : sm z) : Gy.wr (z + 1) := ⟨Int.le_trans (by decide) (Int.le_trans h.1 (Int.le_add_one (Int.le_refl _))), Int.lt_of_le_of_lt (Int.add_le_add_right h.2 1) (by decide)⟩
theorem i64.sm {z : Int} (h : i64 z) : sm z := ⟨Int.le_trans (by decide) h.1, Int.le_trans (Int.le_of_lt h.2) (by decide)⟩
theorem cmpI_less {a b : Int} (h : a < b) : cmpI a b = -1 := by unfold cmpI; split <;> (try split) <;> omega
theorem cmpI_same (a : Int) : cmpI a a = 0 := by unfold cmpI; split <;> (try split) <;> omega
theorem cmpI_more {a b : Int} (h : b < a) : cmpI a b = 1 := by unfold cmpI; split <;> (try split) <;> omega
theorem up_t (q : Int) (h : sm q) : Ret Tryd.prog G0 99 #[wd q, .bool true] (wd (q + 1)) := by
  refine ret_of G0F Tryd.func99 rfl Tryd.call99 (by simp) (by simp) (by simp [Tryd.ntmps99]) ?_
  intro C hC hC0 hY
  have i1 := i64_1
  have n1 : ng 1 = false := ng_f (by unfold wr; omega) (by decide)
  by_cases h0 : q < 0
  · have n2 := ng_t h.wr h0
    repeat' (first | refine GW_seq ?_ | simp only [List.length_cons, List.length_nil, Nat.reduceAdd, Nat.reduceMul, wN] | ((first | refine GW_region' [] (by kernel_rfl) ?_ | refine GW_draw' [] follows (by kernel_rfl) (by kernel_rfl) ?_); intro Q hQ hP; simp [hC, hY, i1, n1, n2]; (first | refine hQ _ _ _ _ ?_ | refine hQ _ _ _ _ (by kernel_rfl) ?_ | refine hP _ _ (fun _ => ?_) | refine hP _ _ (by kernel_rfl) (fun _ => ?_)); clear hQ hP Q) | refine GW_block ?_ | refine GW_ret ?_ | refine GW_skip ?_ | refine GW_exit ?_ | refine GW_goto ?_ | refine GW_label ?_ | simp only [blockG_exit] | (refine GW_cond (by simp; rfl) ?_ ?_ <;> (intro hb; first | (exfalso; exact absurd hb (by decide)) | skip)))
    refine ⟨.inr trivial, ?_⟩
    simp [Tryd.results99]
  · have n2 := ng_f h.wr (by omega)
    have n3 := ng_f h.up (by omega)
    repeat' (first | refine GW_seq ?_ | simp only [List.length_cons, List.length_nil, Nat.reduceAdd, Nat.reduceMul, wN] | ((first | refine GW_region' [] (by kernel_rfl) ?_ | refine GW_draw' [] follows (by kernel_rfl) (by kernel_rfl) ?_); intro Q hQ hP; simp [hC, hY, i1, n1, n2, n3]; (first | refine hQ _ _ _ _ ?_ | refine hQ _ _ _ _ (by kernel_rfl) ?_ | refine hP _ _ (fun _ => ?_) | refine hP _ _ (by kernel_rfl) (fun _ => ?_)); clear hQ hP Q) | refine GW_block ?_ | refine GW_ret ?_ | refine GW_skip ?_ | refine GW_exit ?_ | refine GW_goto ?_ | refine GW_label ?_ | simp only [blockG_exit] | (refine GW_cond (by simp; rfl) ?_ ?_ <;> (intro hb; first | (exfalso; exact absurd hb (by decide)) | skip)))
    refine ⟨.inr trivial, ?_⟩
    simp [Tryd.results99]
theorem up_f (q : Int) : Ret Tryd.prog G0 99 #[wd q, .bool false] (wd q) := by
  refine ret_of G0F Tryd.func99 rfl Tryd.call99 (by simp) (by simp) (by simp [Tryd.ntmps99]) ?_
  intro C hC hC0 hY
  repeat' (first | refine GW_seq ?_ | simp only [List.length_cons, List.length_nil, Nat.reduceAdd, Nat.reduceMul, wN] | ((first | refine GW_region' [] (by kernel_rfl) ?_ | refine GW_draw' [] follows (by kernel_rfl) (by kernel_rfl) ?_); intro Q hQ hP; simp [hC, hY]; (first | refine hQ _ _ _ _ ?_ | refine hQ _ _ _ _ (by kernel_rfl) ?_ | refine hP _ _ (fun _ => ?_) | refine hP _ _ (by kernel_rfl) (fun _ => ?_)); clear hQ hP Q) | refine GW_block ?_ | refine GW_ret ?_ | refine GW_skip ?_ | refine GW_exit ?_ | refine GW_goto ?_ | refine GW_label ?_ | simp only [blockG_exit] | (refine GW_cond (by simp; rfl) ?_ ?_ <;> (intro hb; first | (exfalso; exact absurd hb (by decide)) | skip)))
  refine ⟨.inr trivial, ?_⟩
  simp [Tryd.results99]
@[simp] theorem qup_t (q : Int) (h : sm q) (K : Value → Prop) : callK Tryd.prog G0 99 #[Value.agg #[.int .u64 (wi (q) 0), .int .u64 (wi (q) 1), .int .u64 (wi (q) 2), .int .u64 (wi (q) 3)], .bool true] K ↔ K (wd (q + 1)) := callK_iff G0W (by kernel_rfl) (up_t q h)
@[simp] theorem qup_f (q : Int) (K : Value → Prop) : callK Tryd.prog G0 99 #[Value.agg #[.int .u64 (wi (q) 0), .int .u64 (wi (q) 1), .int .u64 (wi (q) 2), .int .u64 (wi (q) 3)], .bool false] K ↔ K (wd q) := callK_iff G0W (by kernel_rfl) (up_f q)
/-- A floor, and a rest, of numbers that are not great. -/
theorem sm_div {a b : Int} (ha : sm a) (hb : 0 < b) : sm (a / b) := by
  have h1 := Int.ediv_le_ediv hb ha.1
  have h2 := Int.ediv_le_ediv hb ha.2
  have h3 : (1329227995784915872903807060280344576 : Int) / b ≤ 1329227995784915872903807060280344576 := Int.ediv_le_self _ (by decide)
  have h4 : -1329227995784915872903807060280344576 ≤ (-1329227995784915872903807060280344576 : Int) / b := by
    rw [Int.le_ediv_iff_mul_le hb]
    have : (-1329227995784915872903807060280344576 : Int) * b ≤ -1329227995784915872903807060280344576 * 1 := Int.mul_le_mul_of_nonpos_left (by decide) hb
    omega
  exact ⟨Int.le_trans h4 h1, Int.le_trans h2 h3⟩
theorem near1_fun (a b : Int) (ha : sm a) (hB : sm b) (h0 : 0 < b) : Fun Tryd.prog G0 94 [.pointer (some ⟨200, 0, none⟩), .pointer (some ⟨208, 0, none⟩)].toArray (hp2 a b) [200, 208] (.ret (wd (nearQ a b)) []) := by
  refine fun_of (B := 300) G0F (fun k hk => hpL_low (by simp) hk) Tryd.func94 rfl Tryd.call94 ?_ ?_ ⟨flatV_ids (by simp), by simp [keys], by simp, by simp⟩ (by simp [Tryd.ntmps94]) (by omega) ?_ ?_
  · rw [hp2_rst]; simp [hp2, dom]
  · rw [hp2_rst]; exact hp2_closed a b _
  · rw [hp2_rst]; exact hp2_free a b
  · intro C hC hC0 hY
    rw [hp2_rst] at hC0 ⊢
    have haw := ha.wr
    have hal := ha.lst
    have hBw := hB.wr
    have hq := sm_div ha h0
    have r0 := Int.emod_nonneg a (show b ≠ 0 by omega)
    have r1 := Int.emod_lt_of_pos a h0
    have hr : sm (a % b) := ⟨Int.le_trans (by decide) r0, Int.le_trans (Int.le_of_lt r1) hB.2⟩
    have hbr : sm (b - a % b) := ⟨Int.le_trans (by decide) (show 0 ≤ b - a % b by omega), Int.le_trans (show b - a % b ≤ b by omega) hB.2⟩
    have s1 := hr.sz
    have s2 := hbr.sz
    have s3 : cmpI (sz b) 0 = 1 := by rw [hB.sz]; exact cmpI_more h0
    have s4 := hq.sz
    have n1 := ng_f hBw (by omega)
    have n2 := ng_f hr.wr r0
    have nq : nearQ a b = if b < 2 * (a % b) ∨ (2 * (a % b) = b ∧ 0 ≤ a / b) then a / b + 1 else a / b := rfl
    have hfl := qfloor a b haw hal hBw h0
    rw [nq]
    generalize a % b = r at *
    generalize a / b = q at *
    clear nq
    by_cases c1 : b < 2 * r
    · have hc : cmpI r (b - r) = 1 := cmpI_more (by omega)
      rw [if_pos (.inl c1)]
      repeat' (first | refine GW_seq ?_ | simp only [List.length_cons, List.length_nil, Nat.reduceAdd, Nat.reduceMul, wN] | ((first | refine GW_region' [] (by kernel_rfl) ?_ | refine GW_draw' [] follows (by kernel_rfl) (by kernel_rfl) ?_); intro Q hQ hP; simp [hC, hY, hp2, wb, hfl, hq, s1, s2, s3, n1, n2, hc]; (first | refine hQ _ _ _ _ ?_ | refine hQ _ _ _ _ (by kernel_rfl) ?_ | refine hP _ _ (fun _ => ?_) | refine hP _ _ (by kernel_rfl) (fun _ => ?_)); clear hQ hP Q) | refine GW_block ?_ | refine GW_ret ?_ | refine GW_skip ?_ | refine GW_exit ?_ | refine GW_goto ?_ | refine GW_label ?_ | simp only [blockG_exit] | (refine GW_cond (by simp; rfl) ?_ ?_ <;> (intro hb; first | (exfalso; exact absurd hb (by decide)) | skip)))
      refine ⟨.inr rfl, by simp [Tryd.results94], fun k hk => ?_⟩
      have hk3 : k < 300 := Classical.byContradiction fun h => hk (hp2_free a b k (by omega))
      simp (disch := omega) only [upd_far]
      rfl
    · by_cases c2 : 2 * r = b
      · have hc : cmpI r (b - r) = 0 := by rw [show b - r = r by omega]; exact cmpI_same r
        by_cases c3 : 0 ≤ q
        · have hs : 0 ≤ cmpI q 0 := by unfold cmpI; split <;> (try split) <;> omega
          rw [if_pos (.inr ⟨c2, c3⟩)]
          repeat' (first | refine GW_seq ?_ | simp only [List.length_cons, List.length_nil, Nat.reduceAdd, Nat.reduceMul, wN] | ((first | refine GW_region' [] (by kernel_rfl) ?_ | refine GW_draw' [] follows (by kernel_rfl) (by kernel_rfl) ?_); intro Q hQ hP; simp [hC, hY, hp2, wb, hfl, hq, s1, s2, s3, s4, n1, n2, hc, hs]; (first | refine hQ _ _ _ _ ?_ | refine hQ _ _ _ _ (by kernel_rfl) ?_ | refine hP _ _ (fun _ => ?_) | refine hP _ _ (by kernel_rfl) (fun _ => ?_)); clear hQ hP Q) | refine GW_block ?_ | refine GW_ret ?_ | refine GW_skip ?_ | refine GW_exit ?_ | refine GW_goto ?_ | refine GW_label ?_ | simp only [blockG_exit] | (refine GW_cond (by simp; rfl) ?_ ?_ <;> (intro hb; first | (exfalso; exact absurd hb (by decide)) | skip)))
          refine ⟨.inr rfl, by simp [Tryd.results94], fun k hk => ?_⟩
          have hk3 : k < 300 := Classical.byContradiction fun h => hk (hp2_free a b k (by omega))
          simp (disch := omega) only [upd_far]
          rfl
        · have hs : ¬ 0 ≤ cmpI q 0 := by unfold cmpI; split <;> (try split) <;> omega
          rw [if_neg (by omega)]
          repeat' (first | refine GW_seq ?_ | simp only [List.length_cons, List.length_nil, Nat.reduceAdd, Nat.reduceMul, wN] | ((first | refine GW_region' [] (by kernel_rfl) ?_ | refine GW_draw' [] follows (by kernel_rfl) (by kernel_rfl) ?_); intro Q hQ hP; simp [hC, hY, hp2, wb, hfl, hq, s1, s2, s3, s4, n1, n2, hc, hs]; (first | refine hQ _ _ _ _ ?_ | refine hQ _ _ _ _ (by kernel_rfl) ?_ | refine hP _ _ (fun _ => ?_) | refine hP _ _ (by kernel_rfl) (fun _ => ?_)); clear hQ hP Q) | refine GW_block ?_ | refine GW_ret ?_ | refine GW_skip ?_ | refine GW_exit ?_ | refine GW_goto ?_ | refine GW_label ?_ | simp only [blockG_exit] | (refine GW_cond (by simp; rfl) ?_ ?_ <;> (intro hb; first | (exfalso; exact absurd hb (by decide)) | skip)))
          refine ⟨.inr rfl, by simp [Tryd.results94], fun k hk => ?_⟩
          have hk3 : k < 300 := Classical.byContradiction fun h => hk (hp2_free a b k (by omega))
          simp (disch := omega) only [upd_far]
          rfl
      · have hc : cmpI r (b - r) = -1 := cmpI_less (by omega)
        rw [if_neg (by omega)]
        repeat' (first | refine GW_seq ?_ | simp only [List.length_cons, List.length_nil, Nat.reduceAdd, Nat.reduceMul, wN] | ((first | refine GW_region' [] (by kernel_rfl) ?_ | refine GW_draw' [] follows (by kernel_rfl) (by kernel_rfl) ?_); intro Q hQ hP; simp [hC, hY, hp2, wb, hfl, hq, s1, s2, s3, n1, n2, hc]; (first | refine hQ _ _ _ _ ?_ | refine hQ _ _ _ _ (by kernel_rfl) ?_ | refine hP _ _ (fun _ => ?_) | refine hP _ _ (by kernel_rfl) (fun _ => ?_)); clear hQ hP Q) | refine GW_block ?_ | refine GW_ret ?_ | refine GW_skip ?_ | refine GW_exit ?_ | refine GW_goto ?_ | refine GW_label ?_ | simp only [blockG_exit] | (refine GW_cond (by simp; rfl) ?_ ?_ <;> (intro hb; first | (exfalso; exact absurd hb (by decide)) | skip)))
        refine ⟨.inr rfl, by simp [Tryd.results94], fun k hk => ?_⟩
        have hk3 : k < 300 := Classical.byContradiction fun h => hk (hp2_free a b k (by omega))
        simp (disch := omega) only [upd_far]
        rfl
theorem qNear_ret (a b : Int) (ha : sm a) (hB : sm b) (h0 : 0 < b) : Ret Tryd.prog G0 70 #[wd a, wd b] (.tuple #[wd (nearQ a b), .int .i64 0]) := by
  refine ret_of G0F Tryd.func70 rfl Tryd.call70 (by simp) (by simp) (by simp [Tryd.ntmps70]) ?_
  intro C hC hC0 hY
  repeat' (first | refine GW_seq ?_ | simp only [List.length_cons, List.length_nil, Nat.reduceAdd, Nat.reduceMul, wN] | ((first | refine GW_region' [68] (by kernel_rfl) ?_ | refine GW_draw' [68] follows (by kernel_rfl) (by kernel_rfl) ?_); intro Q hQ hP; simp [hC, hY]; (repeat ((first | (refine heapK_of (hp' := hp2 a b) (qtold_ret (fun k hk => hpL_low (by simp) hk) (by simp) rfl (by simp) (near1_fun a b ha hB h0)) (by simp [hp2, wb]) (fun k hk => hpL_low (by simp) hk) trivial ?_)); try simp [hC, hY])); (first | refine hQ _ _ _ _ ?_ | refine hQ _ _ _ _ (by kernel_rfl) ?_ | refine hP _ _ (fun _ => ?_) | refine hP _ _ (by kernel_rfl) (fun _ => ?_)); clear hQ hP Q) | refine GW_block ?_ | refine GW_ret ?_ | refine GW_skip ?_ | refine GW_exit ?_ | refine GW_goto ?_ | refine GW_label ?_ | simp only [blockG_exit] | (refine GW_cond (by simp; rfl) ?_ ?_ <;> (intro hb; first | (exfalso; exact absurd hb (by decide)) | skip)))
  refine ⟨.inr trivial, ?_⟩
  simp [Tryd.results70]
@[simp] theorem qNear (a b : Int) (ha : sm a) (hB : sm b) (h0 : 0 < b) (K : Value → Prop) : callK Tryd.prog G0 70 #[Value.agg #[.int .u64 (wi (a) 0), .int .u64 (wi (a) 1), .int .u64 (wi (a) 2), .int .u64 (wi (a) 3)], Value.agg #[.int .u64 (wi (b) 0), .int .u64 (wi (b) 1), .int .u64 (wi (b) 2), .int .u64 (wi (b) 3)]] K ↔ K (.tuple #[wd (nearQ a b), .int .i64 0]) := callK_iff G0W (by kernel_rfl) (qNear_ret a b ha hB h0)
def jb (n : Int) : Blk := ⟨#[.int .i64 n], .ty 3⟩
def inL (a b c : Int) (k : Blk) : List (Nat × Blk) := [(200, jb a), (208, jb b), (216, jb c), (224, k)]
def inHp (a b c : Int) : Hp := hpL G0 (inL a b c (jb 0))
theorem inHp_rst (a b c : Int) : rst (inHp a b c) [200, 208, 216, 224] = inHp a b c := hpL_rst G0F (by simp [inL])
theorem inHp_closed (a b c : Int) (D : Nat → Prop) (k : Nat) (x : Blk) (h : inHp a b c k = some x) : x.ids D := by
  rcases hpL_mem h with h | h
  · simp [inL] at h
    rcases h with ⟨_, rfl⟩ | ⟨_, rfl⟩ | ⟨_, rfl⟩ | ⟨_, rfl⟩ <;> simp [jb]
  · exact G0_closed _ _ _ h
theorem inHp_free (a b c : Int) (x : Nat) (hx : 300 ≤ x) : inHp a b c x = none := by
  simp [inHp, inL, show ¬ x = 200 by omega, show ¬ x = 208 by omega, show ¬ x = 216 by omega, show ¬ x = 224 by omega, show 100 ≤ x by omega]
theorem ints1_fun (a b c : Int) (ha : i64 a) (hB : i64 b) (hc : i64 c) (hab : sm (a * b)) (h0 : 0 < c) (hq : i64 (nearQ (a * b) c)) : Fun Tryd.prog G0 69 [.pointer (some ⟨200, 0, none⟩), .pointer (some ⟨208, 0, none⟩), .pointer (some ⟨216, 0, none⟩), .pointer (some ⟨224, 0, none⟩)].toArray (inHp a b c) [200, 208, 216, 224] (.ret (wd (nearQ (a * b) c)) [(224, jb (nearQ (a * b) c))]) := by
  refine fun_of (B := 300) G0F (fun k hk => hpL_low (by simp [inL]) hk) Tryd.func69 rfl Tryd.call69 ?_ ?_ ⟨flatV_ids (by simp), by simp [keys, inHp, inL, dom], fun k b c e1 e2 => by simp at e1 e2; rw [e1.2, e2.2], by simp [jb]⟩ (by simp [Tryd.ntmps69]) (by omega) ?_ ?_
  · rw [inHp_rst]; simp [inHp, inL, dom]
  · rw [inHp_rst]; exact inHp_closed a b c _
  · rw [inHp_rst]; exact inHp_free a b c
  · intro C hC hC0 hY
    rw [inHp_rst] at hC0 ⊢
    have s1 := ha.sm.sz
    have s2 := hB.sm.sz
    have s3 := hq.sm.sz
    have hcs := hc.sm
    have hm : mulO a b = false := by unfold mulO; rw [s1, s2]; simp only [decide_eq_false_iff_not, Classical.not_not]; exact hab.wr
    repeat' (first | refine GW_seq ?_ | simp only [List.length_cons, List.length_nil, Nat.reduceAdd, Nat.reduceMul, wN] | ((first | refine GW_region' [] (by kernel_rfl) ?_ | refine GW_draw' [] follows (by kernel_rfl) (by kernel_rfl) ?_); intro Q hQ hP; simp [hC, hY, inHp, inL, jb, ha, hB, hc, hab, h0, hq, s1, s2, s3, hcs, hm]; (first | refine hQ _ _ _ _ ?_ | refine hQ _ _ _ _ (by kernel_rfl) ?_ | refine hP _ _ (fun _ => ?_) | refine hP _ _ (by kernel_rfl) (fun _ => ?_)); clear hQ hP Q) | refine GW_block ?_ | refine GW_ret ?_ | refine GW_skip ?_ | refine GW_exit ?_ | refine GW_goto ?_ | refine GW_label ?_ | simp only [blockG_exit] | (refine GW_cond (by simp; rfl) ?_ ?_ <;> (intro hb; first | (exfalso; exact absurd hb (by decide)) | skip)))
    refine ⟨.inr rfl, by simp [Tryd.results69], fun k hk => ?_⟩
    have hk3 : k < 300 := Classical.byContradiction fun h => hk (inHp_free a b c k (by omega))
    by_cases e : k = 224
    · subst e; simp [updL, jb]
    · simp only [updL]
      simp (disch := omega) only [upd_other]
      simp [inHp, inL, jb]
theorem qInts_ret (a b c : Int) (ha : i64 a) (hB : i64 b) (hc : i64 c) (hab : sm (a * b)) (h0 : 0 < c) (hq : i64 (nearQ (a * b) c)) : Ret Tryd.prog G0 42 #[.int .i64 a, .int .i64 b, .int .i64 c] (.tuple #[.int .i64 (nearQ (a * b) c), .int .i64 0]) := by
  refine ret_of G0F Tryd.func42 rfl Tryd.call42 (by simp) (by simp) (by simp [Tryd.ntmps42]) ?_
  intro C hC hC0 hY
  repeat' (first | refine GW_seq ?_ | simp only [List.length_cons, List.length_nil, Nat.reduceAdd, Nat.reduceMul, wN] | ((first | refine GW_region' [68] (by kernel_rfl) ?_ | refine GW_draw' [68] follows (by kernel_rfl) (by kernel_rfl) ?_); intro Q hQ hP; simp [hC, hY, jb]; (repeat ((first | (refine heapK_of (hp' := inHp a b c) (qtold_ret (fun k hk => hpL_low (by simp [inL]) hk) (by simp) rfl (by simp) (ints1_fun a b c ha hB hc hab h0 hq)) (by simp [inHp, inL, jb]) (fun k hk => hpL_low (by simp [inL]) hk) trivial ?_)); try simp [hC, hY, jb])); (first | refine hQ _ _ _ _ ?_ | refine hQ _ _ _ _ (by kernel_rfl) ?_ | refine hP _ _ (fun _ => ?_) | refine hP _ _ (by kernel_rfl) (fun _ => ?_)); clear hQ hP Q) | refine GW_block ?_ | refine GW_ret ?_ | refine GW_skip ?_ | refine GW_exit ?_ | refine GW_goto ?_ | refine GW_label ?_ | simp only [blockG_exit] | (refine GW_cond (by simp; rfl) ?_ ?_ <;> (intro hb; first | (exfalso; exact absurd hb (by decide)) | skip)))
  refine ⟨.inr trivial, ?_⟩
  simp [Tryd.results42]
@[simp] theorem qInts (a b c : Int) (ha : i64 a) (hB : i64 b) (hc : i64 c) (hab : sm (a * b)) (h0 : 0 < c) (hq : i64 (nearQ (a * b) c)) (K : Value → Prop) : callK Tryd.prog G0 42 #[.int .i64 a, .int .i64 b, .int .i64 c] K ↔ K (.tuple #[.int .i64 (nearQ (a * b) c), .int .i64 0]) := callK_iff G0W (by kernel_rfl) (qInts_ret a b c ha hB hc hab h0 hq)
end Go.Gy
namespace Go.Gy
set_option linter.unusedSimpArgs false
set_option linter.unusedVariables false
open Go Go.RowKit Go.Proofs
/-- How many are so, from the first one on. -/
theorem lead (p : Nat → Prop) (m : Nat) : ∃ N, N ≤ m ∧ (∀ i, i < N → p i) ∧ (N = m ∨ ¬ p N) := by
  induction m with
  | zero => exact ⟨0, Nat.le_refl _, fun i hi => absurd hi (Nat.not_lt_zero i), .inl rfl⟩
  | succ m ih =>
    obtain ⟨N, h1, h2, h3⟩ := ih
    rcases h3 with rfl | h3
    · by_cases hp : p N
      · exact ⟨N + 1, Nat.le_refl _, fun i hi => by
          by_cases e : i = N
          · subst e; exact hp
          · exact h2 i (by omega), .inl rfl⟩
      · exact ⟨N, by omega, h2, .inr hp⟩
    · exact ⟨N, by omega, h2, .inr h3⟩
def inW (m x : Int) : Prop := 0 ≤ m ∧ -m ≤ x ∧ x ≤ m
instance inWdec (m x : Int) : Decidable (inW m x) := by unfold inW; infer_instance
theorem neg_in {m : Int} (h : i64 m) (h0 : 0 ≤ m) : Int.bmod (-m) 18446744073709551616 = -m := by
  have := h.1; have := h.2
  rw [Int.bmod_def]; omega
def wiHp (x0 x1 x2 m : Int) : Hp := hpL G0 [(200, ⟨#[.int .i64 x0, .int .i64 x1, .int .i64 x2], .ty 26⟩), (208, jb m), (216, ⟨#[.bool false], .ty 4⟩)]
def wiTs : Nat → Value := tsL [(3, .pointer (some ⟨208, 0, none⟩)), (4, .pointer (some ⟨216, 0, none⟩))]
set_option maxRecDepth 8000 in
theorem within_ret (x0 x1 x2 m : Int) (hm : i64 m) (h0 : i64 x0) (h1 : i64 x1) (h2 : i64 x2) : Ret Tryd.prog G0 49 #[.agg #[.int .i64 x0, .int .i64 x1, .int .i64 x2], .int .i64 m] (.bool (decide (inW m x0 ∧ inW m x1 ∧ inW m x2))) := by
  refine ret_of G0F Tryd.func49 rfl Tryd.call49 (by simp) (by simp) (by simp [Tryd.ntmps49]) ?_
  intro C hC hC0 hY
  obtain ⟨N, hN, hlt, hend⟩ := lead (fun i => inW m (vf x0 x1 x2 i)) 3
  repeat' (first | refine GW_seq ?_ | simp only [List.length_cons, List.length_nil, Nat.reduceAdd, Nat.reduceMul, wN] | ((first | refine GW_region' [84] (by kernel_rfl) ?_ | refine GW_draw' [84] follows (by kernel_rfl) (by kernel_rfl) ?_); intro Q hQ hP; simp [hC, hY, jb]; (repeat ((first | (refine heapK_of (vparts_new 232 240 1 1 #[.int .i64 x0, .int .i64 x1, .int .i64 x2] (by simp) (by omega) (by omega) (by omega) (by omega)) (by simp) (fun k hk => hpL_low (by simp) hk) (by simp [Res.at, keys]) ?_)); try simp [hC, hY, jb])); (first | refine hQ _ _ _ _ ?_ | refine hQ _ _ _ _ (by kernel_rfl) ?_ | refine hP _ _ (fun _ => ?_) | refine hP _ _ (by kernel_rfl) (fun _ => ?_)); clear hQ hP Q) | refine GW_block ?_ | refine GW_ret ?_ | refine GW_skip ?_ | refine GW_exit ?_ | refine GW_goto ?_ | refine GW_label ?_ | simp only [blockG_exit] | (refine GW_cond (by simp; rfl) ?_ ?_ <;> (intro hb; first | (exfalso; exact absurd hb (by decide)) | skip)))
  have hT : m < 0 ∨ 0 ≤ m := by omega
  refine GW_range (f := 113) (rs := [240, 232]) (xs := xsV 3 (vf x0 x1 x2)) (caps := #[.pointer (some ⟨240, 0, none⟩)]) (by simp) ?_ (by simp [xsV]) (by simp [Tryd.ntmps49]) wiTs (fun _ => wiHp x0 x1 x2 m) 300 N (by simp [xsV]; omega) ?_ ?_ ?_ ?_ ?_
  · rw [hC]
    refine IterG.cast (IterX.rn (fun k => if k = 100 then 240 else if k = 108 then 232 else k) G0F (fun k hk => hpL_low (by simp [pvL1]) hk) (rs := [100, 108]) ?_ (vparts1_it x0 x1 x2)) (by simp [ren0]) (by simp)
    refine ⟨fun k hk => ?_, ?_, ?_, ?_⟩
    · have h1 : ¬ k = 100 := by omega
      have h2 : ¬ k = 108 := by omega
      have h3 : ¬ k = 200 := by omega
      have h4 : ¬ k = 208 := by omega
      have h5 : ¬ k = 216 := by omega
      have h8 : ¬ k = 232 := by omega
      have h9 : ¬ k = 240 := by omega
      simp [h1, h2, h3, h4, h5, h8, h9, pv1, pvL1]
    · simp
    · simp [pvL1, Blk.rn, renF, ren0]
    · simp
  · refine weakL _ 300 hC G0F (m0 := []) hC0 (by omega) ?_ ?_ ?_
    · simp [idsV, idsA, idsF, ids0, dom]
    · simp [ids_lit, idsF, ids0, jb]
    · simp
  · simp [wiHp, dom]
  · intro i hi t
    refine tsL_ids ?_ t
    simp [idsV, idsA, idsF, ids0, dom, wiHp]
  · intro i x hi hx C1 l hC1 hh1 hY1
    have hCC := hC
    have hC1' : C1.G = G0 := hC1.trans hC
    obtain ⟨g0, g1, g2⟩ := hlt i hi
    replace hC := hC1'
    replace hY := hY1
    have : i = 0 ∨ i = 1 ∨ i = 2 := by omega
    rcases this with rfl | rfl | rfl
    all_goals
      rw [xsV_at _ _ _ (by omega)] at hx
      simp only [Option.some.injEq] at hx
      subst hx
      simp only [vf] at *
      unfold wiHp
    all_goals
      repeat' (first | refine GW_seq ?_ | simp only [List.length_cons, List.length_nil, Nat.reduceAdd, Nat.reduceMul, wN] | ((first | refine GW_region' [] (by kernel_rfl) ?_ | refine GW_draw' [] follows (by kernel_rfl) (by kernel_rfl) ?_); intro Q hQ hP; simp [hC, hY, roundTs, wiTs, jb]; (first | refine hQ _ _ _ _ ?_ | refine hQ _ _ _ _ (by kernel_rfl) ?_ | refine hP _ _ (fun _ => ?_) | refine hP _ _ (by kernel_rfl) (fun _ => ?_)); clear hQ hP Q) | refine GW_block ?_ | refine GW_ret ?_ | refine GW_skip ?_ | refine GW_exit ?_ | refine GW_goto ?_ | refine GW_label ?_ | simp only [blockG_exit] | (refine GW_cond (by simp; rfl) ?_ ?_ <;> (intro hb; first | (exfalso; exact absurd hb (by decide)) | skip)))
    all_goals
      intro C2 hC2 hh2 hY2
      replace hC : C2.G = G0 := hC2.trans hCC
      replace hY := hY2
      have q0 : ¬ m < 0 := by omega
      have q1 := Int.not_lt.2 g1
      have q2 := Int.not_lt.2 g2
      have hbm := neg_in hm g0
      repeat' (first | refine GW_seq ?_ | simp only [List.length_cons, List.length_nil, Nat.reduceAdd, Nat.reduceMul, wN] | ((first | refine GW_region' [] (by kernel_rfl) ?_ | refine GW_draw' [] follows (by kernel_rfl) (by kernel_rfl) ?_); intro Q hQ hP; simp [hC, hY, roundTs, wiTs, jb, hbm, q0, q1, q2]; (first | refine hQ _ _ _ _ ?_ | refine hQ _ _ _ _ (by kernel_rfl) ?_ | refine hP _ _ (fun _ => ?_) | refine hP _ _ (by kernel_rfl) (fun _ => ?_)); clear hQ hP Q) | refine GW_block ?_ | refine GW_ret ?_ | refine GW_skip ?_ | refine GW_exit ?_ | refine GW_goto ?_ | refine GW_label ?_ | simp only [blockG_exit] | (refine GW_cond (by simp; rfl) ?_ ?_ <;> (intro hb; first | (exfalso; exact absurd hb (by decide)) | skip)))
    all_goals
      refine weakL [] 300 hC1' G0F hh1 (by omega) ?_ ?_ ?_
      · simp
      · simp [ids_lit, idsF, ids0, jb]
      · simp [jb]
  · by_cases hend' : N = 3
    · subst hend'
      left
      refine ⟨by simp [xsV], ?_⟩
      have e : (inW m x0 ∧ inW m x1 ∧ inW m x2) = True := by
        simp only [eq_iff_iff, iff_true]
        exact ⟨hlt 0 (by omega), hlt 1 (by omega), hlt 2 (by omega)⟩
      simp only [e]
      unfold wiHp wiTs jb
      repeat' (first | refine GW_seq ?_ | simp only [List.length_cons, List.length_nil, Nat.reduceAdd, Nat.reduceMul, wN] | ((first | refine GW_region' [] (by kernel_rfl) ?_ | refine GW_draw' [] follows (by kernel_rfl) (by kernel_rfl) ?_); intro Q hQ hP; simp [hC, hY]; (first | refine hQ _ _ _ _ ?_ | refine hQ _ _ _ _ (by kernel_rfl) ?_ | refine hP _ _ (fun _ => ?_) | refine hP _ _ (by kernel_rfl) (fun _ => ?_)); clear hQ hP Q) | refine GW_block ?_ | refine GW_ret ?_ | refine GW_skip ?_ | refine GW_exit ?_ | refine GW_goto ?_ | refine GW_label ?_ | simp only [blockG_exit] | (refine GW_cond (by simp; rfl) ?_ ?_ <;> (intro hb; first | (exfalso; exact absurd hb (by decide)) | skip)))
      refine ⟨.inr trivial, ?_⟩
      simp [Tryd.results49]
    · right
      have hN3 : N < 3 := by omega
      replace hend := hend.resolve_left hend'
      refine ⟨_, xsV_at _ _ _ hN3, ?_⟩
      have e : (inW m x0 ∧ inW m x1 ∧ inW m x2) = False := by
        simp only [eq_iff_iff, iff_false]
        rintro ⟨a0, a1, a2⟩
        have : N = 0 ∨ N = 1 ∨ N = 2 := by omega
        rcases this with rfl | rfl | rfl <;> contradiction
      simp only [e]
      have hor : m < 0 ∨ (¬ m < 0 ∧ vf x0 x1 x2 N < -m) ∨ (¬ m < 0 ∧ ¬ vf x0 x1 x2 N < -m ∧ m < vf x0 x1 x2 N) := by
        unfold inW at hend; omega
      intro C1 l hC1 hh1 hY1
      have hCC := hC
      replace hC := hC1.trans hC
      replace hY := hY1
      clear hlt hN
      have : N = 0 ∨ N = 1 ∨ N = 2 := by omega
      rcases this with rfl | rfl | rfl
      all_goals
        simp only [vf] at hor ⊢
        unfold wiHp
      all_goals
        repeat' (first | refine GW_seq ?_ | simp only [List.length_cons, List.length_nil, Nat.reduceAdd, Nat.reduceMul, wN] | ((first | refine GW_region' [] (by kernel_rfl) ?_ | refine GW_draw' [] follows (by kernel_rfl) (by kernel_rfl) ?_); intro Q hQ hP; simp [hC, hY, roundTs, wiTs, jb]; (first | refine hQ _ _ _ _ ?_ | refine hQ _ _ _ _ (by kernel_rfl) ?_ | refine hP _ _ (fun _ => ?_) | refine hP _ _ (by kernel_rfl) (fun _ => ?_)); clear hQ hP Q) | refine GW_block ?_ | refine GW_ret ?_ | refine GW_skip ?_ | refine GW_exit ?_ | refine GW_goto ?_ | refine GW_label ?_ | simp only [blockG_exit] | (refine GW_cond (by simp; rfl) ?_ ?_ <;> (intro hb; first | (exfalso; exact absurd hb (by decide)) | skip)))
      all_goals
        intro C2 hC2 hh2 hY2
        replace hC : C2.G = G0 := hC2.trans hCC
        replace hY := hY2
        rcases hor with q0 | ⟨q0, q1⟩ | ⟨q0, q1, q2⟩
        ·
          repeat' (first | refine GW_seq ?_ | simp only [List.length_cons, List.length_nil, Nat.reduceAdd, Nat.reduceMul, wN] | ((first | refine GW_region' [] (by kernel_rfl) ?_ | refine GW_draw' [] follows (by kernel_rfl) (by kernel_rfl) ?_); intro Q hQ hP; simp [hC, hY, roundTs, wiTs, jb, q0]; (first | refine hQ _ _ _ _ ?_ | refine hQ _ _ _ _ (by kernel_rfl) ?_ | refine hP _ _ (fun _ => ?_) | refine hP _ _ (by kernel_rfl) (fun _ => ?_)); clear hQ hP Q) | refine GW_block ?_ | refine GW_ret ?_ | refine GW_skip ?_ | refine GW_exit ?_ | refine GW_goto ?_ | refine GW_label ?_ | simp only [blockG_exit] | (refine GW_cond (by simp; rfl) ?_ ?_ <;> (intro hb; first | (exfalso; exact absurd hb (by decide)) | skip)))
          refine ⟨by simp [outCode], fun t => tsL_ids (by simp [idsV, idsA, idsF, ids0, dom]) t, .inr trivial, ?_⟩
          simp [Tryd.results49, wiTs]
        · have hbm := neg_in hm (Int.not_lt.1 q0)
          repeat' (first | refine GW_seq ?_ | simp only [List.length_cons, List.length_nil, Nat.reduceAdd, Nat.reduceMul, wN] | ((first | refine GW_region' [] (by kernel_rfl) ?_ | refine GW_draw' [] follows (by kernel_rfl) (by kernel_rfl) ?_); intro Q hQ hP; simp [hC, hY, roundTs, wiTs, jb, hbm, q0, q1]; (first | refine hQ _ _ _ _ ?_ | refine hQ _ _ _ _ (by kernel_rfl) ?_ | refine hP _ _ (fun _ => ?_) | refine hP _ _ (by kernel_rfl) (fun _ => ?_)); clear hQ hP Q) | refine GW_block ?_ | refine GW_ret ?_ | refine GW_skip ?_ | refine GW_exit ?_ | refine GW_goto ?_ | refine GW_label ?_ | simp only [blockG_exit] | (refine GW_cond (by simp; rfl) ?_ ?_ <;> (intro hb; first | (exfalso; exact absurd hb (by decide)) | skip)))
          refine ⟨by simp [outCode], fun t => tsL_ids (by simp [idsV, idsA, idsF, ids0, dom]) t, .inr trivial, ?_⟩
          simp [Tryd.results49, wiTs]
        · have hbm := neg_in hm (Int.not_lt.1 q0)
          repeat' (first | refine GW_seq ?_ | simp only [List.length_cons, List.length_nil, Nat.reduceAdd, Nat.reduceMul, wN] | ((first | refine GW_region' [] (by kernel_rfl) ?_ | refine GW_draw' [] follows (by kernel_rfl) (by kernel_rfl) ?_); intro Q hQ hP; simp [hC, hY, roundTs, wiTs, jb, hbm, q0, q1, q2]; (first | refine hQ _ _ _ _ ?_ | refine hQ _ _ _ _ (by kernel_rfl) ?_ | refine hP _ _ (fun _ => ?_) | refine hP _ _ (by kernel_rfl) (fun _ => ?_)); clear hQ hP Q) | refine GW_block ?_ | refine GW_ret ?_ | refine GW_skip ?_ | refine GW_exit ?_ | refine GW_goto ?_ | refine GW_label ?_ | simp only [blockG_exit] | (refine GW_cond (by simp; rfl) ?_ ?_ <;> (intro hb; first | (exfalso; exact absurd hb (by decide)) | skip)))
          refine ⟨by simp [outCode], fun t => tsL_ids (by simp [idsV, idsA, idsF, ids0, dom]) t, .inr trivial, ?_⟩
          simp [Tryd.results49, wiTs]
/-- A point is within. -/
def inV (m x0 x1 x2 : Int) : Bool := decide (inW m x0 ∧ inW m x1 ∧ inW m x2)
@[simp] theorem vwithin (x0 x1 x2 m : Int) (hm : i64 m) (h0 : i64 x0) (h1 : i64 x1) (h2 : i64 x2) (K : Value → Prop) : callK Tryd.prog G0 49 #[.agg #[.int .i64 x0, .int .i64 x1, .int .i64 x2], .int .i64 m] K ↔ K (.bool (inV m x0 x1 x2)) := callK_iff G0W (by kernel_rfl) (within_ret x0 x1 x2 m hm h0 h1 h2)
end Go.Gy
namespace Go.Gy
set_option linter.unusedSimpArgs false
set_option linter.unusedVariables false
open Go Go.RowKit Go.Proofs
def fnI (x : Int) : Prop := -536870912 ≤ x ∧ x ≤ 536870912
instance fnIdec (x : Int) : Decidable (fnI x) := by unfold fnI; infer_instance
theorem fine_fun (M m : Nat) (v : Bool) (cs : Array Value) (hcs : ∀ x ∈ cs, flatF x = true) (f : Nat → Int) (hit : IterK Tryd.prog G0 113 #[.pointer (some ⟨100, 0, none⟩)] (hpL G0 [(100, ⟨#[.slice (some ⟨108, 0, none⟩) m m], .ty 35⟩), (108, ⟨cs, .ty 26⟩)]) (keys [(100, ⟨#[.slice (some ⟨108, 0, none⟩) m m], .ty 35⟩), (108, ⟨cs, .ty 26⟩)]) (xsV M f)) (hv : v = true ↔ ∀ j, j < M → fnI (f j)) :
    Fun Tryd.prog G0 112 #[.slice (some ⟨100, 0, none⟩) m m] (hpL G0 [(100, ⟨cs, .ty 26⟩)]) [100] (.ret (.bool v) []) := by
  have hfx : Blk.fx (Blk.mk cs (.ty 26)) := hcs
  have hfi : ∀ D, (Blk.mk cs (.ty 26)).ids D := fun D => Blk.fx_ids hfx D
  refine fun_ofL (m := [(100, ⟨cs, .ty 26⟩)]) (B := 200) G0F Tryd.func112 rfl Tryd.call112 ⟨by simp, by simp [keys], by simp only [List.mem_singleton, forall_eq]; exact hfi _⟩ ?_ (by simp) (by simp) (by simp) (by simp [Tryd.ntmps112]) (by omega) ?_
  · simp [idsV, idsA, idsF, ids0, keys]
  intro C hC hC0 hY
  obtain ⟨N, hN, hlt, hend⟩ := lead (fun i => fnI (f i)) M
  repeat' (first | refine GW_seq ?_ | simp only [List.length_cons, List.length_nil, Nat.reduceAdd, Nat.reduceMul, wN] | ((first | refine GW_region' [84] (by kernel_rfl) ?_ | refine GW_draw' [84] follows (by kernel_rfl) (by kernel_rfl) ?_); intro Q hQ hP; simp [hC, hY, jb]; (repeat ((first | (refine heapK_of (vparts_new 100 216 m m cs hcs (by omega) (by omega) (by omega) (by omega)) (by simp) (fun k hk => hpL_low (by simp) hk) (by simp [Res.at, keys]) ?_)); try simp [hC, hY, jb])); (first | refine hQ _ _ _ _ ?_ | refine hQ _ _ _ _ (by kernel_rfl) ?_ | refine hP _ _ (fun _ => ?_) | refine hP _ _ (by kernel_rfl) (fun _ => ?_)); clear hQ hP Q) | refine GW_block ?_ | refine GW_ret ?_ | refine GW_skip ?_ | refine GW_exit ?_ | refine GW_goto ?_ | refine GW_label ?_ | simp only [blockG_exit] | (refine GW_cond (by simp; rfl) ?_ ?_ <;> (intro hb; first | (exfalso; exact absurd hb (by decide)) | skip)))
  refine GW_rangeKL (G := G0) (f := 113) (rs := [216, 100]) (xs := xsV M f) (caps := #[.pointer (some ⟨216, 0, none⟩)]) (m0 := [(100, ⟨cs, .ty 26⟩)]) [216, 100] G0F hC hC0 hY (by simp) ?_ (by simp [xsV]) (by simp [Tryd.ntmps112]) [(2, .pointer (some ⟨200, 0, none⟩))] [] (fun _ => [(200, ⟨#[.bool false], .ty 4⟩)]) 300 N (by simp [xsV]; omega) (by omega) (by simp) (by simp [dom]) ?_ (by simp) (by simp) (by simp) ?_ (by simp) ?_ ?_
  · refine iterk_mv (m := [(100, ⟨#[.slice (some ⟨108, 0, none⟩) m m], .ty 35⟩), (108, ⟨cs, .ty 26⟩)]) (B := 200) hit G0F ⟨by simp, by simp [keys], ?_⟩ (fun k => if k = 100 then 216 else if k = 108 then 100 else k) (fun k hk => ?_) (by simp [ren0]) (by simp [keys]) (by (intro k hk; first | rfl | (simp (disch := omega) only [addB, List.mem_cons, List.not_mem_nil, or_false, upd_other, hpL_cons, hpL_nil, if_neg, updL] <;> done))) ?_ ?_
    · simp only [List.mem_cons, List.not_mem_nil, or_false, forall_eq_or_imp, forall_eq]
      exact ⟨by simp [ids_lit, idsF, ids0, keys], hfi _⟩
    · rw [if_neg (by omega), if_neg (by omega)]
    · have hr := fun ρ => fx_map hcs ρ
      simp [hr, Blk.rn, renF, ren0]
    · simp [keys]
  · intro k hk b hb
    simp only [List.mem_cons, List.not_mem_nil, or_false] at hk
    rcases hk with rfl | rfl
    · simp at hb; subst hb; simp [ids_lit, idsF, ids0]
    · simp at hb; subst hb; exact hfi _
  · intro i hi
    simp [idsV, idsA, idsF, ids0, dom, ids_lit]
  · intro i x hi hx C1 l hC1 hh1 hY1
    rw [xsV_at _ _ _ (by omega)] at hx
    simp only [Option.some.injEq] at hx
    subst hx
    obtain ⟨g1, g2⟩ := hlt i hi
    have q1 := Int.not_lt.2 g1
    have q2 := Int.not_lt.2 g2
    clear hC hY
    have hC := hC1
    have hY := hY1
    repeat' (first | refine GW_seq ?_ | simp only [List.length_cons, List.length_nil, Nat.reduceAdd, Nat.reduceMul, wN] | ((first | refine GW_region' [] (by kernel_rfl) ?_ | refine GW_draw' [] follows (by kernel_rfl) (by kernel_rfl) ?_); intro Q hQ hP; simp [hC, hY, roundTs]; (first | refine hQ _ _ _ _ ?_ | refine hQ _ _ _ _ (by kernel_rfl) ?_ | refine hP _ _ (fun _ => ?_) | refine hP _ _ (by kernel_rfl) (fun _ => ?_)); clear hQ hP Q) | refine GW_block ?_ | refine GW_ret ?_ | refine GW_skip ?_ | refine GW_exit ?_ | refine GW_goto ?_ | refine GW_label ?_ | simp only [blockG_exit] | (refine GW_cond (by simp; rfl) ?_ ?_ <;> (intro hb; first | (exfalso; exact absurd hb (by decide)) | skip)))
    intro C2 hC2 hh2 hY2
    clear hC hY
    have hC := hC2
    have hY := hY2
    repeat' (first | refine GW_seq ?_ | simp only [List.length_cons, List.length_nil, Nat.reduceAdd, Nat.reduceMul, wN] | ((first | refine GW_region' [] (by kernel_rfl) ?_ | refine GW_draw' [] follows (by kernel_rfl) (by kernel_rfl) ?_); intro Q hQ hP; simp [hC, hY, roundTs, q1, q2]; (first | refine hQ _ _ _ _ ?_ | refine hQ _ _ _ _ (by kernel_rfl) ?_ | refine hP _ _ (fun _ => ?_) | refine hP _ _ (by kernel_rfl) (fun _ => ?_)); clear hQ hP Q) | refine GW_block ?_ | refine GW_ret ?_ | refine GW_skip ?_ | refine GW_exit ?_ | refine GW_goto ?_ | refine GW_label ?_ | simp only [blockG_exit] | (refine GW_cond (by simp; rfl) ?_ ?_ <;> (intro hb; first | (exfalso; exact absurd hb (by decide)) | skip)))
    simp
  · by_cases hend' : N = M
    · subst hend'
      left
      refine ⟨by simp [xsV], ?_⟩
      have e := hv.2 hlt
      subst e
      repeat' (first | refine GW_seq ?_ | simp only [List.length_cons, List.length_nil, Nat.reduceAdd, Nat.reduceMul, wN] | ((first | refine GW_region' [] (by kernel_rfl) ?_ | refine GW_draw' [] follows (by kernel_rfl) (by kernel_rfl) ?_); intro Q hQ hP; simp [hC, hY, addB, List.cons_append, List.nil_append]; (first | refine hQ _ _ _ _ ?_ | refine hQ _ _ _ _ (by kernel_rfl) ?_ | refine hP _ _ (fun _ => ?_) | refine hP _ _ (by kernel_rfl) (fun _ => ?_)); clear hQ hP Q) | refine GW_block ?_ | refine GW_ret ?_ | refine GW_skip ?_ | refine GW_exit ?_ | refine GW_goto ?_ | refine GW_label ?_ | simp only [blockG_exit] | (refine GW_cond (by simp; rfl) ?_ ?_ <;> (intro hb; first | (exfalso; exact absurd hb (by decide)) | skip)))
      refine ⟨.inr rfl, by simp [Tryd.results112], keep_of G0F (by simp [addB]) (by (intro k hk; first | rfl | (simp (disch := omega) only [addB, List.mem_cons, List.not_mem_nil, or_false, upd_other, hpL_cons, hpL_nil, if_neg, updL] <;> done)))⟩
    · right
      have hN3 : N < M := by omega
      replace hend := hend.resolve_left hend'
      refine ⟨_, xsV_at _ _ _ hN3, ?_⟩
      have e : v = false := by
        cases v
        · rfl
        · exact absurd (hv.1 rfl N hN3) hend
      subst e
      have hor : f N < -536870912 ∨ (¬ f N < -536870912 ∧ 536870912 < f N) := by
        unfold fnI at hend; omega
      intro C1 l hC1 hh1 hY1
      clear hC hY
      have hC := hC1
      have hY := hY1
      repeat' (first | refine GW_seq ?_ | simp only [List.length_cons, List.length_nil, Nat.reduceAdd, Nat.reduceMul, wN] | ((first | refine GW_region' [] (by kernel_rfl) ?_ | refine GW_draw' [] follows (by kernel_rfl) (by kernel_rfl) ?_); intro Q hQ hP; simp [hC, hY, roundTs]; (first | refine hQ _ _ _ _ ?_ | refine hQ _ _ _ _ (by kernel_rfl) ?_ | refine hP _ _ (fun _ => ?_) | refine hP _ _ (by kernel_rfl) (fun _ => ?_)); clear hQ hP Q) | refine GW_block ?_ | refine GW_ret ?_ | refine GW_skip ?_ | refine GW_exit ?_ | refine GW_goto ?_ | refine GW_label ?_ | simp only [blockG_exit] | (refine GW_cond (by simp; rfl) ?_ ?_ <;> (intro hb; first | (exfalso; exact absurd hb (by decide)) | skip)))
      intro C2 hC2 hh2 hY2
      clear hC hY
      have hC := hC2
      have hY := hY2
      rcases hor with q1 | ⟨q1, q2⟩
      ·
        repeat' (first | refine GW_seq ?_ | simp only [List.length_cons, List.length_nil, Nat.reduceAdd, Nat.reduceMul, wN] | ((first | refine GW_region' [] (by kernel_rfl) ?_ | refine GW_draw' [] follows (by kernel_rfl) (by kernel_rfl) ?_); intro Q hQ hP; simp [hC, hY, roundTs, q1]; (first | refine hQ _ _ _ _ ?_ | refine hQ _ _ _ _ (by kernel_rfl) ?_ | refine hP _ _ (fun _ => ?_) | refine hP _ _ (by kernel_rfl) (fun _ => ?_)); clear hQ hP Q) | refine GW_block ?_ | refine GW_ret ?_ | refine GW_skip ?_ | refine GW_exit ?_ | refine GW_goto ?_ | refine GW_label ?_ | simp only [blockG_exit] | (refine GW_cond (by simp; rfl) ?_ ?_ <;> (intro hb; first | (exfalso; exact absurd hb (by decide)) | skip)))
        refine ⟨by simp [outCode], by simp [idsV, idsA, idsF, ids0, dom], by simp, .inr rfl, by simp [Tryd.results112, addB], keep_of G0F (by simp [addB]) (by (intro k hk; first | rfl | (simp (disch := omega) only [addB, List.mem_cons, List.not_mem_nil, or_false, upd_other, hpL_cons, hpL_nil, if_neg, updL] <;> done)))⟩
      ·
        repeat' (first | refine GW_seq ?_ | simp only [List.length_cons, List.length_nil, Nat.reduceAdd, Nat.reduceMul, wN] | ((first | refine GW_region' [] (by kernel_rfl) ?_ | refine GW_draw' [] follows (by kernel_rfl) (by kernel_rfl) ?_); intro Q hQ hP; simp [hC, hY, roundTs, q1, q2]; (first | refine hQ _ _ _ _ ?_ | refine hQ _ _ _ _ (by kernel_rfl) ?_ | refine hP _ _ (fun _ => ?_) | refine hP _ _ (by kernel_rfl) (fun _ => ?_)); clear hQ hP Q) | refine GW_block ?_ | refine GW_ret ?_ | refine GW_skip ?_ | refine GW_exit ?_ | refine GW_goto ?_ | refine GW_label ?_ | simp only [blockG_exit] | (refine GW_cond (by simp; rfl) ?_ ?_ <;> (intro hb; first | (exfalso; exact absurd hb (by decide)) | skip)))
        refine ⟨by simp [outCode], by simp [idsV, idsA, idsF, ids0, dom], by simp, .inr rfl, by simp [Tryd.results112, addB], keep_of G0F (by simp [addB]) (by (intro k hk; first | rfl | (simp (disch := omega) only [addB, List.mem_cons, List.not_mem_nil, or_false, upd_other, hpL_cons, hpL_nil, if_neg, updL] <;> done)))⟩

theorem fine1_fun (x0 x1 x2 : Int) (v : Bool) (hv : v = true ↔ fnI x0 ∧ fnI x1 ∧ fnI x2) : Fun Tryd.prog G0 112 #[.slice (some ⟨100, 0, none⟩) 1 1] (hpL G0 [(100, ⟨#[.int .i64 x0, .int .i64 x1, .int .i64 x2], .ty 26⟩)]) [100] (.ret (.bool v) []) := by
  refine fine_fun 3 1 _ _ (by simp) _ (vparts1_itk x0 x1 x2) ?_
  rw [hv]
  refine ⟨fun ⟨h0, h1, h2⟩ j hj => ?_, fun h => ⟨h 0 (by omega), h 1 (by omega), h 2 (by omega)⟩⟩
  have : j = 0 ∨ j = 1 ∨ j = 2 := by omega
  rcases this with rfl | rfl | rfl <;> assumption
theorem fine2_fun (x0 x1 x2 y0 y1 y2 : Int) (v : Bool) (hv : v = true ↔ (fnI x0 ∧ fnI x1 ∧ fnI x2) ∧ fnI y0 ∧ fnI y1 ∧ fnI y2) : Fun Tryd.prog G0 112 #[.slice (some ⟨100, 0, none⟩) 2 2] (hpL G0 [(100, ⟨#[.int .i64 x0, .int .i64 x1, .int .i64 x2, .int .i64 y0, .int .i64 y1, .int .i64 y2], .ty 26⟩)]) [100] (.ret (.bool v) []) := by
  refine fine_fun 6 2 _ _ (by simp) _ (vparts2_itk x0 x1 x2 y0 y1 y2) ?_
  rw [hv]
  refine ⟨fun ⟨⟨h0, h1, h2⟩, h3, h4, h5⟩ j hj => ?_, fun h => ⟨⟨h 0 (by omega), h 1 (by omega), h 2 (by omega)⟩, h 3 (by omega), h 4 (by omega), h 5 (by omega)⟩⟩
  have : j = 0 ∨ j = 1 ∨ j = 2 ∨ j = 3 ∨ j = 4 ∨ j = 5 := by omega
  rcases this with rfl | rfl | rfl | rfl | rfl | rfl <;> assumption
theorem add1_ret (x y : Int) : Ret Tryd.prog G0 83 #[.int .i64 x, .int .i64 y] (.int .i64 (Int.bmod (x + y) 18446744073709551616)) := by
  refine ret_of G0F Tryd.func83 rfl Tryd.call83 (by simp) (by simp) (by simp [Tryd.ntmps83]) ?_
  intro C hC hC0 hY
  repeat' (first | refine GW_seq ?_ | simp only [List.length_cons, List.length_nil, Nat.reduceAdd, Nat.reduceMul, wN] | ((first | refine GW_region' [] (by kernel_rfl) ?_ | refine GW_draw' [] follows (by kernel_rfl) (by kernel_rfl) ?_); intro Q hQ hP; simp [hC, hY]; (first | refine hQ _ _ _ _ ?_ | refine hQ _ _ _ _ (by kernel_rfl) ?_ | refine hP _ _ (fun _ => ?_) | refine hP _ _ (by kernel_rfl) (fun _ => ?_)); clear hQ hP Q) | refine GW_block ?_ | refine GW_ret ?_ | refine GW_skip ?_ | refine GW_exit ?_ | refine GW_goto ?_ | refine GW_label ?_ | simp only [blockG_exit] | (refine GW_cond (by simp; rfl) ?_ ?_ <;> (intro hb; first | (exfalso; exact absurd hb (by decide)) | skip)))
  refine ⟨.inr trivial, ?_⟩
  simp [Tryd.results83]
@[simp] theorem vadd1 (x y : Int) (K : Value → Prop) : callK Tryd.prog G0 83 #[.int .i64 x, .int .i64 y] K ↔ K (.int .i64 (Int.bmod (x + y) 18446744073709551616)) := callK_iff G0W (by kernel_rfl) (add1_ret x y)
theorem fn_bm {a b : Int} (h1 : fnI a) (h2 : fnI b) : Int.bmod (a + b) 18446744073709551616 = a + b := by
  obtain ⟨h1, h3⟩ := h1
  obtain ⟨h2, h4⟩ := h2
  exact bm (by omega) (by omega)
end Go.Gy
namespace Go.Gy
set_option linter.unusedSimpArgs false
set_option linter.unusedVariables false
open Go Go.RowKit Go.Proofs
@[simp] theorem flatV_fn0 (f : Fn) : flatV (.func f #[] #[]) = true := by simp [flatV, flatA, flatF, Array.all]
def eaE (op : Int → Int → Int) (a0 a1 a2 b0 b1 b2 : Int) : Int := if ((fnI a0 ∧ fnI a1 ∧ fnI a2) ∧ fnI b0 ∧ fnI b1 ∧ fnI b2) ∧ fnI (op a0 b0) ∧ fnI (op a1 b1) ∧ fnI (op a2 b2) then 0 else 20
def eaV (e v : Int) : Int := if e = 0 then v else 0
def eaL (g : FuncId) (op : Int → Int → Int) (a0 a1 a2 b0 b1 b2 : Int) (i : Nat) : List (Nat × Blk) := [(200, ⟨#[.int .i64 a0, .int .i64 a1, .int .i64 a2], .ty 26⟩), (208, ⟨#[.int .i64 b0, .int .i64 b1, .int .i64 b2], .ty 26⟩), (216, ⟨#[.func (.func g) #[] #[]], .ty 113⟩),
  (224, ⟨#[.int .i64 (if 0 < i then op a0 b0 else 0), .int .i64 (if 1 < i then op a1 b1 else 0), .int .i64 (if 2 < i then op a2 b2 else 0)], .ty 26⟩)]
set_option maxRecDepth 8000 in
theorem each_ret (g : FuncId) (op : Int → Int → Int) (hop : ∀ x y K, fnI x → fnI y → (callK Tryd.prog G0 g #[.int .i64 x, .int .i64 y] K ↔ K (.int .i64 (op x y)))) (a0 a1 a2 b0 b1 b2 : Int) : Ret Tryd.prog G0 82 #[.agg #[.int .i64 a0, .int .i64 a1, .int .i64 a2], .agg #[.int .i64 b0, .int .i64 b1, .int .i64 b2], .func (.func g) #[] #[]]
    (.tuple #[.agg #[.int .i64 (eaV (eaE op a0 a1 a2 b0 b1 b2) (op a0 b0)), .int .i64 (eaV (eaE op a0 a1 a2 b0 b1 b2) (op a1 b1)), .int .i64 (eaV (eaE op a0 a1 a2 b0 b1 b2) (op a2 b2))], .int .i64 (eaE op a0 a1 a2 b0 b1 b2)]) := by
  refine ret_of G0F Tryd.func82 rfl Tryd.call82 (by simp) (by simp) (by simp [Tryd.ntmps82]) ?_
  intro C hC hC0 hY
  obtain ⟨v, hv⟩ : ∃ v : Bool, v = true ↔ (fnI a0 ∧ fnI a1 ∧ fnI a2) ∧ fnI b0 ∧ fnI b1 ∧ fnI b2 := ⟨decide _, decide_eq_true_iff⟩
  cases v with
  | false =>
    have e : eaE op a0 a1 a2 b0 b1 b2 = 20 := by unfold eaE; rw [if_neg]; intro h; exact absurd (hv.2 h.1) (by simp)
    rw [e]
    repeat' (first | refine GW_seq ?_ | simp only [List.length_cons, List.length_nil, Nat.reduceAdd, Nat.reduceMul, wN] | ((first | refine GW_region' [112] (by kernel_rfl) ?_ | refine GW_draw' [112] follows (by kernel_rfl) (by kernel_rfl) ?_); intro Q hQ hP; simp [hC, hY]; (repeat ((first | (refine heapK_mv (fine2_fun a0 a1 a2 b0 b1 b2 _ hv) G0F (B := 200) ⟨by simp, by simp [keys], by simp [ids_lit, idsF, ids0]⟩ (fun k => if k = 100 then 256 else k) (fun k hk => if_neg (by omega)) (by simp [ren, renA, renF, ren0]) (by simp) (by simp [Blk.rn, renF, ren0]) (by simp [keys]) (by simp [keys]; rfl) ?_)); try simp [hC, hY])); (first | refine hQ _ _ _ _ ?_ | refine hQ _ _ _ _ (by kernel_rfl) ?_ | refine hP _ _ (fun _ => ?_) | refine hP _ _ (by kernel_rfl) (fun _ => ?_)); clear hQ hP Q) | refine GW_block ?_ | refine GW_ret ?_ | refine GW_skip ?_ | refine GW_exit ?_ | refine GW_goto ?_ | refine GW_label ?_ | simp only [blockG_exit] | (refine GW_cond (by simp; rfl) ?_ ?_ <;> (intro hb; first | (exfalso; exact absurd hb (by decide)) | skip)))
    refine ⟨.inr trivial, ?_⟩
    simp [Tryd.results82, eaV]
  | true =>
    repeat' (first | refine GW_seq ?_ | simp only [List.length_cons, List.length_nil, Nat.reduceAdd, Nat.reduceMul, wN] | ((first | refine GW_region' [112,84] (by kernel_rfl) ?_ | refine GW_draw' [112,84] follows (by kernel_rfl) (by kernel_rfl) ?_); intro Q hQ hP; simp [hC, hY]; (repeat ((first | (first | (refine heapK_mv (fine2_fun a0 a1 a2 b0 b1 b2 _ hv) G0F (B := 200) ⟨by simp, by simp [keys], by simp [ids_lit, idsF, ids0]⟩ (fun k => if k = 100 then 256 else k) (fun k hk => if_neg (by omega)) (by simp [ren, renA, renF, ren0]) (by simp) (by simp [Blk.rn, renF, ren0]) (by simp [keys]) (by simp [keys]; rfl) ?_) | refine heapK_of (vparts_new 288 296 1 1 #[.int .i64 a0, .int .i64 a1, .int .i64 a2] (by simp) (by omega) (by omega) (by omega) (by omega)) (by simp) (fun k hk => hpL_low (by simp) hk) (by simp [Res.at, keys]) ?_)); try simp [hC, hY])); (first | refine hQ _ _ _ _ ?_ | refine hQ _ _ _ _ (by kernel_rfl) ?_ | refine hP _ _ (fun _ => ?_) | refine hP _ _ (by kernel_rfl) (fun _ => ?_)); clear hQ hP Q) | refine GW_block ?_ | refine GW_ret ?_ | refine GW_skip ?_ | refine GW_exit ?_ | refine GW_goto ?_ | refine GW_label ?_ | simp only [blockG_exit] | (refine GW_cond (by simp; rfl) ?_ ?_ <;> (intro hb; first | (exfalso; exact absurd hb (by decide)) | skip)))
    obtain ⟨⟨f0, f1, f2⟩, g0, g1, g2⟩ := hv.1 rfl
    have s0 := fun K => hop a0 b0 K f0 g0
    have s1 := fun K => hop a1 b1 K f1 g1
    have s2 := fun K => hop a2 b2 K f2 g2
    refine GW_rangeKL (G := G0) (f := 113) (rs := [296, 288]) (xs := xsV 3 (vf a0 a1 a2)) (caps := #[.pointer (some ⟨296, 0, none⟩)]) (m0 := []) [296, 288] G0F hC hC0 hY (by simp) ?_ (by simp [xsV]) (by simp [Tryd.ntmps82]) [(3, .pointer (some ⟨200, 0, none⟩)), (4, .pointer (some ⟨208, 0, none⟩)), (5, .pointer (some ⟨216, 0, none⟩)), (6, .pointer (some ⟨224, 0, none⟩)), (7, .int .i64 0)] [] (eaL g op a0 a1 a2 b0 b1 b2) 400 3 (by simp [xsV]) (by omega) (by simp) (by simp [dom]) ?_ (by simp) (by simp) (by simp [eaL]) ?_ (by simp) ?_ ?_
    · refine iterk_mv (m := pvL1 a0 a1 a2) (B := 200) (vparts1_itk a0 a1 a2) G0F ⟨by simp [pvL1], by simp [pvL1, keys], by simp [pvL1, ids_lit, idsF, ids0, keys]⟩ (fun k => if k = 100 then 296 else if k = 108 then 288 else k) (fun k hk => ?_) (by simp [ren0]) (by simp [pvL1, keys]) (by (intro k hk; first | rfl | (simp (disch := omega) only [addB, List.mem_cons, List.not_mem_nil, or_false, upd_other, hpL_cons, hpL_nil, if_neg, updL] <;> done))) ?_ ?_
      · rw [if_neg (by omega), if_neg (by omega)]
      · simp [pvL1, Blk.rn, renF, ren0]
      · simp [pvL1, keys]
    · intro k hk b hb
      simp only [List.mem_cons, List.not_mem_nil, or_false] at hk
      rcases hk with rfl | rfl
      · simp at hb; subst hb; simp [ids_lit, idsF, ids0]
      · simp at hb; subst hb; simp [ids_lit, idsF, ids0]
    · intro i hi
      simp [eaL, idsV, idsA, idsF, ids0, dom, ids_lit]
    · intro i x hi hx C1 l hC1 hh1 hY1
      rw [xsV_at _ _ _ (by omega)] at hx
      simp only [Option.some.injEq] at hx
      subst hx
      clear hC hY
      have hC := hC1
      have hY := hY1
      have : i = 0 ∨ i = 1 ∨ i = 2 := by omega
      rcases this with rfl | rfl | rfl
      all_goals
        simp only [vf]
        unfold eaL
      all_goals
        repeat' (first | refine GW_seq ?_ | simp only [List.length_cons, List.length_nil, Nat.reduceAdd, Nat.reduceMul, wN] | ((first | refine GW_region' [] (by kernel_rfl) ?_ | refine GW_draw' [] follows (by kernel_rfl) (by kernel_rfl) ?_); intro Q hQ hP; simp [hC, hY, roundTs]; (first | refine hQ _ _ _ _ ?_ | refine hQ _ _ _ _ (by kernel_rfl) ?_ | refine hP _ _ (fun _ => ?_) | refine hP _ _ (by kernel_rfl) (fun _ => ?_)); clear hQ hP Q) | refine GW_block ?_ | refine GW_ret ?_ | refine GW_skip ?_ | refine GW_exit ?_ | refine GW_goto ?_ | refine GW_label ?_ | simp only [blockG_exit] | (refine GW_cond (by simp; rfl) ?_ ?_ <;> (intro hb; first | (exfalso; exact absurd hb (by decide)) | skip)))
      all_goals
        intro C2 hC2 hh2 hY2
        clear hC hY
        have hC := hC2
        have hY := hY2
        repeat' (first | refine GW_seq ?_ | simp only [List.length_cons, List.length_nil, Nat.reduceAdd, Nat.reduceMul, wN] | ((first | refine GW_region' [] (by kernel_rfl) ?_ | refine GW_draw' [] follows (by kernel_rfl) (by kernel_rfl) ?_); intro Q hQ hP; simp [hC, hY, roundTs, s0, s1, s2]; (first | refine hQ _ _ _ _ ?_ | refine hQ _ _ _ _ (by kernel_rfl) ?_ | refine hP _ _ (fun _ => ?_) | refine hP _ _ (by kernel_rfl) (fun _ => ?_)); clear hQ hP Q) | refine GW_block ?_ | refine GW_ret ?_ | refine GW_skip ?_ | refine GW_exit ?_ | refine GW_goto ?_ | refine GW_label ?_ | simp only [blockG_exit] | (refine GW_cond (by simp; rfl) ?_ ?_ <;> (intro hb; first | (exfalso; exact absurd hb (by decide)) | skip)))
      all_goals simp
    · left
      refine ⟨by simp [xsV], ?_⟩
      obtain ⟨w, hw⟩ : ∃ w : Bool, w = true ↔ fnI (op a0 b0) ∧ fnI (op a1 b1) ∧ fnI (op a2 b2) := ⟨decide _, decide_eq_true_iff⟩
      cases w with
      | false =>
        have e : eaE op a0 a1 a2 b0 b1 b2 = 20 := by unfold eaE; rw [if_neg]; intro h; exact absurd (hw.2 h.2) (by simp)
        rw [e]
        unfold eaL
        repeat' (first | refine GW_seq ?_ | simp only [List.length_cons, List.length_nil, Nat.reduceAdd, Nat.reduceMul, wN] | ((first | refine GW_region' [112] (by kernel_rfl) ?_ | refine GW_draw' [112] follows (by kernel_rfl) (by kernel_rfl) ?_); intro Q hQ hP; simp [hC, hY, addB, List.cons_append, List.nil_append]; (repeat ((first | (refine heapK_mv (fine1_fun (op a0 b0) (op a1 b1) (op a2 b2) _ hw) G0F (B := 200) ⟨by simp, by simp [keys], by simp [ids_lit, idsF, ids0]⟩ (fun k => if k = 100 then 408 else k) (fun k hk => if_neg (by omega)) (by simp [ren, renA, renF, ren0]) (by simp) (by simp [Blk.rn, renF, ren0]) (by simp [keys]) (by simp [keys]; rfl) ?_)); try simp [hC, hY, addB, List.cons_append, List.nil_append])); (first | refine hQ _ _ _ _ ?_ | refine hQ _ _ _ _ (by kernel_rfl) ?_ | refine hP _ _ (fun _ => ?_) | refine hP _ _ (by kernel_rfl) (fun _ => ?_)); clear hQ hP Q) | refine GW_block ?_ | refine GW_ret ?_ | refine GW_skip ?_ | refine GW_exit ?_ | refine GW_goto ?_ | refine GW_label ?_ | simp only [blockG_exit] | (refine GW_cond (by simp; rfl) ?_ ?_ <;> (intro hb; first | (exfalso; exact absurd hb (by decide)) | skip)))
        refine ⟨.inr trivial, ?_⟩
        simp [Tryd.results82, eaV]
      | true =>
        have e : eaE op a0 a1 a2 b0 b1 b2 = 0 := by unfold eaE; rw [if_pos]; exact ⟨hv.1 rfl, hw.1 rfl⟩
        rw [e]
        unfold eaL
        repeat' (first | refine GW_seq ?_ | simp only [List.length_cons, List.length_nil, Nat.reduceAdd, Nat.reduceMul, wN] | ((first | refine GW_region' [112] (by kernel_rfl) ?_ | refine GW_draw' [112] follows (by kernel_rfl) (by kernel_rfl) ?_); intro Q hQ hP; simp [hC, hY, addB, List.cons_append, List.nil_append]; (repeat ((first | (refine heapK_mv (fine1_fun (op a0 b0) (op a1 b1) (op a2 b2) _ hw) G0F (B := 200) ⟨by simp, by simp [keys], by simp [ids_lit, idsF, ids0]⟩ (fun k => if k = 100 then 408 else k) (fun k hk => if_neg (by omega)) (by simp [ren, renA, renF, ren0]) (by simp) (by simp [Blk.rn, renF, ren0]) (by simp [keys]) (by simp [keys]; rfl) ?_)); try simp [hC, hY, addB, List.cons_append, List.nil_append])); (first | refine hQ _ _ _ _ ?_ | refine hQ _ _ _ _ (by kernel_rfl) ?_ | refine hP _ _ (fun _ => ?_) | refine hP _ _ (by kernel_rfl) (fun _ => ?_)); clear hQ hP Q) | refine GW_block ?_ | refine GW_ret ?_ | refine GW_skip ?_ | refine GW_exit ?_ | refine GW_goto ?_ | refine GW_label ?_ | simp only [blockG_exit] | (refine GW_cond (by simp; rfl) ?_ ?_ <;> (intro hb; first | (exfalso; exact absurd hb (by decide)) | skip)))
        refine ⟨.inr trivial, ?_⟩
        simp [Tryd.results82, eaV]
theorem veach (g : FuncId) (op : Int → Int → Int) (hop : ∀ x y K, fnI x → fnI y → (callK Tryd.prog G0 g #[.int .i64 x, .int .i64 y] K ↔ K (.int .i64 (op x y)))) (a0 a1 a2 b0 b1 b2 : Int) (K : Value → Prop) : callK Tryd.prog G0 82 #[.agg #[.int .i64 a0, .int .i64 a1, .int .i64 a2], .agg #[.int .i64 b0, .int .i64 b1, .int .i64 b2], .func (.func g) #[] #[]] K ↔
    K (.tuple #[.agg #[.int .i64 (eaV (eaE op a0 a1 a2 b0 b1 b2) (op a0 b0)), .int .i64 (eaV (eaE op a0 a1 a2 b0 b1 b2) (op a1 b1)), .int .i64 (eaV (eaE op a0 a1 a2 b0 b1 b2) (op a2 b2))], .int .i64 (eaE op a0 a1 a2 b0 b1 b2)]) := callK_iff G0W (by kernel_rfl) (each_ret g op hop a0 a1 a2 b0 b1 b2)
def addI (a b : Int) : Int := a + b
theorem add_ret (a0 a1 a2 b0 b1 b2 : Int) : Ret Tryd.prog G0 48 #[.agg #[.int .i64 a0, .int .i64 a1, .int .i64 a2], .agg #[.int .i64 b0, .int .i64 b1, .int .i64 b2]]
    (.tuple #[.agg #[.int .i64 (eaV (eaE addI a0 a1 a2 b0 b1 b2) (addI a0 b0)), .int .i64 (eaV (eaE addI a0 a1 a2 b0 b1 b2) (addI a1 b1)), .int .i64 (eaV (eaE addI a0 a1 a2 b0 b1 b2) (addI a2 b2))], .int .i64 (eaE addI a0 a1 a2 b0 b1 b2)]) := by
  refine ret_of G0F Tryd.func48 rfl Tryd.call48 (by simp) (by simp) (by simp [Tryd.ntmps48]) ?_
  intro C hC hC0 hY
  have he := fun K => veach 83 addI (fun x y K hx hy => by rw [vadd1, fn_bm hx hy]; rfl) a0 a1 a2 b0 b1 b2 K
  repeat' (first | refine GW_seq ?_ | simp only [List.length_cons, List.length_nil, Nat.reduceAdd, Nat.reduceMul, wN] | ((first | refine GW_region' [] (by kernel_rfl) ?_ | refine GW_draw' [] follows (by kernel_rfl) (by kernel_rfl) ?_); intro Q hQ hP; simp [hC, hY, he]; (first | refine hQ _ _ _ _ ?_ | refine hQ _ _ _ _ (by kernel_rfl) ?_ | refine hP _ _ (fun _ => ?_) | refine hP _ _ (by kernel_rfl) (fun _ => ?_)); clear hQ hP Q) | refine GW_block ?_ | refine GW_ret ?_ | refine GW_skip ?_ | refine GW_exit ?_ | refine GW_goto ?_ | refine GW_label ?_ | simp only [blockG_exit] | (refine GW_cond (by simp; rfl) ?_ ?_ <;> (intro hb; first | (exfalso; exact absurd hb (by decide)) | skip)))
  refine ⟨.inr trivial, ?_⟩
  simp [Tryd.results48]
@[simp] theorem vadd (a0 a1 a2 b0 b1 b2 : Int) (K : Value → Prop) : callK Tryd.prog G0 48 #[.agg #[.int .i64 a0, .int .i64 a1, .int .i64 a2], .agg #[.int .i64 b0, .int .i64 b1, .int .i64 b2]] K ↔
    K (.tuple #[.agg #[.int .i64 (eaV (eaE addI a0 a1 a2 b0 b1 b2) (addI a0 b0)), .int .i64 (eaV (eaE addI a0 a1 a2 b0 b1 b2) (addI a1 b1)), .int .i64 (eaV (eaE addI a0 a1 a2 b0 b1 b2) (addI a2 b2))], .int .i64 (eaE addI a0 a1 a2 b0 b1 b2)]) := callK_iff G0W (by kernel_rfl) (add_ret a0 a1 a2 b0 b1 b2)
end Go.Gy
namespace Go.Gy
set_option linter.unusedSimpArgs false
set_option linter.unusedVariables false
open Go Go.RowKit Go.Proofs
end Go.Gy
namespace Go.Gy
set_option linter.unusedSimpArgs false
set_option linter.unusedVariables false
open Go Go.RowKit Go.Proofs
end Go.Gy
namespace Go.Gy
set_option linter.unusedSimpArgs false
set_option linter.unusedVariables false
open Go Go.RowKit Go.Proofs
end Go.Gy
namespace Go.Gy
set_option linter.unusedSimpArgs false
set_option linter.unusedVariables false
open Go Go.RowKit Go.Proofs
/-- Whether it is a part. -/
def partB (n d : Int) : Bool := decide (-2097152 ≤ n ∧ n ≤ 2097152 ∧ 1 ≤ d ∧ d ≤ 2097152)
theorem part_max (n : Int) (hn : i64 n) {m : Int} (hm : (if n < Int.bmod (-n) 18446744073709551616 then Int.bmod (-n) 18446744073709551616 else n) = m) : (m ≤ 2097152 ∧ -2097152 ≤ n) ↔ (-2097152 ≤ n ∧ n ≤ 2097152) := by
  have h1 := hn.1
  have h2 := hn.2
  rw [Int.bmod_def] at hm
  by_cases e : n = -9223372036854775808
  · subst e; simp at hm; omega
  · have e2 : (if -n % ((18446744073709551616 : Nat) : Int) < (((18446744073709551616 : Nat) : Int) + 1) / 2 then -n % ((18446744073709551616 : Nat) : Int) else -n % ((18446744073709551616 : Nat) : Int) - ((18446744073709551616 : Nat) : Int)) = -n := by split <;> omega
    rw [e2] at hm
    split at hm <;> omega
theorem part_ret (n d : Int) (hn : i64 n) : Ret Tryd.prog G0 17 #[.int .i64 n, .int .i64 d] (.bool (partB n d)) := by
  refine ret_of G0F Tryd.func17 rfl Tryd.call17 rfl (by simp) (by simp [Tryd.ntmps17]) ?_
  intro C hC hC0 hY
  obtain ⟨m, hm⟩ : ∃ m, (if n < Int.bmod (-n) 18446744073709551616 then Int.bmod (-n) 18446744073709551616 else n) = m := ⟨_, rfl⟩
  have key := part_max n hn hm
  by_cases c0 : m ≤ 2097152
  · by_cases c1 : -2097152 ≤ n
    · have c4 := key.1 ⟨c0, c1⟩
      by_cases c2 : 0 < d
      · have ep : partB n d = decide (d ≤ 2097152) := by unfold partB; congr 1; simp only [eq_iff_iff]; omega
        rw [ep]
        repeat' (first | refine GW_seq ?_ | simp only [List.length_cons, List.length_nil, Nat.reduceAdd, Nat.reduceMul, wN] | ((first | refine GW_region' [] (by kernel_rfl) ?_ | refine GW_draw' [] follows (by kernel_rfl) (by kernel_rfl) ?_); intro Q hQ hP; simp [hC, hY, hm, c0, c1, c2]; (first | refine hQ _ _ _ _ ?_ | refine hQ _ _ _ _ (by kernel_rfl) ?_ | refine hP _ _ (fun _ => ?_) | refine hP _ _ (by kernel_rfl) (fun _ => ?_)); clear hQ hP Q) | refine GW_block ?_ | refine GW_ret ?_ | refine GW_skip ?_ | refine GW_exit ?_ | refine GW_goto ?_ | refine GW_label ?_ | simp only [blockG_exit] | (refine GW_cond (by simp; rfl) ?_ ?_ <;> (intro hb; first | (exfalso; exact absurd hb (by decide)) | skip)))
        refine ⟨.inr trivial, ?_⟩
        simp [Tryd.results17]
      · have ep : partB n d = false := by unfold partB; simp only [decide_eq_false_iff_not]; omega
        rw [ep]
        repeat' (first | refine GW_seq ?_ | simp only [List.length_cons, List.length_nil, Nat.reduceAdd, Nat.reduceMul, wN] | ((first | refine GW_region' [] (by kernel_rfl) ?_ | refine GW_draw' [] follows (by kernel_rfl) (by kernel_rfl) ?_); intro Q hQ hP; simp [hC, hY, hm, c0, c1, c2]; (first | refine hQ _ _ _ _ ?_ | refine hQ _ _ _ _ (by kernel_rfl) ?_ | refine hP _ _ (fun _ => ?_) | refine hP _ _ (by kernel_rfl) (fun _ => ?_)); clear hQ hP Q) | refine GW_block ?_ | refine GW_ret ?_ | refine GW_skip ?_ | refine GW_exit ?_ | refine GW_goto ?_ | refine GW_label ?_ | simp only [blockG_exit] | (refine GW_cond (by simp; rfl) ?_ ?_ <;> (intro hb; first | (exfalso; exact absurd hb (by decide)) | skip)))
        refine ⟨.inr trivial, ?_⟩
        simp [Tryd.results17]
    · have ep : partB n d = false := by unfold partB; simp only [decide_eq_false_iff_not]; omega
      rw [ep]
      repeat' (first | refine GW_seq ?_ | simp only [List.length_cons, List.length_nil, Nat.reduceAdd, Nat.reduceMul, wN] | ((first | refine GW_region' [] (by kernel_rfl) ?_ | refine GW_draw' [] follows (by kernel_rfl) (by kernel_rfl) ?_); intro Q hQ hP; simp [hC, hY, hm, c0, c1]; (first | refine hQ _ _ _ _ ?_ | refine hQ _ _ _ _ (by kernel_rfl) ?_ | refine hP _ _ (fun _ => ?_) | refine hP _ _ (by kernel_rfl) (fun _ => ?_)); clear hQ hP Q) | refine GW_block ?_ | refine GW_ret ?_ | refine GW_skip ?_ | refine GW_exit ?_ | refine GW_goto ?_ | refine GW_label ?_ | simp only [blockG_exit] | (refine GW_cond (by simp; rfl) ?_ ?_ <;> (intro hb; first | (exfalso; exact absurd hb (by decide)) | skip)))
      refine ⟨.inr trivial, ?_⟩
      simp [Tryd.results17]
  · have ep : partB n d = false := by unfold partB; simp only [decide_eq_false_iff_not]; omega
    rw [ep]
    repeat' (first | refine GW_seq ?_ | simp only [List.length_cons, List.length_nil, Nat.reduceAdd, Nat.reduceMul, wN] | ((first | refine GW_region' [] (by kernel_rfl) ?_ | refine GW_draw' [] follows (by kernel_rfl) (by kernel_rfl) ?_); intro Q hQ hP; simp [hC, hY, hm, c0]; (first | refine hQ _ _ _ _ ?_ | refine hQ _ _ _ _ (by kernel_rfl) ?_ | refine hP _ _ (fun _ => ?_) | refine hP _ _ (by kernel_rfl) (fun _ => ?_)); clear hQ hP Q) | refine GW_block ?_ | refine GW_ret ?_ | refine GW_skip ?_ | refine GW_exit ?_ | refine GW_goto ?_ | refine GW_label ?_ | simp only [blockG_exit] | (refine GW_cond (by simp; rfl) ?_ ?_ <;> (intro hb; first | (exfalso; exact absurd hb (by decide)) | skip)))
    refine ⟨.inr trivial, ?_⟩
    simp [Tryd.results17]
@[simp] theorem dpart (n d : Int) (hn : i64 n) (K : Value → Prop) : callK Tryd.prog G0 17 #[.int .i64 n, .int .i64 d] K ↔ K (.bool (partB n d)) := callK_iff G0W (by kernel_rfl) (part_ret n d hn)
theorem part15_ret (n d : Int) : Ret Tryd.prog G0 18 #[.int .i64 n, .int .i64 d] (.bool (partB n d)) := by
  refine ret_of G0F Tryd.func18 rfl Tryd.call18 rfl (by simp) (by simp [Tryd.ntmps18]) ?_
  intro C hC hC0 hY
  by_cases c0 : -2097152 ≤ n
  · by_cases c1 : n ≤ 2097152
    · by_cases c2 : 1 ≤ d
      · have ep : partB n d = decide (d ≤ 2097152) := by unfold partB; congr 1; simp only [eq_iff_iff]; omega
        rw [ep]
        repeat' (first | refine GW_seq ?_ | simp only [List.length_cons, List.length_nil, Nat.reduceAdd, Nat.reduceMul, wN] | ((first | refine GW_region' [] (by kernel_rfl) ?_ | refine GW_draw' [] follows (by kernel_rfl) (by kernel_rfl) ?_); intro Q hQ hP; simp [hC, hY, c0, c1, c2]; (first | refine hQ _ _ _ _ ?_ | refine hQ _ _ _ _ (by kernel_rfl) ?_ | refine hP _ _ (fun _ => ?_) | refine hP _ _ (by kernel_rfl) (fun _ => ?_)); clear hQ hP Q) | refine GW_block ?_ | refine GW_ret ?_ | refine GW_skip ?_ | refine GW_exit ?_ | refine GW_goto ?_ | refine GW_label ?_ | simp only [blockG_exit] | (refine GW_cond (by simp; rfl) ?_ ?_ <;> (intro hb; first | (exfalso; exact absurd hb (by decide)) | skip)))
        refine ⟨.inr trivial, ?_⟩
        simp [Tryd.results18]
      · have ep : partB n d = false := by unfold partB; simp only [decide_eq_false_iff_not]; omega
        rw [ep]
        repeat' (first | refine GW_seq ?_ | simp only [List.length_cons, List.length_nil, Nat.reduceAdd, Nat.reduceMul, wN] | ((first | refine GW_region' [] (by kernel_rfl) ?_ | refine GW_draw' [] follows (by kernel_rfl) (by kernel_rfl) ?_); intro Q hQ hP; simp [hC, hY, c0, c1, c2]; (first | refine hQ _ _ _ _ ?_ | refine hQ _ _ _ _ (by kernel_rfl) ?_ | refine hP _ _ (fun _ => ?_) | refine hP _ _ (by kernel_rfl) (fun _ => ?_)); clear hQ hP Q) | refine GW_block ?_ | refine GW_ret ?_ | refine GW_skip ?_ | refine GW_exit ?_ | refine GW_goto ?_ | refine GW_label ?_ | simp only [blockG_exit] | (refine GW_cond (by simp; rfl) ?_ ?_ <;> (intro hb; first | (exfalso; exact absurd hb (by decide)) | skip)))
        refine ⟨.inr trivial, ?_⟩
        simp [Tryd.results18]
    · have ep : partB n d = false := by unfold partB; simp only [decide_eq_false_iff_not]; omega
      rw [ep]
      repeat' (first | refine GW_seq ?_ | simp only [List.length_cons, List.length_nil, Nat.reduceAdd, Nat.reduceMul, wN] | ((first | refine GW_region' [] (by kernel_rfl) ?_ | refine GW_draw' [] follows (by kernel_rfl) (by kernel_rfl) ?_); intro Q hQ hP; simp [hC, hY, c0, c1]; (first | refine hQ _ _ _ _ ?_ | refine hQ _ _ _ _ (by kernel_rfl) ?_ | refine hP _ _ (fun _ => ?_) | refine hP _ _ (by kernel_rfl) (fun _ => ?_)); clear hQ hP Q) | refine GW_block ?_ | refine GW_ret ?_ | refine GW_skip ?_ | refine GW_exit ?_ | refine GW_goto ?_ | refine GW_label ?_ | simp only [blockG_exit] | (refine GW_cond (by simp; rfl) ?_ ?_ <;> (intro hb; first | (exfalso; exact absurd hb (by decide)) | skip)))
      refine ⟨.inr trivial, ?_⟩
      simp [Tryd.results18]
  · have ep : partB n d = false := by unfold partB; simp only [decide_eq_false_iff_not]; omega
    rw [ep]
    repeat' (first | refine GW_seq ?_ | simp only [List.length_cons, List.length_nil, Nat.reduceAdd, Nat.reduceMul, wN] | ((first | refine GW_region' [] (by kernel_rfl) ?_ | refine GW_draw' [] follows (by kernel_rfl) (by kernel_rfl) ?_); intro Q hQ hP; simp [hC, hY, c0]; (first | refine hQ _ _ _ _ ?_ | refine hQ _ _ _ _ (by kernel_rfl) ?_ | refine hP _ _ (fun _ => ?_) | refine hP _ _ (by kernel_rfl) (fun _ => ?_)); clear hQ hP Q) | refine GW_block ?_ | refine GW_ret ?_ | refine GW_skip ?_ | refine GW_exit ?_ | refine GW_goto ?_ | refine GW_label ?_ | simp only [blockG_exit] | (refine GW_cond (by simp; rfl) ?_ ?_ <;> (intro hb; first | (exfalso; exact absurd hb (by decide)) | skip)))
    refine ⟨.inr trivial, ?_⟩
    simp [Tryd.results18]
@[simp] theorem dpart15 (n d : Int) (K : Value → Prop) : callK Tryd.prog G0 18 #[.int .i64 n, .int .i64 d] K ↔ K (.bool (partB n d)) := callK_iff G0W (by kernel_rfl) (part15_ret n d)
/-- One's error, and what it tells. -/
def d1E (v n d : Int) : Int := if partB n d = true ∧ -1073741824 ≤ v ∧ v ≤ 1073741824 then 0 else 2
def d1V (v n d : Int) : Int := if partB n d = true ∧ -1073741824 ≤ v ∧ v ≤ 1073741824 then nearQ (v * n) d else 0
theorem partB_t {n d : Int} (h : partB n d = true) : -2097152 ≤ n ∧ n ≤ 2097152 ∧ 1 ≤ d ∧ d ≤ 2097152 := by unfold partB at h; exact of_decide_eq_true h
theorem abs_mul {a b p q : Int} (h1 : -p ≤ a) (h2 : a ≤ p) (h3 : -q ≤ b) (h4 : b ≤ q) : -(p * q) ≤ a * b ∧ a * b ≤ p * q := by
  have hp : 0 ≤ p := by omega
  have hq : 0 ≤ q := by omega
  have e1 : 0 ≤ (p - a) * (q + b) := Int.mul_nonneg (by omega) (by omega)
  have e2 : 0 ≤ (p + a) * (q - b) := Int.mul_nonneg (by omega) (by omega)
  have e3 : 0 ≤ (p - a) * (q - b) := Int.mul_nonneg (by omega) (by omega)
  have e4 : 0 ≤ (p + a) * (q + b) := Int.mul_nonneg (by omega) (by omega)
  simp only [Int.sub_mul, Int.add_mul, Int.mul_sub, Int.mul_add] at e1 e2 e3 e4
  generalize p * q = u at *
  generalize a * b = w at *
  generalize p * b = x at *
  generalize a * q = y at *
  omega
theorem d1_bd {v n d : Int} (h : partB n d = true) (h1 : -1073741824 ≤ v) (h2 : v ≤ 1073741824) : (-2251799813685248 ≤ v * n ∧ v * n ≤ 2251799813685248) ∧ (-2251799813685248 ≤ nearQ (v * n) d ∧ nearQ (v * n) d ≤ 2251799813685248) := by
  obtain ⟨p1, p2, p3, p4⟩ := partB_t h
  have hm := abs_mul (p := 1073741824) (q := 2097152) h1 h2 p1 p2
  exact ⟨hm, nearQ_bd (by omega) hm.1 hm.2 (by decide)⟩
theorem i64_of {z : Int} (h : -2251799813685248 ≤ z ∧ z ≤ 2251799813685248) : i64 z := ⟨by omega, by omega⟩
theorem sm_of {z : Int} (h : -2251799813685248 ≤ z ∧ z ≤ 2251799813685248) : sm z := (i64_of h).sm
theorem d1_ret (v n d : Int) (hv : i64 v) (hn : i64 n) (hd : i64 d) : Ret Tryd.prog G0 13 #[.int .i64 v, .int .i64 n, .int .i64 d] (.tuple #[.int .i64 (d1V v n d), .int .i64 (d1E v n d)]) := by
  refine ret_of G0F Tryd.func13 rfl Tryd.call13 (by simp) (by simp) (by simp [Tryd.ntmps13]) ?_
  intro C hC hC0 hY
  cases hp : partB n d with
  | false =>
    have e1 : d1E v n d = 2 := by unfold d1E; rw [if_neg (by simp [hp])]
    have e2 : d1V v n d = 0 := by unfold d1V; rw [if_neg (by simp [hp])]
    rw [e1, e2]
    repeat' (first | refine GW_seq ?_ | simp only [List.length_cons, List.length_nil, Nat.reduceAdd, Nat.reduceMul, wN] | ((first | refine GW_region' [] (by kernel_rfl) ?_ | refine GW_draw' [] follows (by kernel_rfl) (by kernel_rfl) ?_); intro Q hQ hP; simp [hC, hY, hn, hp]; (first | refine hQ _ _ _ _ ?_ | refine hQ _ _ _ _ (by kernel_rfl) ?_ | refine hP _ _ (fun _ => ?_) | refine hP _ _ (by kernel_rfl) (fun _ => ?_)); clear hQ hP Q) | refine GW_block ?_ | refine GW_ret ?_ | refine GW_skip ?_ | refine GW_exit ?_ | refine GW_goto ?_ | refine GW_label ?_ | simp only [blockG_exit] | (refine GW_cond (by simp; rfl) ?_ ?_ <;> (intro hb; first | (exfalso; exact absurd hb (by decide)) | skip)))
    refine ⟨.inr trivial, ?_⟩
    simp [Tryd.results13]
  | true =>
    by_cases c1 : v < -1073741824
    · have e1 : d1E v n d = 2 := by unfold d1E; rw [if_neg (by omega)]
      have e2 : d1V v n d = 0 := by unfold d1V; rw [if_neg (by omega)]
      rw [e1, e2]
      repeat' (first | refine GW_seq ?_ | simp only [List.length_cons, List.length_nil, Nat.reduceAdd, Nat.reduceMul, wN] | ((first | refine GW_region' [] (by kernel_rfl) ?_ | refine GW_draw' [] follows (by kernel_rfl) (by kernel_rfl) ?_); intro Q hQ hP; simp [hC, hY, hn, hp, c1]; (first | refine hQ _ _ _ _ ?_ | refine hQ _ _ _ _ (by kernel_rfl) ?_ | refine hP _ _ (fun _ => ?_) | refine hP _ _ (by kernel_rfl) (fun _ => ?_)); clear hQ hP Q) | refine GW_block ?_ | refine GW_ret ?_ | refine GW_skip ?_ | refine GW_exit ?_ | refine GW_goto ?_ | refine GW_label ?_ | simp only [blockG_exit] | (refine GW_cond (by simp; rfl) ?_ ?_ <;> (intro hb; first | (exfalso; exact absurd hb (by decide)) | skip)))
      refine ⟨.inr trivial, ?_⟩
      simp [Tryd.results13]
    · by_cases c2 : 1073741824 < v
      · have e1 : d1E v n d = 2 := by unfold d1E; rw [if_neg (by omega)]
        have e2 : d1V v n d = 0 := by unfold d1V; rw [if_neg (by omega)]
        rw [e1, e2]
        repeat' (first | refine GW_seq ?_ | simp only [List.length_cons, List.length_nil, Nat.reduceAdd, Nat.reduceMul, wN] | ((first | refine GW_region' [] (by kernel_rfl) ?_ | refine GW_draw' [] follows (by kernel_rfl) (by kernel_rfl) ?_); intro Q hQ hP; simp [hC, hY, hn, hp, c1, c2]; (first | refine hQ _ _ _ _ ?_ | refine hQ _ _ _ _ (by kernel_rfl) ?_ | refine hP _ _ (fun _ => ?_) | refine hP _ _ (by kernel_rfl) (fun _ => ?_)); clear hQ hP Q) | refine GW_block ?_ | refine GW_ret ?_ | refine GW_skip ?_ | refine GW_exit ?_ | refine GW_goto ?_ | refine GW_label ?_ | simp only [blockG_exit] | (refine GW_cond (by simp; rfl) ?_ ?_ <;> (intro hb; first | (exfalso; exact absurd hb (by decide)) | skip)))
        refine ⟨.inr trivial, ?_⟩
        simp [Tryd.results13]
      · have e1 : d1E v n d = 0 := by unfold d1E; rw [if_pos ⟨hp, by omega, by omega⟩]
        have e2 : d1V v n d = nearQ (v * n) d := by unfold d1V; rw [if_pos ⟨hp, by omega, by omega⟩]
        rw [e1, e2]
        have b := d1_bd (v := v) hp (by omega) (by omega)
        have s1 := sm_of b.1
        have s2 := i64_of b.2
        have d0 : 0 < d := by have := partB_t hp; omega
        repeat' (first | refine GW_seq ?_ | simp only [List.length_cons, List.length_nil, Nat.reduceAdd, Nat.reduceMul, wN] | ((first | refine GW_region' [] (by kernel_rfl) ?_ | refine GW_draw' [] follows (by kernel_rfl) (by kernel_rfl) ?_); intro Q hQ hP; simp [hC, hY, hn, hv, hd, hp, c1, c2, s1, s2, d0]; (first | refine hQ _ _ _ _ ?_ | refine hQ _ _ _ _ (by kernel_rfl) ?_ | refine hP _ _ (fun _ => ?_) | refine hP _ _ (by kernel_rfl) (fun _ => ?_)); clear hQ hP Q) | refine GW_block ?_ | refine GW_ret ?_ | refine GW_skip ?_ | refine GW_exit ?_ | refine GW_goto ?_ | refine GW_label ?_ | simp only [blockG_exit] | (refine GW_cond (by simp; rfl) ?_ ?_ <;> (intro hb; first | (exfalso; exact absurd hb (by decide)) | skip)))
        refine ⟨.inr trivial, ?_⟩
        simp [Tryd.results13]
@[simp] theorem d1c (v n d : Int) (hv : i64 v) (hn : i64 n) (hd : i64 d) (K : Value → Prop) : callK Tryd.prog G0 13 #[.int .i64 v, .int .i64 n, .int .i64 d] K ↔ K (.tuple #[.int .i64 (d1V v n d), .int .i64 (d1E v n d)]) := callK_iff G0W (by kernel_rfl) (d1_ret v n d hv hn hd)
end Go.Gy
namespace Go.Gy
set_option linter.unusedSimpArgs false
set_option linter.unusedVariables false
open Go Go.RowKit Go.Proofs
def wyE (v0 v1 v2 n d : Int) : Int := if d1E v0 n d = 0 then (if d1E v1 n d = 0 then d1E v2 n d else d1E v1 n d) else d1E v0 n d
theorem d1E_or (v n d : Int) : d1E v n d = 0 ∨ d1E v n d = 2 := by unfold d1E; split <;> simp
theorem wyE_0 {v0 v1 v2 n d : Int} (h0 : d1E v0 n d = 2) : wyE v0 v1 v2 n d = 2 := by unfold wyE; rw [if_neg (by omega)]; exact h0
theorem wyE_1 {v0 v1 v2 n d : Int} (h0 : d1E v0 n d = 0) (h1 : d1E v1 n d = 2) : wyE v0 v1 v2 n d = 2 := by unfold wyE; rw [if_pos h0, if_neg (by omega)]; exact h1
theorem wyE_2 {v0 v1 v2 n d : Int} (h0 : d1E v0 n d = 0) (h1 : d1E v1 n d = 0) : wyE v0 v1 v2 n d = d1E v2 n d := by unfold wyE; rw [if_pos h0, if_pos h1]
set_option maxRecDepth 8000 in
theorem way_ret (v0 v1 v2 n d : Int) (h0 : i64 v0) (h1 : i64 v1) (h2 : i64 v2) (hn : i64 n) (hd : i64 d) : Ret Tryd.prog G0 15 #[.agg #[.int .i64 v0, .int .i64 v1, .int .i64 v2], .int .i64 n, .int .i64 d]
    (.tuple #[.agg #[.int .i64 (eaV (wyE v0 v1 v2 n d) (d1V v0 n d)), .int .i64 (eaV (wyE v0 v1 v2 n d) (d1V v1 n d)), .int .i64 (eaV (wyE v0 v1 v2 n d) (d1V v2 n d))], .int .i64 (wyE v0 v1 v2 n d)]) := by
  refine ret_of G0F Tryd.func15 rfl Tryd.call15 (by simp) (by simp) (by simp [Tryd.ntmps15]) ?_
  intro C hC hC0 hY
  rcases d1E_or v0 n d with c0 | c0
  · rcases d1E_or v1 n d with c1 | c1
    · rcases d1E_or v2 n d with c2 | c2
      · have e := wyE_2 (v2 := v2) c0 c1
        rw [e, c2]
        repeat' (first | refine GW_seq ?_ | refine GWL_start ?_ | refine GWL_step ?_ | simp only [List.length_cons, List.length_nil, Nat.reduceAdd, Nat.reduceMul, wN] | ((first | refine GW_region' [] (by kernel_rfl) ?_ | refine GW_draw' [] follows (by kernel_rfl) (by kernel_rfl) ?_); intro Q hQ hP; simp [hC, hY, h0, h1, h2, hn, hd, c0, c1, c2]; (first | refine hQ _ _ _ _ ?_ | refine hQ _ _ _ _ (by kernel_rfl) ?_ | refine hP _ _ (fun _ => ?_) | refine hP _ _ (by kernel_rfl) (fun _ => ?_)); clear hQ hP Q) | refine GW_block ?_ | refine GW_ret ?_ | refine GW_skip ?_ | refine GW_exit ?_ | refine GW_goto ?_ | refine GW_label ?_ | simp only [blockG_exit] | (refine GW_cond (by simp; rfl) ?_ ?_ <;> (intro hb; first | (exfalso; exact absurd hb (by decide)) | skip)))
        refine ⟨.inr trivial, ?_⟩
        simp [Tryd.results15, eaV]
      · have e := wyE_2 (v2 := v2) c0 c1
        rw [e, c2]
        repeat' (first | refine GW_seq ?_ | refine GWL_start ?_ | refine GWL_step ?_ | simp only [List.length_cons, List.length_nil, Nat.reduceAdd, Nat.reduceMul, wN] | ((first | refine GW_region' [] (by kernel_rfl) ?_ | refine GW_draw' [] follows (by kernel_rfl) (by kernel_rfl) ?_); intro Q hQ hP; simp [hC, hY, h0, h1, h2, hn, hd, c0, c1, c2]; (first | refine hQ _ _ _ _ ?_ | refine hQ _ _ _ _ (by kernel_rfl) ?_ | refine hP _ _ (fun _ => ?_) | refine hP _ _ (by kernel_rfl) (fun _ => ?_)); clear hQ hP Q) | refine GW_block ?_ | refine GW_ret ?_ | refine GW_skip ?_ | refine GW_exit ?_ | refine GW_goto ?_ | refine GW_label ?_ | simp only [blockG_exit] | (refine GW_cond (by simp; rfl) ?_ ?_ <;> (intro hb; first | (exfalso; exact absurd hb (by decide)) | skip)))
        refine ⟨.inr trivial, ?_⟩
        simp [Tryd.results15, eaV]
    · have e := wyE_1 (v2 := v2) c0 c1
      rw [e]
      repeat' (first | refine GW_seq ?_ | refine GWL_start ?_ | refine GWL_step ?_ | simp only [List.length_cons, List.length_nil, Nat.reduceAdd, Nat.reduceMul, wN] | ((first | refine GW_region' [] (by kernel_rfl) ?_ | refine GW_draw' [] follows (by kernel_rfl) (by kernel_rfl) ?_); intro Q hQ hP; simp [hC, hY, h0, h1, h2, hn, hd, c0, c1]; (first | refine hQ _ _ _ _ ?_ | refine hQ _ _ _ _ (by kernel_rfl) ?_ | refine hP _ _ (fun _ => ?_) | refine hP _ _ (by kernel_rfl) (fun _ => ?_)); clear hQ hP Q) | refine GW_block ?_ | refine GW_ret ?_ | refine GW_skip ?_ | refine GW_exit ?_ | refine GW_goto ?_ | refine GW_label ?_ | simp only [blockG_exit] | (refine GW_cond (by simp; rfl) ?_ ?_ <;> (intro hb; first | (exfalso; exact absurd hb (by decide)) | skip)))
      refine ⟨.inr trivial, ?_⟩
      simp [Tryd.results15, eaV]
  · have e := wyE_0 (v1 := v1) (v2 := v2) c0
    rw [e]
    repeat' (first | refine GW_seq ?_ | refine GWL_start ?_ | refine GWL_step ?_ | simp only [List.length_cons, List.length_nil, Nat.reduceAdd, Nat.reduceMul, wN] | ((first | refine GW_region' [] (by kernel_rfl) ?_ | refine GW_draw' [] follows (by kernel_rfl) (by kernel_rfl) ?_); intro Q hQ hP; simp [hC, hY, h0, h1, h2, hn, hd, c0]; (first | refine hQ _ _ _ _ ?_ | refine hQ _ _ _ _ (by kernel_rfl) ?_ | refine hP _ _ (fun _ => ?_) | refine hP _ _ (by kernel_rfl) (fun _ => ?_)); clear hQ hP Q) | refine GW_block ?_ | refine GW_ret ?_ | refine GW_skip ?_ | refine GW_exit ?_ | refine GW_goto ?_ | refine GW_label ?_ | simp only [blockG_exit] | (refine GW_cond (by simp; rfl) ?_ ?_ <;> (intro hb; first | (exfalso; exact absurd hb (by decide)) | skip)))
    refine ⟨.inr trivial, ?_⟩
    simp [Tryd.results15, eaV]
@[simp] theorem dway (v0 v1 v2 n d : Int) (h0 : i64 v0) (h1 : i64 v1) (h2 : i64 v2) (hn : i64 n) (hd : i64 d) (K : Value → Prop) : callK Tryd.prog G0 15 #[.agg #[.int .i64 v0, .int .i64 v1, .int .i64 v2], .int .i64 n, .int .i64 d] K ↔
    K (.tuple #[.agg #[.int .i64 (eaV (wyE v0 v1 v2 n d) (d1V v0 n d)), .int .i64 (eaV (wyE v0 v1 v2 n d) (d1V v1 n d)), .int .i64 (eaV (wyE v0 v1 v2 n d) (d1V v2 n d))], .int .i64 (wyE v0 v1 v2 n d)]) := callK_iff G0W (by kernel_rfl) (way_ret v0 v1 v2 n d h0 h1 h2 hn hd)
/-- drift.ways's first closure. -/
theorem dw1_fun (v0 v1 v2 n d : Int) (h0 : i64 v0) (h1 : i64 v1) (h2 : i64 v2) (hn : i64 n) (hd : i64 d) : Fun Tryd.prog G0 79 #[.agg #[.int .i64 v0, .int .i64 v1, .int .i64 v2], .pointer (some ⟨100, 0, none⟩), .pointer (some ⟨108, 0, none⟩)] (hpL G0 [(100, jb n), (108, jb d)]) (keys [(100, jb n), (108, jb d)])
    (.ret (.agg #[.int .i64 (eaV (wyE v0 v1 v2 n d) (d1V v0 n d)), .int .i64 (eaV (wyE v0 v1 v2 n d) (d1V v1 n d)), .int .i64 (eaV (wyE v0 v1 v2 n d) (d1V v2 n d))]) []) := by
  refine fun_ofL (B := 200) G0F Tryd.func79 rfl Tryd.call79 ⟨by simp, by simp [keys], by simp [jb, ids_lit, idsF, ids0]⟩ ?_ (by simp) (by simp) (by simp) (by simp [Tryd.ntmps79]) (by omega) ?_
  · simp [idsV, idsA, idsF, ids0, keys]
  intro C hC hC0 hY
  repeat' (first | refine GW_seq ?_ | simp only [List.length_cons, List.length_nil, Nat.reduceAdd, Nat.reduceMul, wN] | ((first | refine GW_region' [] (by kernel_rfl) ?_ | refine GW_draw' [] follows (by kernel_rfl) (by kernel_rfl) ?_); intro Q hQ hP; simp [hC, hY, jb, h0, h1, h2, hn, hd]; (first | refine hQ _ _ _ _ ?_ | refine hQ _ _ _ _ (by kernel_rfl) ?_ | refine hP _ _ (fun _ => ?_) | refine hP _ _ (by kernel_rfl) (fun _ => ?_)); clear hQ hP Q) | refine GW_block ?_ | refine GW_ret ?_ | refine GW_skip ?_ | refine GW_exit ?_ | refine GW_goto ?_ | refine GW_label ?_ | simp only [blockG_exit] | (refine GW_cond (by simp; rfl) ?_ ?_ <;> (intro hb; first | (exfalso; exact absurd hb (by decide)) | skip)))
  refine ⟨.inr rfl, by simp [Tryd.results79], keep_of G0F (by simp [jb]) (by (intro k hk; first | rfl | (simp (disch := omega) only [addB, List.mem_cons, List.not_mem_nil, or_false, upd_other, hpL_cons, hpL_nil, if_neg, updL] <;> done)))⟩
end Go.Gy
