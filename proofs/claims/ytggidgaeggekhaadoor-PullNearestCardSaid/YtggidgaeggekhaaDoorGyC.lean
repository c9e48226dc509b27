/-
  The ghost layer, part C: an activation by ghost names; regions, and what code does.
  Conditions: none beyond the hypotheses of each theorem.
-/
import Derived.Test.YtggidgaeggekhaaDoorGyB
import Derived.RegionTactic
namespace Go.Gy
open Go Go.RowKit

/-- What is said of the world outside: S holds the places that it speaks of. -/
structure Ext where
  X : Nat → (Nat → Prop) → World → Prop
  ok : ∀ c S W W', X c S W → (∀ k, S k → W'.heap[k]? = W.heap[k]?) → W'.os = W.os → W'.tape = W.tape → W'.output = W.output → W.heap.size ≤ W'.heap.size → X c S W'

/-- The function that a loop hands an iterator: its loop's record; what is to come; which round says 'no more'. -/
structure YG where
  l : Nat
  xs : List (Array Value)
  stop : Nat
  pn : Option Value
/-- The mark of an activation that ranges over no function: no yield is ever asked. -/
def YG.still : YG := ⟨0, [], 0, none⟩
/-- Does round c panic? -/
def YG.pan (y : YG) (c : Nat) : Option Value := if c = y.stop then y.pn else none

/-- Where an activation began: the blocks that it was handed, their places; the package's variables; the world outside. -/
structure Ctx where
  E : Ext
  hp0 : Hp
  r0 : Nat → Nat
  G : Hp
  Y : Option YG

/-- The package's variables hold what the program's text lays. -/
def GOK (G : Hp) (W : World) : Prop := ∀ k b, G k = some b → W.heap[k]? = some (.cells b.c b.T (0, 0))

/-- A round, asked by an iterator. -/
def Rounds (P : Program) (G : Hp) (E : Ext) (y : YG) : Prop :=
  ∀ c x S W, GOK G W → y.xs[c]? = some x → c ≤ y.stop → E.X c S W → (∀ k, S k → k < W.heap.size) →
    YieldAt (Fs P) 0 P y.l x W fun e W' => (match y.pan c with | none => e = .returned (.bool (c != y.stop)) | some pv => e = .panicked [{ v := pv, recovered := false }]) ∧ GOK G W' ∧ W.heap.size ≤ W'.heap.size ∧ (∀ k, k < W.heap.size → ¬ S k → W'.heap[k]? = W.heap[k]?) ∧
      ∃ S', E.X (c + 1) S' W' ∧ (∀ k, S' k → k < W'.heap.size) ∧ ∀ k, S' k → k < W.heap.size → S k

def mark (D : Nat) : Deferred := { target := .collected D, args := #[] }

structure RI (C : Ctx) (n : Nat) (d : List Deferred) (r : Nat → Nat) (ts : Nat → Value) (hp : Hp) (yc : Nat) (a : Act) (W : World) : Prop where
  size : a.tmps.size = n
  rel : Rel r (dom hp) ts a
  sat : Sat r (dom hp) hp W
  inj : Inj r (dom hp)
  ext : ∃ (S : Nat → Prop) (ms : List Nat), C.E.X yc S W ∧ (∀ k, S k → k < W.heap.size) ∧ (∀ i, dom hp i → 100 ≤ i → ¬ S (r i)) ∧ (a.defers = ms.map mark ++ d ∧ ms.Nodup) ∧ ∀ D ∈ ms, W.heap[D]? = some (.deferred (some [])) ∧ ¬ S D ∧ C.Y ≠ some .still
  keep : ∀ i, dom C.hp0 i → dom hp i ∧ r i = C.r0 i
  glob : ∀ k, k < 100 → hp k = C.G k
  low : ∀ k, k < 100 → dom hp k → r k = k

section
variable {P : Program} {C : Ctx} {n : Nat} {d : List Deferred} {r : Nat → Nat} {ts : Nat → Value} {hp : Hp} {yc : Nat} {a : Act} {W : World}

theorem RI.lt (h : RI C n d r ts hp yc a W) {k : Nat} (hk : dom hp k) : r k < W.heap.size := by
  unfold dom at hk
  cases hb : hp k with
  | none => exact absurd hb hk
  | some b => exact (Array.getElem?_eq_some_iff.1 (h.sat k b hb).1).1

/-- No block of cells lies where a mark's block does. -/
theorem RI.ne_mark (h : RI C n d r ts hp yc a W) {k D : Nat} (hk : dom hp k) (hD : W.heap[D]? = some (.deferred (some []))) : r k ≠ D := fun e => by
  unfold dom at hk
  cases hb : hp k with
  | none => exact absurd hb hk
  | some b => have := (h.sat k b hb).1; rw [e, hD] at this; cases this

/-- The world turns elsewhere. -/
theorem RI.elsewhere (h : RI C n d r ts hp yc a W) {W' : World} (os : W'.os = W.os) (tape : W'.tape = W.tape) (output : W'.output = W.output) (size : W.heap.size ≤ W'.heap.size)
    (hs : ∀ k, k < W.heap.size → W'.heap[k]? = W.heap[k]?) : RI C n d r ts hp yc a W' :=
  { h with
    sat := fun k b hk => by
      have := h.sat k b hk
      exact ⟨(hs _ (h.lt (by unfold dom; rw [hk]; simp))).trans this.1, this.2⟩
    ext := by
      obtain ⟨S, ms, h1, h2, h3, h4, h5⟩ := h.ext
      exact ⟨S, ms, C.E.ok _ _ _ _ h1 (fun k hk => hs k (h2 k hk)) os tape output size, fun k hk => Nat.lt_of_lt_of_le (h2 k hk) size, h3, h4, fun D hD => ⟨by rw [hs D (Array.getElem?_eq_some_iff.1 (h5 D hD).1).1]; exact (h5 D hD).1, (h5 D hD).2⟩⟩ }

theorem RI.drew (h : RI C n d r ts hp yc a W) : RI C n d r ts hp yc a { W with drawn := W.drawn + 1 } :=
  h.elsewhere rfl rfl rfl (Nat.le_refl _) fun _ _ => rfl

theorem RI.below (h : RI C n d r ts hp yc a W) {W' : World} (hb : Below W.heap.size W W') : RI C n d r ts hp yc a W' :=
  h.elsewhere hb.os hb.tape hb.output hb.size hb.block

/-- Fewer things are said of an activation's frame. -/
theorem RI.weaken (h : RI C n d r ts hp yc a W) {ts' : Nat → Value} (ht : ∀ t, ts' t = junk ∨ ts' t = ts t) : RI C n d r ts' hp yc a W :=
  { h with rel := h.rel.weaken ht }

theorem RI.put (h : RI C n d r ts hp yc a W) {dst : Option Tmp} (hd : ∀ d, dst = some d → d < n) {v : Value} (hv : idsV (dom hp) v) : RI C n d r (putT ts dst v) hp yc (a.put dst (ren r v)) W :=
  { h with
    size := by cases dst <;> simp [Act.put, h.size]
    ext := by cases dst <;> exact h.ext
    rel := h.rel.put (fun e he => by rw [h.size]; exact hd e he) hv }

theorem RI.put_undef (h : RI C n d r ts hp yc a W) {dst : Option Tmp} (hd : ∀ d, dst = some d → d < n) : RI C n d r (putT ts dst undef) hp yc (a.put dst undef) W := by
  have := h.put hd (ids_undef (dom hp))
  rwa [ren_undef] at this

theorem extD_iff {hp : Hp} {ws ns : List (Nat × Blk)} (hws : ∀ k ∈ keys ws, dom hp k) (k : Nat) : dom (updL hp (ws ++ ns)) k ↔ extD (dom hp) ns k := by
  rw [updL_dom]
  unfold extD
  constructor
  · rintro (h | h)
    · exact .inl h
    · have : k ∈ keys ws ∨ k ∈ keys ns := by simpa [keys] using h
      exact this.elim (fun h => .inl (hws k h)) .inr
  · rintro (h | h)
    · exact .inl h
    · exact .inr (by simp [keys] at h ⊢; exact .inr h)

theorem RI.after (h : RI C n d r ts hp yc a W) {dst : Option Tmp} (hd : ∀ d, dst = some d → d < n) {e : Eff} {r' : Nat → Nat} {W' : World} (hr : ∀ k, dom hp k → r' k = r k)
    (hv : idsV (extD (dom hp) e.ns) e.v) (ht : Turn r' (extD (dom hp) e.ns) W W' e.ws e.ns) (hws : ∀ k ∈ keys e.ws, dom hp k ∧ 100 ≤ k) (hns : ∀ k ∈ keys e.ns, hp k = none ∧ 100 ≤ k) :
    RI C n d r' (putT ts dst e.v) (updL hp (e.ws ++ e.ns)) yc (a.put dst (ren r' e.v)) W' := by
  have hD : dom (updL hp (e.ws ++ e.ns)) = extD (dom hp) e.ns := funext fun k => propext (extD_iff (fun k hk => (hws k hk).1) k)
  have old : ∀ k, extD (dom hp) e.ns k → dom hp k ∨ k ∈ keys e.ns := fun k hk => hk
  have ltW : ∀ k, dom hp k → r' k < W.heap.size := fun k hk => by rw [hr k hk]; exact h.lt hk
  have fr : ∀ k, k ∈ keys e.ns → W.heap.size ≤ r' k := fun k hk => by
    obtain ⟨p, hp', rfl⟩ := mem_keys.1 hk; exact ht.fresh p hp'
  have big : ∀ k ∈ keys (e.ws ++ e.ns), 100 ≤ k := fun k hk => by
    have : k ∈ keys e.ws ∨ k ∈ keys e.ns := by simpa [keys] using hk
    exact this.elim (fun h => (hws k h).2) (fun h => (hns k h).2)
  have inj' : Inj r' (extD (dom hp) e.ns) := fun k l hk hl hkl => by
    rcases old k hk with hk | hk <;> rcases old l hl with hl | hl
    · exact h.inj k l hk hl (by rw [← hr k hk, ← hr l hl]; exact hkl)
    · have h1 := ltW k hk; have h2 := fr l hl; omega
    · have h1 := ltW l hl; have h2 := fr k hk; omega
    · obtain ⟨p, hp1, rfl⟩ := mem_keys.1 hk
      obtain ⟨q, hq1, rfl⟩ := mem_keys.1 hl
      exact ht.apart p hp1 q hq1 hkl
  have base : RI C n d r' ts (updL hp (e.ws ++ e.ns)) yc a W' :=
    { size := h.size
      rel := by rw [hD]; exact h.rel.mono (fun k hk => .inl hk) hr
      sat := fun k b hk => by
        rw [hD]
        rcases updL_mem hk with ⟨h1, h2⟩ | h1
        · have hk' : dom hp k := by unfold dom; rw [h1]; simp
          have hs := h.sat k b h1
          refine ⟨?_, Blk.ids_mono (fun _ hk => .inl hk) hs.2⟩
          rw [ht.same (r' k) (ltW k hk') (fun p hp1 e1 => ?_), hr k hk', hs.1, Blk.obj_congr hr hs.2]
          have hp2 : p.1 ∈ keys e.ws := mem_keys.2 ⟨p, hp1, rfl⟩
          have : p.1 = k := inj' _ _ (.inl (hws _ hp2).1) (.inl hk') e1
          exact h2 (by rw [← this]; simp [keys] at hp2 ⊢; exact .inl hp2)
        · exact ht.has _ h1
      inj := by rw [hD]; exact inj'
      ext := by
        obtain ⟨S, ms, h1, h2, h3, h4, h5⟩ := h.ext
        refine ⟨S, ms, C.E.ok _ _ _ _ h1 (fun k hk => ht.same k (h2 k hk) fun p hp1 e1 => ?_) ht.os ht.tape ht.output ht.size, fun k hk => Nat.lt_of_lt_of_le (h2 k hk) ht.size, fun i hi h1i hS => ?_, h4, fun D hD => ⟨?_, (h5 D hD).2⟩⟩
        · have hp2 := (hws _ (mem_keys.2 ⟨p, hp1, rfl⟩)).1
          rw [hr _ hp2] at e1
          exact h3 _ hp2 (hws _ (mem_keys.2 ⟨p, hp1, rfl⟩)).2 (e1 ▸ hk)
        · rw [hD] at hi
          rcases old i hi with hi | hi
          · rw [hr i hi] at hS; exact h3 i hi h1i hS
          · have h6 := h2 _ hS; have h7 := fr i hi; omega
        · rw [ht.same D (Array.getElem?_eq_some_iff.1 (h5 D hD).1).1 (fun p hp1 e1 => ?_)]
          · exact (h5 D hD).1
          · have hp2 := (hws _ (mem_keys.2 ⟨p, hp1, rfl⟩)).1
            rw [hr _ hp2] at e1
            exact h.ne_mark hp2 (h5 D hD).1 e1
      keep := fun i hi => ⟨by rw [hD]; exact .inl (h.keep i hi).1, by rw [hr i (h.keep i hi).1]; exact (h.keep i hi).2⟩
      glob := fun k hk => by rw [updL_other (fun hm => by have := big k hm; omega)]; exact h.glob k hk
      low := fun k hk hd => by
        rw [hD] at hd
        rcases old k hd with hd | hd
        · rw [hr k hd]; exact h.low k hk hd
        · have := (hns k hd).2; omega }
  exact base.put hd (by rw [hD]; exact hv)

abbrev Fw (P : Program) (ro : Option Nat) : Fence := { Fs P with round := ro }

/-- An operation's run, met. -/
theorem wp_of_upon {ro : Option Nat} {m : Nat} {o : Oper} {R Rp : Value → World → Prop} {next : Act → World → Prop} {Q : Exit → Act → World → Prop} (hnd : ∀ c, o.op ≠ .defer c) (h : Upon P o a W R Rp) (hn : ∀ u W', R u W' → next (a.put o.dst u) W')
    (hp : ∀ pv W', Rp pv W' → Q (.panic [{ v := pv, recovered := false }]) a W') : o.wpIn (Fw P ro) m P a W next Q := by
  refine ⟨?_, ?_⟩
  · unfold Upon at h
    generalize hx : (execOp a.eval o).run P W = x at h
    cases x with
    | ok nx W' => exact about_ok hx
    | halt x W' =>
      cases x <;> first | exact h.elim | (intro f hf; rw [h.1] at hf; cases hf)
  have e : (Fw P ro).round = ro := rfl
  rw [e, Oper.semAt_eq ro a.eval o hnd]
  unfold Upon at h
  generalize (execOp a.eval o).run P W = x at h
  cases x with
  | ok nx W' =>
    cases nx <;> simp only [Oper.uponIn] at h ⊢ <;> first
      | exact hn _ _ h
      | (exact h.elim)
      | (refine ⟨fun h => (by cases h), ?_⟩
         refine CallsIn.mono (⟨h.1, fun cs _ => h.2 cs (room_Fs P _)⟩ : CallsIn (Fw P ro) (m - 1) P _ _ _ _) ?_
         intro e w'' hr
         cases e with
         | returned u => exact hn _ _ hr
         | panicked ch => obtain ⟨pv, rfl, hr⟩ := hr; exact hp _ _ hr
         | outgrown => exact hr.elim)
  | halt x W' => cases x <;> first | exact h.elim | exact hp _ _ h.2

theorem ren_bool {r : Nat → Nat} {v : Value} {b : Bool} (h : ren r v = .bool b) : v = .bool b := by
  revert h
  cases v with
  | pointer p => cases p <;> simp [ren, renA, renF, ren0]
  | slice p _ _ => cases p <;> simp [ren, renA, renF, ren0]
  | map p => cases p <;> simp [ren, renA, renF, ren0]
  | bool c => simp [ren, renA, renF, ren0]
  | _ => simp [ren, renA, renF, ren0]

theorem wantedG_eq {ops : Array Oper} {o : Oper} {b : Bool} (h : Rel r (dom hp) ts a) (hj : wantedG ops o ts = some b) : Region.wanted o (yielded ops a.tmps) = b := by
  unfold Region.wanted
  unfold wantedG at hj
  cases hg : o.guard with
  | none => simpa [hg] using hj
  | some g =>
    obtain ⟨j, w⟩ := g
    simp only [hg] at hj ⊢
    unfold yielded
    cases hd : (ops[j]?).bind (·.dst) with
    | none => simpa [hd] using hj
    | some t =>
      simp only [hd] at hj
      simp only [Option.bind_some]
      have ht := h t
      cases hv : ts t with
      | bool c =>
        simp only [hv, Option.some.injEq] at hj
        obtain ⟨h1, _⟩ := ht.resolve_left (by rw [hv]; simp [junk])
        rw [hv] at h1
        simp only [ren, renA, renF, ren0] at h1
        cases hq : a.tmps[t]? with
        | none => simp [hq, undef] at h1
        | some u => simp [hq] at h1; subst h1; simpa using hj
      | tuple vs =>
        simp only [hv, Option.some.injEq] at hj
        obtain ⟨h1, _⟩ := ht.resolve_left (by rw [hv]; simp [junk])
        rw [hv] at h1
        simp only [ren] at h1
        cases hq : a.tmps[t]? with
        | none => simpa using hj
        | some u => simp [hq] at h1; subst h1; simpa using hj
      | _ => simp [hv] at hj

/-! ### Regions -/
def dstOk (n : Nat) (ops : List Oper) : Bool := ops.all fun o => (match o.dst with | some d => decide (d < n) | none => true) && (match o.op with | .defer _ => false | _ => true)
theorem dstOk_spec {n : Nat} {ops : List Oper} (h : dstOk n ops = true) {o : Oper} (ho : o ∈ ops) : (∀ d, o.dst = some d → d < n) ∧ ∀ c, o.op ≠ .defer c := by
  have := List.all_eq_true.1 h o ho
  simp only [Bool.and_eq_true] at this
  refine ⟨fun d hd => ?_, fun c hc => ?_⟩
  · have h1 := this.1; simpa [hd] using h1
  · have h2 := this.2; simp [hc] at h2

/-- One operation, met in the world. -/
theorem step_eff {ro : Option Nat} {m : Nat} {o : Oper} {e : Eff} {next : Act → World → Prop} {Q : Exit → Act → World → Prop} (h : RI C n d r ts hp yc a W) (hd : (∀ d, o.dst = some d → d < n) ∧ ∀ c, o.op ≠ .defer c)
    (ho : OpD P o ts (rst hp e.rs) e) (hws : ∀ k ∈ keys e.ws, dom hp k ∧ 100 ≤ k) (hns : ∀ k ∈ keys e.ns, hp k = none ∧ 100 ≤ k)
    (hn : ∀ r' a' W', e.pan = none → RI C n d r' (putT ts o.dst e.v) (updL hp (e.ws ++ e.ns)) yc a' W' → next a' W')
    (hp' : ∀ pv W', e.pan = some pv → RI C n d r ts hp yc a W' → Q (.panic [{ v := pv, recovered := false }]) a W') : o.wpIn (Fw P ro) m P a W next Q := by
  refine wp_of_upon hd.2 (ho r (dom hp) a W (fun t _ => h.rel t) (fun k b hk => h.sat k b (rst_sub hk)) h.inj h.low (fun k hk => ?_) (fun p hp1 => ?_)) ?_ ?_
  · unfold dom at hk ⊢
    cases hb : rst hp e.rs k with
    | none => exact absurd hb hk
    | some b => rw [rst_sub hb]; simp
  · have := hns _ (mem_keys.2 ⟨p, hp1, rfl⟩)
    exact ⟨by unfold dom; simp [this.1], this.2⟩
  · rintro u W' ⟨hpn, r', hr, rfl, hv, ht⟩
    exact hn r' _ _ hpn (h.after hd.1 hr hv ht hws hns)
  · rintro pv W' ⟨hpn, hb⟩
    exact hp' pv W' hpn (h.below hb)

/-- What is owed of the kinds of operations. -/
def Meets (P : Program) (C : Ctx) (n : Nat) (d : List Deferred) (ro : Option Nat) (OK : OKP) : Prop :=
  ∀ (o : Oper) (e : Eff) (ts : Nat → Value) (hp : Hp) (yc : Nat) (r : Nat → Nat) (a : Act) (W : World) (m : Nat) (next : Act → World → Prop) (Q : Exit → Act → World → Prop),
    RI C n d r ts hp yc a W → ((∀ d, o.dst = some d → d < n) ∧ ∀ c, o.op ≠ .defer c) → OK.ok o ts yc (rst hp e.rs) e → (∀ k ∈ keys e.ws, dom hp k ∧ 100 ≤ k) → (∀ k ∈ keys e.ns, hp k = none ∧ 100 ≤ k) →
    (∀ r' a' W', e.pan = none → RI C n d r' (putT ts o.dst e.v) (updL hp (e.ws ++ e.ns)) (if e.yl then yc + 1 else yc) a' W' → next a' W') →
    (∀ pv W' yc', e.pan = some pv → RI C n d r ts hp yc' a W' → Q (.panic [{ v := pv, recovered := false }]) a W') → o.wpIn (Fw P ro) m P a W next Q

/-- Of an operation that is not wanted. -/
def MeetsU (P : Program) (OK : OKP) : Prop :=
  ∀ (o : Oper) (ts : Nat → Value) (r : Nat → Nat) (D : Nat → Prop) (a : Act) (W : World), Rel r D ts a → OK.un o ts → ∀ f, o.about P W a.eval = some f → (Fs P).fn f

/-- Along some order the walk comes to its end; what panicked is not forgotten. -/
theorem wpAnyG_end {OK : OKP} {md : Region.Mode} {ops : Array Oper} {base : Nat} {K : St → Prop} : ∀ (fuel : Nat) (listed : Array Bool) (s : St), wpAnyG OK md ops base K fuel listed s → ∃ s', K s' ∧ (∀ v, s.pn = some v → s'.pn = some v) ∧ (s'.wr = false → s.wr = false)
  | 0, _, s, h => ⟨s, h.2, fun _ h => h, id⟩
  | fuel + 1, listed, s, h => by
    cases hr : Region.ready md ops listed with
    | nil => exact ⟨s, h.1 hr, fun _ h => h, id⟩
    | cons i l =>
      have h1 := h.2 i (by rw [hr]; simp)
      unfold gOp at h1
      cases ho : ops[i]? with
      | none => simp only [ho] at h1; exact wpAnyG_end fuel _ s h1
      | some o =>
        simp only [ho] at h1
        cases hw : wantedG ops o s.ts with
        | none => rw [hw] at h1; exact h1.elim
        | some b =>
          rw [hw] at h1
          cases b with
          | true =>
            obtain ⟨e, _, _, h4⟩ := h1
            obtain ⟨s', k, h5, h6⟩ := wpAnyG_end fuel _ _ h4
            refine ⟨s', k, fun v hv => h5 v (by simp [St.after, hv]), fun hs => ?_⟩
            have := h6 hs; simp only [St.after, Bool.or_eq_false_iff] at this; exact this.1
          | false =>
            obtain ⟨s', k, h5, h6⟩ := wpAnyG_end fuel _ _ h1.2
            exact ⟨s', k, h5, h6⟩

theorem putT_keep {ts : Nat → Value} {dst : Option Tmp} {v : Value} {t : Nat} (h : dst ≠ some t) : putT ts dst v t = ts t := by
  cases dst with
  | none => rfl
  | some d => exact upd_other _ _ (fun e => h (by rw [e]))
theorem wpAny_of_G {OK : OKP} {ro : Option Nat} {m : Nat} {md : Region.Mode} {ops : Array Oper} {base : Nat} {K : St → Prop} {Q : Exit → Act → World → Prop} {hp0 : Hp} {ts0 : Nat → Value} (hst : Meets P C n d ro OK) (hun : MeetsU P OK) (hdst : ∀ o ∈ ops, (∀ d, o.dst = some d → d < n) ∧ ∀ c, o.op ≠ .defer c)
    (hK : ∀ s, K s → s.pn = none → ∀ r' a' W', RI C n d r' s.ts s.hp s.yc a' W' → Q .normal a' W')
    (hP : ∀ s' pv, K s' → s'.pn = some pv → s'.wr = false → ∀ r a W ts hp yc, (∀ k b, hp0 k = some b → hp k = some b) → (∀ t, (∀ o ∈ ops, o.dst ≠ some t) → ts t = ts0 t) → RI C n d r ts hp yc a W → Q (.panic [{ v := pv, recovered := false }]) a W) (hwr : ∀ s', K s' → s'.pn ≠ none → s'.wr = false) :
    ∀ (fuel : Nat) (listed : Array Bool) (s : St) (r : Nat → Nat) (a : Act) (W : World), RI C n d r s.ts s.hp s.yc a W → s.pn = none → (s.wr = false → ∀ k b, hp0 k = some b → s.hp k = some b) → (∀ t, (∀ o ∈ ops, o.dst ≠ some t) → s.ts t = ts0 t) → wpAnyG OK md ops base K fuel listed s → wpAnyIn (Fw P ro) m P md ops Q fuel listed a W
  | 0, _, s, r, a, W, hR, hpn, hs, hts, h => ⟨h.1, hK s h.2 hpn r a W hR⟩
  | fuel + 1, listed, s, r, a, W, hR, hpn, hs, hts, h => by
    refine ⟨fun h0 => hK s (h.1 h0) hpn r a W hR, fun i hi => ?_⟩
    have h1 := h.2 i hi
    unfold wpOpIn
    unfold gOp at h1
    cases ho : ops[i]? with
    | none => simp only [ho] at h1; exact wpAny_of_G hst hun hdst hK hP hwr fuel _ s r a W hR hpn hs hts h1
    | some o =>
      simp only [ho] at h1
      have hd := hdst o (Array.mem_of_getElem? ho)
      cases hw : wantedG ops o s.ts with
      | none => rw [hw] at h1; exact h1.elim
      | some b =>
        rw [hw] at h1
        simp only [wantedG_eq hR.rel hw]
        cases b with
        | true =>
          obtain ⟨e, h2, h3, h4⟩ := h1
          simp only [if_true]
          have hs' : (s.after i o e).wr = false → ∀ k b, hp0 k = some b → (s.after i o e).hp k = some b := fun hw' k b hk => by
            simp only [St.after, Bool.or_eq_false_iff] at hw'
            have e0 : e.ws = [] := by have := hw'.2; simpa using this
            have hk' := hs hw'.1 k b hk
            show updL s.hp (e.ws ++ e.ns) k = some b
            rw [e0, List.nil_append, updL_other (fun hm => by have := h3.nodup k hm; rw [hk'] at this; cases this)]
            exact hk'
          refine hst o e s.ts s.hp s.yc r a W m _ _ hR hd h2 (fun k hk => (h3.wsrs k hk).2) (fun k hk => ⟨h3.nodup k hk, (h3.ids k hk).2.2⟩) ?_ ?_
          · intro r' a' W' hpe hR'
            exact wpAny_of_G hst hun hdst hK hP hwr fuel _ (s.after i o e) r' a' W' hR' (by simp [St.after, hpn, hpe]) hs' (fun t ht => (putT_keep (ht o (Array.mem_of_getElem? ho))).trans (hts t ht)) h4
          · intro pv W' yc' hpe hR'
            obtain ⟨s', k, h5, h6⟩ := wpAnyG_end fuel _ _ h4
            have hp5 := h5 pv (by simp [St.after, hpn, hpe])
            have hw5 := hwr s' k (by rw [hp5]; simp)
            have hw6 := h6 hw5
            simp only [St.after, Bool.or_eq_false_iff] at hw6
            exact hP s' pv k hp5 hw5 r a W' s.ts s.hp yc' (hs hw6.1) hts hR'
        | false =>
          simp only [Bool.false_eq_true, if_false]
          exact ⟨hun o s.ts r _ a W hR.rel h1.1, wpAny_of_G hst hun hdst hK hP hwr fuel _ (s.pass o) r _ W (hR.put_undef hd.1) hpn hs (fun t ht => (putT_keep (ht o (Array.mem_of_getElem? ho))).trans (hts t ht)) h1.2⟩

/-- **A REGION THAT DRAWS ITS ORDER**, walked once. -/
theorem region_draw {OK : OKP} {ro : Option Nat} {m : Nat} {id : Nat} {l : List Oper} {base : Nat} {K : St → Prop} {Q : Exit → Act → World → Prop} (hst : Meets P C n d ro OK) (hun : MeetsU P OK) (hm : P.follows .mixedOrders = true)
    (hB : Region.lexFrom .any l.toArray l.length 0 (Array.replicate l.length false) = true) (hdst : dstOk n l = true) (h : RI C n d r ts hp yc a W)
    (hw : wpLex OK .any l.toArray base K 0 l ⟨ts, hp, fun _ => ([], []), yc, false, none, false⟩) (hK : ∀ s, K s → s.pn = none → ∀ r' a' W', RI C n d r' s.ts s.hp s.yc a' W' → Q .normal a' W')
    (hP : ∀ s' pv, K s' → s'.pn = some pv → s'.wr = false → ∀ r a W ts' hp' yc, (∀ k b, hp k = some b → hp' k = some b) → (∀ t, (∀ o ∈ l, o.dst ≠ some t) → ts' t = ts t) → RI C n d r ts' hp' yc a W → Q (.panic [{ v := pv, recovered := false }]) a W) (hwr : ∀ s', K s' → s'.pn ≠ none → s'.wr = false) : (Code.region id l.toArray true).wpIn (Fw P ro) m P Q a W := by
  refine wpIn_region_any hm ?_
  have := wpAnyG_lex (md := .any) (ops := l.toArray) l 0 (Array.replicate l.length false) ⟨ts, hp, fun _ => ([], []), yc, false, none, false⟩ (by simp) hB hw
  have h2 := wpAny_of_G (C := C) (n := n) (d := d) (Q := Q) (m := m) (hp0 := hp) hst hun (fun o ho => dstOk_spec hdst (by simpa using ho)) hK (fun s' pv h1 h2 h3 r a W ts' hp' yc h4 h5 h6 => hP s' pv h1 h2 h3 r a W ts' hp' yc h4 (fun t ht => h5 t (fun o ho => ht o (by simpa using ho))) h6) hwr _ _ _ r a _ h.drew rfl (fun _ _ _ h => h) (fun _ _ => rfl) this
  simpa using h2

end
end Go.Gy
