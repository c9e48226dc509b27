/-
  The ghost layer, part F: the walk of a region as a predicate that 'simp' unfolds; what code does; from a body to a contract.
  Conditions: none beyond the hypotheses of each theorem.
-/
import Derived.Test.YtggidgaeggekhaaDoorGyE
namespace Go.Gy
open Go Go.RowKit

abbrev Tr := List (Nat × List Nat × List Nat)
def disj (xs ys : List Nat) : Bool := xs.all fun x => !ys.contains x
def chk (md : Region.Mode) (ops : Array Oper) : Tr → Bool
  | [] => true
  | (i, rd, wr) :: tl => (tl.all fun q => (disj rd q.2.2 && disj wr q.2.1) || waitsB md ops i q.1) && chk md ops tl
def tcons (k : Nat) (rd wr : List Nat) (tr : Tr) : Tr :=
  match rd with
  | [] => match wr with
    | [] => tr
    | _ :: _ => (k, rd, wr) :: tr
  | _ :: _ => (k, rd, wr) :: tr

/-- The walk of a region. Q: at its end; Qp: where its last operation has panicked. -/
def lexX (P : Program) (G : Hp) (V : XV) (ops : Array Oper) (base : Nat) (Q : (Nat → Value) → Hp → Tr → Nat → Prop) (Qp : Value → Tr → Prop) : Nat → List Oper → (Nat → Value) → Hp → Tr → Nat → Bool → Bool → Prop
  | _, [], ts, hp, tr, yc, _, _ => Q ts hp tr yc
  | k, o :: rest, ts, hp, tr, yc, wr, yd => match wantedG ops o ts with
    | some true => opX P G V yc o ts hp (base + 8 * k) fun e => (e.yl = true → yd = false) ∧ match e.pan with
      | none => lexX P G V ops base Q Qp (k + 1) rest (putT ts o.dst e.v) (updL hp (e.ws ++ e.ns)) (tcons k (e.rs ++ keys e.ns) (keys e.ws ++ keys e.ns) tr) (if e.yl then yc + 1 else yc) (wr || !e.ws.isEmpty) (yd || e.yl)
      | some pv => (V.dr = true → rest = []) ∧ (wr || !e.ws.isEmpty) = false ∧ Qp pv (tcons k (e.rs ++ keys e.ns) (keys e.ws ++ keys e.ns) tr)
    | some false => unD o ts ∧ lexX P G V ops base Q Qp (k + 1) rest (putT ts o.dst undef) hp tr yc wr yd
    | none => False

theorem tcons_eq (k : Nat) (rd wr : List Nat) (tr : Tr) : tcons k rd wr tr = (k, rd, wr) :: tr ∨ (rd = [] ∧ wr = [] ∧ tcons k rd wr tr = tr) := by
  cases rd with
  | nil => cases wr with
    | nil => exact .inr ⟨rfl, rfl, rfl⟩
    | cons => exact .inl rfl
  | cons => exact .inl rfl

theorem chk_tcons {md : Region.Mode} {ops : Array Oper} {k : Nat} {rd wr : List Nat} {tr : Tr} (h : chk md ops (tcons k rd wr tr) = true) :
    chk md ops tr = true ∧ ∀ q ∈ tr, ((∀ x ∈ rd, x ∉ q.2.2) ∧ (∀ x ∈ wr, x ∉ q.2.1)) ∨ waitsB md ops k q.1 = true := by
  rcases tcons_eq k rd wr tr with e | ⟨h1, h2, e⟩
  · rw [e] at h
    simp only [chk, Bool.and_eq_true, List.all_eq_true, Bool.or_eq_true] at h
    refine ⟨h.2, fun q hq => (h.1 q hq).imp (fun h => ⟨fun x hx => ?_, fun x hx => ?_⟩) id⟩
    · have := List.all_eq_true.1 h.1 x hx; simpa using this
    · have := List.all_eq_true.1 h.2 x hx; simpa using this
  · rw [e] at h; subst h1; subst h2
    exact ⟨h, fun q _ => .inl ⟨fun x hx => (by cases hx), fun x hx => (by cases hx)⟩⟩

section
variable {P : Program} {G : Hp} {V : XV}

/-- What the log says is in the trace. -/
def LogIn (lg : Nat → List Nat × List Nat) (tr : Tr) : Prop :=
  ∀ j, lg j = ([], []) ∨ ∃ rd wr, (j, rd, wr) ∈ tr ∧ (∀ x ∈ (lg j).1, x ∈ rd) ∧ (∀ x ∈ (lg j).2, x ∈ wr)

theorem LogIn.step {lg : Nat → List Nat × List Nat} {tr : Tr} (h : LogIn lg tr) (k : Nat) (e : Eff) : LogIn (upd lg k (e.rs, keys e.ws ++ keys e.ns)) (tcons k (e.rs ++ keys e.ns) (keys e.ws ++ keys e.ns) tr) := by
  intro j
  rcases tcons_eq k (e.rs ++ keys e.ns) (keys e.ws ++ keys e.ns) tr with e1 | ⟨h1, h2, e1⟩
  · rw [e1]
    by_cases hj : j = k
    · subst hj
      rw [upd_same]
      exact .inr ⟨_, _, List.mem_cons_self .., fun x hx => List.mem_append_left _ hx, fun x hx => hx⟩
    · rw [upd_other _ _ hj]
      exact (h j).imp id fun ⟨rd, wr, hm, a, b⟩ => ⟨rd, wr, List.mem_cons_of_mem _ hm, a, b⟩
  · rw [e1]
    by_cases hj : j = k
    · subst hj
      rw [upd_same]
      have : e.rs = [] := (List.append_eq_nil_iff.1 h1).1
      exact .inl (by rw [this, h2])
    · rw [upd_other _ _ hj]; exact h j

theorem lexX_chk {ops : Array Oper} {base : Nat} {K : (Nat → Value) → Hp → Nat → Prop} {Kp : Value → Prop} (hGF : GFlat G) (hb : 100 ≤ base) : ∀ (l : List Oper) (k : Nat) (ts : Nat → Value) (hp : Hp) (tr : Tr) (yc : Nat) (wr yd : Bool), (∀ x, x < 100 → hp x = G x) →
    lexX P G V ops base (fun ts hp tr yc => chk .any ops tr = true ∧ K ts hp yc) (fun pv tr => chk .any ops tr = true ∧ Kp pv) k l ts hp tr yc wr yd → chk .any ops tr = true
  | [], _, _, _, _, _, _, _, _, h => h.1
  | o :: l, k, ts, hp, tr, yc, wr, yd, hG, h => by
    simp only [lexX] at h
    split at h
    · obtain ⟨e, _, hs, _, h3⟩ := opX_sound hGF hG h
      split at h3
      · refine (chk_tcons (lexX_chk hGF hb l _ _ _ _ _ _ _ (fun x hx => ?_) h3)).1
        rw [updL_other (fun hm => ?_)]
        · exact hG x hx
        · have : x ∈ keys e.ws ∨ x ∈ keys e.ns := by simpa [keys] using hm
          rcases this with h | h
          · have := (hs.ws x h).2.2; omega
          · have := hs.ns x h; omega
      · exact (chk_tcons h3.2.2.1).1
    · exact lexX_chk hGF hb l _ _ _ _ _ _ _ hG h.2
    · exact h.elim

/-- What the walk of a region that draws its order is held to, at its end. -/
def endK (Kn : (Nat → Value) → Hp → Nat → Prop) (Kp : Value → Prop) (B : Nat) (s : St) : Prop :=
  (s.pn = none → Kn s.ts s.hp s.yc ∧ ∀ x, B ≤ x → s.hp x = none) ∧ ∀ pv, s.pn = some pv → s.wr = false ∧ Kp pv

theorem lexX_sound {ops : Array Oper} {base : Nat} {K : (Nat → Value) → Hp → Nat → Prop} {Kp : Value → Prop} (hGF : GFlat G) (hb : 100 ≤ base) (hdr : V.dr = true) : ∀ (l : List Oper) (k : Nat) (ts : Nat → Value) (hp : Hp) (tr : Tr) (yc : Nat) (wr yd : Bool) (lg : Nat → List Nat × List Nat), (∀ x, x < 100 → hp x = G x) →
    (∀ x, base + 8 * k ≤ x → hp x = none) → LogIn lg tr → (∀ j, k ≤ j → lg j = ([], [])) → (∀ o ∈ l, unC P o) →
    lexX P G V ops base (fun ts hp tr yc => chk .any ops tr = true ∧ K ts hp yc) (fun pv tr => chk .any ops tr = true ∧ Kp pv) k l ts hp tr yc wr yd →
    wpLex (okp P V.Y) .any ops base (endK K Kp (base + 8 * (k + l.length))) k l ⟨ts, hp, lg, yc, yd, none, wr⟩
  | [], k, ts, hp, tr, yc, wr, yd, lg, hG, hn, hl, hz, hu, h => ⟨fun _ => ⟨h.2, by simpa using hn⟩, fun _ h => (by cases h)⟩
  | o :: l, k, ts, hp, tr, yc, wr, yd, lg, hG, hn, hl, hz, hu, h => by
    have hlen : k + (o :: l).length = (k + 1) + l.length := by simp; omega
    rw [hlen]
    simp only [lexX] at h
    simp only [wpLex]
    cases hw : wantedG ops o ts with
    | none => rw [hw] at h; exact h.elim
    | some b =>
      rw [hw] at h
      cases b with
      | true =>
        simp only at h ⊢
        obtain ⟨e, h1, hs, hyd, h3⟩ := opX_sound hGF hG h
        have big : ∀ x ∈ keys (e.ws ++ e.ns), 100 ≤ x := fun x hm => by
          have : x ∈ keys e.ws ∨ x ∈ keys e.ns := by simpa [keys] using hm
          rcases this with h | h
          · exact (hs.ws x h).2.2
          · have := hs.ns x h; omega
        have hG' : ∀ x, x < 100 → updL hp (e.ws ++ e.ns) x = G x := fun x hx => by
          rw [updL_other (fun hm => by have := big x hm; omega)]; exact hG x hx
        have hn' : ∀ x, base + 8 * (k + 1) ≤ x → updL hp (e.ws ++ e.ns) x = none := fun x hx => by
          rw [updL_other (fun hm => ?_)]
          · exact hn x (by omega)
          · have : x ∈ keys e.ws ∨ x ∈ keys e.ns := by simpa [keys] using hm
            rcases this with h | h
            · exact (hs.ws x h).2.1 (hn x (by omega))
            · have := hs.ns x h; omega
        have fits : chk .any ops (tcons k (e.rs ++ keys e.ns) (keys e.ws ++ keys e.ns) tr) = true → Fits .any ops base k ⟨ts, hp, lg, yc, yd, none, wr⟩ e := fun hc => by
          have hc := chk_tcons hc
          refine ⟨hs.ws, fun x hx => ?_, fun x hx => ?_, hs.once, fun j hj => ?_, hz k (Nat.le_refl _), fun _ => rfl, hyd⟩
          · have := hs.ns x hx; omega
          · have := hs.ns x hx; exact hn x (by omega)
          · rcases hl j with h0 | ⟨rd, wr, hm, a, b⟩
            · simp only [h0]; exact ⟨fun _ _ h => (by cases h), fun _ _ h => (by cases h)⟩
            · rcases hc.2 _ hm with ⟨c1, c2⟩ | c
              · exact ⟨fun x hx hm => c1 x hx (b x hm), fun x hx hm => c2 x hx (a x hm)⟩
              · rw [hj] at c; cases c
        cases hpn : e.pan with
        | none =>
          rw [hpn] at h3
          simp only at h3
          refine ⟨e, h1, fits (lexX_chk hGF hb l _ _ _ _ _ _ _ hG' h3), ?_⟩
          have := lexX_sound hGF hb hdr l (k + 1) _ _ _ _ _ _ _ hG' hn' (hl.step k e) (fun j hj => by rw [upd_other _ _ (by omega)]; exact hz j (by omega)) (fun o ho => hu o (List.mem_cons_of_mem _ ho)) h3
          simpa [St.after, hpn] using this
        | some pv =>
          rw [hpn] at h3
          obtain ⟨hrest, hwr, hch, hkp⟩ := h3
          obtain rfl := hrest hdr
          refine ⟨e, h1, fits hch, ?_⟩
          simp only [wpLex, St.after, hpn]
          refine ⟨fun h => ?_, fun pv' h => ?_⟩
          · simp at h
          · simp at h; subst h; exact ⟨hwr, hkp⟩
      | false =>
        simp only at h ⊢
        exact ⟨⟨h.1, hu o (by simp)⟩, lexX_sound hGF hb hdr l (k + 1) _ _ _ _ _ _ _ hG (fun x hx => hn x (by omega)) hl (fun j hj => hz j (by omega)) (fun o ho => hu o (List.mem_cons_of_mem _ ho)) h.2⟩

/-- All callees are there. -/
def unOk (P : Program) (ops : List Oper) : Bool := ops.all fun o => match o.op with
  | .call c => match c.callee with
    | .value (.func f) => decide (f < P.funcs.size)
    | _ => true
  | _ => true
theorem unOk_spec {ops : List Oper} (h : unOk P ops = true) : ∀ o ∈ ops, unC P o := fun o ho => by
  have := List.all_eq_true.1 h o ho
  unfold unC
  split
  · rename_i c hc
    simp only [hc] at this
    split
    · rename_i f hcc
      simp only [hcc, decide_eq_true_eq] at this
      exact ⟨_, Array.getElem?_eq_getElem this⟩
    · trivial
  · trivial

/-! ### Code -/
structure GS where
  ts : Nat → Value
  hp : Hp
  B : Nat
  yc : Nat

structure GI (P : Program) (C : Ctx) (n : Nat) (d : List Deferred) (r : Nat → Nat) (s : GS) (a : Act) (W : World) : Prop where
  ri : RI C n d r s.ts s.hp s.yc a W
  free : ∀ x, s.B ≤ x → s.hp x = none
  low : 100 ≤ s.B
  flat : GFlat C.G
  rounds : ∀ y, C.Y = some y → Rounds P C.G C.E y

/-- WHAT CODE DOES, BY GHOST NAMES. -/
def GW (P : Program) (C : Ctx) (n : Nat) (d : List Deferred) (ro : Option Nat) (c : Code) (s : GS) (K : Exit → GS → Prop) : Prop :=
  ∀ r a W, GI P C n d r s a W → c.wpIn (Fw P ro) 0 P (fun e a' W' => ∃ s' r', K e s' ∧ GI P C n d r' s' a' W') a W

variable {C : Ctx} {n : Nat} {d : List Deferred} {ro : Option Nat} {s : GS} {K : Exit → GS → Prop} {yc : Nat}

def thenG (next : GS → Prop) (K : Exit → GS → Prop) : Exit → GS → Prop
  | .normal, s => next s
  | e, s => K e s

theorem GW_mono {c : Code} {K' : Exit → GS → Prop} (h : GW P C n d ro c s K) (hk : ∀ e s, K e s → K' e s) : GW P C n d ro c s K' :=
  fun r a W hi => wpIn_mono (h r a W hi) fun _ _ _ ⟨s', r', k, i⟩ => ⟨s', r', hk _ _ k, i⟩

theorem GW_seq {x y : Code} (h : GW P C n d ro x s (thenG (fun s' => GW P C n d ro y s' K) K)) : GW P C n d ro (.seq x y) s K := by
  intro r a W hi
  refine wpIn_seq (wpIn_mono (h r a W hi) ?_)
  rintro e a' W' ⟨s', r', k, i⟩
  cases e with
  | normal => exact k r' a' W' i
  | _ => exact ⟨s', r', k, i⟩

theorem GW_skip (h : K .normal s) : GW P C n d ro .skip s K := fun r _ _ hi => wpIn_skip ⟨s, r, h, hi⟩
theorem GW_ret (h : K .ret s) : GW P C n d ro .ret s K := fun r _ _ hi => wpIn_ret ⟨s, r, h, hi⟩
theorem GW_exit {id : Nat} (h : K (.exit id) s) : GW P C n d ro (.exit id) s K := fun r _ _ hi => wpIn_exit ⟨s, r, h, hi⟩
theorem GW_goto {id : Nat} (h : K (.goto id) s) : GW P C n d ro (.goto id) s K := fun r _ _ hi => wpIn_goto ⟨s, r, h, hi⟩
theorem GW_label {id : Nat} (h : K .normal s) : GW P C n d ro (.label id) s K := fun r _ _ hi => wpIn_label ⟨s, r, h, hi⟩

/-- A test: its value is read off a slot. -/
theorem GW_cond {t : Tmp} {x y : Code} {b : Bool} (hb : s.ts t = .bool b) (ht : b = true → GW P C n d ro x s K) (hf : b = false → GW P C n d ro y s K) : GW P C n d ro (.cond (.tmp t) x y) s K := by
  intro r a W hi
  have he : a.eval (.tmp t) = .bool b := by
    have := (hi.ri.rel t).resolve_left (by rw [hb]; simp [junk])
    rw [hb] at this
    exact this.1
  exact wpIn_cond_split he (fun h => ht h r a W hi) (fun h => hf h r a W hi)

def blockG (id : Nat) (K : Exit → GS → Prop) : Exit → GS → Prop
  | .exit id', s => if id' = id then K .normal s else K (.exit id') s
  | e, s => K e s

theorem GW_block {id : Nat} {c : Code} (h : GW P C n d ro c s (blockG id K)) : GW P C n d ro (.block id c) s K := by
  intro r a W hi
  refine wpIn_block (wpIn_mono (h r a W hi) ?_)
  rintro e a' W' ⟨s', r', k, i⟩
  cases e with
  | exit id' =>
    simp only [Exit.inBlock, blockG] at k ⊢
    split
    · rename_i h; rw [if_pos h] at k; exact ⟨s', r', k, i⟩
    · rename_i h; rw [if_neg h] at k; exact ⟨s', r', k, i⟩
  | _ => exact ⟨s', r', k, i⟩

/-- Less is said of a state. -/
structure Weak (C : Ctx) (s s' : GS) : Prop where
  ts : ∀ t, s'.ts t = junk ∨ (s'.ts t = s.ts t ∧ idsV (dom s'.hp) (s'.ts t))
  hp : ∀ k, 100 ≤ k → s'.hp k = none ∨ s'.hp k = s.hp k
  ids : ∀ k b, s'.hp k = some b → b.ids (dom s'.hp)
  keep : ∀ k, 100 ≤ k → dom C.hp0 k → s'.hp k = s.hp k
  glob : ∀ k, k < 100 → s'.hp k = C.G k
  yc : s'.yc = s.yc
  free : ∀ x, s'.B ≤ x → s'.hp x = none
  low : 100 ≤ s'.B

theorem GI.weak {r : Nat → Nat} {a : Act} {W : World} {s' : GS} (h : GI P C n d r s a W) (hw : Weak C s s') : GI P C n d r s' a W := by
  have hhp : ∀ k, s'.hp k = none ∨ s'.hp k = s.hp k := fun k => by
    by_cases hk : 100 ≤ k
    · exact hw.hp k hk
    · exact .inr ((hw.glob k (by omega)).trans (h.ri.glob k (by omega)).symm)
  have sub : ∀ k, dom s'.hp k → dom s.hp k := fun k hk => by
    rcases hhp k with h | h
    · exact absurd h hk
    · unfold dom at *; rwa [← h]
  refine ⟨{ h.ri with rel := fun t => ?_, sat := fun k b hb => ?_, inj := fun k l hk hl => h.ri.inj k l (sub k hk) (sub l hl), ext := ?_, keep := fun i hi => ?_, glob := hw.glob, low := fun k hk hd => h.ri.low k hk (sub k hd) }, hw.free, hw.low, h.flat, h.rounds⟩
  · rcases hw.ts t with e | ⟨e, hi⟩
    · exact .inl e
    · rcases h.ri.rel t with e' | e'
      · exact .inl (e.trans e')
      · exact .inr ⟨by rw [e]; exact e'.1, hi⟩
  · rcases hhp k with e | e
    · rw [e] at hb; cases hb
    · exact ⟨(h.ri.sat k b (by rw [← e]; exact hb)).1, hw.ids k b hb⟩
  · obtain ⟨S, ms, h1, h2, h3, h4⟩ := h.ri.ext
    exact ⟨S, ms, by rw [hw.yc]; exact h1, h2, fun i hi => h3 i (sub i hi), h4⟩
  · have := h.ri.keep i hi
    exact ⟨by unfold dom; rw [show s'.hp i = s.hp i by
      by_cases h1 : 100 ≤ i
      · exact hw.keep i h1 hi
      · exact (hw.glob i (by omega)).trans (h.ri.glob i (by omega)).symm]; exact this.1, this.2⟩

theorem GW_weak {c : Code} {s' : GS} (hw : Weak C s s') (h : GW P C n d ro c s' K) : GW P C n d ro c s K :=
  fun r a W hi => h r a W (hi.weak hw)

/-- A loop: what holds at each round's head, of some state of which less is said; m: how much is left. -/
theorem GW_loop {c : Code} (I : Nat → GS → Prop) {m0 : Nat} {s0 : GS} (hw : Weak C s s0) (h0 : I m0 s0)
    (round : ∀ m s, I m s → GW P C n d ro c s (thenG (fun s' => ∃ s'' m', Weak C s' s'' ∧ I m' s'' ∧ m' < m) K)) : GW P C n d ro (.loop c) s K := by
  have key : ∀ (m : Nat) (s : GS), I m s → ∀ r a W, GI P C n d r s a W → ∀ (b : Frame) (k : List Item) (cs : List Frame), b.roundOf = ro →
      (Fs P).fn b.fn → ∃ e a' w', (∃ s' r', K e s' ∧ GI P C n d r' s' a' w') ∧ ArrivesIn (Machine.fenced P (Fw P ro)) P (lone (b.atR a (.code c :: .inLoop c :: k)) cs W) b k cs e a' w' := by
    intro m
    induction m using Nat.strongRecOn with
    | _ m ih =>
      intro s hI r a W hi b k cs hro hfn
      obtain ⟨e, a₁, w₁, ⟨s', r', hk, hi'⟩, harr⟩ := round m s hI r a W hi b (.inLoop c :: k) cs hro hfn (room_Fs P _)
      cases e with
      | normal =>
        obtain ⟨s'', m', hw'', hI'', hlt⟩ := hk
        obtain ⟨e₂, a₂, w₂, hq₂, harr₂⟩ := ih m' hlt s'' hI'' r' a₁ w₁ (hi'.weak hw'') b k cs hro hfn
        exact ⟨e₂, a₂, w₂, hq₂, .of_steps (StepsIn.trans harr (.one (fenced_calm (F := Fw P ro) (n := 0) hfn (room_Fs P _) rfl) stepR_inLoop)) harr₂⟩
      | exit id => exact ⟨_, a₁, w₁, ⟨s', r', hk, hi'⟩, .pass (x := .inLoop c) rfl (fun _ _ => .inl (by simp)) harr⟩
      | goto l => exact ⟨_, a₁, w₁, ⟨s', r', hk, hi'⟩, .pass (x := .inLoop c) rfl (fun _ _ => .inl (by simp)) harr⟩
      | ret => exact ⟨_, a₁, w₁, ⟨s', r', hk, hi'⟩, .pass (x := .inLoop c) rfl (fun _ _ => .inl (by simp)) harr⟩
      | panic ch => exact ⟨_, a₁, w₁, ⟨s', r', hk, hi'⟩, .pass (x := .inLoop c) rfl (fun _ _ => .inl (by simp)) harr⟩
      | outgrown => exact ⟨_, a₁, w₁, ⟨s', r', hk, hi'⟩, .pass (x := .inLoop c) rfl (fun _ _ => .inl (by simp)) harr⟩
  intro r a W hi b k cs hro hb hr
  obtain ⟨e, a', w', hq, harr⟩ := key m0 s0 h0 r a W (hi.weak hw) b k cs hro hb
  exact ⟨e, a', w', hq, .of_steps (.one (fenced_calm hb hr rfl) stepR_loop) harr⟩

/-- A loop that counts: St i: at the head of round i. -/
theorem GW_for {c : Code} (N : Nat) (St : Nat → GS) (hw : Weak C s (St 0)) (round : ∀ i, i < N → GW P C n d ro c (St i) (thenG (fun s' => Weak C s' (St (i + 1))) K))
    (last : GW P C n d ro c (St N) (thenG (fun _ => False) K)) : GW P C n d ro (.loop c) s K := by
  refine GW_loop (m0 := N) (fun m s => ∃ i, i + m = N ∧ s = St i) hw ⟨0, by omega, rfl⟩ ?_
  rintro m _ ⟨i, hi, rfl⟩
  cases m with
  | zero =>
    obtain rfl : i = N := by omega
    refine GW_mono last fun e s h => ?_
    cases e <;> first | exact h | exact h.elim
  | succ m =>
    refine GW_mono (round i (by omega)) fun e s h => ?_
    cases e <;> first | exact h | exact ⟨St (i + 1), m, h, ⟨i + 1, by omega, rfl⟩, by omega⟩

theorem stepR_scope {b : Frame} {a : Act} {c : Code} {k : List Item} {cs : List Frame} {w : World} : step P (lone (b.atR a (.code (.scope c) :: k)) cs w) = .next (lone (b.atR a (.code c :: .inScope c :: k)) cs w) := by
  exact step_lone_go (by simp [stepG, stepG.exec, Frame.atR])
theorem stepR_inScope {b : Frame} {a : Act} {c : Code} {k : List Item} {cs : List Frame} {w : World} : step P (lone (b.atR a (.inScope c :: k)) cs w) = .next (lone (b.atR a k) cs w) := by
  exact step_lone_go (by simp [stepG, stepG.exec, Frame.atR])
/-- What is said at a jump back. -/
def jumpG (l : Nat) (J : GS → Prop) (K : Exit → GS → Prop) : Exit → GS → Prop
  | .goto l', s => l' = l ∧ J s
  | e, s => K e s
/-- A scope in which the run jumps back to one label. -/
theorem GW_scope {c rest : Code} (l : Nat) (I : Nat → GS → Prop) (hfl : findLabel c l = some rest) (first : GW P C n d ro c s (jumpG l (fun s' => ∃ s'' m', Weak C s' s'' ∧ I m' s'') K))
    (pass : ∀ m s, I m s → GW P C n d ro rest s (jumpG l (fun s' => ∃ s'' m', Weak C s' s'' ∧ I m' s'' ∧ m' < m) K)) : GW P C n d ro (.scope c) s K := by
  intro r a W hi b k cs hro hb hr
  have hg : gotoIn l (.inScope c :: k) = some (.code rest :: .inScope c :: k) := by simp [gotoIn, hfl]
  have sIn : ∀ {a W}, StepsIn (Machine.fenced P (Fw P ro)) P (lone (b.atR a (.inScope c :: k)) cs W) (lone (b.atR a k) cs W) := fun {a W} =>
    .one (fenced_calm (F := Fw P ro) (n := 0) hb (room_Fs P _) rfl) stepR_inScope
  have s0 : StepsIn (Machine.fenced P (Fw P ro)) P (lone (b.atR a (.code (.scope c) :: k)) cs W) (lone (b.atR a (.code c :: .inScope c :: k)) cs W) :=
    .one (fenced_calm (F := Fw P ro) (n := 0) hb (room_Fs P _) rfl) stepR_scope
  have key : ∀ (m : Nat) (s : GS), I m s → ∀ r a W, GI P C n d r s a W →
      ∃ e a' w', (∃ s' r', K e s' ∧ GI P C n d r' s' a' w') ∧ ArrivesIn (Machine.fenced P (Fw P ro)) P (lone (b.atR a (.code rest :: .inScope c :: k)) cs W) b k cs e a' w' := by
    intro m
    induction m using Nat.strongRecOn with
    | _ m ih =>
      intro s hI r a W hi
      obtain ⟨e, a₁, w₁, ⟨s', r', hk, hi'⟩, harr⟩ := pass m s hI r a W hi b (.inScope c :: k) cs hro hb hr
      cases e with
      | normal => exact ⟨.normal, a₁, w₁, ⟨s', r', hk, hi'⟩, StepsIn.trans harr sIn⟩
      | goto l' =>
        obtain ⟨rfl, s'', m', hw, hI', hlt⟩ := hk
        obtain ⟨e₂, a₂, w₂, hq₂, harr₂⟩ := ih m' hlt s'' hI' r' a₁ w₁ (hi'.weak hw)
        exact ⟨e₂, a₂, w₂, hq₂, .of_steps (harr.1 _ hg) harr₂⟩
      | exit id => exact ⟨_, a₁, w₁, ⟨s', r', hk, hi'⟩, fun k' hk => harr.1 k' (by simp [exitTo, hk]), fun hr' hk => harr.2 hr' (by simpa [exitTo] using hk)⟩
      | ret => exact ⟨_, a₁, w₁, ⟨s', r', hk, hi'⟩, harr⟩
      | panic ch => exact ⟨_, a₁, w₁, ⟨s', r', hk, hi'⟩, harr⟩
      | outgrown => exact ⟨_, a₁, w₁, ⟨s', r', hk, hi'⟩, harr⟩
  obtain ⟨e, a₁, w₁, ⟨s', r', hk, hi'⟩, harr⟩ := first r a W hi b (.inScope c :: k) cs hro hb hr
  cases e with
  | normal => exact ⟨.normal, a₁, w₁, ⟨s', r', hk, hi'⟩, StepsIn.trans s0 (StepsIn.trans harr sIn)⟩
  | goto l' =>
    obtain ⟨rfl, s'', m', hw, hI'⟩ := hk
    obtain ⟨e₂, a₂, w₂, hq₂, harr₂⟩ := key m' s'' hI' r' a₁ w₁ (hi'.weak hw)
    exact ⟨e₂, a₂, w₂, hq₂, .of_steps (StepsIn.trans s0 (harr.1 _ hg)) harr₂⟩
  | exit id => exact ⟨_, a₁, w₁, ⟨s', r', hk, hi'⟩, .of_steps s0 (e := .exit id) ⟨fun k' hk => harr.1 k' (by simp [exitTo, hk]), fun hr' hk => harr.2 hr' (by simpa [exitTo] using hk)⟩⟩
  | ret => exact ⟨_, a₁, w₁, ⟨s', r', hk, hi'⟩, .of_steps s0 harr⟩
  | panic ch => exact ⟨_, a₁, w₁, ⟨s', r', hk, hi'⟩, .of_steps s0 harr⟩
  | outgrown => exact ⟨_, a₁, w₁, ⟨s', r', hk, hi'⟩, .of_steps s0 harr⟩

/-! ### Regions -/
/-- The slots that a region does not write. -/
def keepT (l : List Oper) (ts : Nat → Value) : Nat → Value := fun t => if l.any (fun o => o.dst == some t) then junk else ts t
theorem GI.panicked {l : List Oper} {r r' : Nat → Nat} {a a' : Act} {W W' : World} {ts' : Nat → Value} {hp' : Hp} {yc' : Nat} (h0 : GI P C n d r s a W) (hs : ∀ k b, s.hp k = some b → hp' k = some b) (hts : ∀ t, (∀ o ∈ l, o.dst ≠ some t) → ts' t = s.ts t) (h : RI C n d r' ts' hp' yc' a' W') :
    GI P C n d r' ⟨keepT l s.ts, s.hp, s.B, yc'⟩ a' W' := by
  have sub : ∀ k, dom s.hp k → dom hp' k := fun k hk => by
    unfold dom at *
    cases hb : s.hp k with
    | none => exact absurd hb hk
    | some b => rw [hs k b hb]; simp
  exact ⟨{ h with
    rel := fun t => by
      show (if l.any (fun o => o.dst == some t) then junk else s.ts t) = junk ∨ _
      cases hd : l.any (fun o => o.dst == some t) with
      | true => exact .inl rfl
      | false =>
        have ht := hts t (fun o ho e => by
          have := List.any_eq_false.1 hd o ho
          rw [e] at this; simp at this)
        rcases h0.ri.rel t with e | e
        · exact .inl e
        · rcases h.rel t with e' | e'
          · exact .inl (ht.symm.trans e')
          · refine .inr ⟨?_, ?_⟩
            · rw [e'.1, ht]; simp [keepT, hd]
            · simp only [keepT, hd]; exact e.2
    sat := fun k b hk => ⟨(h.sat k b (hs k b hk)).1, (h0.ri.sat k b hk).2⟩
    inj := fun k l hk hl => h.inj k l (sub k hk) (sub l hl)
    ext := by
      obtain ⟨S, ms, h1, h2, h3, h4⟩ := h.ext
      exact ⟨S, ms, h1, h2, fun i hi => h3 i (sub i hi), h4⟩
    keep := fun i hi => ⟨(h0.ri.keep i hi).1, (h.keep i hi).2⟩
    glob := h0.ri.glob
    low := fun k hk hd => h.low k hk (sub k hd) }, h0.free, h0.low, h0.flat, h0.rounds⟩

/-- A region that draws its order. -/
theorem GW_draw {id : Nat} {l : List Oper} (pn : List FuncId) (hm : P.follows .mixedOrders = true) (hB : Region.lexFrom .any l.toArray l.length 0 (Array.replicate l.length false) = true) (hdst : (dstOk n l && unOk P l) = true)
    (h : ∀ (Q : (Nat → Value) → Hp → Tr → Nat → Prop) (Qp : Value → Tr → Prop), (∀ ts hp tr yc, chk .any l.toArray tr = true → K .normal ⟨ts, hp, s.B + 8 * l.length, yc⟩ → Q ts hp tr yc) →
      (∀ pv tr, chk .any l.toArray tr = true → (∀ yc, K (.panic [{ v := pv, recovered := false }]) ⟨keepT l s.ts, s.hp, s.B, yc⟩) → Qp pv tr) → lexX P C.G ⟨C.Y, pn, true⟩ l.toArray s.B Q Qp 0 l s.ts s.hp [] s.yc false false) : GW P C n d ro (.region id l.toArray true) s K := by
  intro r a W hi
  simp only [Bool.and_eq_true] at hdst
  replace h := h (fun ts hp tr yc => chk .any l.toArray tr = true ∧ K .normal ⟨ts, hp, s.B + 8 * l.length, yc⟩) (fun pv tr => chk .any l.toArray tr = true ∧ ∀ yc, K (.panic [{ v := pv, recovered := false }]) ⟨keepT l s.ts, s.hp, s.B, yc⟩) (fun _ _ _ _ a b => ⟨a, b⟩) (fun _ _ a b => ⟨a, b⟩)
  have hw := lexX_sound (P := P) (G := C.G) (V := ⟨C.Y, pn, true⟩) (base := s.B) (K := fun ts hp yc => K .normal ⟨ts, hp, s.B + 8 * l.length, yc⟩) (Kp := fun pv => ∀ yc, K (.panic [{ v := pv, recovered := false }]) ⟨keepT l s.ts, s.hp, s.B, yc⟩) hi.flat hi.low rfl l 0 s.ts s.hp [] s.yc false false (fun _ => ([], [])) hi.ri.glob (by simpa using hi.free) (fun _ => .inl rfl) (fun _ _ => rfl) (unOk_spec hdst.2) h
  refine region_draw (meets hi.flat hi.rounds) meetsU hm hB hdst.1 hi.ri hw ?_ ?_ ?_
  · rintro s' hk hpn r' a' W' hi'
    obtain ⟨hk, hf⟩ := hk.1 hpn
    exact ⟨⟨s'.ts, s'.hp, s.B + 8 * l.length, s'.yc⟩, r', hk, hi', by simpa using hf, by have := hi.low; simp; omega, hi.flat, hi.rounds⟩
  · intro s' pv hk hpn _ r' a' W' ts' hp' yc' hs hts hi'
    exact ⟨_, r', (hk.2 pv hpn).2 yc', hi.panicked hs hts hi'⟩
  · intro s' hk hpn
    cases hp : s'.pn with
    | none => exact absurd hp hpn
    | some pv => exact (hk.2 pv hp).1

/-- A region whose order is that of the text. -/
theorem wpList_of_lexX {ops : Array Oper} {base : Nat} {pn : List FuncId} {Q : Exit → Act → World → Prop} {Kn : (Nat → Value) → Hp → Nat → Prop} {Kp : Value → Prop} {hp0 : Hp} {ts0 : Nat → Value} {l0 : List Oper} (hGF : GFlat C.G) (hR : ∀ y, C.Y = some y → Rounds P C.G C.E y) (hb : 100 ≤ base) : ∀ (l : List Oper) (k : Nat) (ts : Nat → Value) (hp : Hp) (tr : Tr) (yc : Nat) (wr yd : Bool) (r : Nat → Nat) (a : Act) (W : World),
    (∀ o ∈ l, (((∀ dd, o.dst = some dd → dd < n) ∧ ∀ c, o.op ≠ .defer c) ∧ unC P o) ∧ o ∈ l0) → (∀ t, (∀ o ∈ l0, o.dst ≠ some t) → ts t = ts0 t) → RI C n d r ts hp yc a W → (∀ x, base + 8 * k ≤ x → hp x = none) → (wr = false → ∀ k b, hp0 k = some b → hp k = some b) →
    (∀ ts hp yc r a W, Kn ts hp yc → RI C n d r ts hp yc a W → (∀ x, base + 8 * (k + l.length) ≤ x → hp x = none) → Q .normal a W) →
    (∀ pv ts hp yc r a W, Kp pv → (∀ k b, hp0 k = some b → hp k = some b) → (∀ t, (∀ o ∈ l0, o.dst ≠ some t) → ts t = ts0 t) → RI C n d r ts hp yc a W → Q (.panic [{ v := pv, recovered := false }]) a W) →
    lexX P C.G ⟨C.Y, pn, false⟩ ops base (fun ts hp _ yc => Kn ts hp yc) (fun pv _ => Kp pv) k l ts hp tr yc wr yd → wpListIn (Fw P ro) 0 P ops Q l a W
  | [], k, ts, hp, tr, yc, wr, yd, r, a, W, _, _, hi, hn, _, hQ, _, h => hQ ts hp yc r a W h hi (by simpa using hn)
  | o :: l, k, ts, hp, tr, yc, wr, yd, r, a, W, hd, hts, hi, hn, hs0, hQ, hQp, h => by
    have hlen : k + (o :: l).length = (k + 1) + l.length := by simp; omega
    rw [hlen] at hQ
    refine wpListIn_step fun K hK => ?_
    simp only [lexX] at h
    cases hw : wantedG ops o ts with
    | none => rw [hw] at h; exact h.elim
    | some b =>
      rw [hw] at h
      rw [wantedG_eq hi.rel hw]
      cases b with
      | true =>
        simp only at h
        simp only [if_true]
        obtain ⟨e, h1, hs, hyd, h3⟩ := opX_sound hGF hi.glob h
        have hs1 : (wr || !e.ws.isEmpty) = false → ∀ k b, hp0 k = some b → updL hp (e.ws ++ e.ns) k = some b := fun hwr k' b hk' => by
          simp only [Bool.or_eq_false_iff] at hwr
          have e0 : e.ws = [] := by have := hwr.2; simpa using this
          have hh := hs0 hwr.1 k' b hk'
          rw [e0, List.nil_append, updL_other (fun hm => by have := hs.ns k' hm; rw [hn k' (by omega)] at hh; cases hh)]
          exact hh
        refine meets hGF hR o e ts hp yc r a W 0 _ _ hi (hd o (by simp)).1.1 h1 (fun x hx => (hs.ws x hx).2) (fun x hx => ?_) (fun r' a' W' hpn hi' => hK _ _ ?_) (fun pv W' yc' hpn hi' => ?_)
        · have := hs.ns x hx; exact ⟨hn x (by omega), by omega⟩
        · rw [hpn] at h3
          refine wpList_of_lexX hGF hR hb l (k + 1) _ _ _ _ _ _ r' a' W' (fun o ho => hd o (List.mem_cons_of_mem _ ho)) (fun t ht => (putT_keep (ht o (hd o (by simp)).2)).trans (hts t ht)) hi' (fun x hx => ?_) hs1 hQ hQp h3
          rw [updL_other (fun hm => ?_)]
          · exact hn x (by omega)
          · have : x ∈ keys e.ws ∨ x ∈ keys e.ns := by simpa [keys] using hm
            rcases this with h | h
            · exact (hs.ws x h).2.1 (hn x (by omega))
            · have := hs.ns x h; omega
        · rw [hpn] at h3
          obtain ⟨_, hwr, hkp⟩ := h3
          simp only [Bool.or_eq_false_iff] at hwr
          exact hQp pv ts hp yc' r a W' hkp (hs0 hwr.1) hts hi'
      | false =>
        simp only at h
        simp only [Bool.false_eq_true, if_false]
        exact ⟨meetsU (Y := none) o ts r _ a W hi.rel ⟨h.1, (hd o (by simp)).1.2⟩, hK _ _ (wpList_of_lexX hGF hR hb l (k + 1) _ _ _ _ _ _ r _ W (fun o ho => hd o (List.mem_cons_of_mem _ ho)) (fun t ht => (putT_keep (ht o (hd o (by simp)).2)).trans (hts t ht)) (hi.put_undef (hd o (by simp)).1.1.1) (fun x hx => hn x (by omega)) hs0 hQ hQp h.2)⟩

theorem GW_region {id : Nat} {l : List Oper} (pn : List FuncId) (hdst : (dstOk n l && unOk P l) = true) (h : ∀ (Q : (Nat → Value) → Hp → Tr → Nat → Prop) (Qp : Value → Tr → Prop), (∀ ts hp tr yc, K .normal ⟨ts, hp, s.B + 8 * l.length, yc⟩ → Q ts hp tr yc) →
      (∀ pv tr, (∀ yc, K (.panic [{ v := pv, recovered := false }]) ⟨keepT l s.ts, s.hp, s.B, yc⟩) → Qp pv tr) → lexX P C.G ⟨C.Y, pn, false⟩ l.toArray s.B Q Qp 0 l s.ts s.hp [] s.yc false false) : GW P C n d ro (.region id l.toArray false) s K := by
  intro r a W hi
  simp only [Bool.and_eq_true] at hdst
  replace h := h (fun ts hp _ yc => K .normal ⟨ts, hp, s.B + 8 * l.length, yc⟩) (fun pv _ => ∀ yc, K (.panic [{ v := pv, recovered := false }]) ⟨keepT l s.ts, s.hp, s.B, yc⟩) (fun _ _ _ _ a => a) (fun _ _ a => a)
  refine wpIn_region_lit (wpList_of_lexX (Kn := fun ts hp yc => K .normal ⟨ts, hp, s.B + 8 * l.length, yc⟩) (Kp := fun pv => ∀ yc, K (.panic [{ v := pv, recovered := false }]) ⟨keepT l s.ts, s.hp, s.B, yc⟩) (hp0 := s.hp) (ts0 := s.ts) (l0 := l) hi.flat hi.rounds hi.low l 0 s.ts s.hp [] s.yc false false r a W (fun o ho => ⟨⟨dstOk_spec hdst.1 ho, unOk_spec hdst.2 o ho⟩, ho⟩) (fun _ _ => rfl) hi.ri (by simpa using hi.free) (fun _ _ _ h => h) ?_ ?_ h)
  · intro ts hp yc r' a' W' hk hi' hf
    exact ⟨⟨ts, hp, s.B + 8 * l.length, yc⟩, r', hk, hi', by simpa using hf, by have := hi.low; simp; omega, hi.flat, hi.rounds⟩
  · intro pv ts hp yc r' a' W' hk hs hts hi'
    exact ⟨_, r', hk yc, hi.panicked hs hts hi'⟩

/-! ### From a body to a contract -/
def resG1 (P : Program) (ts : Nat → Value) (hp : Hp) : ResultVar → Option Value
  | .tmp t => if notTup (ts t) then some (ts t) else none
  | .cell t T => match ts t with
    | .pointer (some ⟨k, off, none⟩) => match hp k with
      | some b => match loadB P T b.c off with
        | some v => if notTup v then some v else none
        | none => none
      | none => none
    | _ => none
def resGL (P : Program) (ts : Nat → Value) (hp : Hp) : List ResultVar → Option (List Value)
  | [] => some []
  | x :: l => match resG1 P ts hp x with
    | some v => match resGL P ts hp l with
      | some vs => some (v :: vs)
      | none => none
    | none => none
def resG (P : Program) (rs : List ResultVar) (ts : Nat → Value) (hp : Hp) : Option Value :=
  match resGL P ts hp rs with
  | some [v] => some v
  | some vs => some (.tuple vs.toArray)
  | none => none

def resRun (tmps : Array Value) : ResultVar → Sem Value
  | .tmp t => pure (tmps.getD t undef)
  | .cell a t => do loadVar t (← asAddr (tmps.getD a undef))
theorem results_eq (fn : Func) (tmps : Array Value) : results fn tmps = (do let vs ← fn.results.mapM (resRun tmps); pure (if h : vs.size = 1 then vs[0] else .tuple vs)) := by
  unfold results
  congr 2

theorem run_resG1 {r : Nat → Nat} {D : Nat → Prop} {ts : Nat → Value} {hp : Hp} {a : Act} {W : World} (h : Rel r D ts a) (hs : Sat r D hp W) {x : ResultVar} {v : Value} (hv : resG1 P ts hp x = some v) :
    (resRun a.tmps x).run P W = .ok (ren r v) W ∧ notTup v = true := by
  cases x with
  | tmp t =>
    simp only [resG1] at hv
    split at hv
    · rename_i hn
      cases hv
      have := (h t).resolve_left (by intro e; rw [e] at hn; simp [notTup, junk] at hn)
      exact ⟨by simp only [resRun, Sem.run_pure, this.1], hn⟩
    · cases hv
  | cell t T =>
    simp only [resG1] at hv
    split at hv
    · rename_i k off hg
      split at hv
      · rename_i b hb
        split at hv
        · rename_i u hu
          split at hv
          · rename_i hn
            cases hv
            have h1 := (h t).resolve_left (by rw [hg]; simp [junk])
            rw [hg] at h1
            have h3 : a.tmps.getD t undef = .pointer (some ⟨r k, off, none⟩) := h1.1
            refine ⟨?_, hn⟩
            simp only [resRun, h3, asAddr]
            have := run_loadVar_blk hu (hs k b hb).1
            simpa using this
          · cases hv
        · cases hv
      · cases hv
    · cases hv

theorem run_resGL {r : Nat → Nat} {D : Nat → Prop} {ts : Nat → Value} {hp : Hp} {a : Act} {W : World} (h : Rel r D ts a) (hs : Sat r D hp W) : ∀ (l : List ResultVar) (vs : List Value), resGL P ts hp l = some vs →
    (l.mapM (resRun a.tmps)).run P W = .ok (vs.map (ren r)) W ∧ ∀ v ∈ vs, notTup v = true
  | [], vs, hv => by simp only [resGL, Option.some.injEq] at hv; subst hv; simp
  | x :: l, vs, hv => by
    simp only [resGL] at hv
    split at hv
    · rename_i v h1
      split at hv
      · rename_i us h2
        cases hv
        have e1 := run_resG1 h hs h1
        have e2 := run_resGL h hs l us h2
        refine ⟨?_, fun u hu => ?_⟩
        · rw [List.mapM_cons, Sem.run_bind, e1.1]
          simp only [Result.andThen_ok, Sem.run_bind, e2.1, Sem.run_pure, List.map_cons]
        · rcases List.mem_cons.1 hu with rfl | hu
          · exact e1.2
          · exact e2.2 u hu
      · cases hv
    · cases hv

theorem ren_notTup {r : Nat → Nat} {v : Value} (h : notTup v = true) : ren r v = renA r v := by cases v <;> simp_all [notTup, ren]

theorem run_resG' {fn : Func} {r : Nat → Nat} {D : Nat → Prop} {ts : Nat → Value} {hp : Hp} {a : Act} {W : World} (h : Rel r D ts a) (hs : Sat r D hp W) {v : Value} (hv : resG P fn.results.toList ts hp = some v) : (results fn a.tmps).run P W = .ok (ren r v) W := by
  unfold resG at hv
  have key : ∀ vs, resGL P ts hp fn.results.toList = some vs → (results fn a.tmps).run P W = .ok (if h : (vs.map (ren r)).toArray.size = 1 then (vs.map (ren r)).toArray[0] else .tuple (vs.map (ren r)).toArray) W ∧ ∀ v ∈ vs, notTup v = true := fun vs hvs => by
    have e := run_resGL h hs _ _ hvs
    refine ⟨?_, e.2⟩
    rw [results_eq, Array.mapM_eq_mapM_toList]
    simp only [Sem.run_bind, Sem.run_map, e.1, Result.andThen_ok, Sem.run_pure]
  split at hv
  · rename_i u hu
    cases hv
    have := (key _ hu).1
    simpa using this
  · rename_i vs hn hu
    cases hv
    have e := key _ hu
    rw [e.1]
    have hlen : vs.length ≠ 1 := fun hl => by
      match vs, hl with
      | [u], _ => exact hn u rfl
    rw [dif_neg (by simpa using hlen)]
    simp only [ren]
    congr 2
    apply Array.ext'
    simp only [Array.toList_map]
    exact List.map_congr_left fun v hv => ren_notTup (e.2 v hv)
  · cases hv

/-- Marks alone among the deferred calls. -/
theorem leavesM {n : Nat} {fn : Func} {tmps : Array Value} {R : Ending → World → Prop} {u : FrameMode} (hu : u ≠ .run) : ∀ (ms : List Nat) (W : World), ms.Nodup → (∀ D ∈ ms, W.heap[D]? = some (.deferred (some []))) →
    (∀ W' : World, W'.heap.size = W.heap.size → W'.os = W.os → W'.tape = W.tape → W'.output = W.output → (∀ k, k ∉ ms → W'.heap[k]? = W.heap[k]?) → LeavesIn (Fw P none) n P fn tmps R [] u W') → LeavesInM (Fw P none) n P fn tmps R (ms.map mark) u W
  | [], W, _, _, h => h W rfl rfl rfl rfl fun _ _ => rfl
  | D :: ms, W, hn, hd, h => by
    have hD := hd D (by simp)
    have hn' := List.nodup_cons.1 hn
    refine ⟨hu, .inl ⟨D, _, rfl, run_takeDeferred hD, leavesM hu ms _ hn'.2 (fun E hE => ?_) fun W' e1 e2 e3 e4 e5 => h W' ?_ e2 e3 e4 fun k hk => ?_⟩⟩
    · rw [World.putObj_heap_other (fun e => hn'.1 (by rw [← e]; exact hE))]; exact hd E (List.mem_cons_of_mem _ hE)
    · rw [e1, putObj_size]
    · simp only [List.mem_cons, not_or] at hk
      rw [e5 k hk.2, World.putObj_heap_other (fun e => hk.1 e)]

/-- What a call that begins here says of the world outside. -/
def callE (W : World) (D : Nat → Prop) : Ext where
  X _ S W' := (∀ k, S k ↔ k < W.heap.size ∧ ¬ D k) ∧ W'.os = W.os ∧ W'.tape = W.tape ∧ W'.output = W.output ∧ W.heap.size ≤ W'.heap.size ∧ ∀ k, S k → W'.heap[k]? = W.heap[k]?
  ok _ _ _ _ h hs os tape output size := ⟨h.1, os.trans h.2.1, tape.trans h.2.2.1, output.trans h.2.2.2.1, Nat.le_trans h.2.2.2.2.1 size, fun k hk => (hs k hk).trans (h.2.2.2.2.2 k hk)⟩

def resP (P : Program) (fn : Func) (hp : Hp) (res : Res) (e : Exit) (s : GS) : Prop :=
  match res with
  | .ret v ws => (e = .normal ∨ e = .ret) ∧ resG P fn.results.toList s.ts s.hp = some v ∧ ∀ k, dom hp k → s.hp k = updL hp ws k
  | .pan v => e = .panic [{ v := v, recovered := false }] ∧ ∀ k, dom hp k → s.hp k = hp k
  | .new _ _ => False

theorem updL_once : ∀ {ws : List (Nat × Blk)} {hp : Hp} {p : Nat × Blk}, p ∈ ws → (∀ k b c, (k, b) ∈ ws → (k, c) ∈ ws → b = c) → updL hp ws p.1 = some p.2 := fun {ws hp p} hp1 ho => by
  have hd : dom (updL hp ws) p.1 := updL_dom.2 (.inr (mem_keys.2 ⟨p, hp1, rfl⟩))
  unfold dom at hd
  cases hb : updL hp ws p.1 with
  | none => exact absurd hb hd
  | some b =>
    rcases updL_mem hb with ⟨_, h2⟩ | h2
    · exact absurd (mem_keys.2 ⟨p, hp1, rfl⟩) h2
    · rw [ho p.1 b p.2 h2 hp1]

/-- **FROM A BODY TO A CONTRACT.** -/
theorem fun_of {f : FuncId} {fn : Func} {c : Code} {args : Array Value} {hp : Hp} {rs : List Nat} {res : Res} {B : Nat} (hGF : GFlat G) (hG : ∀ k, k < 100 → hp k = G k) (hf : P.funcs[f]? = some fn) (hb : fn.body = some c) (hcall : ∀ a w, (callFunc f a).run P w = .ok (.enter f a) w)
    (ha : ∀ x ∈ args, idsV (dom (rst hp rs)) x) (hcl : ∀ k b, rst hp rs k = some b → b.ids (dom (rst hp rs))) (hfit : res.fits hp rs) (hn : args.size ≤ fn.ntmps) (hB : 100 ≤ B) (hfree : ∀ x, B ≤ x → rst hp rs x = none)
    (h : ∀ C : Ctx, C.G = G → C.hp0 = rst hp rs → C.Y = none → GW P C fn.ntmps [] none c ⟨fun t => args.getD t undef, rst hp rs, B, 0⟩ (resP P fn (rst hp rs) res)) : Fun P G f args hp rs res := by
  refine ⟨hcall, ha, hcl, hfit, fun r W hgok hsat hinj hlow => callsIn_of_wp_marks hf hb ⟨fn, hf⟩ ?_⟩
  have ltW : ∀ k, dom (rst hp rs) k → r k < W.heap.size := fun k hk => by
    unfold dom at hk
    cases hb : rst hp rs k with
    | none => exact absurd hb hk
    | some b => exact (Array.getElem?_eq_some_iff.1 (hsat k b hb).1).1
  let im : Nat → Prop := fun j => ∃ i, dom (rst hp rs) i ∧ r i = j
  let C : Ctx := ⟨callE W im, rst hp rs, r, G, none⟩
  have hi : GI P C fn.ntmps [] r ⟨fun t => args.getD t undef, rst hp rs, B, 0⟩ { tmps := args.map (ren r) ++ Array.replicate (fn.ntmps - (args.map (ren r)).size) undef, defers := [] } W := by
    refine ⟨⟨by simp; omega, fun t => ?_, hsat, hinj, ⟨fun k => k < W.heap.size ∧ ¬ im k, [], ⟨fun _ => Iff.rfl, rfl, rfl, rfl, Nat.le_refl _, fun _ _ => rfl⟩, fun k hk => hk.1, fun i hi _ hS => hS.2 ⟨i, hi, rfl⟩, ⟨rfl, List.nodup_nil⟩, by simp⟩,
      fun i hi => ⟨hi, rfl⟩, fun k hk => ?_, hlow⟩, hfree, hB, hGF, fun y hy => by cases hy⟩
    · right
      dsimp only
      by_cases ht : t < args.size
      · have hm : args[t] ∈ args := Array.getElem_mem ht
        have e : args.getD t undef = args[t] := by simp [Array.getD, ht]
        rw [e]
        refine ⟨?_, ha _ hm⟩
        have : t < (args.map (ren r)).size := by simpa using ht
        simp [Array.getElem?_append_left this, ht]
      · have e : args.getD t undef = undef := by simp [Array.getElem?_eq_none (Nat.le_of_not_lt ht)]
        rw [e]
        refine ⟨?_, ids_undef _⟩
        rw [ren_undef]
        simp only [Array.getD_eq_getD_getElem?]
        rw [Array.getElem?_append_right (by simpa using Nat.le_of_not_lt ht), Array.getElem?_replicate]
        split <;> rfl
    · show rst hp rs k = G k
      simp [rst, hk, hG k hk]
  refine wpIn_mono (h C rfl rfl rfl r _ W hi) ?_
  rintro e a' W' ⟨s', r', hres, hi'⟩
  obtain ⟨S, ms, ⟨hS, os, tape, output, size, hsame⟩, hS1, hS2, ⟨hdef, hnd⟩, hms⟩ := hi'.ri.ext
  have hkeep : ∀ i, dom (rst hp rs) i → dom s'.hp i ∧ r' i = r i := hi'.ri.keep
  have hobj : ∀ b : Blk, b.ids (dom (rst hp rs)) → b.obj r' = b.obj r := fun b hb => Blk.obj_congr (fun k hk => (hkeep k hk).2) hb
  -- the blocks of what was there
  have old : ∀ W'' : World, (∀ k, k ∉ ms → W''.heap[k]? = W'.heap[k]?) → ∀ k, k < W.heap.size → ¬ im k → W''.heap[k]? = W.heap[k]? := fun W'' hW k hk hi => by
    have hSk : S k := (hS k).2 ⟨hk, hi⟩
    rw [hW k (fun hm => (hms k hm).2.1 hSk)]
    exact hsame k hSk
  have mine : ∀ W'' : World, (∀ k, k ∉ ms → W''.heap[k]? = W'.heap[k]?) → ∀ i b, s'.hp i = some b → W''.heap[r' i]? = some (b.obj r') := fun W'' hW i b hb => by
    rw [hW _ (fun hm => hi'.ri.ne_mark (by unfold dom; rw [hb]; simp) (hms _ hm).1 rfl)]
    exact (hi'.ri.sat i b hb).1
  cases res with
  | ret v ws =>
    obtain ⟨he, hr, hhp⟩ := hres
    have hend : ∀ W'' : World, W''.heap.size = W'.heap.size → W''.os = W'.os → W''.tape = W'.tape → W''.output = W'.output → (∀ k, k ∉ ms → W''.heap[k]? = W'.heap[k]?) →
        LeavesIn (Fw P none) 0 P fn a'.tmps ((Res.ret v ws).holds r (dom (rst hp rs)) W) [] .returning W'' := fun W'' e1 e2 e3 e4 e5 => by
      have hsat' : Sat r' (dom s'.hp) s'.hp W'' := fun k b hk => ⟨mine W'' e5 k b hk, (hi'.ri.sat k b hk).2⟩
      have hrun := run_resG' (fn := fn) hi'.ri.rel hsat' hr
      rw [ren_congr (fun k hk => (hkeep k hk).2) hfit.1] at hrun
      refine ⟨_, hrun, rfl, ?_⟩
      refine ⟨e2.trans os, e3.trans tape, e4.trans output, by rw [e1]; exact size, fun k hk hnw => ?_, fun p hp1 => ?_, by simp, by simp⟩
      · by_cases hk' : im k
        · obtain ⟨i, hi1, rfl⟩ := hk'
          have hiw : i ∉ keys ws := fun hm => by obtain ⟨p, hp1, rfl⟩ := mem_keys.1 hm; exact hnw p hp1 rfl
          cases hb : rst hp rs i with
          | none => exact absurd hb hi1
          | some b =>
            have e : s'.hp i = some b := by rw [hhp i hi1, updL_other hiw]; exact hb
            have := mine W'' e5 i b e
            rw [(hkeep i hi1).2, hobj b (hcl i b hb)] at this
            rw [this, (hsat i b hb).1]
        · exact old W'' e5 k hk hk'
      · simp only [List.append_nil] at hp1
        have hk := hfit.2.1 p.1 (mem_keys.2 ⟨p, hp1, rfl⟩)
        have hdm : dom (rst hp rs) p.1 := by unfold dom rst at *; simp [hk.1]; exact hk.2.1
        have e : s'.hp p.1 = some p.2 := by rw [hhp _ hdm]; exact updL_once hp1 hfit.2.2.1
        have := mine W'' e5 _ _ e
        have hid := hfit.2.2.2 p hp1
        rw [(hkeep _ hdm).2, hobj _ hid] at this
        exact ⟨this, Blk.ids_mono (fun k hk => .inl hk) hid⟩
    rcases he with rfl | rfl
    · show LeavesInM _ _ _ _ _ _ a'.defers _ _
      rw [hdef, List.append_nil]
      exact leavesM (by simp) ms W' hnd (fun D hD => (hms D hD).1) hend
    · show LeavesInM _ _ _ _ _ _ a'.defers _ _
      rw [hdef, List.append_nil]
      exact leavesM (by simp) ms W' hnd (fun D hD => (hms D hD).1) hend
  | new v ns => exact hres.elim
  | pan v =>
    obtain ⟨rfl, hhp⟩ := hres
    show LeavesInM _ _ _ _ _ _ a'.defers _ _
    rw [hdef, List.append_nil]
    refine leavesM (by simp) ms W' hnd (fun D hD => (hms D hD).1) fun W'' e1 e2 e3 e4 e5 => ?_
    refine ⟨rfl, e2.trans os, e3.trans tape, e4.trans output, by rw [e1]; exact size, fun k hk => ?_⟩
    by_cases hk' : im k
    · obtain ⟨i, hi1, rfl⟩ := hk'
      cases hb : rst hp rs i with
      | none => exact absurd hb hi1
      | some b =>
        have e : s'.hp i = some b := by rw [hhp i hi1]; exact hb
        have := mine W'' e5 i b e
        rw [(hkeep i hi1).2, hobj b (hcl i b hb)] at this
        rw [this, (hsat i b hb).1]
    · exact old W'' e5 k hk hk'

theorem rst_G (hGF : GFlat G) (rs : List Nat) : rst G rs = G := funext fun k => by
  unfold rst
  split
  · rfl
  · rename_i hk
    cases hg : G k with
    | none => rfl
    | some b => exact absurd (.inl (hGF k b hg).1) hk

theorem gok_sat (hGF : GFlat G) {W : World} (h : GOK G W) : Sat id (dom G) G W := fun k b hk => by
  obtain ⟨_, hfl⟩ := hGF k b hk
  refine ⟨?_, fun x hx => flatF_ids (hfl x hx)⟩
  rw [id, h k b hk]
  unfold Blk.obj
  rw [map_eq_self (fun x hx => flatF_ren (hfl x hx))]

/-- A contract by ghost names that looks at no block. -/
theorem ret_of_fun {f : FuncId} {args : Array Value} {v : Value} (hGF : GFlat G) (hv : flatV v = true) (ha : ∀ x ∈ args, flatV x = true) (h : Fun P G f args G [] (.ret v [])) : Ret P G f args v := by
  refine ⟨hv, ha, h.enter, fun W hW => ?_⟩
  have hrun := h.run id W hW (by rw [rst_G hGF]; exact gok_sat hGF hW) (fun _ _ _ _ e => e) (fun _ _ _ => rfl)
  rw [map_eq_self (fun x hx => flatV_ren (ha x hx))] at hrun
  refine hrun.mono fun e W' ⟨he, ht⟩ => ?_
  rw [flatV_ren hv] at he
  exact ⟨he, ht.os, ht.tape, ht.output, ht.size, fun k hk => ht.same k hk (by simp)⟩

theorem ret_of {f : FuncId} {fn : Func} {c : Code} {args : Array Value} {v : Value} (hGF : GFlat G) (hf : P.funcs[f]? = some fn) (hb : fn.body = some c) (hcall : ∀ a w, (callFunc f a).run P w = .ok (.enter f a) w)
    (hv : flatV v = true) (ha : ∀ x ∈ args, flatV x = true) (hn : args.size ≤ fn.ntmps)
    (h : ∀ C : Ctx, C.G = G → C.hp0 = G → C.Y = none → GW P C fn.ntmps [] none c ⟨fun t => args.getD t undef, G, 200, 0⟩ (fun e s => (e = .normal ∨ e = .ret) ∧ resG P fn.results.toList s.ts s.hp = some v)) : Ret P G f args v := by
  refine ret_of_fun hGF hv ha (fun_of (B := 200) hGF (fun _ _ => rfl) hf hb hcall (fun x hx => flatV_ids (ha x hx)) (fun k b hk => ?_) ⟨flatV_ids hv, by simp [keys], by simp, by simp⟩ hn (by omega) (fun x hx => ?_) fun C h1 h2 h3 => ?_)
  · rw [rst_G hGF] at hk ⊢
    exact fun x hx => flatF_ids ((hGF k b hk).2 x hx)
  · rw [rst_G hGF]
    cases hg : G x with
    | none => rfl
    | some b => have := (hGF x b hg).1; omega
  · rw [rst_G hGF] at h2 ⊢
    intro r a W hi
    refine wpIn_mono (h C h1 h2 h3 r a W hi) ?_
    rintro e a' W' ⟨s', r', ⟨he, hr⟩, hi'⟩
    refine ⟨s', r', ⟨he, hr, fun k hk => ?_⟩, hi'⟩
    have hlt : k < 100 := by
      unfold dom at hk
      cases hg : G k with
      | none => exact absurd hg hk
      | some b => exact (hGF k b hg).1
    simp only [updL]
    rw [hi'.ri.glob k hlt, h1]

/-- A contract of a function that may panic. -/
theorem retp_of {f : FuncId} {fn : Func} {c : Code} {args : Array Value} {oc : Out} (hGF : GFlat G) (hf : P.funcs[f]? = some fn) (hb : fn.body = some c) (hcall : ∀ a w, (callFunc f a).run P w = .ok (.enter f a) w)
    (hv : ∀ v, oc = .ret v → flatV v = true) (ha : ∀ x ∈ args, flatV x = true) (hn : args.size ≤ fn.ntmps)
    (h : ∀ C : Ctx, C.G = G → C.hp0 = G → C.Y = none → GW P C fn.ntmps [] none c ⟨fun t => args.getD t undef, G, 200, 0⟩ (fun e s => match oc with
      | .ret v => (e = .normal ∨ e = .ret) ∧ resG P fn.results.toList s.ts s.hp = some v
      | .pan v => e = .panic [{ v := v, recovered := false }])) : RetP P G f args oc := by
  refine ⟨hv, ha, hcall, fun W hW => ?_⟩
  have low : ∀ k, dom G k → k < 100 := fun k hk => by
    unfold dom at hk
    cases hg : G k with
    | none => exact absurd hg hk
    | some b => exact (hGF k b hg).1
  cases oc with
  | ret v =>
    have hr := ret_of (v := v) hGF hf hb hcall (hv v rfl) ha hn h
    exact hr.2.2.2 W hW
  | pan v =>
    have hfun : Fun P G f args G [] (.pan v) := by
      refine fun_of (B := 200) hGF (fun _ _ => rfl) hf hb hcall (fun x hx => flatV_ids (ha x hx)) (fun k b hk => ?_) trivial hn (by omega) (fun x hx => ?_) fun C h1 h2 h3 => ?_
      · rw [rst_G hGF] at hk ⊢
        exact fun x hx => flatF_ids ((hGF k b hk).2 x hx)
      · rw [rst_G hGF]
        cases hg : G x with
        | none => rfl
        | some b => have := (hGF x b hg).1; omega
      · rw [rst_G hGF] at h2 ⊢
        intro r a W hi
        refine wpIn_mono (h C h1 h2 h3 r a W hi) ?_
        rintro e a' W' ⟨s', r', he, hi'⟩
        exact ⟨s', r', ⟨he, fun k hk => by rw [hi'.ri.glob k (low k hk), h1]⟩, hi'⟩
    have hrun := hfun.run id W hW (by rw [rst_G hGF]; exact gok_sat hGF hW) (fun _ _ _ _ e => e) (fun _ _ _ => rfl)
    rw [map_eq_self (fun x hx => flatV_ren (ha x hx))] at hrun
    exact hrun

/-- Two contracts of one call say the same. -/
theorem Ret.unique {f : FuncId} {args : Array Value} {v u : Value} (hW : ∃ W, GOK G W) (hi : P.inits.idxOf? f = none) (h : Ret P G f args v) (h' : Ret P G f args u) : v = u := by
  obtain ⟨W, hW⟩ := hW
  have mk : ∀ {v : Value}, Ret P G f args v → ∃ k w', runN P k (lone (Frame.enter P f args .normal) [] W) = .ended (.done v) w' := fun {v} h => by
    have := (h.2.2.2 W hW).calls.mono (R' := fun | .returned x, _ => x = v | _, _ => False) (fun e w' ⟨he, _⟩ => by subst he; rfl)
    obtain ⟨k, x, w', h1, h2⟩ := this.done hi
    exact ⟨k, w', by rw [h1]; cases h2; rfl⟩
  obtain ⟨k, w1, h1⟩ := mk h
  obtain ⟨l, w2, h2⟩ := mk h'
  have more : ∀ {k : Nat} {x : Value} {w : World}, runN P k (lone (Frame.enter P f args .normal) [] W) = .ended (.done x) w → ∀ m, runN P (k + m) (lone (Frame.enter P f args .normal) [] W) = .ended (.done x) w := fun {k x w} hk m => by
    rw [runN_add, hk]
  have e1 := more h1 l
  have e2 := more h2 k
  rw [Nat.add_comm] at e2
  rw [e1] at e2
  injection e2 with e2
  injection e2

theorem callK_iff {f : FuncId} {args : Array Value} {v : Value} {K : Value → Prop} (hW : ∃ W, GOK G W) (hi : P.inits.idxOf? f = none) (h : Ret P G f args v) : callK P G f args K ↔ K v := by
  refine ⟨fun ⟨u, hu, hk⟩ => ?_, fun hk => ⟨v, .inl h, hk⟩⟩
  rcases hu with hu | hu
  · exact Ret.unique hW hi h hu ▸ hk
  · have := h.2.2.1 args default
    rw [hu.2.2 default] at this
    cases this
theorem callK_iffV {f : FuncId} {args : Array Value} {v : Value} {K : Value → Prop} (h : RetV P f args v) : callK P G f args K ↔ K v := by
  refine ⟨fun ⟨u, hu, hk⟩ => ?_, fun hk => ⟨v, .inr h, hk⟩⟩
  rcases hu with hu | hu
  · have := hu.2.2.1 args default
    rw [h.2.2 default] at this
    cases this
  · have := hu.2.2 default
    rw [h.2.2 default] at this
    injection this with this
    injection this with this
    subst this
    exact hk

end
end Go.Gy
