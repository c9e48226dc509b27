/-
  Lemmas of this claim, in their order (GyK, GyK2, GyK3, GyK4, GyV2, GyRC, GyRF, GyRG, GyRH).
  Conditions: those of each theorem.
-/
import Derived.Test.YtggidgaeggekhaaDoorGz04
import Derived.ArgAppend
namespace Go.Gy
open Go Go.RowKit
section
variable {P : Program} {G : Hp} {V : XV}
variable {C : Ctx} {n : Nat} {d : List Deferred} {ro : Option Nat} {s : GS} {K : Exit → GS → Prop} {yc : Nat}
theorem wpList_pre (rest' : List Oper) {ops : Array Oper} {base : Nat} {pn : List FuncId} {Q : Exit → Act → World → Prop} {Kn : (Nat → Value) → Hp → Nat → Prop} {Kp : Value → Prop} {hp0 : Hp} {ts0 : Nat → Value} {l0 : List Oper} (hGF : GFlat C.G) (hR : ∀ y, C.Y = some y → Rounds P C.G C.E y) (hb : 100 ≤ base) : ∀ (l : List Oper) (k : Nat) (ts : Nat → Value) (hp : Hp) (tr : Tr) (yc : Nat) (wr yd : Bool) (r : Nat → Nat) (a : Act) (W : World),
    (∀ o ∈ l, (((∀ dd, o.dst = some dd → dd < n) ∧ ∀ c, o.op ≠ .defer c) ∧ unC P o) ∧ o ∈ l0) → (∀ t, (∀ o ∈ l0, o.dst ≠ some t) → ts t = ts0 t) → RI C n d r ts hp yc a W → (∀ x, base + 8 * k ≤ x → hp x = none) → (wr = false → ∀ k b, hp0 k = some b → hp k = some b) →
    (∀ ts hp yc r a W, Kn ts hp yc → RI C n d r ts hp yc a W → (∀ x, base + 8 * (k + l.length) ≤ x → hp x = none) → (∀ t, (∀ o ∈ l0, o.dst ≠ some t) → ts t = ts0 t) → wpListIn (Fw P ro) 0 P ops Q rest' a W) →
    (∀ pv ts hp yc r a W, Kp pv → (∀ k b, hp0 k = some b → hp k = some b) → (∀ t, (∀ o ∈ l0, o.dst ≠ some t) → ts t = ts0 t) → RI C n d r ts hp yc a W → Q (.panic [{ v := pv, recovered := false }]) a W) →
    lexX P C.G ⟨C.Y, pn, false⟩ ops base (fun ts hp _ yc => Kn ts hp yc) (fun pv _ => Kp pv) k l ts hp tr yc wr yd → wpListIn (Fw P ro) 0 P ops Q (l ++ rest') a W
  | [], k, ts, hp, tr, yc, wr, yd, r, a, W, _, hts, hi, hn, _, hQ, _, h => hQ ts hp yc r a W h hi (by simpa using hn) hts
  | o :: l, k, ts, hp, tr, yc, wr, yd, r, a, W, hd, hts, hi, hn, hs0, hQ, hQp, h => by
    have hlen : k + (o :: l).length = (k + 1) + l.length := by simp; omega
    rw [hlen] at hQ
    refine wpListIn_step fun K hK => ?_
    simp only [lexX] at h
    cases hw : wantedG ops o ts with
    | none => rw [hw] at h; exact h.elim
    | some b =>
      rw [hw] at h
      rw [wantedG_eq hi.rel hw]
      cases b with
      | true =>
        simp only at h
        simp only [if_true]
        obtain ⟨e, h1, hs, hyd, h3⟩ := opX_sound hGF hi.glob h
        have hs1 : (wr || !e.ws.isEmpty) = false → ∀ k b, hp0 k = some b → updL hp (e.ws ++ e.ns) k = some b := fun hwr k' b hk' => by
          simp only [Bool.or_eq_false_iff] at hwr
          have e0 : e.ws = [] := by have := hwr.2; simpa using this
          have hh := hs0 hwr.1 k' b hk'
          rw [e0, List.nil_append, updL_other (fun hm => by have := hs.ns k' hm; rw [hn k' (by omega)] at hh; cases hh)]
          exact hh
        refine meets hGF hR o e ts hp yc r a W 0 _ _ hi (hd o (by simp)).1.1 h1 (fun x hx => (hs.ws x hx).2) (fun x hx => ?_) (fun r' a' W' hpn hi' => hK _ _ ?_) (fun pv W' yc' hpn hi' => ?_)
        · have := hs.ns x hx; exact ⟨hn x (by omega), by omega⟩
        · rw [hpn] at h3
          refine wpList_pre rest' hGF hR hb l (k + 1) _ _ _ _ _ _ r' a' W' (fun o ho => hd o (List.mem_cons_of_mem _ ho)) (fun t ht => (putT_keep (ht o (hd o (by simp)).2)).trans (hts t ht)) hi' (fun x hx => ?_) hs1 hQ hQp h3
          rw [updL_other (fun hm => ?_)]
          · exact hn x (by omega)
          · have : x ∈ keys e.ws ∨ x ∈ keys e.ns := by simpa [keys] using hm
            rcases this with h | h
            · exact (hs.ws x h).2.1 (hn x (by omega))
            · have := hs.ns x h; omega
        · rw [hpn] at h3
          obtain ⟨_, hwr, hkp⟩ := h3
          simp only [Bool.or_eq_false_iff] at hwr
          exact hQp pv ts hp yc' r a W' hkp (hs0 hwr.1) hts hi'
      | false =>
        simp only at h
        simp only [Bool.false_eq_true, if_false]
        exact ⟨meetsU (Y := none) o ts r _ a W hi.rel ⟨h.1, (hd o (by simp)).1.2⟩, hK _ _ (wpList_pre rest' hGF hR hb l (k + 1) _ _ _ _ _ _ r _ W (fun o ho => hd o (List.mem_cons_of_mem _ ho)) (fun t ht => (putT_keep (ht o (hd o (by simp)).2)).trans (hts t ht)) (hi.put_undef (hd o (by simp)).1.1.1) (fun x hx => hn x (by omega)) hs0 hQ hQp h.2)⟩

theorem upon_append {o : Oper} {a : Act} {W : World} {R Rp : Value → World → Prop} {x y : Operand} {t e : TypeId} {i : TypeInfo} {z : Value} {g sl cap g2 m m' : Nat} {cur cur2 : Array Value} {e2 : TypeId}
    (ho : o.op = .call { callee := .builtin .append, args := #[x, y], argTypes := #[t, t] }) (ht : P.underlying t = some (.slice e)) (hi : P.info? e = some i) (hz : i.zero = some z)
    (hx : a.eval x = .slice (some ⟨g, 0, none⟩) sl cap) (hg : W.heap[g]? = some (.cells cur e (0, 0))) (hy : a.eval y = .slice (some ⟨g2, 0, none⟩) m m') (hg2 : W.heap[g2]? = some (.cells cur2 e2 (0, 0)))
    (hm : m * i.size ≤ cur2.size) (hc : cap * i.size ≤ cur.size) (hsl : sl ≤ cap) (hb1 : sl + m ≤ maxLen) (hb2 : (sl + m) * i.bytes ≤ 140737488355328) (h1 : ∀ u ∈ cur2.toList.take (m * i.size), u.oneCell' = true)
    (room : sl + m ≤ cap → R (.slice (some ⟨g, 0, none⟩) (sl + m) cap) (W.setRow g (cur.toList.take (sl * i.size) ++ cur2.toList.take (m * i.size) ++ cur.toList.drop (sl * i.size + (cur2.toList.take (m * i.size)).length)).toArray))
    (grow : cap < sl + m → ∀ cap', sl + m ≤ cap' → R (.slice (some ⟨W.heap.size, 0, none⟩) (sl + m) cap') (W.drew.alloc (.cells ((cur.toList.take (sl * i.size)).toArray ++ (cur2.toList.take (m * i.size)).toArray ++ Builtin.zeroCells z.cells (cap' - (sl + m))) e))) : Upon P o a W R Rp := by
  have hl : (cur2.toList.take (m * i.size)).length = m * i.size := by simp [List.length_take]; omega
  have hn : ∀ j u, (cur2.toList.take (m * i.size))[j]? = some u → W.cell? ((⟨g2, 0, none⟩ : Addr).add j) = some u := fun j u hj => by
    rw [List.getElem?_take] at hj
    split at hj
    · rw [Addr.add_lit]
      simp only [World.cell?, hg2, Nat.zero_add]
      simpa using hj
    · cases hj
  unfold Upon
  by_cases hr : sl + m ≤ cap
  · have hfit : sl * i.size + (cur2.toList.take (m * i.size)).length ≤ cur.size := by
      rw [hl, ← Nat.add_mul]; exact Nat.le_trans (Nat.mul_le_mul_right _ hr) hc
    have h := run_append_room (P := P) W t o.type e i ht hi g sl cap cur hg ⟨g2, 0, none⟩ m m' _ hl hn h1 hr hfit
    simp only [execOp, ho, resolve, Sem.run_bind, Sem.run_pure, Result.andThen_ok, invoke, builtin, List.map_toArray, List.map_cons, List.map_nil, hx, hy, h]
    exact room hr
  · have hlo : (cur.toList.take (sl * i.size)).length = sl * i.size := by
      have := Nat.mul_le_mul_right i.size hsl
      simp [List.length_take]; omega
    have hold : ∀ j u, (cur.toList.take (sl * i.size))[j]? = some u → W.cell? ((⟨g, 0, none⟩ : Addr).add j) = some u := fun j u hj => by
      rw [List.getElem?_take] at hj
      split at hj
      · rw [Addr.add_lit]
        simp only [World.cell?, hg, Nat.zero_add]
        simpa using hj
      · cases hj
    have h := run_append_grow (P := P) W t o.type e i z ht hi hz ⟨g, 0, none⟩ sl cap _ hlo hold ⟨g2, 0, none⟩ m m' _ hl hn (by omega) (by simp only [maxLen] at hb1; omega) (growslice_fits (by omega) hb2)
    simp only [execOp, ho, resolve, Sem.run_bind, Sem.run_pure, Result.andThen_ok, invoke, builtin, List.map_toArray, List.map_cons, List.map_nil, hx, hy, h]
    exact grow (by omega) _ (grownCap_ge _ _ _ _)
theorem step_append {r : Nat → Nat} {ts : Nat → Value} {hp : Hp} {a : Act} {W : World} {ro : Option Nat} {mn : Nat} {o : Oper} {tx ty : Tmp} {t e : TypeId} {i : TypeInfo} {z : Value} {k j sl cap m m' nk : Nat} {b b2 : Blk} {next : Act → World → Prop} {Q : Exit → Act → World → Prop}
    (h : RI C n d r ts hp yc a W) (hd : ∀ dd, o.dst = some dd → dd < n)
    (ho : o.op = .call { callee := .builtin .append, args := #[.tmp tx, .tmp ty], argTypes := #[t, t] }) (ht : P.underlying t = some (.slice e)) (hi : P.info? e = some i) (hz : i.zero = some z)
    (hx : ts tx = .slice (some ⟨k, 0, none⟩) sl cap) (hk : 100 ≤ k) (hb : hp k = some b) (hbT : b.T = e) (hbf : ∀ x ∈ b.c, flatF x = true)
    (hy : ts ty = .slice (some ⟨j, 0, none⟩) m m') (hb2 : hp j = some b2) (hb2f : ∀ x ∈ b2.c, flatF x = true) (h1 : ∀ u ∈ b2.c.toList.take (m * i.size), u.oneCell' = true) (hzf : ∀ c, ∀ x ∈ Builtin.zeroCells z.cells c, flatF x = true)
    (hm : m * i.size ≤ b2.c.size) (hc : cap * i.size ≤ b.c.size) (hsl : sl ≤ cap) (hs1 : sl + m ≤ maxLen) (hs2 : (sl + m) * i.bytes ≤ 140737488355328) (hnk : hp nk = none ∧ 100 ≤ nk)
    (room : sl + m ≤ cap → ∀ r' a' W', RI C n d r' (putT ts o.dst (.slice (some ⟨k, 0, none⟩) (sl + m) cap)) (upd hp k (some ⟨(b.c.toList.take (sl * i.size) ++ b2.c.toList.take (m * i.size) ++ b.c.toList.drop (sl * i.size + (b2.c.toList.take (m * i.size)).length)).toArray, e⟩)) yc a' W' → next a' W')
    (grow : cap < sl + m → ∀ cap', sl + m ≤ cap' → ∀ r' a' W', RI C n d r' (putT ts o.dst (.slice (some ⟨nk, 0, none⟩) (sl + m) cap')) (upd hp nk (some ⟨(b.c.toList.take (sl * i.size)).toArray ++ (b2.c.toList.take (m * i.size)).toArray ++ Builtin.zeroCells z.cells (cap' - (sl + m)), e⟩)) yc a' W' → next a' W') :
    o.wpIn (Fw P ro) mn P a W next Q := by
  have hg : W.heap[r k]? = some (.cells b.c e (0, 0)) := by
    have := (h.sat k b hb).1
    unfold Blk.obj at this
    rw [map_eq_self (fun x hx => flatF_ren (hbf x hx)), hbT] at this
    exact this
  have hg2 : W.heap[r j]? = some (.cells b2.c b2.T (0, 0)) := by
    have := (h.sat j b2 hb2).1
    unfold Blk.obj at this
    rw [map_eq_self (fun x hx => flatF_ren (hb2f x hx))] at this
    exact this
  have ex : a.eval (.tmp tx) = .slice (some ⟨r k, 0, none⟩) sl cap := by
    have := (h.rel tx).resolve_left (by rw [hx]; simp [junk])
    rw [hx] at this
    exact this.1
  have ey : a.eval (.tmp ty) = .slice (some ⟨r j, 0, none⟩) m m' := by
    have := (h.rel ty).resolve_left (by rw [hy]; simp [junk])
    rw [hy] at this
    exact this.1
  have hdk : dom hp k := by unfold dom; rw [hb]; simp
  have fo : ∀ x ∈ b.c.toList.take (sl * i.size), flatF x = true := fun x hx => hbf x (by simpa using List.mem_of_mem_take hx)
  have fn : ∀ x ∈ b2.c.toList.take (m * i.size), flatF x = true := fun x hx => hb2f x (by simpa using List.mem_of_mem_take hx)
  refine wp_of_upon (by rw [ho]; intro c; simp) (upon_append (R := fun u W' => next (a.put o.dst u) W') (Rp := fun _ _ => False) ho ht hi hz ex hg ey hg2 hm hc hsl hs1 hs2 h1 (fun hr => ?_) (fun hr cap' hcap => ?_)) (fun u W' h => h) (fun pv W' h => h.elim)
  · have hf : ∀ x ∈ (b.c.toList.take (sl * i.size) ++ b2.c.toList.take (m * i.size) ++ b.c.toList.drop (sl * i.size + (b2.c.toList.take (m * i.size)).length)).toArray, flatF x = true := fun x hx => by
      simp only [List.mem_toArray, List.mem_append] at hx
      rcases hx with (hx | hx) | hx
      · exact fo x hx
      · exact fn x hx
      · exact hbf x (by simpa using List.mem_of_mem_drop hx)
    refine room hr r _ _ (h.after (e := ⟨.slice (some ⟨k, 0, none⟩) (sl + m) cap, [], [(k, ⟨_, e⟩)], [], none, false⟩) hd (fun _ _ => rfl) (by simp [idsV, idsA, idsF, ids0, extD, hdk]) ⟨rfl, rfl, rfl, by simp, fun q hq hnq => ?_, fun p hp1 => ?_, by simp, by simp⟩ (by simp [keys, hdk, hk]) (by simp [keys]))
    · exact setRow_other W (r k) q _ (fun e => hnq _ (List.mem_singleton.2 rfl) e.symm)
    · simp only [List.append_nil, List.mem_singleton] at hp1
      subst hp1
      refine ⟨?_, fun x hx => flatF_ids (hf x hx)⟩
      simp only [Blk.obj]
      rw [map_eq_self (fun x hx => flatF_ren (hf x hx))]
      exact setRow_heap W (r k) b.c _ e (0, 0) hg
  · have hf : ∀ x ∈ (b.c.toList.take (sl * i.size)).toArray ++ (b2.c.toList.take (m * i.size)).toArray ++ Builtin.zeroCells z.cells (cap' - (sl + m)), flatF x = true := fun x hx => by
      simp only [Array.mem_append, List.mem_toArray] at hx
      rcases hx with (hx | hx) | hx
      · exact fo x hx
      · exact fn x hx
      · exact hzf _ x hx
    have hnd : ¬ dom hp nk := by unfold dom; simp [hnk.1]
    have hr' : ∀ q, dom hp q → upd r nk W.heap.size q = r q := fun q hq => upd_other _ _ (fun e => hnd (e ▸ hq))
    have hv : (Value.slice (some ⟨W.heap.size, 0, none⟩) (sl + m) cap') = ren (upd r nk W.heap.size) (.slice (some ⟨nk, 0, none⟩) (sl + m) cap') := by simp [ren, renA, renF, ren0, upd_same]
    rw [hv]
    refine grow hr cap' hcap (upd r nk W.heap.size) _ _ (h.drew.after (e := ⟨.slice (some ⟨nk, 0, none⟩) (sl + m) cap', [], [], [(nk, ⟨_, e⟩)], none, false⟩) hd hr' (by simp [idsV, idsA, idsF, ids0, extD, keys]) ⟨rfl, rfl, rfl, (by show W.heap.size ≤ (W.heap.push _).size; simp), fun q hq _ => ?_, fun p hp1 => ?_, fun p hp1 => ?_, by simp⟩ (by simp [keys]) (by simp [keys, hnk]))
    · exact Below.heap_alloc _ _ _ hq
    · simp only [List.nil_append, List.mem_singleton] at hp1
      subst hp1
      refine ⟨?_, fun x hx => flatF_ids (hf x hx)⟩
      simp only [Blk.obj, upd_same]
      rw [map_eq_self (fun x hx => flatF_ren (hf x hx))]
      exact heap_alloc_new W.drew _
    · simp only [List.mem_singleton] at hp1
      subst hp1
      show W.heap.size ≤ upd r nk W.heap.size nk
      rw [upd_same]
      exact Nat.le_refl _
/-- What an append asks of the state at which it stands, and how the walk goes on: in the slice's own row, or in a new one of whatever capacity. -/
def appX (P : Program) (o : Oper) (ts : Nat → Value) (hp : Hp) (nk : Nat) (next : (Nat → Value) → Hp → Prop) : Prop :=
  ∃ (tx ty : Tmp) (t e : TypeId) (i : TypeInfo) (z : Value) (k j sl cap m m' : Nat) (b b2 : Blk),
    o.op = .call { callee := .builtin .append, args := #[.tmp tx, .tmp ty], argTypes := #[t, t] } ∧ P.underlying t = some (.slice e) ∧ P.info? e = some i ∧ i.zero = some z ∧
    ts tx = .slice (some ⟨k, 0, none⟩) sl cap ∧ 100 ≤ k ∧ hp k = some b ∧ b.T = e ∧ (∀ x ∈ b.c, flatF x = true) ∧
    ts ty = .slice (some ⟨j, 0, none⟩) m m' ∧ hp j = some b2 ∧ (∀ x ∈ b2.c, flatF x = true) ∧ (∀ u ∈ b2.c.toList.take (m * i.size), u.oneCell' = true) ∧ (∀ c, ∀ x ∈ Builtin.zeroCells z.cells c, flatF x = true) ∧
    m * i.size ≤ b2.c.size ∧ cap * i.size ≤ b.c.size ∧ sl ≤ cap ∧ sl + m ≤ maxLen ∧ (sl + m) * i.bytes ≤ 140737488355328 ∧
    (sl + m ≤ cap → next (putT ts o.dst (.slice (some ⟨k, 0, none⟩) (sl + m) cap)) (upd hp k (some ⟨(b.c.toList.take (sl * i.size) ++ b2.c.toList.take (m * i.size) ++ b.c.toList.drop (sl * i.size + (b2.c.toList.take (m * i.size)).length)).toArray, e⟩))) ∧
    (cap < sl + m → ∀ cap', sl + m ≤ cap' → next (putT ts o.dst (.slice (some ⟨nk, 0, none⟩) (sl + m) cap')) (upd hp nk (some ⟨(b.c.toList.take (sl * i.size)).toArray ++ (b2.c.toList.take (m * i.size)).toArray ++ Builtin.zeroCells z.cells (cap' - (sl + m)), e⟩)))
/-- **A REGION WITH AN APPEND**, in the order of its text. -/
theorem GW_append {id : Nat} {pre post : List Oper} {o : Oper} (pn : List FuncId) (hg : o.guard = none) (hdst : (dstOk n (pre ++ o :: post) && unOk P (pre ++ o :: post)) = true)
    (h : ∀ (Q : (Nat → Value) → Hp → Tr → Nat → Prop) (Qp : Value → Tr → Prop), (∀ ts hp tr yc, K .normal ⟨ts, hp, s.B + 8 * (pre.length + 1 + post.length), yc⟩ → Q ts hp tr yc) →
      lexX P C.G ⟨C.Y, pn, false⟩ (pre ++ o :: post).toArray s.B (fun ts hp _ yc => appX P o ts hp (s.B + 8 * pre.length) fun ts' hp' => lexX P C.G ⟨C.Y, pn, false⟩ (pre ++ o :: post).toArray s.B Q (fun _ _ => False) (pre.length + 1) post ts' hp' [] yc true false)
        (fun _ _ => False) 0 pre s.ts s.hp [] s.yc false false) : GW P C n d ro (.region id (pre ++ o :: post).toArray false) s K := by
  intro r a W hi
  simp only [Bool.and_eq_true] at hdst
  replace h := h (fun ts hp _ yc => K .normal ⟨ts, hp, s.B + 8 * (pre.length + 1 + post.length), yc⟩) (fun _ _ => False) (fun _ _ _ _ a => a)
  have ok : ∀ q ∈ pre ++ o :: post, (((∀ dd, q.dst = some dd → dd < n) ∧ ∀ c, q.op ≠ .defer c) ∧ unC P q) ∧ q ∈ pre ++ o :: post := fun q hq => ⟨⟨dstOk_spec hdst.1 hq, unOk_spec hdst.2 q hq⟩, hq⟩
  refine wpIn_region_lit ?_
  refine wpList_pre (o :: post) (ops := (pre ++ o :: post).toArray) (base := s.B) (pn := pn) (Kn := fun ts hp yc => appX P o ts hp (s.B + 8 * pre.length) fun ts' hp' => lexX P C.G ⟨C.Y, pn, false⟩ (pre ++ o :: post).toArray s.B (fun ts hp _ yc => K .normal ⟨ts, hp, s.B + 8 * (pre.length + 1 + post.length), yc⟩) (fun _ _ => False) (pre.length + 1) post ts' hp' [] yc true false)
    (Kp := fun _ => False) (hp0 := s.hp) (ts0 := s.ts) (l0 := pre ++ o :: post) hi.flat hi.rounds hi.low pre 0 s.ts s.hp [] s.yc false false r a W (fun q hq => ok q (List.mem_append_left _ hq)) (fun _ _ => rfl) hi.ri (by simpa using hi.free) (fun _ _ _ h => h) ?_ (fun _ _ _ _ _ _ _ h => h.elim) ?_
  · intro ts hp yc r' a' W' hk hi' hf hts
    obtain ⟨tx, ty, t, e, i, z, k, j, sl, cap, m, m', b, b2, ho, ht, hii, hz, hx, hk1, hb, hbT, hbf, hy, hb2, hb2f, h1, hzf, hm, hc, hsl, hs1, hs2, hroom, hgrow⟩ := hk
    have hok := ok o (by simp)
    have tail : ∀ (ts' : Nat → Value) (hp' : Hp) r'' a'' W'', RI C n d r'' ts' hp' yc a'' W'' → (∀ x, s.B + 8 * (pre.length + 1) ≤ x → hp' x = none) → (∀ q, (∀ o' ∈ pre ++ o :: post, o'.dst ≠ some q) → ts' q = s.ts q) →
        lexX P C.G ⟨C.Y, pn, false⟩ (pre ++ o :: post).toArray s.B (fun ts hp _ yc => K .normal ⟨ts, hp, s.B + 8 * (pre.length + 1 + post.length), yc⟩) (fun _ _ => False) (pre.length + 1) post ts' hp' [] yc true false →
        wpListIn (Fw P ro) 0 P (pre ++ o :: post).toArray (fun e a' W' => ∃ s' r', K e s' ∧ GI P C n d r' s' a' W') post a'' W'' := fun ts' hp' r'' a'' W'' hi'' hf'' hts'' hl => by
      have := wpList_pre (ro := ro) [] (ops := (pre ++ o :: post).toArray) (base := s.B) (pn := pn) (Q := fun e a' W' => ∃ s' r', K e s' ∧ GI P C n d r' s' a' W') (Kn := fun ts hp yc => K .normal ⟨ts, hp, s.B + 8 * (pre.length + 1 + post.length), yc⟩) (Kp := fun _ => False) (hp0 := s.hp) (ts0 := s.ts) (l0 := pre ++ o :: post) hi.flat hi.rounds hi.low post (pre.length + 1) ts' hp' [] yc true false r'' a'' W''
        (fun q hq => ok q (by simp [hq])) hts'' hi'' hf'' (by simp) (fun ts hp yc r a W hk hi3 hf3 _ => wpListIn_nil ⟨⟨ts, hp, _, yc⟩, r, hk, hi3, hf3, by have := hi.low; simp only; omega, hi.flat, hi.rounds⟩) (fun _ _ _ _ _ _ _ h => h.elim) hl
      simpa using this
    refine wpListIn_plain hg fun K' hK' => ?_
    have hf0 : ∀ x, s.B + 8 * pre.length ≤ x → hp x = none := by simpa using hf
    refine step_append hi' hok.1.1.1 ho ht hii hz hx hk1 hb hbT hbf hy hb2 hb2f h1 hzf hm hc hsl hs1 hs2 (nk := s.B + 8 * pre.length) ⟨hf0 _ (Nat.le_refl _), by have := hi.low; omega⟩ (fun hr r'' a'' W'' hi'' => hK' _ _ (tail _ _ r'' a'' W'' hi'' (fun x hx' => ?_) (fun q hq => (putT_keep (hq o (by simp))).trans (hts q hq)) (hroom hr))) (fun hr cap' hc' r'' a'' W'' hi'' => hK' _ _ (tail _ _ r'' a'' W'' hi'' (fun x hx' => ?_) (fun q hq => (putT_keep (hq o (by simp))).trans (hts q hq)) (hgrow hr cap' hc')))
    · rw [upd_other _ _ (fun e => ?_)]
      · exact hf0 x (by omega)
      · subst e; rw [hf0 x (by omega)] at hb; cases hb
    · rw [upd_other _ _ (fun e => by omega)]
      exact hf0 x (by omega)
  · exact h
end
end Go.Gy
namespace Go.Gy
open Go Go.RowKit
section
variable {P : Program} {C : Ctx} {n : Nat} {d : List Deferred} {ro : Option Nat} {s : GS} {K : Exit → GS → Prop}
/-- The state s' is what s is, by other names (ρ: from its names to those of s), or less. -/
structure WeakR (C : Ctx) (ρ : Nat → Nat) (s s' : GS) : Prop where
  ts : ∀ t, s'.ts t = junk ∨ (s.ts t = ren ρ (s'.ts t) ∧ s.ts t ≠ junk ∧ idsV (dom s'.hp) (s'.ts t))
  hp : ∀ k b, s'.hp k = some b → 100 ≤ k → s.hp (ρ k) = some (b.rn ρ) ∧ 100 ≤ ρ k
  ids : ∀ k b, s'.hp k = some b → b.ids (dom s'.hp)
  inj : ∀ k l, dom s'.hp k → dom s'.hp l → ρ k = ρ l → k = l
  id : ∀ k, k < 100 → ρ k = k
  rest : ∀ k b, k < 100 → C.G k = some b → b.rn ρ = b
  keep : ∀ k, 100 ≤ k → dom C.hp0 k → dom s'.hp k ∧ ρ k = k
  glob : ∀ k, k < 100 → s'.hp k = C.G k
  yc : s'.yc = s.yc
  free : ∀ x, s'.B ≤ x → s'.hp x = none
  low : 100 ≤ s'.B
theorem GI.rename {ρ : Nat → Nat} {r : Nat → Nat} {a : Act} {W : World} {s' : GS} (h : GI P C n d r s a W) (hw : WeakR C ρ s s') : GI P C n d (fun k => r (ρ k)) s' a W := by
  have sub : ∀ k b, s'.hp k = some b → s.hp (ρ k) = some (b.rn ρ) := fun k b hb => by
    by_cases hk : 100 ≤ k
    · exact (hw.hp k b hb hk).1
    · have hg : C.G k = some b := (hw.glob k (by omega)).symm.trans hb
      rw [hw.id k (by omega), hw.rest k b (by omega) hg, h.ri.glob k (by omega)]
      exact hg
  have subd : ∀ k, dom s'.hp k → dom s.hp (ρ k) := fun k hk => by
    unfold dom at hk
    cases hb : s'.hp k with
    | none => exact absurd hb hk
    | some b => unfold dom; rw [sub k b hb]; simp
  refine ⟨{ h.ri with rel := fun t => ?_, sat := fun k b hb => ?_, inj := fun k l hk hl e => hw.inj k l hk hl (h.ri.inj _ _ (subd k hk) (subd l hl) e), ext := ?_, keep := fun i hi => ?_, glob := hw.glob, low := fun k hk hd => ?_ }, hw.free, hw.low, h.flat, h.rounds⟩
  · rcases hw.ts t with e | ⟨e, hne, hi⟩
    · exact .inl e
    · have e' := (h.ri.rel t).resolve_left hne
      refine .inr ⟨?_, hi⟩
      rw [e'.1, e, ren_comp]
  · have hs := (h.ri.sat _ _ (sub k b hb)).1
    rw [Blk.rn_obj] at hs
    exact ⟨hs, hw.ids k b hb⟩
  · obtain ⟨S, ms, h1, h2, h3, h4⟩ := h.ri.ext
    refine ⟨S, ms, by rw [hw.yc]; exact h1, h2, fun i hi hi1 => ?_, h4⟩
    refine h3 _ (subd i hi) ?_
    unfold dom at hi
    cases hb : s'.hp i with
    | none => exact absurd hb hi
    | some b => exact (hw.hp i b hb hi1).2
  · have hk := h.ri.keep i hi
    by_cases h1 : 100 ≤ i
    · have hh := hw.keep i h1 hi
      exact ⟨hh.1, by rw [hh.2]; exact hk.2⟩
    · refine ⟨?_, by rw [hw.id i (by omega)]; exact hk.2⟩
      unfold dom; rw [hw.glob i (by omega), ← h.ri.glob i (by omega)]; exact hk.1
  · have hd' := subd k hd
    rw [hw.id k hk] at hd' ⊢
    exact h.ri.low k hk hd'
theorem GW_rename {ρ : Nat → Nat} {c : Code} {s' : GS} (hw : WeakR C ρ s s') (h : GW P C n d ro c s' K) : GW P C n d ro c s K :=
  fun _ a W hi => h _ a W (hi.rename hw)
/-- A loop; what a round leaves is put back by other names. -/
theorem GW_loopR {c : Code} (I : Nat → GS → Prop) {m0 : Nat} {s0 : GS} (hw : Weak C s s0) (h0 : I m0 s0)
    (round : ∀ m s, I m s → GW P C n d ro c s (thenG (fun s' => ∃ ρ s'' m', WeakR C ρ s' s'' ∧ I m' s'' ∧ m' < m) K)) : GW P C n d ro (.loop c) s K := by
  have key : ∀ (m : Nat) (s : GS), I m s → ∀ r a W, GI P C n d r s a W → ∀ (b : Frame) (k : List Item) (cs : List Frame), b.roundOf = ro →
      (Fs P).fn b.fn → ∃ e a' w', (∃ s' r', K e s' ∧ GI P C n d r' s' a' w') ∧ ArrivesIn (Machine.fenced P (Fw P ro)) P (lone (b.atR a (.code c :: .inLoop c :: k)) cs W) b k cs e a' w' := by
    intro m
    induction m using Nat.strongRecOn with
    | _ m ih =>
      intro s hI r a W hi b k cs hro hfn
      obtain ⟨e, a₁, w₁, ⟨s', r', hk, hi'⟩, harr⟩ := round m s hI r a W hi b (.inLoop c :: k) cs hro hfn (room_Fs P _)
      cases e with
      | normal =>
        obtain ⟨ρ, s'', m', hw'', hI'', hlt⟩ := hk
        obtain ⟨e₂, a₂, w₂, hq₂, harr₂⟩ := ih m' hlt s'' hI'' _ a₁ w₁ (hi'.rename hw'') b k cs hro hfn
        exact ⟨e₂, a₂, w₂, hq₂, .of_steps (StepsIn.trans harr (.one (fenced_calm (F := Fw P ro) (n := 0) hfn (room_Fs P _) rfl) stepR_inLoop)) harr₂⟩
      | exit id => exact ⟨_, a₁, w₁, ⟨s', r', hk, hi'⟩, .pass (x := .inLoop c) rfl (fun _ _ => .inl (by simp)) harr⟩
      | goto l => exact ⟨_, a₁, w₁, ⟨s', r', hk, hi'⟩, .pass (x := .inLoop c) rfl (fun _ _ => .inl (by simp)) harr⟩
      | ret => exact ⟨_, a₁, w₁, ⟨s', r', hk, hi'⟩, .pass (x := .inLoop c) rfl (fun _ _ => .inl (by simp)) harr⟩
      | panic ch => exact ⟨_, a₁, w₁, ⟨s', r', hk, hi'⟩, .pass (x := .inLoop c) rfl (fun _ _ => .inl (by simp)) harr⟩
      | outgrown => exact ⟨_, a₁, w₁, ⟨s', r', hk, hi'⟩, .pass (x := .inLoop c) rfl (fun _ _ => .inl (by simp)) harr⟩
  intro r a W hi
  intro b k cs hro hb hr
  obtain ⟨e, a', w', hq, harr⟩ := key m0 s0 h0 r a W (hi.weak hw) b k cs hro hb
  exact ⟨e, a', w', hq, .of_steps (.one (fenced_calm hb hr rfl) stepR_loop) harr⟩
end
end Go.Gy
namespace Go.Gy
open Go Go.RowKit
section
variable {P : Program} {C : Ctx} {n : Nat} {d : List Deferred} {ro : Option Nat} {s : GS} {K : Exit → GS → Prop}
/-- What ends as the text goes on, with J. -/
def onlyN (J : GS → Prop) (e : Exit) (s : GS) : Prop := e = .normal ∧ J s
theorem GW_via {c : Code} (J : GS → Prop) (h : GW P C n d ro c s (onlyN J)) (k : ∀ s', J s' → K .normal s') : GW P C n d ro c s K :=
  GW_mono h fun _ s' ⟨he, hj⟩ => he ▸ k s' hj
theorem GW_viaB {c : Code} {id : Nat} (J : GS → Prop) (h : GW P C n d ro c s (blockG id (onlyN J))) (k : ∀ s', J s' → K .normal s') : GW P C n d ro c s (blockG id K) :=
  GW_mono h fun e s' hs => by
    cases e with
    | exit i =>
      simp only [blockG] at hs ⊢
      split at hs
      · rename_i hi; rw [if_pos hi]; exact k s' hs.2
      · cases hs.1
    | normal => exact k s' hs.2
    | _ => cases hs.1
@[simp] theorem onlyN_normal (J : GS → Prop) (s : GS) : onlyN J .normal s = J s := by simp [onlyN]
def tyBytes (P : Program) (T : TypeId) : Option Nat := (P.info? T).map (·.bytes)
theorem appX_mk {o : Oper} {ts : Nat → Value} {hp : Hp} {nk : Nat} {next : (Nat → Value) → Hp → Prop} {tx ty : Tmp} {t e : TypeId} {sz by' : Nat} {z : Value} {k j sl cap m m' : Nat} {c c2 : List Value} {T2 : TypeId}
    (ho : o.op = .call { callee := .builtin .append, args := #[.tmp tx, .tmp ty], argTypes := #[t, t] }) (ht : P.underlying t = some (.slice e)) (hs : tySize P e = some sz) (hz : tyZero P e = some z) (hby : tyBytes P e = some by')
    (hx : ts tx = .slice (some ⟨k, 0, none⟩) sl cap) (hk : 100 ≤ k) (hb : hp k = some ⟨c.toArray, e⟩) (hbf : ∀ x ∈ c, flatF x = true)
    (hy : ts ty = .slice (some ⟨j, 0, none⟩) m m') (hb2 : hp j = some ⟨c2.toArray, T2⟩) (hb2f : ∀ x ∈ c2, flatF x = true) (h1 : ∀ u ∈ c2, u.oneCell' = true) (hzf : ∀ q, ∀ x ∈ Builtin.zeroCells z.cells q, flatF x = true)
    (hm : m * sz = c2.length) (hc : cap * sz ≤ c.length) (hsl : sl ≤ cap) (hs1 : sl + m ≤ maxLen) (hs2 : (sl + m) * by' ≤ 140737488355328)
    (room : sl + m ≤ cap → next (putT ts o.dst (.slice (some ⟨k, 0, none⟩) (sl + m) cap)) (upd hp k (some ⟨(c.take (sl * sz) ++ c2 ++ c.drop (sl * sz + c2.length)).toArray, e⟩)))
    (grow : cap < sl + m → ∀ cap', sl + m ≤ cap' → next (putT ts o.dst (.slice (some ⟨nk, 0, none⟩) (sl + m) cap')) (upd hp nk (some ⟨(c.take (sl * sz) ++ c2 ++ (Builtin.zeroCells z.cells (cap' - (sl + m))).toList).toArray, e⟩))) : appX P o ts hp nk next := by
  unfold tySize at hs; unfold tyZero at hz; unfold tyBytes at hby
  cases hi : P.info? e with
  | none => rw [hi] at hs; cases hs
  | some i =>
    rw [hi] at hs hz hby
    simp only [Option.map_some, Option.some.injEq, Option.bind_some] at hs hz hby
    subst hs; subst hby
    have e2 : c2.take (m * i.size) = c2 := List.take_of_length_le (by omega)
    refine ⟨tx, ty, t, e, i, z, k, j, sl, cap, m, m', _, _, ho, ht, hi, hz, hx, hk, hb, rfl, by simpa using hbf, hy, hb2, by simpa using hb2f, ?_, hzf, ?_, ?_, hsl, hs1, hs2, fun hr => ?_, fun hr cap' hc' => ?_⟩
    · simp only [e2]; exact h1
    · simp [hm]
    · simpa using hc
    · have := room hr
      simp only [e2]; exact this
    · have := grow hr cap' hc'
      simp only [e2]
      rw [show ((c.take (sl * i.size)).toArray ++ c2.toArray ++ Builtin.zeroCells z.cells (cap' - (sl + m))) = (c.take (sl * i.size) ++ c2 ++ (Builtin.zeroCells z.cells (cap' - (sl + m))).toList).toArray by
        rw [← List.append_toArray, ← List.append_toArray, Array.toArray_toList]]
      exact this
/-- A region with an append at its place j. -/
theorem GW_appendAt {id : Nat} {l : List Oper} {o : Oper} {post : List Oper} (j : Nat) (hl : l.drop j = o :: post) (pn : List FuncId) (hg : o.guard = none) (hdst : (dstOk n l && unOk P l) = true)
    (h : ∀ (Q : (Nat → Value) → Hp → Tr → Nat → Prop) (Qp : Value → Tr → Prop), (∀ ts hp tr yc, K .normal ⟨ts, hp, s.B + 8 * l.length, yc⟩ → Q ts hp tr yc) →
      lexX P C.G ⟨C.Y, pn, false⟩ l.toArray s.B (fun ts hp _ yc => appX P o ts hp (s.B + 8 * (l.take j).length) fun ts' hp' => lexX P C.G ⟨C.Y, pn, false⟩ l.toArray s.B Q (fun _ _ => False) ((l.take j).length + 1) post ts' hp' [] yc true false)
        (fun _ _ => False) 0 (l.take j) s.ts s.hp [] s.yc false false) : GW P C n d ro (.region id l.toArray false) s K := by
  have e : l = l.take j ++ o :: post := by rw [← hl, List.take_append_drop]
  have el : (l.take j).length + 1 + post.length = l.length := by
    conv => rhs; rw [e]
    simp; omega
  have hdst' : (dstOk n (l.take j ++ o :: post) && unOk P (l.take j ++ o :: post)) = true := by rw [← e]; exact hdst
  have := GW_append (P := P) (C := C) (n := n) (d := d) (ro := ro) (s := s) (K := K) (id := id) (pre := l.take j) (post := post) (o := o) pn hg hdst' (fun Q Qp hQ => by
    rw [← e]
    exact h Q Qp fun ts hp tr yc hk => hQ ts hp tr yc (by rw [el]; exact hk))
  rw [← e] at this
  exact this
/-- A state under other names, by lists. -/
theorem weakRL {G : Hp} {m m0 : List (Nat × Blk)} (ρ : Nat → Nat) (l : List (Nat × Value)) (B : Nat) (hG : C.G = G) (hGF : GFlat G) (h0 : C.hp0 = hpL G m0) (hB : 100 ≤ B)
    (hl : ∀ p ∈ l, s.ts p.1 = ren ρ p.2 ∧ s.ts p.1 ≠ junk ∧ idsV (dom (hpL G m)) p.2)
    (hm : ∀ p ∈ m, s.hp (ρ p.1) = some (p.2.rn ρ) ∧ p.2.ids (dom (hpL G m)) ∧ 100 ≤ p.1 ∧ p.1 < B ∧ 100 ≤ ρ p.1)
    (hi : ∀ p ∈ m, ∀ q ∈ m, ρ p.1 = ρ q.1 → p.1 = q.1) (hid : ∀ k, k < 100 → ρ k = k)
    (hk : ∀ p ∈ m0, 100 ≤ p.1 ∧ dom (hpL G m) p.1 ∧ ρ p.1 = p.1) : WeakR C ρ s ⟨tsL l, hpL G m, B, s.yc⟩ where
  ts t := by
    rcases tsL_mem (l := l) (t := t) with h | h
    · exact .inl h
    · exact .inr (hl _ h)
  hp k b hb h1 := by
    rcases hpL_mem hb with h | h
    · exact ⟨(hm _ h).1, (hm _ h).2.2.2.2⟩
    · have := (hGF k b h).1; omega
  ids k b hb := by
    rcases hpL_mem hb with h | h
    · exact (hm _ h).2.1
    · exact fun x hx => flatF_ids ((hGF k b h).2 x hx)
  inj k q hk' hq e := by
    dsimp only at hk' hq
    unfold dom at hk' hq
    cases hb : hpL G m k with
    | none => exact absurd hb hk'
    | some b =>
      cases hc : hpL G m q with
      | none => exact absurd hc hq
      | some c =>
        rcases hpL_mem hb with h | h <;> rcases hpL_mem hc with h' | h'
        · exact hi _ h _ h' e
        · have h2 := (hGF q c h').1; rw [hid q h2] at e; have := (hm _ h).2.2.2.2; simp at this; omega
        · have h2 := (hGF k b h).1; rw [hid k h2] at e; have := (hm _ h').2.2.2.2; simp at this; omega
        · have h2 := (hGF k b h).1; have h3 := (hGF q c h').1; rw [hid k h2, hid q h3] at e; exact e
  id := hid
  rest k b hlt hb := by
    rw [hG] at hb
    have hf := (hGF k b hb).2
    unfold Blk.rn
    rw [map_eq_self (fun x hx => flatF_ren (hf x hx))]
  keep k h1k hd := by
    rw [h0] at hd
    unfold dom at hd
    cases hb : hpL G m0 k with
    | none => exact absurd hb hd
    | some b =>
      rcases hpL_mem hb with h | h
      · exact (hk _ h).2
      · have hlt := (hGF k b h).1; omega
  glob k hlt := by rw [hG]; exact hpL_low (fun p hp => (hm p hp).2.2.1) hlt
  yc := rfl
  free x hx := by
    dsimp only at hx ⊢
    cases hb : hpL G m x with
    | none => rfl
    | some b =>
      rcases hpL_mem hb with h | h
      · have := (hm _ h).2.2.2.1; simp at this; omega
      · have := (hGF x b h).1; omega
  low := hB
end
end Go.Gy
namespace Go.Gy
open Go Go.RowKit
theorem zc_mem {z : Array Value} {n : Nat} {x : Value} (h : x ∈ Builtin.zeroCells z n) : x ∈ z := by
  simp only [Builtin.zeroCells, Array.mem_map, Array.mem_range] at h
  obtain ⟨w, hw, rfl⟩ := h
  have hz : 0 < z.size := Nat.pos_of_ne_zero fun e => by rw [e] at hw; simp at hw
  have hlt := Nat.mod_lt w hz
  rw [getElem!_pos z _ hlt]
  exact Array.getElem_mem hlt
theorem zc_size (z : Array Value) (n : Nat) : (Builtin.zeroCells z n).size = n * z.size := by simp [Builtin.zeroCells]
section
variable {P : Program} {G : Hp} {V : XV}
theorem lexX_of_lexS' {ops : Array Oper} {base : Nat} {Q : QQ} : ∀ (l : List Oper) (seen : List (Option Tmp)) (k : Nat) (ts : Nat → Value) (hp : Hp) (tr : Tr) (yc : Nat) (wr yd : Bool), (∀ j, j < k → (seen[k - 1 - j]?).bind id = (ops[j]?).bind (·.dst)) → (∀ i, i < l.length → l[i]? = ops[k + i]?) →
    lexS P G V base Q seen k l ts hp tr yc wr yd → lexX P G V ops base Q.q Q.p k l ts hp tr yc wr yd
  | [], _, _, _, _, _, _, _, _, _, _, h => h
  | o :: l, seen, k, ts, hp, tr, yc, wr, yd, hs, hl, h => by
    have ho : ops[k]? = some o := by have := hl 0 (by simp); simpa using this.symm
    have hs' : ∀ j, j < k + 1 → ((o.dst :: seen)[k + 1 - 1 - j]?).bind id = (ops[j]?).bind (·.dst) := fun j hj => by
      by_cases e : j = k
      · subst e; simp [ho]
      · have : k + 1 - 1 - j = (k - 1 - j) + 1 := by omega
        rw [this, List.getElem?_cons_succ]; exact hs j (by omega)
    have hl' : ∀ i, i < l.length → l[i]? = ops[k + 1 + i]? := fun i hi => by
      have := hl (i + 1) (by simp; omega)
      rw [List.getElem?_cons_succ] at this
      rw [this]; congr 1; omega
    simp only [lexS] at h
    simp only [lexX]
    cases hw : wantedS seen k o ts with
    | none => rw [hw] at h; exact h.elim
    | some b =>
      rw [hw] at h
      rw [wantedS_eq hs hw]
      cases b with
      | true =>
        rw [wayG_true] at h
        refine opX_mono (fun e he => ⟨he.1, ?_⟩) h
        have he := he.2
        cases hpn : e.pan with
        | none => rw [hpn] at he; exact lexX_of_lexS' l _ _ _ _ _ _ _ _ hs' hl' he
        | some pv => rw [hpn] at he; exact ⟨fun hd => by simpa using he.1 hd, he.2⟩
      | false => exact ⟨h.1, lexX_of_lexS' l _ _ _ _ _ _ _ _ hs' hl' h.2⟩
end
section
variable {P : Program} {C : Ctx} {n : Nat} {d : List Deferred} {ro : Option Nat} {s : GS} {K : Exit → GS → Prop}
/-- The walk behind an append. -/
def appC (P : Program) (G : Hp) (V : XV) (base : Nat) (q : (Nat → Value) → Hp → Tr → Nat → Prop) (seen : List (Option Tmp)) (k : Nat) (post : List Oper) (yc : Nat) (ts : Nat → Value) (hp : Hp) : Prop :=
  lexS P G V base ⟨q, fun _ _ => False⟩ seen k post ts hp [] yc true false
theorem GW_app {id : Nat} {l : List Oper} {o : Oper} {post : List Oper} (j : Nat) (hl : l.drop j = o :: post) (pn : List FuncId) (hg : o.guard = none) (hdst : (dstOk n l && unOk P l) = true)
    (h : ∀ q : (Nat → Value) → Hp → Tr → Nat → Prop, (∀ ts hp tr yc, K .normal ⟨ts, hp, s.B + 8 * l.length, yc⟩ → q ts hp tr yc) →
      lexS P C.G ⟨C.Y, pn, false⟩ s.B ⟨fun ts hp _ yc => appX P o ts hp (s.B + 8 * j) (appC P C.G ⟨C.Y, pn, false⟩ s.B q ((l.take (j + 1)).map (·.dst)).reverse (j + 1) post yc), fun _ _ => False⟩ [] 0 (l.take j) s.ts s.hp [] s.yc false false) :
    GW P C n d ro (.region id l.toArray false) s K := by
  have hj : j < l.length := by
    refine Classical.byContradiction fun hc => ?_
    rw [List.drop_eq_nil_of_le (by omega)] at hl; cases hl
  have ej : (l.take j).length = j := by simp; omega
  have ej1 : (l.take (j + 1)).length = j + 1 := by simp; omega
  have epost : post = l.drop (j + 1) := by
    rw [show l.drop (j + 1) = (l.drop j).drop 1 by rw [List.drop_drop], hl]; rfl
  refine GW_appendAt j hl pn hg hdst fun Q Qp hQ => ?_
  rw [ej]
  refine lexX_of_lexS' (Q := ⟨_, _⟩) (l.take j) [] 0 _ _ _ _ _ _ (fun j hj => absurd hj (Nat.not_lt_zero j)) (fun i hi => ?_) ?_
  · rw [ej] at hi
    rw [Nat.zero_add, List.getElem?_take, if_pos hi]; simp
  · have hh := h Q hQ
    refine (show ∀ q q' : (Nat → Value) → Hp → Tr → Nat → Prop, (∀ ts hp tr yc, q ts hp tr yc → q' ts hp tr yc) → lexS P C.G ⟨C.Y, pn, false⟩ s.B ⟨q, fun _ _ => False⟩ [] 0 (l.take j) s.ts s.hp [] s.yc false false → lexS P C.G ⟨C.Y, pn, false⟩ s.B ⟨q', fun _ _ => False⟩ [] 0 (l.take j) s.ts s.hp [] s.yc false false from ?_) _ _ ?_ hh
    · intro q q' hqq
      have key : ∀ (m : List Oper) (seen : List (Option Tmp)) (k : Nat) (ts : Nat → Value) (hp : Hp) (tr : Tr) (yc : Nat) (wr yd : Bool), lexS P C.G ⟨C.Y, pn, false⟩ s.B ⟨q, fun _ _ => False⟩ seen k m ts hp tr yc wr yd → lexS P C.G ⟨C.Y, pn, false⟩ s.B ⟨q', fun _ _ => False⟩ seen k m ts hp tr yc wr yd := by
        intro m
        induction m with
        | nil => intro seen k ts hp tr yc wr yd h; exact hqq _ _ _ _ h
        | cons o m ih =>
          intro seen k ts hp tr yc wr yd h
          simp only [lexS] at h ⊢
          cases hw : wantedS seen k o ts with
          | none => rw [hw] at h; exact h.elim
          | some b =>
            rw [hw] at h
            cases b with
            | true =>
              rw [wayG_true] at h ⊢
              refine opX_mono (fun e he => ⟨he.1, ?_⟩) h
              have he := he.2
              cases hpn : e.pan with
              | none => rw [hpn] at he; exact ih _ _ _ _ _ _ _ _ he
              | some pv => rw [hpn] at he; exact he
            | false => exact ⟨h.1, ih _ _ _ _ _ _ _ _ h.2⟩
      exact key _ _ _ _ _ _ _ _ _
    · intro ts hp _ yc ⟨tx, ty, t, e, i, z, k, j', sl, cap, m, m', b, b2, h1, h2, h3, h4, h5, h6, h7, h8, h9, h10, h11, h12, h13, h14, h15, h16, h17, h18, h19, hroom, hgrow⟩
      have tail : ∀ ts' hp', appC P C.G ⟨C.Y, pn, false⟩ s.B Q ((l.take (j + 1)).map (·.dst)).reverse (j + 1) post yc ts' hp' → lexX P C.G ⟨C.Y, pn, false⟩ l.toArray s.B Q (fun _ _ => False) (j + 1) post ts' hp' [] yc true false := fun ts' hp' hc => by
        refine lexX_of_lexS' (Q := ⟨Q, fun _ _ => False⟩) post _ (j + 1) _ _ _ _ _ _ (fun i hi => ?_) (fun i hi => ?_) hc
        · rw [List.getElem?_reverse (by simp; omega)]
          simp only [List.length_map, ej1, List.getElem?_map, List.getElem?_toArray]
          rw [show j + 1 - 1 - (j + 1 - 1 - i) = i by omega, List.getElem?_take, if_pos hi]
          cases l[i]? <;> rfl
        · rw [epost, List.getElem?_drop]; simp
      exact ⟨tx, ty, t, e, i, z, k, j', sl, cap, m, m', b, b2, h1, h2, h3, h4, h5, h6, h7, h8, h9, h10, h11, h12, h13, h14, h15, h16, h17, h18, h19, fun hr => tail _ _ (hroom hr), fun hr cap' hc' => tail _ _ (hgrow hr cap' hc')⟩
end
end Go.Gy
namespace Go.Gy
set_option linter.unusedSimpArgs false
set_option linter.unusedVariables false
open Go Go.RowKit
@[simp] theorem rg1 : Array.range 1 = #[0] := rfl
@[simp] theorem rg2 : Array.range 2 = #[0, 1] := rfl
@[simp] theorem rg3 : Array.range 3 = #[0, 1, 2] := rfl
@[simp] theorem rg4 : Array.range 4 = #[0, 1, 2, 3] := rfl
@[simp] theorem rg5 : Array.range 5 = #[0, 1, 2, 3, 4] := rfl
@[simp] theorem rg6 : Array.range 6 = #[0, 1, 2, 3, 4, 5] := rfl
@[simp] theorem rg20 : Array.range 20 = #[0, 1, 2, 3, 4, 5, 6, 7, 8, 9, 10, 11, 12, 13, 14, 15, 16, 17, 18, 19] := rfl
@[simp] theorem rg36 : Array.range 36 = #[0, 1, 2, 3, 4, 5, 6, 7, 8, 9, 10, 11, 12, 13, 14, 15, 16, 17, 18, 19, 20, 21, 22, 23, 24, 25, 26, 27, 28, 29, 30, 31, 32, 33, 34, 35] := rfl
section
variable {P : Program} {G : Hp} {V : XV} {yc nk : Nat} {ts : Nat → Value} {hp : Hp} {C : Eff → Prop} {dst : Option Tmp} {type : TypeId} {pos : String} {after : Array Edge} {guard : Option (Nat × Bool)}
def bsZ (e len m nk : Nat) (ps : List (Nat × Value)) (z : Option Value) (C : Eff → Prop) : Prop :=
  match z with
  | some z => okCells z = true ∧ flatV z = true ∧ 0 < len * m ∧ len * m ≤ 16777216 ∧ bsX (fillG (.inr m) ((Array.range (len * m)).map (z.cells[· % z.cells.size]!)) ps) e len nk C
  | none => False
@[simp] theorem bsZ_some (e len m nk : Nat) (ps : List (Nat × Value)) (z : Value) (C : Eff → Prop) : bsZ e len m nk ps (some z) C = (okCells z = true ∧ flatV z = true ∧ 0 < len * m ∧ len * m ≤ 16777216 ∧ bsX (fillG (.inr m) ((Array.range (len * m)).map (z.cells[· % z.cells.size]!)) ps) e len nk C) := rfl
def bsM (P : Program) (e len nk : Nat) (ps : List (Nat × Value)) (m : Option Nat) (C : Eff → Prop) : Prop :=
  match m with
  | some m => bsZ e len m nk ps (tyZero P e) C
  | none => False
@[simp] theorem bsM_some (P : Program) (e len m nk : Nat) (ps : List (Nat × Value)) (C : Eff → Prop) : bsM P e len nk ps (some m) C = bsZ e len m nk ps (tyZero P e) C := rfl
def bsU (P : Program) (len nk : Nat) (ps : List (Nat × Value)) (u : Option TypeDesc) (C : Eff → Prop) : Prop :=
  match u with
  | some (.slice e) => bsM P e len nk ps (tySize P e) C
  | _ => False
@[simp] theorem bsU_some (P : Program) (e len nk : Nat) (ps : List (Nat × Value)) (C : Eff → Prop) : bsU P len nk ps (some (.slice e)) C = bsM P e len nk ps (tySize P e) C := rfl
@[simp ↓] theorem opX_buildSlice (T : TypeId) (len : Nat) (parts : Array (Nat × Operand)) : opX P G V yc ⟨dst, .buildSlice T len parts, type, pos, after, guard⟩ ts hp nk C =
    ((∀ p ∈ parts.toList, okX ts hp p.2 ∧ okCells (gev ts p.2) = true) ∧ bsU P len nk (partsG ts parts) (P.underlying T) C) := by
  unfold opX bsU
  simp only
  cases hu : P.underlying T with
  | none => rfl
  | some u =>
    cases u with
    | slice e =>
      simp only [bsM]
      cases hm : tySize P e with
      | none => rfl
      | some m =>
        simp only [bsZ]
        cases hz : tyZero P e with
        | none => rfl
        | some z =>
          simp only
          cases hf : fillG (.inr m) ((Array.range (len * m)).map (z.cells[· % z.cells.size]!)) (partsG ts parts) <;> rfl
    | _ => rfl
end
end Go.Gy
namespace Go.Gy
set_option linter.unusedSimpArgs false
set_option linter.unusedVariables false
open Go Go.RowKit Go.Proofs
def plHp3 (a b : Int) (i : Nat) (rest : List Value) : Hp := hpL G0 [(200, wb a), (208, wb b), (216, wb 0), (224, wb 0), (240, ⟨(lc b (i + 1) ++ rest).toArray, 24⟩)]
def plTs3 (i cap : Nat) : Nat → Value := tsL [(2, .pointer (some ⟨200, 0, none⟩)), (3, .pointer (some ⟨208, 0, none⟩)), (4, .pointer (some ⟨216, 0, none⟩)), (5, .pointer (some ⟨224, 0, none⟩)), (6, .slice (some ⟨240, 0, none⟩) (i + 1) cap)]
/-- A slice of the doublings: its capacity, what lies behind its length. -/
def plS (b : Int) (i cap : Nat) (rest : List Value) : Prop := i ≤ 255 ∧ i + 1 ≤ cap ∧ (lc b (i + 1) ++ rest).length = 4 * cap ∧ ∀ x ∈ rest, flatF x = true
/-- At the head of the first loop. -/
def plI (a b : Int) (N m : Nat) (s : GS) : Prop := ∃ i cap rest, i + m = N ∧ s = ⟨plTs3 i cap, plHp3 a b i rest, 256, 0⟩ ∧ plS b i cap rest ∧ (0 < i → b * 2 ^ i ≤ a)
/-- Behind the first loop. -/
def plJ (C : Ctx) (a b : Int) (s : GS) : Prop := ∃ i cap rest, Weak C s ⟨plTs3 i cap, plHp3 a b i rest, 256, 0⟩ ∧ plS b i cap rest ∧ (0 < i → b * 2 ^ i ≤ a) ∧ a < b * 2 ^ (i + 1)
/-- The second loop, j rounds behind. -/
def plSt2 (a b : Int) (i cap : Nat) (rest : List Value) (j : Nat) : GS :=
  ⟨tsL [(2, .pointer (some ⟨200, 0, none⟩)), (3, .pointer (some ⟨208, 0, none⟩)), (4, .pointer (some ⟨216, 0, none⟩)), (5, .pointer (some ⟨224, 0, none⟩)), (6, .slice (some ⟨240, 0, none⟩) (i + 1) cap), (9, .pointer (some ⟨256, 0, none⟩)), (10, .int .i64 (i - j))],
   hpL G0 [(200, wb (a % (b * 2 ^ (i + 1 - j)))), (208, wb b), (216, wb 0), (224, wb 0), (240, ⟨(lc b (i + 1) ++ rest).toArray, 24⟩), (256, wb (a / (b * 2 ^ (i + 1 - j))))], 400, 0⟩
theorem dbl_bd {b : Int} (hb0 : 0 < b) (i : Nat) (h : b * 2 ^ i < 57896044618658097711785492504343953926634992332820282019728792003956564819968) : i < 255 := by
  refine Classical.byContradiction fun hc => ?_
  have h1 : (2 : Int) ^ 255 ≤ 2 ^ i := by exact_mod_cast Nat.pow_le_pow_right (by omega) (by omega : 255 ≤ i)
  have h2 : (1 : Int) * 2 ^ i ≤ b * 2 ^ i := Int.mul_le_mul_of_nonneg_right (by omega) (Int.le_of_lt (pow_pos2 i))
  have h3 : (2 : Int) ^ 255 = 57896044618658097711785492504343953926634992332820282019728792003956564819968 := rfl
  omega
theorem dbl_succ (b : Int) (i : Nat) : b * 2 ^ (i + 1) = b * 2 ^ i + b * 2 ^ i := by rw [Int.pow_succ, ← Int.mul_assoc, Int.mul_comm, Int.two_mul]
theorem ng_small {z : Int} (h0 : 0 ≤ z) (h1 : z < 57896044618658097711785492504343953926634992332820282019728792003956564819968) : ng z = false := by
  rw [ng_sz, sz_pos h0 h1]; simp; exact h0
theorem ng_large {z : Int} (h0 : 57896044618658097711785492504343953926634992332820282019728792003956564819968 ≤ z) (h1 : z < 115792089237316195423570985008687907853269984665640564039457584007913129639936) : ng z = true := by
  rw [ng_sz]; simp
  unfold sz; rw [Int.bmod_def]; split <;> omega
theorem flat_z4 {x : Value} (h : x ∈ (Value.agg #[.int .u64 0, .int .u64 0, .int .u64 0, .int .u64 0]).cells) : flatF x = true := by
  simp [Value.cells] at h; subst h; rfl
theorem lcr_ids {b : Int} {k : Nat} {rest : List Value} {T : TypeId} {D : Nat → Prop} (h : ∀ x ∈ rest, flatF x = true) : (Blk.mk (lc b k ++ rest).toArray T).ids D := fun x hx => by
  simp only [List.mem_toArray, List.mem_append] at hx
  rcases hx with hx | hx
  · exact flatF_ids (lc_flat b k x hx)
  · exact flatF_ids (h x hx)
theorem emod_le {a m : Int} (h0 : 0 ≤ a) (hm : 0 < m) : a % m ≤ a := by
  have h1 := Int.mul_ediv_add_emod a m
  have h2 := Int.ediv_nonneg h0 (Int.le_of_lt hm)
  have h3 := Int.mul_nonneg (Int.le_of_lt hm) h2
  omega
theorem lc_take' (b : Int) (i : Nat) (rest : List Value) : (lc b (i + 1) ++ rest).take ((i + 1) * 4) = lc b (i + 1) := by
  rw [show (i + 1) * 4 = (lc b (i + 1)).length by simp; omega, List.take_left]
theorem lc_room {b Y : Int} (i : Nat) (rest : List Value) (h : b * 2 ^ (i + 1) = Y) : (lc b (i + 1) ++ rest).take ((i + 1) * 4) ++ wl Y ++ (lc b (i + 1) ++ rest).drop ((i + 1) * 4 + (wl Y).length) = lc b (i + 2) ++ rest.drop 4 := by
  rw [lc_take', wl_len, show (i + 1) * 4 + 4 = (lc b (i + 1)).length + 4 by simp; omega, List.drop_append]
  simp only [Nat.add_sub_cancel_left]
  rw [List.drop_eq_nil_of_le (by omega), List.nil_append, ← h]
  rfl
theorem lc_grow {b Y : Int} (i : Nat) (rest tl : List Value) (h : b * 2 ^ (i + 1) = Y) : (lc b (i + 1) ++ rest).take ((i + 1) * 4) ++ wl Y ++ tl = lc b (i + 2) ++ tl := by
  rw [lc_take', ← h]; rfl
theorem lcr_rn {b : Int} {k : Nat} {rest : List Value} {T : TypeId} {ρ : Nat → Nat} (h : ∀ x ∈ rest, flatF x = true) : (Blk.mk (lc b k ++ rest).toArray T).rn ρ = ⟨(lc b k ++ rest).toArray, T⟩ := by
  unfold Blk.rn
  rw [map_eq_self]
  intro x hx
  simp only [List.mem_toArray, List.mem_append] at hx
  rcases hx with hx | hx
  · exact flatF_ren (lc_flat b k x hx)
  · exact flatF_ren (h x hx)
theorem w4_rn (a b c d : Int) (T : TypeId) (ρ : Nat → Nat) : (Blk.mk #[.int .u64 a, .int .u64 b, .int .u64 c, .int .u64 d] T).rn ρ = ⟨#[.int .u64 a, .int .u64 b, .int .u64 c, .int .u64 d], T⟩ := by simp [Blk.rn, renF, ren0]
set_option maxRecDepth 8000 in
set_option maxHeartbeats 1000000 in
theorem plain_t (a b : Int) (ha : wr a) (h0 : 0 ≤ a) (hb : wr b) (hb0 : 0 < b) : Ret Tryd.prog G0 116 #[wd a, wd b] (.tuple #[wd (a / b), wd (a % b)]) := by
  refine ret_of G0F Tryd.func116 rfl Tryd.call116 (by simp) (by simp) (by simp [Tryd.ntmps116]) ?_
  intro C hC hC0 hY
  repeat' (first
    | refine GW_seq ?_
    | simp only [List.length_cons, List.length_nil, Nat.reduceAdd, Nat.reduceMul, thenG_normal, thenG_ret, thenG_exit, thenG_goto, thenG_panic, blockG_normal, blockG_ret, blockG_goto, blockG_panic, jumpG_normal, jumpG_ret, jumpG_exit, jumpG_panic]
    | (refine GW_region' [] (by kernel_rfl) ?_; intro Q hQ hP; simp [hC, hY]; (first | refine hQ _ _ _ _ ?_ | refine hP _ _ (fun _ => ?_)); clear hQ hP Q)
    | (refine GW_draw' [] follows (by kernel_rfl) (by kernel_rfl) ?_; intro Q hQ hP; simp [hC, hY]; (first | refine hQ _ _ _ _ (by kernel_rfl) ?_ | refine hP _ _ (by kernel_rfl) (fun _ => ?_)); clear hQ hP Q)
    | refine GW_block ?_
    | refine GW_ret ?_
    | refine GW_skip ?_
    | refine GW_exit ?_
    | refine GW_goto ?_
    | refine GW_label ?_
    | simp only [blockG_exit]
    | (refine GW_cond (by simp; rfl) ?_ ?_ <;> (intro hb; first | (exfalso; exact absurd hb (by decide)) | skip)))
  refine GW_viaB (plJ C a b) ?_ ?_
  · refine GW_loopR (plI a b 255) (m0 := 255) (s0 := ⟨plTs3 0 1, plHp3 a b 0 [], 256, 0⟩) ?_ ⟨0, 1, [], by omega, rfl, ⟨by omega, by omega, rfl, by simp⟩, by omega⟩ ?_
    · refine weakL _ 256 hC G0F (m0 := []) hC0 (by omega) ?_ ?_ ?_
      · simp [idsV, idsA, idsF, ids0, dom]
      · simp [ids_lit, idsF, ids0, wb, lc, wl, wi_zero]
      · simp
    · rintro m _ ⟨i, cap, rest, him, rfl, ⟨hi255, hcap, hlen, hrf⟩, hle⟩
      have bi : Int.bmod (i : Int) 18446744073709551616 = i := bm (by omega) (by omega)
      have fit : i * 4 + 4 ≤ 4 * (i + 1) + rest.length := by omega
      have rd : List.take 4 (List.drop (i * 4) (lc b (i + 1) ++ rest)) = [.int .u64 (wi (b * 2 ^ i) 0), .int .u64 (wi (b * 2 ^ i) 1), .int .u64 (wi (b * 2 ^ i) 2), .int .u64 (wi (b * 2 ^ i) 3)] := by
        rw [Nat.mul_comm]; exact lc_take b (i + 1) i rest (by omega)
      have i0 : (0 : Int) ≤ i := by omega
      have i1 : (i : Int) < i + 1 := by omega
      have hau := ha.2
      have hbu := hb.2
      have hX0 : 0 < b * 2 ^ i := Int.mul_pos hb0 (pow_pos2 i)
      have hX1 : b * 2 ^ i < 57896044618658097711785492504343953926634992332820282019728792003956564819968 := by
        by_cases hi0 : i = 0
        · subst hi0; simpa using hbu
        · exact Int.lt_of_le_of_lt (hle (by omega)) hau
      have sza : sz a = a := wr_sz ha
      have hd := dbl_succ b i
      have n1 : ng (b * 2 ^ i) = false := ng_small (Int.le_of_lt hX0) hX1
      have hi254 := dbl_bd hb0 i hX1
      generalize hX : b * 2 ^ i = X at *
      by_cases hov : X + X < 57896044618658097711785492504343953926634992332820282019728792003956564819968
      · have n2 : ng (X + X) = false := ng_small (by omega) hov
        have szd : sz (X + X) = X + X := sz_pos (by omega) hov
        by_cases hle2 : X + X ≤ a
        · have hcmp : ¬ 0 < cmpI (sz (X + X)) (sz a) := by rw [szd, sza]; unfold cmpI; split <;> (try split) <;> omega
          unfold plTs3 plHp3
          repeat' (first
            | refine GW_seq ?_
            | simp only [List.length_cons, List.length_nil, Nat.reduceAdd, Nat.reduceMul, thenG_normal, thenG_ret, thenG_exit, thenG_goto, thenG_panic, blockG_normal, blockG_ret, blockG_goto, blockG_panic, jumpG_normal, jumpG_ret, jumpG_exit, jumpG_panic]
            | (refine GW_region' [] (by kernel_rfl) ?_; intro Q hQ hP; simp [hC, hY, wb, bi, fit, rd, i0, i1, n1, n2, hcmp]; (first | refine hQ _ _ _ _ ?_ | refine hP _ _ (fun _ => ?_)); clear hQ hP Q)
            | (refine GW_draw' [] follows (by kernel_rfl) (by kernel_rfl) ?_; intro Q hQ hP; simp [hC, hY, wb, bi, fit, rd, i0, i1, n1, n2, hcmp]; (first | refine hQ _ _ _ _ (by kernel_rfl) ?_ | refine hP _ _ (by kernel_rfl) (fun _ => ?_)); clear hQ hP Q)
            | refine GW_block ?_
            | refine GW_ret ?_
            | refine GW_skip ?_
            | refine GW_exit ?_
            | refine GW_goto ?_
            | refine GW_label ?_
            | simp only [blockG_exit]
            | (refine GW_cond (by simp; rfl) ?_ ?_ <;> (intro hb; first | (exfalso; exact absurd hb (by decide)) | skip)))
          refine GW_app 3 rfl [] rfl (by kernel_rfl) ?_
          intro q hq
          simp [hC, hY]
          refine appX_mk (c := lc b (i + 1) ++ rest) (c2 := wl (X + X)) (k := 240) (j := 480) (m := 1) (m' := 1) (sl := i + 1) (cap := cap) (e := 24) (T2 := 24) (sz := 4) (by' := 32) (z := .agg #[.int .u64 0, .int .u64 0, .int .u64 0, .int .u64 0]) rfl (by simp) (by simp) (by simp) (by kernel_rfl) (by simp) (by omega) (by simp) ?_ (by simp) (by simp [wl]) ?_ ?_ ?_ ?_ ?_ ?_ ?_ ?_ ?_ ?_
          · exact fun x hx => (List.mem_append.1 hx).elim (lc_flat b _ x) (hrf x)
          · simp [wl]
          · simp [wl, Value.oneCell']
          · exact fun q x hx => flat_z4 (zc_mem hx)
          · simp
          · rw [hlen]; omega
          · exact hcap
          · unfold maxLen; omega
          · omega
          · intro hr
            rw [lc_room i rest hd]
            simp [appC, putT]
            refine hq _ _ _ _ ?_
            simp only [blockG_normal, thenG_normal]
            refine ⟨_, _, m - 1, weakRL (fun k => k) _ 256 hC G0F (m0 := []) hC0 (by omega) ?_ ?_ ?_ ?_ ?_, ⟨i + 1, cap, rest.drop 4, by omega, rfl, ⟨by omega, hr, ?_, fun x hx => hrf x (List.mem_of_mem_drop hx)⟩, fun _ => by rw [hd]; exact hle2⟩, by omega⟩
            · simp [dom, junk, ren, renA, renF, ren0]
            · simp [w4_rn, lcr_rn (fun x hx => hrf x (List.mem_of_mem_drop hx) : ∀ x ∈ rest.drop 4, flatF x = true), lcr_ids (fun x hx => hrf x (List.mem_of_mem_drop hx) : ∀ x ∈ rest.drop 4, flatF x = true), wb]
            · simp
            · exact fun k _ => rfl
            · simp
            · simp at hlen ⊢; omega
          · intro hr cap' hc'
            rw [lc_grow i rest _ hd]
            have hzl : (Builtin.zeroCells (Value.agg #[.int .u64 0, .int .u64 0, .int .u64 0, .int .u64 0]).cells (cap' - (i + 1 + 1))).toList.length = (cap' - (i + 1 + 1)) * 4 := by simp [zc_size, Value.cells]
            have hzf : ∀ x ∈ (Builtin.zeroCells (Value.agg #[.int .u64 0, .int .u64 0, .int .u64 0, .int .u64 0]).cells (cap' - (i + 1 + 1))).toList, flatF x = true := fun x hx => flat_z4 (zc_mem (by simpa using hx))
            generalize (Builtin.zeroCells (Value.agg #[.int .u64 0, .int .u64 0, .int .u64 0, .int .u64 0]).cells (cap' - (i + 1 + 1))).toList = tl at *
            simp [appC, putT]
            refine hq _ _ _ _ ?_
            simp only [blockG_normal, thenG_normal]
            refine ⟨_, _, m - 1, weakRL (fun k => if k = 240 then 488 else k) _ 256 hC G0F (m0 := []) hC0 (by omega) ?_ ?_ ?_ ?_ ?_, ⟨i + 1, cap', tl, by omega, rfl, ⟨by omega, hc', ?_, hzf⟩, fun _ => by rw [hd]; exact hle2⟩, by omega⟩
            · simp [dom, junk, ren, renA, renF, ren0]
            · simp [w4_rn, lcr_rn hzf, lcr_ids hzf, wb]
            · simp
            · intro k hk; simp; omega
            · simp
            · simp [hzl]; omega
        · have hcmp : 0 < cmpI (sz (X + X)) (sz a) := by rw [szd, sza]; unfold cmpI; split <;> (try split) <;> omega
          unfold plTs3 plHp3
          repeat' (first
            | refine GW_seq ?_
            | simp only [List.length_cons, List.length_nil, Nat.reduceAdd, Nat.reduceMul, thenG_normal, thenG_ret, thenG_exit, thenG_goto, thenG_panic, blockG_normal, blockG_ret, blockG_goto, blockG_panic, jumpG_normal, jumpG_ret, jumpG_exit, jumpG_panic]
            | (refine GW_region' [] (by kernel_rfl) ?_; intro Q hQ hP; simp [hC, hY, wb, bi, fit, rd, i0, i1, n1, n2, hcmp]; (first | refine hQ _ _ _ _ ?_ | refine hP _ _ (fun _ => ?_)); clear hQ hP Q)
            | (refine GW_draw' [] follows (by kernel_rfl) (by kernel_rfl) ?_; intro Q hQ hP; simp [hC, hY, wb, bi, fit, rd, i0, i1, n1, n2, hcmp]; (first | refine hQ _ _ _ _ (by kernel_rfl) ?_ | refine hP _ _ (by kernel_rfl) (fun _ => ?_)); clear hQ hP Q)
            | refine GW_block ?_
            | refine GW_ret ?_
            | refine GW_skip ?_
            | refine GW_exit ?_
            | refine GW_goto ?_
            | refine GW_label ?_
            | simp only [blockG_exit]
            | (refine GW_cond (by simp; rfl) ?_ ?_ <;> (intro hb; first | (exfalso; exact absurd hb (by decide)) | skip)))
          rw [if_neg (by decide), if_pos trivial, onlyN_normal]
          refine ⟨i, cap, rest, ?_, ⟨hi255, hcap, hlen, hrf⟩, by rw [hX]; exact hle, by rw [hd]; omega⟩
          refine weakL _ 256 hC G0F (m0 := []) hC0 (by omega) ?_ ?_ ?_
          · simp [dom]
          · simp [wb, lcr_ids hrf]
          · simp
      · have n2 : ng (X + X) = true := ng_large (by omega) (by omega)
        unfold plTs3 plHp3
        repeat' (first
          | refine GW_seq ?_
          | simp only [List.length_cons, List.length_nil, Nat.reduceAdd, Nat.reduceMul, thenG_normal, thenG_ret, thenG_exit, thenG_goto, thenG_panic, blockG_normal, blockG_ret, blockG_goto, blockG_panic, jumpG_normal, jumpG_ret, jumpG_exit, jumpG_panic]
          | (refine GW_region' [] (by kernel_rfl) ?_; intro Q hQ hP; simp [hC, hY, bi, fit, rd, i0, i1, n1, n2]; (first | refine hQ _ _ _ _ ?_ | refine hP _ _ (fun _ => ?_)); clear hQ hP Q)
          | (refine GW_draw' [] follows (by kernel_rfl) (by kernel_rfl) ?_; intro Q hQ hP; simp [hC, hY, bi, fit, rd, i0, i1, n1, n2]; (first | refine hQ _ _ _ _ (by kernel_rfl) ?_ | refine hP _ _ (by kernel_rfl) (fun _ => ?_)); clear hQ hP Q)
          | refine GW_block ?_
          | refine GW_ret ?_
          | refine GW_skip ?_
          | refine GW_exit ?_
          | refine GW_goto ?_
          | refine GW_label ?_
          | simp only [blockG_exit]
          | (refine GW_cond (by simp; rfl) ?_ ?_ <;> (intro hb; first | (exfalso; exact absurd hb (by decide)) | skip)))
        rw [if_neg (by decide), if_pos trivial, onlyN_normal]
        refine ⟨i, cap, rest, ?_, ⟨hi255, hcap, hlen, hrf⟩, by rw [hX]; exact hle, by rw [hd]; omega⟩
        refine weakL _ 256 hC G0F (m0 := []) hC0 (by omega) ?_ ?_ ?_
        · simp [dom]
        · simp [wb, lcr_ids hrf]
        · simp
  · rintro s' ⟨i, cap, rest, hw, ⟨hi255, hcap, hlen, hrf⟩, hle, hlt⟩
    refine GW_weak hw ?_
    clear hw
    have bi : Int.bmod (i : Int) 18446744073709551616 = i := bm (by omega) (by omega)
    have hau := ha.2
    have hbu := hb.2
    have sza : sz a = a := wr_sz ha
    have hlt0 := Int.emod_eq_of_lt h0 hlt
    have hlt1 := Int.ediv_eq_zero_of_lt h0 hlt
    unfold plTs3 plHp3
    repeat' (first
      | refine GW_seq ?_
      | simp only [List.length_cons, List.length_nil, Nat.reduceAdd, Nat.reduceMul, thenG_normal, thenG_ret, thenG_exit, thenG_goto, thenG_panic, blockG_normal, blockG_ret, blockG_goto, blockG_panic, jumpG_normal, jumpG_ret, jumpG_exit, jumpG_panic]
      | (refine GW_region' [] (by kernel_rfl) ?_; intro Q hQ hP; simp [hC, hY, wb, bi]; (first | refine hQ _ _ _ _ ?_ | refine hP _ _ (fun _ => ?_)); clear hQ hP Q)
      | (refine GW_draw' [] follows (by kernel_rfl) (by kernel_rfl) ?_; intro Q hQ hP; simp [hC, hY, wb, bi]; (first | refine hQ _ _ _ _ (by kernel_rfl) ?_ | refine hP _ _ (by kernel_rfl) (fun _ => ?_)); clear hQ hP Q)
      | refine GW_block ?_
      | refine GW_ret ?_
      | refine GW_skip ?_
      | refine GW_exit ?_
      | refine GW_goto ?_
      | refine GW_label ?_
      | simp only [blockG_exit]
      | (refine GW_cond (by simp; rfl) ?_ ?_ <;> (intro hb; first | (exfalso; exact absurd hb (by decide)) | skip)))
    refine GW_for (i + 1) (plSt2 a b i cap rest) ?_ ?_ ?_
    · refine weakL _ 400 hC G0F (m0 := []) hC0 (by omega) ?_ ?_ ?_
      · simp [dom]
      · simp [wb, lcr_ids hrf, hlt0, hlt1, wi_zero]
      · simp
    · intro j hj
      obtain ⟨n, hn⟩ : ∃ n : Nat, n + j = i := ⟨i - j, by omega⟩
      have e1 : i + 1 - j = n + 1 := by omega
      have e2 : i + 1 - (j + 1) = n := by omega
      have e3 : (i : Int) - (j : Int) = n := by omega
      have e4 : Int.bmod ((n : Int) - 1) 18446744073709551616 = (i : Int) - ((j + 1 : Nat) : Int) := by rw [bm (by omega) (by omega)]; omega
      have hX0 : 0 < b * 2 ^ n := Int.mul_pos hb0 (pow_pos2 n)
      have hX1 : b * 2 ^ n < 57896044618658097711785492504343953926634992332820282019728792003956564819968 := by
        by_cases hi0 : i = 0
        · obtain rfl : n = 0 := by omega
          simpa using hbu
        · have h2 : (2 : Int) ^ n ≤ 2 ^ i := by exact_mod_cast Nat.pow_le_pow_right (by omega) (by omega : n ≤ i)
          exact Int.lt_of_le_of_lt (Int.le_trans (Int.mul_le_mul_of_nonneg_left h2 (Int.le_of_lt hb0)) (hle (by omega))) hau
      have fit : n * 4 + 4 ≤ 4 * (i + 1) + rest.length := by omega
      have rd : List.take 4 (List.drop (n * 4) (lc b (i + 1) ++ rest)) = [.int .u64 (wi (b * 2 ^ n) 0), .int .u64 (wi (b * 2 ^ n) 1), .int .u64 (wi (b * 2 ^ n) 2), .int .u64 (wi (b * 2 ^ n) 3)] := by
        rw [Nat.mul_comm]; exact lc_take b (i + 1) n rest (by omega)
      have i0 : (0 : Int) ≤ n := by omega
      have i1 : (n : Int) < i + 1 := by omega
      have hm0 := Int.emod_nonneg a (show b * 2 ^ (n + 1) ≠ 0 by have := Int.mul_pos hb0 (pow_pos2 (n + 1)); omega)
      have hm1 : a % (b * 2 ^ (n + 1)) ≤ a := emod_le h0 (Int.mul_pos hb0 (pow_pos2 (n + 1)))
      have hh := halve (a := a) hb0 n
      unfold plSt2
      rw [e1, e2, e3]
      have szX : sz (b * 2 ^ n) = b * 2 ^ n := sz_pos (Int.le_of_lt hX0) hX1
      have szR : sz (a % (b * 2 ^ (n + 1))) = a % (b * 2 ^ (n + 1)) := sz_pos hm0 (Int.lt_of_le_of_lt hm1 hau)
      rcases hh with ⟨g1, g2, g3⟩ | ⟨g1, g2, g3⟩
      · rw [g2, g3, Int.two_mul]
        have hcmp : ¬ cmpI (sz (b * 2 ^ n)) (sz (a % (b * 2 ^ (n + 1)))) ≤ 0 := by rw [szX, szR]; unfold cmpI; split <;> (try split) <;> omega
        clear g1 g2 g3 hm0 hm1 szX szR hlt0 hlt1
        generalize a % (b * 2 ^ (n + 1)) = R at *
        generalize a / (b * 2 ^ (n + 1)) = q at *
        generalize b * 2 ^ n = X at *
        repeat' (first
          | refine GW_seq ?_
          | simp only [List.length_cons, List.length_nil, Nat.reduceAdd, Nat.reduceMul, thenG_normal, thenG_ret, thenG_exit, thenG_goto, thenG_panic, blockG_normal, blockG_ret, blockG_goto, blockG_panic, jumpG_normal, jumpG_ret, jumpG_exit, jumpG_panic]
          | (refine GW_region' [] (by kernel_rfl) ?_; intro Q hQ hP; simp [hC, hY, wb, bi, fit, rd, i0, i1, hcmp, e4]; (first | refine hQ _ _ _ _ ?_ | refine hP _ _ (fun _ => ?_)); clear hQ hP Q)
          | (refine GW_draw' [] follows (by kernel_rfl) (by kernel_rfl) ?_; intro Q hQ hP; simp [hC, hY, wb, bi, fit, rd, i0, i1, hcmp, e4]; (first | refine hQ _ _ _ _ (by kernel_rfl) ?_ | refine hP _ _ (by kernel_rfl) (fun _ => ?_)); clear hQ hP Q)
          | refine GW_block ?_
          | refine GW_ret ?_
          | refine GW_skip ?_
          | refine GW_exit ?_
          | refine GW_goto ?_
          | refine GW_label ?_
          | simp only [blockG_exit]
          | (refine GW_cond (by simp; rfl) ?_ ?_ <;> (intro hb; first | (exfalso; exact absurd hb (by decide)) | skip)))
        refine weakL _ 400 hC G0F (m0 := []) hC0 (by omega) ?_ ?_ ?_
        · simp [dom]
        · simp [wb, lcr_ids hrf]
        · simp
      · rw [g2, g3, Int.two_mul]
        have hcmp : cmpI (sz (b * 2 ^ n)) (sz (a % (b * 2 ^ (n + 1)))) ≤ 0 := by rw [szX, szR]; unfold cmpI; split <;> (try split) <;> omega
        clear g1 g2 g3 hm0 hm1 szX szR hlt0 hlt1
        generalize a % (b * 2 ^ (n + 1)) = R at *
        generalize a / (b * 2 ^ (n + 1)) = q at *
        generalize b * 2 ^ n = X at *
        repeat' (first
          | refine GW_seq ?_
          | simp only [List.length_cons, List.length_nil, Nat.reduceAdd, Nat.reduceMul, thenG_normal, thenG_ret, thenG_exit, thenG_goto, thenG_panic, blockG_normal, blockG_ret, blockG_goto, blockG_panic, jumpG_normal, jumpG_ret, jumpG_exit, jumpG_panic]
          | (refine GW_region' [] (by kernel_rfl) ?_; intro Q hQ hP; simp [hC, hY, wb, bi, fit, rd, i0, i1, hcmp, e4]; (first | refine hQ _ _ _ _ ?_ | refine hP _ _ (fun _ => ?_)); clear hQ hP Q)
          | (refine GW_draw' [] follows (by kernel_rfl) (by kernel_rfl) ?_; intro Q hQ hP; simp [hC, hY, wb, bi, fit, rd, i0, i1, hcmp, e4]; (first | refine hQ _ _ _ _ (by kernel_rfl) ?_ | refine hP _ _ (by kernel_rfl) (fun _ => ?_)); clear hQ hP Q)
          | refine GW_block ?_
          | refine GW_ret ?_
          | refine GW_skip ?_
          | refine GW_exit ?_
          | refine GW_goto ?_
          | refine GW_label ?_
          | simp only [blockG_exit]
          | (refine GW_cond (by simp; rfl) ?_ ?_ <;> (intro hb; first | (exfalso; exact absurd hb (by decide)) | skip)))
        refine weakL _ 400 hC G0F (m0 := []) hC0 (by omega) ?_ ?_ ?_
        · simp [dom]
        · simp [wb, lcr_ids hrf]
        · simp
    · have e1 : i + 1 - (i + 1) = 0 := by omega
      have e3 : ¬ (0 : Int) ≤ (i : Int) - ((i + 1 : Nat) : Int) := by omega
      unfold plSt2
      rw [e1, Int.pow_zero, Int.mul_one]
      generalize (i : Int) - ((i + 1 : Nat) : Int) = z at *
      repeat' (first
        | refine GW_seq ?_
        | simp only [List.length_cons, List.length_nil, Nat.reduceAdd, Nat.reduceMul, thenG_normal, thenG_ret, thenG_exit, thenG_goto, thenG_panic, blockG_normal, blockG_ret, blockG_goto, blockG_panic, jumpG_normal, jumpG_ret, jumpG_exit, jumpG_panic]
        | (refine GW_region' [] (by kernel_rfl) ?_; intro Q hQ hP; simp [hC, hY, wb, e3]; (first | refine hQ _ _ _ _ ?_ | refine hP _ _ (fun _ => ?_)); clear hQ hP Q)
        | (refine GW_draw' [] follows (by kernel_rfl) (by kernel_rfl) ?_; intro Q hQ hP; simp [hC, hY, wb, e3]; (first | refine hQ _ _ _ _ (by kernel_rfl) ?_ | refine hP _ _ (by kernel_rfl) (fun _ => ?_)); clear hQ hP Q)
        | refine GW_block ?_
        | refine GW_ret ?_
        | refine GW_skip ?_
        | refine GW_exit ?_
        | refine GW_goto ?_
        | refine GW_label ?_
        | simp only [blockG_exit]
        | (refine GW_cond (by simp; rfl) ?_ ?_ <;> (intro hb; first | (exfalso; exact absurd hb (by decide)) | skip)))
      refine ⟨.inr trivial, ?_⟩
      simp [Tryd.results116]
end Go.Gy
namespace Go.Gy
set_option linter.unusedSimpArgs false
set_option linter.unusedVariables false
open Go Go.RowKit Go.Proofs
@[simp] theorem r3plain (a b : Int) (ha : wr a) (h0 : 0 ≤ a) (hB : wr b) (hb0 : 0 < b) (K : Value → Prop) : callK Tryd.prog G0 116 #[Value.agg #[.int .u64 (wi (a) 0), .int .u64 (wi (a) 1), .int .u64 (wi (a) 2), .int .u64 (wi (a) 3)], Value.agg #[.int .u64 (wi (b) 0), .int .u64 (wi (b) 1), .int .u64 (wi (b) 2), .int .u64 (wi (b) 3)]] K ↔ K (.tuple #[wd (a / b), wd (a % b)]) := callK_iff G0W (by kernel_rfl) (plain_t a b ha h0 hB hb0)
theorem above_ret (a b : Int) (ha : wr a) (h0 : 0 ≤ a) (hB : wr b) (hb0 : 0 < b) : Ret Tryd.prog G0 105 #[wd a, wd b] (.tuple #[wd (a / b), wd (a % b)]) := by
  refine ret_of G0F Tryd.func105 rfl Tryd.call105 (by simp) (by simp) (by simp [Tryd.ntmps105]) ?_
  intro C hC hC0 hY
  have s1 : 0 ≤ cmpI (sz a) 0 := by rw [wr_sz ha]; unfold cmpI; split <;> (try split) <;> omega
  repeat' (first
    | refine GW_seq ?_
    | simp only [List.length_cons, List.length_nil, Nat.reduceAdd, Nat.reduceMul, thenG_normal, thenG_ret, thenG_exit, thenG_goto, thenG_panic, blockG_normal, blockG_ret, blockG_goto, blockG_panic, jumpG_normal, jumpG_ret, jumpG_exit, jumpG_panic]
    | (refine GW_region' [] (by kernel_rfl) ?_; intro Q hQ hP; simp [hC, hY, s1, ha, h0, hB, hb0]; (first | refine hQ _ _ _ _ ?_ | refine hP _ _ (fun _ => ?_)); clear hQ hP Q)
    | (refine GW_draw' [] follows (by kernel_rfl) (by kernel_rfl) ?_; intro Q hQ hP; simp [hC, hY, s1, ha, h0, hB, hb0]; (first | refine hQ _ _ _ _ (by kernel_rfl) ?_ | refine hP _ _ (by kernel_rfl) (fun _ => ?_)); clear hQ hP Q)
    | refine GW_block ?_
    | refine GW_ret ?_
    | refine GW_skip ?_
    | refine GW_exit ?_
    | refine GW_goto ?_
    | refine GW_label ?_
    | simp only [blockG_exit]
    | (refine GW_cond (by simp; rfl) ?_ ?_ <;> (intro hb; first | (exfalso; exact absurd hb (by decide)) | skip)))
  refine ⟨.inr trivial, ?_⟩
  simp [Tryd.results105]
@[simp] theorem r3above (a b : Int) (ha : wr a) (h0 : 0 ≤ a) (hB : wr b) (hb0 : 0 < b) (K : Value → Prop) : callK Tryd.prog G0 105 #[Value.agg #[.int .u64 (wi (a) 0), .int .u64 (wi (a) 1), .int .u64 (wi (a) 2), .int .u64 (wi (a) 3)], Value.agg #[.int .u64 (wi (b) 0), .int .u64 (wi (b) 1), .int .u64 (wi (b) 2), .int .u64 (wi (b) 3)]] K ↔ K (.tuple #[wd (a / b), wd (a % b)]) := callK_iff G0W (by kernel_rfl) (above_ret a b ha h0 hB hb0)
theorem and4_of {p q r s : Bool} (h : (!p || (!q || (!r || !s))) = true) : (p && (q && (r && s))) = false := by cases p <;> cases q <;> cases r <;> cases s <;> simp_all
theorem floor3_ret (a b : Int) (ha : wr a) (h0 : 0 ≤ a) (hB : wr b) (hb0 : 0 < b) : Ret Tryd.prog G0 88 #[wd a, wd b] (.tuple #[wd (a / b), wd (a % b), .int .i64 0]) := by
  refine ret_of G0F Tryd.func88 rfl Tryd.call88 (by simp) (by simp) (by simp [Tryd.ntmps88]) ?_
  intro C hC hC0 hY
  have s1 : 0 < cmpI (sz b) 0 := by rw [wr_sz hB]; unfold cmpI; split <;> (try split) <;> omega
  have z1 := and4_of (wr_ne hB (by omega))
  have l1 := and4_of <| least_ne a ha (fun e => by rw [e] at h0; exact absurd h0 (by decide))
  have l2 := and4_of <| least_ne b hB (fun e => by rw [e] at hb0; exact absurd hb0 (by decide))
  repeat' (first
    | refine GW_seq ?_
    | simp only [List.length_cons, List.length_nil, Nat.reduceAdd, Nat.reduceMul, thenG_normal, thenG_ret, thenG_exit, thenG_goto, thenG_panic, blockG_normal, blockG_ret, blockG_goto, blockG_panic, jumpG_normal, jumpG_ret, jumpG_exit, jumpG_panic]
    | (refine GW_region' [] (by kernel_rfl) ?_; intro Q hQ hP; simp [hC, hY, s1, ha, h0, hB, hb0, z1, l1, l2]; (first | refine hQ _ _ _ _ ?_ | refine hP _ _ (fun _ => ?_)); clear hQ hP Q)
    | (refine GW_draw' [] follows (by kernel_rfl) (by kernel_rfl) ?_; intro Q hQ hP; simp [hC, hY, s1, ha, h0, hB, hb0, z1, l1, l2]; (first | refine hQ _ _ _ _ (by kernel_rfl) ?_ | refine hP _ _ (by kernel_rfl) (fun _ => ?_)); clear hQ hP Q)
    | refine GW_block ?_
    | refine GW_ret ?_
    | refine GW_skip ?_
    | refine GW_exit ?_
    | refine GW_goto ?_
    | refine GW_label ?_
    | simp only [blockG_exit]
    | (refine GW_cond (by simp; rfl) ?_ ?_ <;> (intro hb; first | (exfalso; exact absurd hb (by decide)) | skip)))
  refine ⟨.inr trivial, ?_⟩
  simp [Tryd.results88]
@[simp] theorem r3floor (a b : Int) (ha : wr a) (h0 : 0 ≤ a) (hB : wr b) (hb0 : 0 < b) (K : Value → Prop) : callK Tryd.prog G0 88 #[Value.agg #[.int .u64 (wi (a) 0), .int .u64 (wi (a) 1), .int .u64 (wi (a) 2), .int .u64 (wi (a) 3)], Value.agg #[.int .u64 (wi (b) 0), .int .u64 (wi (b) 1), .int .u64 (wi (b) 2), .int .u64 (wi (b) 3)]] K ↔ K (.tuple #[wd (a / b), wd (a % b), .int .i64 0]) := callK_iff G0W (by kernel_rfl) (floor3_ret a b ha h0 hB hb0)
theorem Floor3_ret (a b : Int) (ha : wr a) (h0 : 0 ≤ a) (hB : wr b) (hb0 : 0 < b) : Ret Tryd.prog G0 51 #[wd a, wd b] (.tuple #[wd (a / b), .int .i64 0]) := by
  refine ret_of G0F Tryd.func51 rfl Tryd.call51 (by simp) (by simp) (by simp [Tryd.ntmps51]) ?_
  intro C hC hC0 hY
  repeat' (first
    | refine GW_seq ?_
    | simp only [List.length_cons, List.length_nil, Nat.reduceAdd, Nat.reduceMul, thenG_normal, thenG_ret, thenG_exit, thenG_goto, thenG_panic, blockG_normal, blockG_ret, blockG_goto, blockG_panic, jumpG_normal, jumpG_ret, jumpG_exit, jumpG_panic]
    | (refine GW_region' [] (by kernel_rfl) ?_; intro Q hQ hP; simp [hC, hY, ha, h0, hB, hb0]; (first | refine hQ _ _ _ _ ?_ | refine hP _ _ (fun _ => ?_)); clear hQ hP Q)
    | (refine GW_draw' [] follows (by kernel_rfl) (by kernel_rfl) ?_; intro Q hQ hP; simp [hC, hY, ha, h0, hB, hb0]; (first | refine hQ _ _ _ _ (by kernel_rfl) ?_ | refine hP _ _ (by kernel_rfl) (fun _ => ?_)); clear hQ hP Q)
    | refine GW_block ?_
    | refine GW_ret ?_
    | refine GW_skip ?_
    | refine GW_exit ?_
    | refine GW_goto ?_
    | refine GW_label ?_
    | simp only [blockG_exit]
    | (refine GW_cond (by simp; rfl) ?_ ?_ <;> (intro hb; first | (exfalso; exact absurd hb (by decide)) | skip)))
  refine ⟨.inr trivial, ?_⟩
  simp [Tryd.results51]
@[simp] theorem r3Floor (a b : Int) (ha : wr a) (h0 : 0 ≤ a) (hB : wr b) (hb0 : 0 < b) (K : Value → Prop) : callK Tryd.prog G0 51 #[Value.agg #[.int .u64 (wi (a) 0), .int .u64 (wi (a) 1), .int .u64 (wi (a) 2), .int .u64 (wi (a) 3)], Value.agg #[.int .u64 (wi (b) 0), .int .u64 (wi (b) 1), .int .u64 (wi (b) 2), .int .u64 (wi (b) 3)]] K ↔ K (.tuple #[wd (a / b), .int .i64 0]) := callK_iff G0W (by kernel_rfl) (Floor3_ret a b ha h0 hB hb0)
end Go.Gy
namespace Go.Gy
set_option linter.unusedSimpArgs false
set_option linter.unusedVariables false
open Go Go.RowKit Go.Proofs
theorem r4Is_p_ret (a : Int) (ha : wr a) (h0 : 0 ≤ a) : Ret Tryd.prog G0 23 #[wd a] (.bool (decide (isq a * isq a = a))) := by
  refine ret_of G0F Tryd.func23 rfl Tryd.call23 rfl (by simp) (by simp [Tryd.ntmps23]) ?_
  intro C hC hC0 hY
  repeat' (first
    | refine GW_seq ?_
    | simp only [List.length_cons, List.length_nil, Nat.reduceAdd, Nat.reduceMul, thenG_normal, thenG_ret, thenG_exit, thenG_goto, thenG_panic, blockG_normal, blockG_ret, blockG_goto, blockG_panic, jumpG_normal, jumpG_ret, jumpG_exit, jumpG_panic]
    | (refine GW_region' [] (by kernel_rfl) ?_; intro Q hQ hP; simp [hC, hY, ha, h0]; (first | refine hQ _ _ _ _ ?_ | refine hP _ _ (fun _ => ?_)); clear hQ hP Q)
    | (refine GW_draw' [] follows (by kernel_rfl) (by kernel_rfl) ?_; intro Q hQ hP; simp [hC, hY, ha, h0]; (first | refine hQ _ _ _ _ (by kernel_rfl) ?_ | refine hP _ _ (by kernel_rfl) (fun _ => ?_)); clear hQ hP Q)
    | refine GW_block ?_
    | refine GW_ret ?_
    | refine GW_skip ?_
    | refine GW_exit ?_
    | refine GW_goto ?_
    | refine GW_label ?_
    | simp only [blockG_exit]
    | (refine GW_cond (by simp; rfl) ?_ ?_ <;> (intro hb; first | (exfalso; exact absurd hb (by decide)) | skip)))
  refine ⟨.inr trivial, ?_⟩
  simp [Tryd.results23]
  have := isq_sq a ha h0
  rw [← this]
  exact weq _ _
theorem r4Is_n_ret (a : Int) (ha : wr a) (h0 : a < 0) : Ret Tryd.prog G0 23 #[wd a] (.bool false) := by
  refine ret_of G0F Tryd.func23 rfl Tryd.call23 rfl (by simp) (by simp [Tryd.ntmps23]) ?_
  intro C hC hC0 hY
  repeat' (first
    | refine GW_seq ?_
    | simp only [List.length_cons, List.length_nil, Nat.reduceAdd, Nat.reduceMul, thenG_normal, thenG_ret, thenG_exit, thenG_goto, thenG_panic, blockG_normal, blockG_ret, blockG_goto, blockG_panic, jumpG_normal, jumpG_ret, jumpG_exit, jumpG_panic]
    | (refine GW_region' [] (by kernel_rfl) ?_; intro Q hQ hP; simp [hC, hY, ha, h0]; (first | refine hQ _ _ _ _ ?_ | refine hP _ _ (fun _ => ?_)); clear hQ hP Q)
    | (refine GW_draw' [] follows (by kernel_rfl) (by kernel_rfl) ?_; intro Q hQ hP; simp [hC, hY, ha, h0]; (first | refine hQ _ _ _ _ (by kernel_rfl) ?_ | refine hP _ _ (by kernel_rfl) (fun _ => ?_)); clear hQ hP Q)
    | refine GW_block ?_
    | refine GW_ret ?_
    | refine GW_skip ?_
    | refine GW_exit ?_
    | refine GW_goto ?_
    | refine GW_label ?_
    | simp only [blockG_exit]
    | (refine GW_cond (by simp; rfl) ?_ ?_ <;> (intro hb; first | (exfalso; exact absurd hb (by decide)) | skip)))
  refine ⟨.inr trivial, ?_⟩
  simp [Tryd.results23]
@[simp] theorem r4Is_p (a : Int) (ha : wr a) (h0 : 0 ≤ a) (K : Value → Prop) : callK Tryd.prog G0 23 #[Value.agg #[.int .u64 (wi (a) 0), .int .u64 (wi (a) 1), .int .u64 (wi (a) 2), .int .u64 (wi (a) 3)]] K ↔ K (.bool (decide (isq a * isq a = a))) := callK_iff G0W (by kernel_rfl) (r4Is_p_ret a ha h0)
@[simp] theorem r4Is_n (a : Int) (ha : wr a) (h0 : a < 0) (K : Value → Prop) : callK Tryd.prog G0 23 #[Value.agg #[.int .u64 (wi (a) 0), .int .u64 (wi (a) 1), .int .u64 (wi (a) 2), .int .u64 (wi (a) 3)]] K ↔ K (.bool false) := callK_iff G0W (by kernel_rfl) (r4Is_n_ret a ha h0)
theorem r4Ceil_p_ret (a : Int) (ha : wr a) (h0 : 0 ≤ a) : Ret Tryd.prog G0 15 #[wd a] (.tuple #[wd (isqU a), .int .i64 0]) := by
  refine ret_of G0F Tryd.func15 rfl Tryd.call15 (by simp) (by simp) (by simp [Tryd.ntmps15]) ?_
  intro C hC hC0 hY
  have i1 := i64_1
  unfold isqU
  by_cases h : isq a * isq a = a
  · rw [if_pos h]
    repeat' (first
      | refine GW_seq ?_
      | simp only [List.length_cons, List.length_nil, Nat.reduceAdd, Nat.reduceMul, thenG_normal, thenG_ret, thenG_exit, thenG_goto, thenG_panic, blockG_normal, blockG_ret, blockG_goto, blockG_panic, jumpG_normal, jumpG_ret, jumpG_exit, jumpG_panic]
      | (refine GW_region' [] (by kernel_rfl) ?_; intro Q hQ hP; simp [hC, hY, ha, h0, h, i1]; (first | refine hQ _ _ _ _ ?_ | refine hP _ _ (fun _ => ?_)); clear hQ hP Q)
      | (refine GW_draw' [] follows (by kernel_rfl) (by kernel_rfl) ?_; intro Q hQ hP; simp [hC, hY, ha, h0, h, i1]; (first | refine hQ _ _ _ _ (by kernel_rfl) ?_ | refine hP _ _ (by kernel_rfl) (fun _ => ?_)); clear hQ hP Q)
      | refine GW_block ?_
      | refine GW_ret ?_
      | refine GW_skip ?_
      | refine GW_exit ?_
      | refine GW_goto ?_
      | refine GW_label ?_
      | simp only [blockG_exit]
      | (refine GW_cond (by simp; rfl) ?_ ?_ <;> (intro hb; first | (exfalso; exact absurd hb (by decide)) | skip)))
    refine ⟨.inr trivial, ?_⟩
    simp [Tryd.results15]
  · rw [if_neg h]
    repeat' (first
      | refine GW_seq ?_
      | simp only [List.length_cons, List.length_nil, Nat.reduceAdd, Nat.reduceMul, thenG_normal, thenG_ret, thenG_exit, thenG_goto, thenG_panic, blockG_normal, blockG_ret, blockG_goto, blockG_panic, jumpG_normal, jumpG_ret, jumpG_exit, jumpG_panic]
      | (refine GW_region' [] (by kernel_rfl) ?_; intro Q hQ hP; simp [hC, hY, ha, h0, h, i1]; (first | refine hQ _ _ _ _ ?_ | refine hP _ _ (fun _ => ?_)); clear hQ hP Q)
      | (refine GW_draw' [] follows (by kernel_rfl) (by kernel_rfl) ?_; intro Q hQ hP; simp [hC, hY, ha, h0, h, i1]; (first | refine hQ _ _ _ _ (by kernel_rfl) ?_ | refine hP _ _ (by kernel_rfl) (fun _ => ?_)); clear hQ hP Q)
      | refine GW_block ?_
      | refine GW_ret ?_
      | refine GW_skip ?_
      | refine GW_exit ?_
      | refine GW_goto ?_
      | refine GW_label ?_
      | simp only [blockG_exit]
      | (refine GW_cond (by simp; rfl) ?_ ?_ <;> (intro hb; first | (exfalso; exact absurd hb (by decide)) | skip)))
    refine ⟨.inr trivial, ?_⟩
    simp [Tryd.results15]
theorem r4Ceil_n_ret (a : Int) (ha : wr a) (h0 : a < 0) : Ret Tryd.prog G0 15 #[wd a] (.tuple #[wd 0, .int .i64 2]) := by
  refine ret_of G0F Tryd.func15 rfl Tryd.call15 (by simp) (by simp) (by simp [Tryd.ntmps15]) ?_
  intro C hC hC0 hY
  repeat' (first
    | refine GW_seq ?_
    | simp only [List.length_cons, List.length_nil, Nat.reduceAdd, Nat.reduceMul, thenG_normal, thenG_ret, thenG_exit, thenG_goto, thenG_panic, blockG_normal, blockG_ret, blockG_goto, blockG_panic, jumpG_normal, jumpG_ret, jumpG_exit, jumpG_panic]
    | (refine GW_region' [] (by kernel_rfl) ?_; intro Q hQ hP; simp [hC, hY, ha, h0]; (first | refine hQ _ _ _ _ ?_ | refine hP _ _ (fun _ => ?_)); clear hQ hP Q)
    | (refine GW_draw' [] follows (by kernel_rfl) (by kernel_rfl) ?_; intro Q hQ hP; simp [hC, hY, ha, h0]; (first | refine hQ _ _ _ _ (by kernel_rfl) ?_ | refine hP _ _ (by kernel_rfl) (fun _ => ?_)); clear hQ hP Q)
    | refine GW_block ?_
    | refine GW_ret ?_
    | refine GW_skip ?_
    | refine GW_exit ?_
    | refine GW_goto ?_
    | refine GW_label ?_
    | simp only [blockG_exit]
    | (refine GW_cond (by simp; rfl) ?_ ?_ <;> (intro hb; first | (exfalso; exact absurd hb (by decide)) | skip)))
  refine ⟨.inr trivial, ?_⟩
  simp [Tryd.results15, wi_zero]
@[simp] theorem r4Ceil_p (a : Int) (ha : wr a) (h0 : 0 ≤ a) (K : Value → Prop) : callK Tryd.prog G0 15 #[Value.agg #[.int .u64 (wi (a) 0), .int .u64 (wi (a) 1), .int .u64 (wi (a) 2), .int .u64 (wi (a) 3)]] K ↔ K (.tuple #[wd (isqU a), .int .i64 0]) := callK_iff G0W (by kernel_rfl) (r4Ceil_p_ret a ha h0)
@[simp] theorem r4Ceil_n (a : Int) (ha : wr a) (h0 : a < 0) (K : Value → Prop) : callK Tryd.prog G0 15 #[Value.agg #[.int .u64 (wi (a) 0), .int .u64 (wi (a) 1), .int .u64 (wi (a) 2), .int .u64 (wi (a) 3)]] K ↔ K (.tuple #[wd 0, .int .i64 2]) := callK_iff G0W (by kernel_rfl) (r4Ceil_n_ret a ha h0)
theorem r4Of_p_ret (a b : Int) (ha : wr a) (hB : wr b) (h0 : 0 ≤ a) (hb0 : 0 < b) : Ret Tryd.prog G0 17 #[wd a, wd b] (.tuple #[wd (isq (a / b)), .int .i64 0]) := by
  refine ret_of G0F Tryd.func17 rfl Tryd.call17 (by simp) (by simp) (by simp [Tryd.ntmps17]) ?_
  intro C hC hC0 hY
  have s1 : ¬ cmpI (sz a) 0 < 0 := by rw [wr_sz ha]; unfold cmpI; split <;> (try split) <;> omega
  have s2 : ¬ cmpI (sz b) 0 < 0 := by rw [wr_sz hB]; unfold cmpI; split <;> (try split) <;> omega
  have z1 := and4_of (wr_ne hB (by omega))
  have hd := div_wr ha h0 hb0
  have hd1 := hd.1
  have hd2 := hd.2
  repeat' (first
    | refine GW_seq ?_
    | simp only [List.length_cons, List.length_nil, Nat.reduceAdd, Nat.reduceMul, thenG_normal, thenG_ret, thenG_exit, thenG_goto, thenG_panic, blockG_normal, blockG_ret, blockG_goto, blockG_panic, jumpG_normal, jumpG_ret, jumpG_exit, jumpG_panic]
    | (refine GW_region' [] (by kernel_rfl) ?_; intro Q hQ hP; simp [hC, hY, s1, s2, z1, ha, h0, hB, hb0, hd1, hd2]; (first | refine hQ _ _ _ _ ?_ | refine hP _ _ (fun _ => ?_)); clear hQ hP Q)
    | (refine GW_draw' [] follows (by kernel_rfl) (by kernel_rfl) ?_; intro Q hQ hP; simp [hC, hY, s1, s2, z1, ha, h0, hB, hb0, hd1, hd2]; (first | refine hQ _ _ _ _ (by kernel_rfl) ?_ | refine hP _ _ (by kernel_rfl) (fun _ => ?_)); clear hQ hP Q)
    | refine GW_block ?_
    | refine GW_ret ?_
    | refine GW_skip ?_
    | refine GW_exit ?_
    | refine GW_goto ?_
    | refine GW_label ?_
    | simp only [blockG_exit]
    | (refine GW_cond (by simp; rfl) ?_ ?_ <;> (intro hb; first | (exfalso; exact absurd hb (by decide)) | skip)))
  refine ⟨.inr trivial, ?_⟩
  simp [Tryd.results17]
theorem r4Of_a_ret (a b : Int) (ha : wr a) (hB : wr b) (hb0 : b ≠ 0) (h : a < 0 ∨ b < 0) : Ret Tryd.prog G0 17 #[wd a, wd b] (.tuple #[wd 0, .int .i64 2]) := by
  refine ret_of G0F Tryd.func17 rfl Tryd.call17 (by simp) (by simp) (by simp [Tryd.ntmps17]) ?_
  intro C hC hC0 hY
  have z1 := and4_of (wr_ne hB hb0)
  by_cases ha0 : a < 0
  · have s1 : cmpI (sz a) 0 < 0 := by rw [wr_sz ha]; unfold cmpI; split <;> (try split) <;> omega
    repeat' (first
      | refine GW_seq ?_
      | simp only [List.length_cons, List.length_nil, Nat.reduceAdd, Nat.reduceMul, thenG_normal, thenG_ret, thenG_exit, thenG_goto, thenG_panic, blockG_normal, blockG_ret, blockG_goto, blockG_panic, jumpG_normal, jumpG_ret, jumpG_exit, jumpG_panic]
      | (refine GW_region' [] (by kernel_rfl) ?_; intro Q hQ hP; simp [hC, hY, s1, z1]; (first | refine hQ _ _ _ _ ?_ | refine hP _ _ (fun _ => ?_)); clear hQ hP Q)
      | (refine GW_draw' [] follows (by kernel_rfl) (by kernel_rfl) ?_; intro Q hQ hP; simp [hC, hY, s1, z1]; (first | refine hQ _ _ _ _ (by kernel_rfl) ?_ | refine hP _ _ (by kernel_rfl) (fun _ => ?_)); clear hQ hP Q)
      | refine GW_block ?_
      | refine GW_ret ?_
      | refine GW_skip ?_
      | refine GW_exit ?_
      | refine GW_goto ?_
      | refine GW_label ?_
      | simp only [blockG_exit]
      | (refine GW_cond (by simp; rfl) ?_ ?_ <;> (intro hb; first | (exfalso; exact absurd hb (by decide)) | skip)))
    refine ⟨.inr trivial, ?_⟩
    simp [Tryd.results17, wi_zero]
  · have s1 : ¬ cmpI (sz a) 0 < 0 := by rw [wr_sz ha]; unfold cmpI; split <;> (try split) <;> omega
    have s2 : cmpI (sz b) 0 < 0 := by rw [wr_sz hB]; unfold cmpI; split <;> (try split) <;> omega
    repeat' (first
      | refine GW_seq ?_
      | simp only [List.length_cons, List.length_nil, Nat.reduceAdd, Nat.reduceMul, thenG_normal, thenG_ret, thenG_exit, thenG_goto, thenG_panic, blockG_normal, blockG_ret, blockG_goto, blockG_panic, jumpG_normal, jumpG_ret, jumpG_exit, jumpG_panic]
      | (refine GW_region' [] (by kernel_rfl) ?_; intro Q hQ hP; simp [hC, hY, s1, s2, z1]; (first | refine hQ _ _ _ _ ?_ | refine hP _ _ (fun _ => ?_)); clear hQ hP Q)
      | (refine GW_draw' [] follows (by kernel_rfl) (by kernel_rfl) ?_; intro Q hQ hP; simp [hC, hY, s1, s2, z1]; (first | refine hQ _ _ _ _ (by kernel_rfl) ?_ | refine hP _ _ (by kernel_rfl) (fun _ => ?_)); clear hQ hP Q)
      | refine GW_block ?_
      | refine GW_ret ?_
      | refine GW_skip ?_
      | refine GW_exit ?_
      | refine GW_goto ?_
      | refine GW_label ?_
      | simp only [blockG_exit]
      | (refine GW_cond (by simp; rfl) ?_ ?_ <;> (intro hb; first | (exfalso; exact absurd hb (by decide)) | skip)))
    refine ⟨.inr trivial, ?_⟩
    simp [Tryd.results17, wi_zero]
theorem r4Of_z_ret (a b : Int) (hz : b = 0) : Ret Tryd.prog G0 17 #[wd a, wd b] (.tuple #[wd 0, .int .i64 30]) := by
  subst hz
  refine ret_of G0F Tryd.func17 rfl Tryd.call17 (by simp) (by simp) (by simp [Tryd.ntmps17]) ?_
  intro C hC hC0 hY
  repeat' (first
    | refine GW_seq ?_
    | simp only [List.length_cons, List.length_nil, Nat.reduceAdd, Nat.reduceMul, thenG_normal, thenG_ret, thenG_exit, thenG_goto, thenG_panic, blockG_normal, blockG_ret, blockG_goto, blockG_panic, jumpG_normal, jumpG_ret, jumpG_exit, jumpG_panic]
    | (refine GW_region' [] (by kernel_rfl) ?_; intro Q hQ hP; simp [hC, hY, wi_zero]; (first | refine hQ _ _ _ _ ?_ | refine hP _ _ (fun _ => ?_)); clear hQ hP Q)
    | (refine GW_draw' [] follows (by kernel_rfl) (by kernel_rfl) ?_; intro Q hQ hP; simp [hC, hY, wi_zero]; (first | refine hQ _ _ _ _ (by kernel_rfl) ?_ | refine hP _ _ (by kernel_rfl) (fun _ => ?_)); clear hQ hP Q)
    | refine GW_block ?_
    | refine GW_ret ?_
    | refine GW_skip ?_
    | refine GW_exit ?_
    | refine GW_goto ?_
    | refine GW_label ?_
    | simp only [blockG_exit]
    | (refine GW_cond (by simp; rfl) ?_ ?_ <;> (intro hb; first | (exfalso; exact absurd hb (by decide)) | skip)))
  refine ⟨.inr trivial, ?_⟩
  simp [Tryd.results17, wi_zero]
@[simp] theorem r4Of_p (a b : Int) (ha : wr a) (hB : wr b) (h0 : 0 ≤ a) (hb0 : 0 < b) (K : Value → Prop) : callK Tryd.prog G0 17 #[Value.agg #[.int .u64 (wi (a) 0), .int .u64 (wi (a) 1), .int .u64 (wi (a) 2), .int .u64 (wi (a) 3)], Value.agg #[.int .u64 (wi (b) 0), .int .u64 (wi (b) 1), .int .u64 (wi (b) 2), .int .u64 (wi (b) 3)]] K ↔ K (.tuple #[wd (isq (a / b)), .int .i64 0]) := callK_iff G0W (by kernel_rfl) (r4Of_p_ret a b ha hB h0 hb0)
@[simp] theorem r4Of_a (a b : Int) (ha : wr a) (hB : wr b) (hb0 : b ≠ 0) (h : a < 0 ∨ b < 0) (K : Value → Prop) : callK Tryd.prog G0 17 #[Value.agg #[.int .u64 (wi (a) 0), .int .u64 (wi (a) 1), .int .u64 (wi (a) 2), .int .u64 (wi (a) 3)], Value.agg #[.int .u64 (wi (b) 0), .int .u64 (wi (b) 1), .int .u64 (wi (b) 2), .int .u64 (wi (b) 3)]] K ↔ K (.tuple #[wd 0, .int .i64 2]) := callK_iff G0W (by kernel_rfl) (r4Of_a_ret a b ha hB hb0 h)
@[simp] theorem r4Of_z (a b : Int) (hz : b = 0) (K : Value → Prop) : callK Tryd.prog G0 17 #[Value.agg #[.int .u64 (wi (a) 0), .int .u64 (wi (a) 1), .int .u64 (wi (a) 2), .int .u64 (wi (a) 3)], Value.agg #[.int .u64 (wi (b) 0), .int .u64 (wi (b) 1), .int .u64 (wi (b) 2), .int .u64 (wi (b) 3)]] K ↔ K (.tuple #[wd 0, .int .i64 30]) := callK_iff G0W (by kernel_rfl) (r4Of_z_ret a b hz)
@[simp] theorem r4Of_zz (a : Int) (K : Value → Prop) : callK Tryd.prog G0 17 #[Value.agg #[.int .u64 (wi (a) 0), .int .u64 (wi (a) 1), .int .u64 (wi (a) 2), .int .u64 (wi (a) 3)], .agg #[.int .u64 0, .int .u64 0, .int .u64 0, .int .u64 0]] K ↔ K (.tuple #[wd 0, .int .i64 30]) := by
  have := r4Of_z a 0 rfl K
  simpa [wi_zero] using this
theorem toint2z_ret : Ret Tryd.prog G0 57 #[.agg #[.int .u64 0, .int .u64 0, .int .u64 0, .int .u64 0]] (.tuple #[.int .i64 0, .bool true]) := by
  have h := int2_ret 0
  have e : sz 0 = 0 := by decide
  have i0 : i64 0 := by decide
  simpa [e, i0, wi_zero] using h
@[simp] theorem toint2z (K : Value → Prop) : callK Tryd.prog G0 57 #[.agg #[.int .u64 0, .int .u64 0, .int .u64 0, .int .u64 0]] K ↔ K (.tuple #[.int .i64 0, .bool true]) := callK_iff G0W (by kernel_rfl) toint2z_ret
theorem r4Half_p_ret (a b : Int) (ha : wr a) (hB : wr b) (h0 : 0 ≤ a) (hb0 : 0 < b) : Ret Tryd.prog G0 19 #[wd a, wd b] (.tuple #[wd ((isq (a / b) + 1) / 2), .int .i64 0]) := by
  refine ret_of G0F Tryd.func19 rfl Tryd.call19 (by simp) (by simp) (by simp [Tryd.ntmps19]) ?_
  intro C hC hC0 hY
  have i1 := i64_1
  have i2 : i64 2 := by decide
  have hd := div_wr ha h0 hb0
  have hs := isq_le (a / b) hd.1 hd.2
  have hp := (isq_spec (a / b) hd.2).1
  have w2 : wr 2 := ⟨by decide, by decide⟩
  have w1 : wr (isq (a / b) + 1) := ⟨Int.le_trans (by decide) (Int.le_add_one hp), Int.lt_trans (Int.add_lt_add_right hs.1 1) (by decide)⟩
  have p1 : 0 ≤ isq (a / b) + 1 := Int.le_add_one hp
  repeat' (first
    | refine GW_seq ?_
    | simp only [List.length_cons, List.length_nil, Nat.reduceAdd, Nat.reduceMul, thenG_normal, thenG_ret, thenG_exit, thenG_goto, thenG_panic, blockG_normal, blockG_ret, blockG_goto, blockG_panic, jumpG_normal, jumpG_ret, jumpG_exit, jumpG_panic]
    | (refine GW_region' [] (by kernel_rfl) ?_; intro Q hQ hP; simp [hC, hY, ha, h0, hB, hb0, i1, i2, w1, w2, p1]; (first | refine hQ _ _ _ _ ?_ | refine hP _ _ (fun _ => ?_)); clear hQ hP Q)
    | (refine GW_draw' [] follows (by kernel_rfl) (by kernel_rfl) ?_; intro Q hQ hP; simp [hC, hY, ha, h0, hB, hb0, i1, i2, w1, w2, p1]; (first | refine hQ _ _ _ _ (by kernel_rfl) ?_ | refine hP _ _ (by kernel_rfl) (fun _ => ?_)); clear hQ hP Q)
    | refine GW_block ?_
    | refine GW_ret ?_
    | refine GW_skip ?_
    | refine GW_exit ?_
    | refine GW_goto ?_
    | refine GW_label ?_
    | simp only [blockG_exit]
    | (refine GW_cond (by simp; rfl) ?_ ?_ <;> (intro hb; first | (exfalso; exact absurd hb (by decide)) | skip)))
  refine ⟨.inr trivial, ?_⟩
  simp [Tryd.results19]
theorem r4Half_a_ret (a b : Int) (ha : wr a) (hB : wr b) (hb0 : b ≠ 0) (h : a < 0 ∨ b < 0) : Ret Tryd.prog G0 19 #[wd a, wd b] (.tuple #[wd 0, .int .i64 2]) := by
  refine ret_of G0F Tryd.func19 rfl Tryd.call19 (by simp) (by simp) (by simp [Tryd.ntmps19]) ?_
  intro C hC hC0 hY
  repeat' (first
    | refine GW_seq ?_
    | simp only [List.length_cons, List.length_nil, Nat.reduceAdd, Nat.reduceMul, thenG_normal, thenG_ret, thenG_exit, thenG_goto, thenG_panic, blockG_normal, blockG_ret, blockG_goto, blockG_panic, jumpG_normal, jumpG_ret, jumpG_exit, jumpG_panic]
    | (refine GW_region' [] (by kernel_rfl) ?_; intro Q hQ hP; simp [hC, hY, ha, hB, hb0, h]; (first | refine hQ _ _ _ _ ?_ | refine hP _ _ (fun _ => ?_)); clear hQ hP Q)
    | (refine GW_draw' [] follows (by kernel_rfl) (by kernel_rfl) ?_; intro Q hQ hP; simp [hC, hY, ha, hB, hb0, h]; (first | refine hQ _ _ _ _ (by kernel_rfl) ?_ | refine hP _ _ (by kernel_rfl) (fun _ => ?_)); clear hQ hP Q)
    | refine GW_block ?_
    | refine GW_ret ?_
    | refine GW_skip ?_
    | refine GW_exit ?_
    | refine GW_goto ?_
    | refine GW_label ?_
    | simp only [blockG_exit]
    | (refine GW_cond (by simp; rfl) ?_ ?_ <;> (intro hb; first | (exfalso; exact absurd hb (by decide)) | skip)))
  refine ⟨.inr trivial, ?_⟩
  simp [Tryd.results19, wi_zero]
theorem r4Half_z_ret (a b : Int) (hz : b = 0) : Ret Tryd.prog G0 19 #[wd a, wd b] (.tuple #[wd 0, .int .i64 30]) := by
  subst hz
  refine ret_of G0F Tryd.func19 rfl Tryd.call19 (by simp) (by simp) (by simp [Tryd.ntmps19]) ?_
  intro C hC hC0 hY
  repeat' (first
    | refine GW_seq ?_
    | simp only [List.length_cons, List.length_nil, Nat.reduceAdd, Nat.reduceMul, thenG_normal, thenG_ret, thenG_exit, thenG_goto, thenG_panic, blockG_normal, blockG_ret, blockG_goto, blockG_panic, jumpG_normal, jumpG_ret, jumpG_exit, jumpG_panic]
    | (refine GW_region' [] (by kernel_rfl) ?_; intro Q hQ hP; simp [hC, hY, wi_zero]; (first | refine hQ _ _ _ _ ?_ | refine hP _ _ (fun _ => ?_)); clear hQ hP Q)
    | (refine GW_draw' [] follows (by kernel_rfl) (by kernel_rfl) ?_; intro Q hQ hP; simp [hC, hY, wi_zero]; (first | refine hQ _ _ _ _ (by kernel_rfl) ?_ | refine hP _ _ (by kernel_rfl) (fun _ => ?_)); clear hQ hP Q)
    | refine GW_block ?_
    | refine GW_ret ?_
    | refine GW_skip ?_
    | refine GW_exit ?_
    | refine GW_goto ?_
    | refine GW_label ?_
    | simp only [blockG_exit]
    | (refine GW_cond (by simp; rfl) ?_ ?_ <;> (intro hb; first | (exfalso; exact absurd hb (by decide)) | skip)))
  refine ⟨.inr trivial, ?_⟩
  simp [Tryd.results19, wi_zero]
@[simp] theorem r4Half_p (a b : Int) (ha : wr a) (hB : wr b) (h0 : 0 ≤ a) (hb0 : 0 < b) (K : Value → Prop) : callK Tryd.prog G0 19 #[Value.agg #[.int .u64 (wi (a) 0), .int .u64 (wi (a) 1), .int .u64 (wi (a) 2), .int .u64 (wi (a) 3)], Value.agg #[.int .u64 (wi (b) 0), .int .u64 (wi (b) 1), .int .u64 (wi (b) 2), .int .u64 (wi (b) 3)]] K ↔ K (.tuple #[wd ((isq (a / b) + 1) / 2), .int .i64 0]) := callK_iff G0W (by kernel_rfl) (r4Half_p_ret a b ha hB h0 hb0)
@[simp] theorem r4Half_a (a b : Int) (ha : wr a) (hB : wr b) (hb0 : b ≠ 0) (h : a < 0 ∨ b < 0) (K : Value → Prop) : callK Tryd.prog G0 19 #[Value.agg #[.int .u64 (wi (a) 0), .int .u64 (wi (a) 1), .int .u64 (wi (a) 2), .int .u64 (wi (a) 3)], Value.agg #[.int .u64 (wi (b) 0), .int .u64 (wi (b) 1), .int .u64 (wi (b) 2), .int .u64 (wi (b) 3)]] K ↔ K (.tuple #[wd 0, .int .i64 2]) := callK_iff G0W (by kernel_rfl) (r4Half_a_ret a b ha hB hb0 h)
@[simp] theorem r4Half_z (a b : Int) (hz : b = 0) (K : Value → Prop) : callK Tryd.prog G0 19 #[Value.agg #[.int .u64 (wi (a) 0), .int .u64 (wi (a) 1), .int .u64 (wi (a) 2), .int .u64 (wi (a) 3)], Value.agg #[.int .u64 (wi (b) 0), .int .u64 (wi (b) 1), .int .u64 (wi (b) 2), .int .u64 (wi (b) 3)]] K ↔ K (.tuple #[wd 0, .int .i64 30]) := callK_iff G0W (by kernel_rfl) (r4Half_z_ret a b hz)
theorem r4Int_p_ret (n : Int) (h : i64 n) (h0 : 0 ≤ n) : Ret Tryd.prog G0 21 #[.int .i64 n] (.tuple #[.int .i64 (isq n), .int .i64 0]) := by
  refine ret_of G0F Tryd.func21 rfl Tryd.call21 (by simp) (by simp) (by simp [Tryd.ntmps21]) ?_
  intro C hC hC0 hY
  have hw := i64_wr h
  obtain ⟨i0, i1, i2⟩ := isq_spec n h0
  have hi : isq n < 9223372036854775808 := sq_bd 9223372036854775808 i0 (by decide) (by have := h.2; omega)
  have hsz : sz (isq n) = isq n := sz_pos i0 (Int.lt_trans hi (by decide))
  have hii : i64 (isq n) := ⟨Int.le_trans (by decide) i0, hi⟩
  repeat' (first
    | refine GW_seq ?_
    | simp only [List.length_cons, List.length_nil, Nat.reduceAdd, Nat.reduceMul, thenG_normal, thenG_ret, thenG_exit, thenG_goto, thenG_panic, blockG_normal, blockG_ret, blockG_goto, blockG_panic, jumpG_normal, jumpG_ret, jumpG_exit, jumpG_panic]
    | (refine GW_region' [] (by kernel_rfl) ?_; intro Q hQ hP; simp [hC, hY, h, hw, h0, hsz, hii]; (first | refine hQ _ _ _ _ ?_ | refine hP _ _ (fun _ => ?_)); clear hQ hP Q)
    | (refine GW_draw' [] follows (by kernel_rfl) (by kernel_rfl) ?_; intro Q hQ hP; simp [hC, hY, h, hw, h0, hsz, hii]; (first | refine hQ _ _ _ _ (by kernel_rfl) ?_ | refine hP _ _ (by kernel_rfl) (fun _ => ?_)); clear hQ hP Q)
    | refine GW_block ?_
    | refine GW_ret ?_
    | refine GW_skip ?_
    | refine GW_exit ?_
    | refine GW_goto ?_
    | refine GW_label ?_
    | simp only [blockG_exit]
    | (refine GW_cond (by simp; rfl) ?_ ?_ <;> (intro hb; first | (exfalso; exact absurd hb (by decide)) | skip)))
  refine ⟨.inr trivial, ?_⟩
  simp [Tryd.results21]
theorem r4Int_n_ret (n : Int) (h : i64 n) (h0 : n < 0) : Ret Tryd.prog G0 21 #[.int .i64 n] (.tuple #[.int .i64 0, .int .i64 2]) := by
  refine ret_of G0F Tryd.func21 rfl Tryd.call21 (by simp) (by simp) (by simp [Tryd.ntmps21]) ?_
  intro C hC hC0 hY
  have hw := i64_wr h
  repeat' (first
    | refine GW_seq ?_
    | simp only [List.length_cons, List.length_nil, Nat.reduceAdd, Nat.reduceMul, thenG_normal, thenG_ret, thenG_exit, thenG_goto, thenG_panic, blockG_normal, blockG_ret, blockG_goto, blockG_panic, jumpG_normal, jumpG_ret, jumpG_exit, jumpG_panic]
    | (refine GW_region' [] (by kernel_rfl) ?_; intro Q hQ hP; simp [hC, hY, h, hw, h0]; (first | refine hQ _ _ _ _ ?_ | refine hP _ _ (fun _ => ?_)); clear hQ hP Q)
    | (refine GW_draw' [] follows (by kernel_rfl) (by kernel_rfl) ?_; intro Q hQ hP; simp [hC, hY, h, hw, h0]; (first | refine hQ _ _ _ _ (by kernel_rfl) ?_ | refine hP _ _ (by kernel_rfl) (fun _ => ?_)); clear hQ hP Q)
    | refine GW_block ?_
    | refine GW_ret ?_
    | refine GW_skip ?_
    | refine GW_exit ?_
    | refine GW_goto ?_
    | refine GW_label ?_
    | simp only [blockG_exit]
    | (refine GW_cond (by simp; rfl) ?_ ?_ <;> (intro hb; first | (exfalso; exact absurd hb (by decide)) | skip)))
  refine ⟨.inr trivial, ?_⟩
  simp [Tryd.results21]
@[simp] theorem r4Int_p (n : Int) (h : i64 n) (h0 : 0 ≤ n) (K : Value → Prop) : callK Tryd.prog G0 21 #[.int .i64 n] K ↔ K (.tuple #[.int .i64 (isq n), .int .i64 0]) := callK_iff G0W (by kernel_rfl) (r4Int_p_ret n h h0)
@[simp] theorem r4Int_n (n : Int) (h : i64 n) (h0 : n < 0) (K : Value → Prop) : callK Tryd.prog G0 21 #[.int .i64 n] K ↔ K (.tuple #[.int .i64 0, .int .i64 2]) := callK_iff G0W (by kernel_rfl) (r4Int_n_ret n h h0)
end Go.Gy
namespace Go.Gy
set_option linter.unusedSimpArgs false
set_option linter.unusedVariables false
open Go Go.RowKit Go.Proofs
@[simp] theorem rHalf_zz (a : Int) (K : Value → Prop) : callK Tryd.prog G0 18 #[Value.agg #[.int .u64 (wi (a) 0), .int .u64 (wi (a) 1), .int .u64 (wi (a) 2), .int .u64 (wi (a) 3)], .agg #[.int .u64 0, .int .u64 0, .int .u64 0, .int .u64 0]] K ↔ K (.tuple #[wd 0, .int .i64 30]) := by
  have := rHalf_z a 0 rfl K
  simpa [wi_zero] using this
@[simp] theorem r4Half_zz (a : Int) (K : Value → Prop) : callK Tryd.prog G0 19 #[Value.agg #[.int .u64 (wi (a) 0), .int .u64 (wi (a) 1), .int .u64 (wi (a) 2), .int .u64 (wi (a) 3)], .agg #[.int .u64 0, .int .u64 0, .int .u64 0, .int .u64 0]] K ↔ K (.tuple #[wd 0, .int .i64 30]) := by
  have := r4Half_z a 0 rfl K
  simpa [wi_zero] using this
theorem self_eq (a : Int) : (wi a 0 == wi a 0 && (wi a 1 == wi a 1 && (wi a 2 == wi a 2 && wi a 3 == wi a 3))) = true := by simp
set_option maxHeartbeats 2000000 in
set_option maxRecDepth 8000 in
theorem RootTells_ret (a b n : Int) (ha : wr a) (hB : wr b) (hn : i64 n) : Ret Tryd.prog G0 3 #[wd a, wd b, .int .i64 n] (.bool true) := by
  refine ret_of G0F Tryd.func3 rfl Tryd.call3 rfl (by simp) (by simp [Tryd.ntmps3]) ?_
  intro C hC hC0 hY
  have cn : n < 0 ∨ 0 ≤ n := by omega
  have ca : a < 0 ∨ 0 ≤ a := by omega
  by_cases hz : b = 0
  · rcases ca with ha0 | ha0 <;> rcases cn with hn0 | hn0
    all_goals
      repeat' (first
        | refine GW_seq ?_
        | simp only [List.length_cons, List.length_nil, Nat.reduceAdd, Nat.reduceMul, thenG_normal, thenG_ret, thenG_exit, thenG_goto, thenG_panic, blockG_normal, blockG_ret, blockG_goto, blockG_panic, jumpG_normal, jumpG_ret, jumpG_exit, jumpG_panic]
        | (refine GW_region' [] (by kernel_rfl) ?_; intro Q hQ hP; simp [hC, hY, ha, hB, hn, ha0, hn0, hz, wi_zero]; (first | refine hQ _ _ _ _ ?_ | refine hP _ _ (fun _ => ?_)); clear hQ hP Q)
        | (refine GW_draw' [] follows (by kernel_rfl) (by kernel_rfl) ?_; intro Q hQ hP; simp [hC, hY, ha, hB, hn, ha0, hn0, hz, wi_zero]; (first | refine hQ _ _ _ _ (by kernel_rfl) ?_ | refine hP _ _ (by kernel_rfl) (fun _ => ?_)); clear hQ hP Q)
        | refine GW_block ?_
        | refine GW_ret ?_
        | refine GW_skip ?_
        | refine GW_exit ?_
        | refine GW_goto ?_
        | refine GW_label ?_
        | simp only [blockG_exit]
        | (refine GW_cond (by simp; rfl) ?_ ?_ <;> (intro hb; first | (exfalso; exact absurd hb (by decide)) | skip)))
      refine ⟨.inr trivial, ?_⟩
      simp [Tryd.results3]
  · have cb : (a < 0 ∨ b < 0) ∨ (0 ≤ a ∧ 0 < b) := by omega
    rcases cb with hab | ⟨ha0, hb0⟩
    · rcases ca with ha0 | ha0 <;> rcases cn with hn0 | hn0
      all_goals
        repeat' (first
          | refine GW_seq ?_
          | simp only [List.length_cons, List.length_nil, Nat.reduceAdd, Nat.reduceMul, thenG_normal, thenG_ret, thenG_exit, thenG_goto, thenG_panic, blockG_normal, blockG_ret, blockG_goto, blockG_panic, jumpG_normal, jumpG_ret, jumpG_exit, jumpG_panic]
          | (refine GW_region' [] (by kernel_rfl) ?_; intro Q hQ hP; simp [hC, hY, ha, hB, hn, ha0, hn0, hz, hab]; (first | refine hQ _ _ _ _ ?_ | refine hP _ _ (fun _ => ?_)); clear hQ hP Q)
          | (refine GW_draw' [] follows (by kernel_rfl) (by kernel_rfl) ?_; intro Q hQ hP; simp [hC, hY, ha, hB, hn, ha0, hn0, hz, hab]; (first | refine hQ _ _ _ _ (by kernel_rfl) ?_ | refine hP _ _ (by kernel_rfl) (fun _ => ?_)); clear hQ hP Q)
          | refine GW_block ?_
          | refine GW_ret ?_
          | refine GW_skip ?_
          | refine GW_exit ?_
          | refine GW_goto ?_
          | refine GW_label ?_
          | simp only [blockG_exit]
          | (refine GW_cond (by simp; rfl) ?_ ?_ <;> (intro hb; first | (exfalso; exact absurd hb (by decide)) | skip)))
        refine ⟨.inr trivial, ?_⟩
        simp [Tryd.results3]
    · rcases cn with hn0 | hn0
      all_goals
        repeat' (first
          | refine GW_seq ?_
          | simp only [List.length_cons, List.length_nil, Nat.reduceAdd, Nat.reduceMul, thenG_normal, thenG_ret, thenG_exit, thenG_goto, thenG_panic, blockG_normal, blockG_ret, blockG_goto, blockG_panic, jumpG_normal, jumpG_ret, jumpG_exit, jumpG_panic]
          | (refine GW_region' [] (by kernel_rfl) ?_; intro Q hQ hP; simp [hC, hY, ha, hB, hn, ha0, hn0, hb0]; (first | refine hQ _ _ _ _ ?_ | refine hP _ _ (fun _ => ?_)); clear hQ hP Q)
          | (refine GW_draw' [] follows (by kernel_rfl) (by kernel_rfl) ?_; intro Q hQ hP; simp [hC, hY, ha, hB, hn, ha0, hn0, hb0]; (first | refine hQ _ _ _ _ (by kernel_rfl) ?_ | refine hP _ _ (by kernel_rfl) (fun _ => ?_)); clear hQ hP Q)
          | refine GW_block ?_
          | refine GW_ret ?_
          | refine GW_skip ?_
          | refine GW_exit ?_
          | refine GW_goto ?_
          | refine GW_label ?_
          | simp only [blockG_exit]
          | (refine GW_cond (by simp; rfl) ?_ ?_ <;> (intro hb; first | (exfalso; exact absurd hb (by decide)) | skip)))
        refine ⟨.inr trivial, ?_⟩
        simp [Tryd.results3]
end Go.Gy
