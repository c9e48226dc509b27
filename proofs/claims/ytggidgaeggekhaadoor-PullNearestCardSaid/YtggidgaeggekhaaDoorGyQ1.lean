/-
  Contracts: quot.told's and root.told's closures that recover.
  Conditions: none.
-/
import Derived.Test.YtggidgaeggekhaaDoorGyQ
import Derived.Test.YtggidgaeggekhaaDoorGyX7
namespace Go.Gy
set_option linter.unusedSimpArgs false
set_option linter.unusedVariables false
open Go Go.RowKit Go.Proofs

def erV (n : Int) : Value := .iface 25 (.int .i64 n)
@[simp] theorem erV_eq (n : Int) : erV n = .iface 25 (.int .i64 n) := rfl
def zB : Blk := ⟨#[.int .u64 0, .int .u64 0, .int .u64 0, .int .u64 0], 24⟩
def eB (n : Int) : Blk := ⟨#[.int .i64 n], 25⟩
theorem assert_ok (n : Int) (W : World) : (Instr.typeAssert (erV n) 20 25 true).run Tryd.prog W = .ok (.tuple #[.int .i64 n, .bool true]) W := by kernel_rfl
theorem assert_nil (W : World) : (Instr.typeAssert .nilIface 20 25 true).run Tryd.prog W = .ok (.tuple #[.int .i64 0, .bool false]) W := by kernel_rfl
theorem assert_1 (n : Int) (W : World) : (Instr.typeAssert (erV n) 20 25 false).run Tryd.prog W = .ok (.int .i64 n) W := by kernel_rfl

theorem rep10 : Array.replicate 10 undef = #[undef, undef, undef, undef, undef, undef, undef, undef, undef, undef] := rfl
theorem rep7 : Array.replicate 7 undef = #[undef, undef, undef, undef, undef, undef, undef] := rfl
def capQ : Array Value := #[.pointer (some ⟨100000, 0, none⟩), .pointer (some ⟨100008, 0, none⟩)]
def hpQ (n : Int) : Hp := hpL G0 [(100000, zB), (100008, eB n)]
theorem hpQ_rst (n : Int) : rst (hpQ n) [100000, 100008] = hpQ n := hpL_rst G0F (by simp)
theorem hpQ_ids (n : Int) (k : Nat) (b : Blk) (D : Nat → Prop) (h : hpQ n k = some b) : b.ids D := by
  rcases hpL_mem h with h | h
  · simp at h
    rcases h with ⟨_, rfl⟩ | ⟨_, rfl⟩ <;> simp [zB, eB]
  · exact G0_closed _ _ _ h
theorem qrec (n : Int) : RecF Tryd.prog G0 107 capQ (hpQ 0) [100000, 100008] (erV n) [(100000, zB), (100008, eB n)] := by
  refine ⟨⟨_, Tryd.func107⟩, Tryd.call107, ?_, ?_⟩
  · refine back_of (k := 2) Tryd.func107 rfl fun args c₀ cs W hk hu => ?_
    obtain ⟨p0, p1, rfl⟩ : ∃ p0 p1, args = #[p0, p1] := by
      rcases args with ⟨l⟩
      match l, hk with
      | [a, b], _ => exact ⟨a, b, rfl⟩
    have hn : Tryd.f107.ntmps = 12 := Tryd.ntmps107
    refine wpSIn_seq (wpSIn_region ?_)
    simp [wpOpsSIn, List.range, List.range.loop, go_sem, recoverD, hu, hn, assert_nil, rep10]
    refine wpSIn_seq (wpSIn_region ?_)
    simp [wpOpsSIn, List.range, List.range.loop, go_sem]
    refine wpSIn_cond (t := false) (by simp [Act.eval]) ?_
    refine wpSIn_of_wpIn rfl (wpIn_skip ?_)
    exact ⟨.inl rfl, rfl, rfl, rfl, .tuple #[], by simp [results, Tryd.results107, go_sem]⟩
  · refine caught_of (B := 200000) (A := #[.pointer (some ⟨100000, 0, none⟩), .pointer (some ⟨100008, 0, none⟩), .int .i64 n, .bool true, .tuple #[.int .i64 n, .bool true], erV n, .tuple #[.int .i64 n, .bool true], .int .i64 n, .bool true, undef, undef, undef]) G0F (fun k hk => hpL_low (by simp) hk) Tryd.func107 rfl (by simp [Tryd.ntmps107]) ?_ ?_ ?_ ?_ ?_ ?_ (by omega) ?_ ?_
    · rw [hpQ_rst]; simp [hpQ, dom]; exact flatV_ids (by simp)
    · intro r c₀ cs W Q hu hQ
      have hrn : ∀ v, flatV v = true → ren r v = v := fun v hv => flatV_ren hv
      simp only [List.map_toArray, List.map_cons, List.map_nil, capQ] at hQ ⊢
      generalize ren r (.pointer (some ⟨100000, 0, none⟩)) = p0 at hQ ⊢
      generalize ren r (.pointer (some ⟨100008, 0, none⟩)) = p1 at hQ ⊢
      simp only [hrn (.int .i64 n) rfl, hrn (.bool true) rfl, hrn (erV n) rfl, hrn (.tuple #[.int .i64 n, .bool true]) (by simp), ren_undef] at hQ
      have hn : Tryd.f107.ntmps = 12 := Tryd.ntmps107
      have hA := assert_ok n
      simp only [erV_eq] at hA
      simp [wpOpsSIn, List.range, List.range.loop, go_sem, recoverD, hu, pand, erV, hn, hA, rep10]
      exact hQ
    · rw [hpQ_rst]; exact fun k b h => hpQ_ids 0 k b _ h
    · rw [hpQ_rst]; simp [hpQ, dom]
    · intro k b c h1 h2
      simp at h1 h2
      rcases h1 with ⟨rfl, rfl⟩ | ⟨rfl, rfl⟩ <;> rcases h2 with ⟨e2, rfl⟩ | ⟨e2, rfl⟩ <;> first | rfl | omega
    · simp [zB, eB]
    · rw [hpQ_rst]; exact fun x hx => by simp [hpQ, show ¬ x = 100000 by omega, show ¬ x = 100008 by omega, show 100 ≤ x by omega]
    · intro C hC hC0 hY
      rw [hpQ_rst]
      repeat' (first
        | refine GW_seq ?_
        | simp only [List.length_cons, List.length_nil, Nat.reduceAdd, Nat.reduceMul, thenG_normal, thenG_ret, thenG_exit, thenG_goto, thenG_panic, blockG_normal, blockG_ret, blockG_goto, blockG_panic, jumpG_normal, jumpG_ret, jumpG_exit, jumpG_panic]
        | (refine GW_region' [] (by kernel_rfl) ?_; intro Q hQ hP; simp [hC, hY, hpQ, zB, eB]; (first | refine hQ _ _ _ _ ?_ | refine hP _ _ (fun _ => ?_)); clear hQ hP Q)
        | (refine GW_draw' [] follows (by kernel_rfl) (by kernel_rfl) ?_; intro Q hQ hP; simp [hC, hY, hpQ, zB, eB]; (first | refine hQ _ _ _ _ (by kernel_rfl) ?_ | refine hP _ _ (by kernel_rfl) (fun _ => ?_)); clear hQ hP Q)
        | refine GW_block ?_
        | refine GW_ret ?_
        | refine GW_skip ?_
        | refine GW_exit ?_
        | refine GW_goto ?_
        | refine GW_label ?_
        | simp only [blockG_exit]
        | (refine GW_cond (by simp; rfl) ?_ ?_ <;> (intro hb; first | (exfalso; exact absurd hb (by decide)) | skip)))
      refine ⟨.inl trivial, by simp [Tryd.results107], fun k hk => ?_⟩
      simp [zB, eB, hpQ]
theorem neq_nil (n : Int) (W : World) : ((do eqGuard .neq 20 (.tmp 4) (.const .nilIface) (erV n) .nilIface; binOp .neq 20 (erV n) .nilIface : Sem Value)).run Tryd.prog W = .ok (.bool true) W := by kernel_rfl
theorem neq_nil0 (W : World) : ((do eqGuard .neq 20 (.tmp 4) (.const .nilIface) .nilIface .nilIface; binOp .neq 20 .nilIface .nilIface : Sem Value)).run Tryd.prog W = .ok (.bool false) W := by kernel_rfl
def ifE : Value → Bool
  | .iface T (.int .i64 _) => T == 25
  | _ => false
def ifN : Value → Value
  | .iface _ u => u
  | v => v
@[simp] theorem ifE_eq (T : TypeId) (n : Int) : ifE (.iface T (.int .i64 n)) = (T == 25) := nr rfl
@[simp] theorem ifN_eq (T : TypeId) (u : Value) : ifN (.iface T u) = u := nr rfl
theorem ifE_of {v : Value} (h : ifE v = true) : ∃ n, v = erV n := by
  unfold ifE at h
  split at h
  · rename_i T n
    have : T = 25 := by simpa using h
    exact ⟨n, by rw [this]; rfl⟩
  · cases h
theorem pureV_iff {P : Program} {o : Oper} {ts : Nat → Value} {hp : Hp} {K : Value → Prop} {v : Value} (ho : ∀ x ∈ o.op.operands.toList, okX ts hp x ∧ flatV (gev ts x) = true) (hv : flatV v = true) (hr : ∀ W, (execOp (gev ts) o).run P W = .ok (.value v) W) : pureV P o ts hp K ↔ K v :=
  ⟨fun ⟨_, u, _, h1, h2⟩ => by
    have := (hr default).symm.trans (h1 default)
    injection this with this; injection this with this; subst this; exact h2, fun h => ⟨ho, v, hv, hr, h⟩⟩
@[simp] theorem bin2_inil (P : Program) (op : BinOp) (T t : TypeId) (v : Value) : bin2 P op T (.iface t v) .nilIface = none := by cases op <;> rfl
@[simp] theorem binX_neqnil {dst : Option Tmp} {x : Operand} {T : TypeId} {ps : String} {af : Array Edge} {g : Option (Nat × Bool)} {ts : Nat → Value} {hp : Hp} {C : Eff → Prop} (h : ifE (gev ts x) = true) (hx : okX ts hp x) :
    binX Tryd.prog none ⟨dst, .binOp .neq 20 x (.const .nilIface) 20, T, ps, af, g⟩ ts hp C ↔ C (val (.bool true) []) := by
  obtain ⟨n, hn⟩ := ifE_of h
  refine pureV_iff (K := fun v => C (val v [])) (v := .bool true) ?_ rfl fun W => ?_
  · intro y hy
    simp [Op.operands] at hy
    rcases hy with rfl | rfl
    · exact ⟨hx, by rw [hn]; rfl⟩
    · exact ⟨rfl, rfl⟩
  · show (execOp (gev ts) ⟨dst, .binOp .neq 20 x (.const .nilIface) 20, T, ps, af, g⟩).run Tryd.prog W = _
    simp only [execOp, hn]
    kernel_rfl
@[simp] theorem opX_assertE {dst : Option Tmp} {x : Operand} {T : TypeId} {ps : String} {af : Array Edge} {g : Option (Nat × Bool)} {V : XV} {yc nk : Nat} {ts : Nat → Value} {hp : Hp} {C : Eff → Prop} (h : ifE (gev ts x) = true) (hx : okX ts hp x) :
    opX Tryd.prog G0 V yc ⟨dst, .typeAssert x 20 25 false, T, ps, af, g⟩ ts hp nk C ↔ C (val (ifN (gev ts x)) []) := by
  obtain ⟨n, hn⟩ := ifE_of h
  refine pureV_iff (K := fun v => C (val v [])) ?_ ?_ fun W => ?_
  · intro y hy
    simp [Op.operands] at hy
    subst hy
    exact ⟨hx, by rw [hn]; rfl⟩
  · rw [hn]; rfl
  · simp only [execOp, hn]
    kernel_rfl
theorem rrec (n : Int) : RecF Tryd.prog G0 83 capQ (hpQ 0) [100000, 100008] (erV n) [(100000, zB), (100008, eB n)] := by
  refine ⟨⟨_, Tryd.func83⟩, Tryd.call83, ?_, ?_⟩
  · refine back_of (k := 2) Tryd.func83 rfl fun args c₀ cs W hk hu => ?_
    obtain ⟨p0, p1, rfl⟩ : ∃ p0 p1, args = #[p0, p1] := by
      rcases args with ⟨l⟩
      match l, hk with
      | [a, b], _ => exact ⟨a, b, rfl⟩
    have hn : Tryd.f83.ntmps = 9 := Tryd.ntmps83
    refine wpSIn_seq (wpSIn_region ?_)
    simp [wpOpsSIn, List.range, List.range.loop, go_sem, recoverD, hu, hn, rep7]
    refine wpSIn_seq (wpSIn_region ?_)
    simp [wpOpsSIn, List.range, List.range.loop, go_sem, neq_nil0]
    refine wpSIn_cond (t := false) (by simp [Act.eval]) ?_
    refine wpSIn_of_wpIn rfl (wpIn_skip ?_)
    exact ⟨.inl rfl, rfl, rfl, rfl, .tuple #[], by simp [results, Tryd.results83, go_sem]⟩
  · refine caught_of (B := 200000) (A := #[.pointer (some ⟨100000, 0, none⟩), .pointer (some ⟨100008, 0, none⟩), erV n, erV n, undef, undef, undef, undef, undef]) G0F (fun k hk => hpL_low (by simp) hk) Tryd.func83 rfl (by simp [Tryd.ntmps83]) ?_ ?_ ?_ ?_ ?_ ?_ (by omega) ?_ ?_
    · rw [hpQ_rst]; simp [hpQ, dom]
    · intro r c₀ cs W Q hu hQ
      have hrn : ∀ v, flatV v = true → ren r v = v := fun v hv => flatV_ren hv
      simp only [List.map_toArray, List.map_cons, List.map_nil, capQ] at hQ ⊢
      generalize ren r (.pointer (some ⟨100000, 0, none⟩)) = p0 at hQ ⊢
      generalize ren r (.pointer (some ⟨100008, 0, none⟩)) = p1 at hQ ⊢
      simp only [hrn (erV n) rfl, ren_undef] at hQ
      have hn : Tryd.f83.ntmps = 9 := Tryd.ntmps83
      simp [wpOpsSIn, List.range, List.range.loop, go_sem, recoverD, hu, pand, erV, hn, rep7]
      exact hQ
    · rw [hpQ_rst]; exact fun k b h => hpQ_ids 0 k b _ h
    · rw [hpQ_rst]; simp [hpQ, dom]
    · intro k b c h1 h2
      simp at h1 h2
      rcases h1 with ⟨rfl, rfl⟩ | ⟨rfl, rfl⟩ <;> rcases h2 with ⟨e2, rfl⟩ | ⟨e2, rfl⟩ <;> first | rfl | omega
    · simp [zB, eB]
    · rw [hpQ_rst]; exact fun x hx => by simp [hpQ, show ¬ x = 100000 by omega, show ¬ x = 100008 by omega, show 100 ≤ x by omega]
    · intro C hC hC0 hY
      rw [hpQ_rst]
      repeat' (first
        | refine GW_seq ?_
        | simp only [List.length_cons, List.length_nil, Nat.reduceAdd, Nat.reduceMul, thenG_normal, thenG_ret, thenG_exit, thenG_goto, thenG_panic, blockG_normal, blockG_ret, blockG_goto, blockG_panic, jumpG_normal, jumpG_ret, jumpG_exit, jumpG_panic]
        | (refine GW_region' [] (by kernel_rfl) ?_; intro Q hQ hP; simp [hC, hY, hpQ, zB, eB]; (first | refine hQ _ _ _ _ ?_ | refine hP _ _ (fun _ => ?_)); clear hQ hP Q)
        | (refine GW_draw' [] follows (by kernel_rfl) (by kernel_rfl) ?_; intro Q hQ hP; simp [hC, hY, hpQ, zB, eB]; (first | refine hQ _ _ _ _ (by kernel_rfl) ?_ | refine hP _ _ (by kernel_rfl) (fun _ => ?_)); clear hQ hP Q)
        | refine GW_block ?_
        | refine GW_ret ?_
        | refine GW_skip ?_
        | refine GW_exit ?_
        | refine GW_goto ?_
        | refine GW_label ?_
        | simp only [blockG_exit]
        | (refine GW_cond (by simp; rfl) ?_ ?_ <;> (intro hb; first | (exfalso; exact absurd hb (by decide)) | skip)))
      refine ⟨.inl trivial, by simp [Tryd.results83], fun k hk => ?_⟩
      simp [zB, eB, hpQ]
/-- What 'told' comes to, by what the closure comes to. -/
theorem qtold_ret {g : FuncId} {capv : List Value} {hp : Hp} {rs : List Nat} {x0 x1 x2 x3 : Int} {ws : List (Nat × Blk)} (hG : ∀ k, k < 100 → hp k = G0 k) (hrs : ∀ k ∈ rs, k < 100000) (hc : capv.isEmpty = false) (hpl : capv.all plain0 = true)
    (h : Fun Tryd.prog G0 g capv.toArray hp rs (.ret (.agg #[.int .u64 x0, .int .u64 x1, .int .u64 x2, .int .u64 x3]) ws)) :
    Fun Tryd.prog G0 89 #[.func (.func g) #[] capv.toArray] hp rs (.ret (.tuple #[.agg #[.int .u64 x0, .int .u64 x1, .int .u64 x2, .int .u64 x3], .int .i64 0]) ws) := by
  have hids : ∀ x ∈ capv, ids0 (dom (rst hp rs)) x := fun x hx => (ids_plain0 (List.all_eq_true.1 hpl x hx)).1 (h.ids x (by simpa using hx))
  have hbig : ∀ x, 100000 ≤ x → rst hp rs x = none := fun x hx => by
    unfold rst; rw [if_neg]; rintro (h1 | h1)
    · omega
    · have := hrs x h1; omega
  refine fun_rec (out := .ret (.tuple #[.agg #[.int .u64 x0, .int .u64 x1, .int .u64 x2, .int .u64 x3], .int .i64 0]) ws) (B := 100000) (B1 := 100016) (id := 1) (t := 4) (ts1 := upd (upd (fun t => [Value.func (.func g) #[] capv.toArray][t]?.getD undef) 2 (gptr 100000)) 3 (gptr 100008))
    (hp1 := upd (upd (rst hp rs) 100000 (some zB)) 100008 (some (eB 0))) capQ G0F hG Tryd.func89 rfl (by simp [Tryd.ntmps89]) Tryd.call89 ⟨_, _, _, _, qrec 0⟩ ?_ h.closed ?_ (by simp [Tryd.ntmps89]) (by omega) hbig ?_ ?_ ?_ ?_ ?_ ?_
  · simpa using hids
  · exact ⟨flatV_ids (by simp), h.fits.2⟩
  · intro C hC hC0 hY
    repeat' (first
      | refine GW_seq ?_
      | simp only [List.length_cons, List.length_nil, Nat.reduceAdd, Nat.reduceMul, thenG_normal, thenG_ret, thenG_exit, thenG_goto, thenG_panic, blockG_normal, blockG_ret, blockG_goto, blockG_panic, jumpG_normal, jumpG_ret, jumpG_exit, jumpG_panic]
      | (refine GW_region' [] (by kernel_rfl) ?_; intro Q hQ hP; simp [hC, hY]; (first | refine hQ _ _ _ _ ?_ | refine hP _ _ (fun _ => ?_)); clear hQ hP Q)
      | (refine GW_draw' [] follows (by kernel_rfl) (by kernel_rfl) ?_; intro Q hQ hP; simp [hC, hY]; (first | refine hQ _ _ _ _ (by kernel_rfl) ?_ | refine hP _ _ (by kernel_rfl) (fun _ => ?_)); clear hQ hP Q)
      | refine GW_block ?_
      | refine GW_ret ?_
      | refine GW_skip ?_
      | refine GW_exit ?_
      | refine GW_goto ?_
      | refine GW_label ?_
      | simp only [blockG_exit]
      | (refine GW_cond (by simp; rfl) ?_ ?_ <;> (intro hb; first | (exfalso; exact absurd hb (by decide)) | skip)))
    exact ⟨trivial, rfl⟩
  · intro k hk
    have h1 : ¬ k = 100000 := fun e => hk (hbig k (by omega))
    have h2 : ¬ k = 100008 := fun e => hk (hbig k (by omega))
    simp [h1, h2]
  · simp [okT, capQ]
  · simp [capQ]
  · simp [capQ]
  · intro C d hC hC0 hY
    refine GW_seq ?_
    refine GW_region' [] (by kernel_rfl) ?_; intro Q hQ hP; simp [hC, hY, hc, hpl]
    have hk1 : ∀ k ∈ keys ws, k < 100000 := fun k hk => hrs k (h.fits.2.1 k hk).1
    have hk2 : (100000 : Nat) ∉ keys ws := fun hm => by have := hk1 _ hm; omega
    have hk3 : (100008 : Nat) ∉ keys ws := fun hm => by have := hk1 _ hm; omega
    have w1 : updL (upd (upd (rst hp rs) 100000 (some zB)) 100008 (some (eB 0))) ws 100000 = some zB := by
      rw [updL_other hk2]; simp
    have w2 : updL (upd (upd (rst hp rs) 100000 (some zB)) 100008 (some (eB 0))) ws 100008 = some (eB 0) := by
      rw [updL_other hk3]; simp
    refine heapK_of (hp' := hp) h (fun k hk => ?_) hG trivial ?_
    · have := hrs k hk
      simp [rst, hk, show ¬ k = 100000 by omega, show ¬ k = 100008 by omega]
    simp only [zB, eB] at w1 w2
    simp [w1, w2, zB, eB]
    refine hQ _ _ _ _ ?_
    repeat' (first
      | refine GW_seq ?_
      | simp only [List.length_cons, List.length_nil, Nat.reduceAdd, Nat.reduceMul, thenG_normal, thenG_ret, thenG_exit, thenG_goto, thenG_panic, blockG_normal, blockG_ret, blockG_goto, blockG_panic, jumpG_normal, jumpG_ret, jumpG_exit, jumpG_panic]
      | (refine GW_region' [] (by kernel_rfl) ?_; intro Q hQ hP; simp [hC, hY, w1, w2, zB, eB]; (first | refine hQ _ _ _ _ ?_ | refine hP _ _ (fun _ => ?_)); clear hQ hP Q)
      | (refine GW_draw' [] follows (by kernel_rfl) (by kernel_rfl) ?_; intro Q hQ hP; simp [hC, hY, w1, w2, zB, eB]; (first | refine hQ _ _ _ _ (by kernel_rfl) ?_ | refine hP _ _ (by kernel_rfl) (fun _ => ?_)); clear hQ hP Q)
      | refine GW_block ?_
      | refine GW_ret ?_
      | refine GW_skip ?_
      | refine GW_exit ?_
      | refine GW_goto ?_
      | refine GW_label ?_
      | simp only [blockG_exit]
      | (refine GW_cond (by simp; rfl) ?_ ?_ <;> (intro hb; first | (exfalso; exact absurd hb (by decide)) | skip)))
    refine ⟨.inr rfl, by simp [Tryd.results89], fun k hk => ?_⟩
    have h1 : ¬ k = 100000 := fun e => hk (hbig k (by omega))
    have h2 : ¬ k = 100008 := fun e => hk (hbig k (by omega))
    rw [updL_comm_upd hk3, updL_comm_upd hk2]
    simp [h1, h2]
theorem qtold_pan {g : FuncId} {capv : List Value} {hp : Hp} {rs : List Nat} {n : Int} (hG : ∀ k, k < 100 → hp k = G0 k) (hrs : ∀ k ∈ rs, k < 100000) (hc : capv.isEmpty = false) (hpl : capv.all plain0 = true)
    (h : Fun Tryd.prog G0 g capv.toArray hp rs (.pan (erV n))) :
    Fun Tryd.prog G0 89 #[.func (.func g) #[] capv.toArray] hp rs (.ret (.tuple #[.agg #[.int .u64 0, .int .u64 0, .int .u64 0, .int .u64 0], .int .i64 n]) []) := by
  have hids : ∀ x ∈ capv, ids0 (dom (rst hp rs)) x := fun x hx => (ids_plain0 (List.all_eq_true.1 hpl x hx)).1 (h.ids x (by simpa using hx))
  have hbig : ∀ x, 100000 ≤ x → rst hp rs x = none := fun x hx => by
    unfold rst; rw [if_neg]; rintro (h1 | h1)
    · omega
    · have := hrs x h1; omega
  refine fun_rec (out := .pan (erV n) [100000, 100008] [(100000, zB), (100008, eB n)] (.tuple #[.agg #[.int .u64 0, .int .u64 0, .int .u64 0, .int .u64 0], .int .i64 n])) (B := 100000) (B1 := 100016) (id := 1) (t := 4) (ts1 := upd (upd (fun t => [Value.func (.func g) #[] capv.toArray][t]?.getD undef) 2 (gptr 100000)) 3 (gptr 100008))
    (hp1 := upd (upd (rst hp rs) 100000 (some zB)) 100008 (some (eB 0))) capQ G0F hG Tryd.func89 rfl (by simp [Tryd.ntmps89]) Tryd.call89 ⟨_, _, _, _, qrec 0⟩ ?_ h.closed ?_ (by simp [Tryd.ntmps89]) (by omega) hbig ?_ ?_ ?_ ?_ ?_ ?_
  · simpa using hids
  · exact ⟨flatV_ids (by simp), by simp [keys], by simp, by simp⟩
  · intro C hC hC0 hY
    repeat' (first
      | refine GW_seq ?_
      | simp only [List.length_cons, List.length_nil, Nat.reduceAdd, Nat.reduceMul, thenG_normal, thenG_ret, thenG_exit, thenG_goto, thenG_panic, blockG_normal, blockG_ret, blockG_goto, blockG_panic, jumpG_normal, jumpG_ret, jumpG_exit, jumpG_panic]
      | (refine GW_region' [] (by kernel_rfl) ?_; intro Q hQ hP; simp [hC, hY]; (first | refine hQ _ _ _ _ ?_ | refine hP _ _ (fun _ => ?_)); clear hQ hP Q)
      | (refine GW_draw' [] follows (by kernel_rfl) (by kernel_rfl) ?_; intro Q hQ hP; simp [hC, hY]; (first | refine hQ _ _ _ _ (by kernel_rfl) ?_ | refine hP _ _ (by kernel_rfl) (fun _ => ?_)); clear hQ hP Q)
      | refine GW_block ?_
      | refine GW_ret ?_
      | refine GW_skip ?_
      | refine GW_exit ?_
      | refine GW_goto ?_
      | refine GW_label ?_
      | simp only [blockG_exit]
      | (refine GW_cond (by simp; rfl) ?_ ?_ <;> (intro hb; first | (exfalso; exact absurd hb (by decide)) | skip)))
    exact ⟨trivial, rfl⟩
  · intro k hk
    have h1 : ¬ k = 100000 := fun e => hk (hbig k (by omega))
    have h2 : ¬ k = 100008 := fun e => hk (hbig k (by omega))
    simp [h1, h2]
  · simp [okT, capQ]
  · simp [capQ]
  · simp [capQ]
  · intro C d hC hC0 hY
    refine GW_seq ?_
    refine GW_region' [] (by kernel_rfl) ?_; intro Q hQ hP; simp [hC, hY, hc, hpl]
    refine heapK_of (hp' := hp) h (fun k hk => ?_) hG trivial ?_
    · have := hrs k hk
      simp [rst, hk, show ¬ k = 100000 by omega, show ¬ k = 100008 by omega]
    simp
    refine hP _ _ fun yc => ?_
    simp only [thenG_panic]
    have e : ∀ k, (k < 100 ∨ k ∈ [100000, 100008]) → hpQ 0 k = upd (upd (rst hp rs) 100000 (some zB)) 100008 (some (eB 0)) k := fun k hk => by
      rcases hk with hk | hk
      · simp [hpQ, show ¬ k = 100000 by omega, show ¬ k = 100008 by omega, rst, hk, hG k hk]
      · simp at hk; rcases hk with rfl | rfl <;> simp [hpQ]
    have er : rst (upd (upd (rst hp rs) 100000 (some zB)) 100008 (some (eB 0))) [100000, 100008] = hpQ 0 := by rw [← rst_congr e, hpQ_rst]
    refine ⟨rfl, by simp [Tryd.results89, zB, eB], fun k hk => rfl, (qrec n).under e, fun k hk => ?_, fun k hk => ?_, ?_⟩
    · rw [er] at hk; unfold dom at hk ⊢
      by_cases h1 : k = 100000
      · subst h1; simp
      · by_cases h2 : k = 100008
        · subst h2; simp
        · simp only [hpQ, hpL_cons, hpL_nil, h1, h2, if_false] at hk
          have hk100 := G0_dom hk
          simp [h1, h2, rst, hk100, hG k hk100]; exact hk
    · rw [er]
      simp [keys] at hk
      rcases hk with rfl | rfl
      · exact ⟨by simp [hpQ, dom], by omega, fun hd => hd (hbig _ (by omega))⟩
      · exact ⟨by simp [hpQ, dom], by omega, fun hd => hd (hbig _ (by omega))⟩
    · rw [er]; exact fun k b hk => hpQ_ids 0 k b _ hk
/-- What 'told' comes to, by what the closure comes to. -/
theorem rtold_ret {g : FuncId} {capv : List Value} {hp : Hp} {rs : List Nat} {x0 x1 x2 x3 : Int} {ws : List (Nat × Blk)} (hG : ∀ k, k < 100 → hp k = G0 k) (hrs : ∀ k ∈ rs, k < 100000) (hc : capv.isEmpty = false) (hpl : capv.all plain0 = true)
    (h : Fun Tryd.prog G0 g capv.toArray hp rs (.ret (.agg #[.int .u64 x0, .int .u64 x1, .int .u64 x2, .int .u64 x3]) ws)) :
    Fun Tryd.prog G0 42 #[.func (.func g) #[] capv.toArray] hp rs (.ret (.tuple #[.agg #[.int .u64 x0, .int .u64 x1, .int .u64 x2, .int .u64 x3], .int .i64 0]) ws) := by
  have hids : ∀ x ∈ capv, ids0 (dom (rst hp rs)) x := fun x hx => (ids_plain0 (List.all_eq_true.1 hpl x hx)).1 (h.ids x (by simpa using hx))
  have hbig : ∀ x, 100000 ≤ x → rst hp rs x = none := fun x hx => by
    unfold rst; rw [if_neg]; rintro (h1 | h1)
    · omega
    · have := hrs x h1; omega
  refine fun_rec (out := .ret (.tuple #[.agg #[.int .u64 x0, .int .u64 x1, .int .u64 x2, .int .u64 x3], .int .i64 0]) ws) (B := 100000) (B1 := 100016) (id := 1) (t := 4) (ts1 := upd (upd (fun t => [Value.func (.func g) #[] capv.toArray][t]?.getD undef) 2 (gptr 100000)) 3 (gptr 100008))
    (hp1 := upd (upd (rst hp rs) 100000 (some zB)) 100008 (some (eB 0))) capQ G0F hG Tryd.func42 rfl (by simp [Tryd.ntmps42]) Tryd.call42 ⟨_, _, _, _, rrec 0⟩ ?_ h.closed ?_ (by simp [Tryd.ntmps42]) (by omega) hbig ?_ ?_ ?_ ?_ ?_ ?_
  · simpa using hids
  · exact ⟨flatV_ids (by simp), h.fits.2⟩
  · intro C hC hC0 hY
    repeat' (first
      | refine GW_seq ?_
      | simp only [List.length_cons, List.length_nil, Nat.reduceAdd, Nat.reduceMul, thenG_normal, thenG_ret, thenG_exit, thenG_goto, thenG_panic, blockG_normal, blockG_ret, blockG_goto, blockG_panic, jumpG_normal, jumpG_ret, jumpG_exit, jumpG_panic]
      | (refine GW_region' [] (by kernel_rfl) ?_; intro Q hQ hP; simp [hC, hY]; (first | refine hQ _ _ _ _ ?_ | refine hP _ _ (fun _ => ?_)); clear hQ hP Q)
      | (refine GW_draw' [] follows (by kernel_rfl) (by kernel_rfl) ?_; intro Q hQ hP; simp [hC, hY]; (first | refine hQ _ _ _ _ (by kernel_rfl) ?_ | refine hP _ _ (by kernel_rfl) (fun _ => ?_)); clear hQ hP Q)
      | refine GW_block ?_
      | refine GW_ret ?_
      | refine GW_skip ?_
      | refine GW_exit ?_
      | refine GW_goto ?_
      | refine GW_label ?_
      | simp only [blockG_exit]
      | (refine GW_cond (by simp; rfl) ?_ ?_ <;> (intro hb; first | (exfalso; exact absurd hb (by decide)) | skip)))
    exact ⟨trivial, rfl⟩
  · intro k hk
    have h1 : ¬ k = 100000 := fun e => hk (hbig k (by omega))
    have h2 : ¬ k = 100008 := fun e => hk (hbig k (by omega))
    simp [h1, h2]
  · simp [okT, capQ]
  · simp [capQ]
  · simp [capQ]
  · intro C d hC hC0 hY
    refine GW_seq ?_
    refine GW_region' [] (by kernel_rfl) ?_; intro Q hQ hP; simp [hC, hY, hc, hpl]
    have hk1 : ∀ k ∈ keys ws, k < 100000 := fun k hk => hrs k (h.fits.2.1 k hk).1
    have hk2 : (100000 : Nat) ∉ keys ws := fun hm => by have := hk1 _ hm; omega
    have hk3 : (100008 : Nat) ∉ keys ws := fun hm => by have := hk1 _ hm; omega
    have w1 : updL (upd (upd (rst hp rs) 100000 (some zB)) 100008 (some (eB 0))) ws 100000 = some zB := by
      rw [updL_other hk2]; simp
    have w2 : updL (upd (upd (rst hp rs) 100000 (some zB)) 100008 (some (eB 0))) ws 100008 = some (eB 0) := by
      rw [updL_other hk3]; simp
    refine heapK_of (hp' := hp) h (fun k hk => ?_) hG trivial ?_
    · have := hrs k hk
      simp [rst, hk, show ¬ k = 100000 by omega, show ¬ k = 100008 by omega]
    simp only [zB, eB] at w1 w2
    simp [w1, w2, zB, eB]
    refine hQ _ _ _ _ ?_
    repeat' (first
      | refine GW_seq ?_
      | simp only [List.length_cons, List.length_nil, Nat.reduceAdd, Nat.reduceMul, thenG_normal, thenG_ret, thenG_exit, thenG_goto, thenG_panic, blockG_normal, blockG_ret, blockG_goto, blockG_panic, jumpG_normal, jumpG_ret, jumpG_exit, jumpG_panic]
      | (refine GW_region' [] (by kernel_rfl) ?_; intro Q hQ hP; simp [hC, hY, w1, w2, zB, eB]; (first | refine hQ _ _ _ _ ?_ | refine hP _ _ (fun _ => ?_)); clear hQ hP Q)
      | (refine GW_draw' [] follows (by kernel_rfl) (by kernel_rfl) ?_; intro Q hQ hP; simp [hC, hY, w1, w2, zB, eB]; (first | refine hQ _ _ _ _ (by kernel_rfl) ?_ | refine hP _ _ (by kernel_rfl) (fun _ => ?_)); clear hQ hP Q)
      | refine GW_block ?_
      | refine GW_ret ?_
      | refine GW_skip ?_
      | refine GW_exit ?_
      | refine GW_goto ?_
      | refine GW_label ?_
      | simp only [blockG_exit]
      | (refine GW_cond (by simp; rfl) ?_ ?_ <;> (intro hb; first | (exfalso; exact absurd hb (by decide)) | skip)))
    refine ⟨.inr rfl, by simp [Tryd.results42], fun k hk => ?_⟩
    have h1 : ¬ k = 100000 := fun e => hk (hbig k (by omega))
    have h2 : ¬ k = 100008 := fun e => hk (hbig k (by omega))
    rw [updL_comm_upd hk3, updL_comm_upd hk2]
    simp [h1, h2]
theorem rtold_pan {g : FuncId} {capv : List Value} {hp : Hp} {rs : List Nat} {n : Int} (hG : ∀ k, k < 100 → hp k = G0 k) (hrs : ∀ k ∈ rs, k < 100000) (hc : capv.isEmpty = false) (hpl : capv.all plain0 = true)
    (h : Fun Tryd.prog G0 g capv.toArray hp rs (.pan (erV n))) :
    Fun Tryd.prog G0 42 #[.func (.func g) #[] capv.toArray] hp rs (.ret (.tuple #[.agg #[.int .u64 0, .int .u64 0, .int .u64 0, .int .u64 0], .int .i64 n]) []) := by
  have hids : ∀ x ∈ capv, ids0 (dom (rst hp rs)) x := fun x hx => (ids_plain0 (List.all_eq_true.1 hpl x hx)).1 (h.ids x (by simpa using hx))
  have hbig : ∀ x, 100000 ≤ x → rst hp rs x = none := fun x hx => by
    unfold rst; rw [if_neg]; rintro (h1 | h1)
    · omega
    · have := hrs x h1; omega
  refine fun_rec (out := .pan (erV n) [100000, 100008] [(100000, zB), (100008, eB n)] (.tuple #[.agg #[.int .u64 0, .int .u64 0, .int .u64 0, .int .u64 0], .int .i64 n])) (B := 100000) (B1 := 100016) (id := 1) (t := 4) (ts1 := upd (upd (fun t => [Value.func (.func g) #[] capv.toArray][t]?.getD undef) 2 (gptr 100000)) 3 (gptr 100008))
    (hp1 := upd (upd (rst hp rs) 100000 (some zB)) 100008 (some (eB 0))) capQ G0F hG Tryd.func42 rfl (by simp [Tryd.ntmps42]) Tryd.call42 ⟨_, _, _, _, rrec 0⟩ ?_ h.closed ?_ (by simp [Tryd.ntmps42]) (by omega) hbig ?_ ?_ ?_ ?_ ?_ ?_
  · simpa using hids
  · exact ⟨flatV_ids (by simp), by simp [keys], by simp, by simp⟩
  · intro C hC hC0 hY
    repeat' (first
      | refine GW_seq ?_
      | simp only [List.length_cons, List.length_nil, Nat.reduceAdd, Nat.reduceMul, thenG_normal, thenG_ret, thenG_exit, thenG_goto, thenG_panic, blockG_normal, blockG_ret, blockG_goto, blockG_panic, jumpG_normal, jumpG_ret, jumpG_exit, jumpG_panic]
      | (refine GW_region' [] (by kernel_rfl) ?_; intro Q hQ hP; simp [hC, hY]; (first | refine hQ _ _ _ _ ?_ | refine hP _ _ (fun _ => ?_)); clear hQ hP Q)
      | (refine GW_draw' [] follows (by kernel_rfl) (by kernel_rfl) ?_; intro Q hQ hP; simp [hC, hY]; (first | refine hQ _ _ _ _ (by kernel_rfl) ?_ | refine hP _ _ (by kernel_rfl) (fun _ => ?_)); clear hQ hP Q)
      | refine GW_block ?_
      | refine GW_ret ?_
      | refine GW_skip ?_
      | refine GW_exit ?_
      | refine GW_goto ?_
      | refine GW_label ?_
      | simp only [blockG_exit]
      | (refine GW_cond (by simp; rfl) ?_ ?_ <;> (intro hb; first | (exfalso; exact absurd hb (by decide)) | skip)))
    exact ⟨trivial, rfl⟩
  · intro k hk
    have h1 : ¬ k = 100000 := fun e => hk (hbig k (by omega))
    have h2 : ¬ k = 100008 := fun e => hk (hbig k (by omega))
    simp [h1, h2]
  · simp [okT, capQ]
  · simp [capQ]
  · simp [capQ]
  · intro C d hC hC0 hY
    refine GW_seq ?_
    refine GW_region' [] (by kernel_rfl) ?_; intro Q hQ hP; simp [hC, hY, hc, hpl]
    refine heapK_of (hp' := hp) h (fun k hk => ?_) hG trivial ?_
    · have := hrs k hk
      simp [rst, hk, show ¬ k = 100000 by omega, show ¬ k = 100008 by omega]
    simp
    refine hP _ _ fun yc => ?_
    simp only [thenG_panic]
    have e : ∀ k, (k < 100 ∨ k ∈ [100000, 100008]) → hpQ 0 k = upd (upd (rst hp rs) 100000 (some zB)) 100008 (some (eB 0)) k := fun k hk => by
      rcases hk with hk | hk
      · simp [hpQ, show ¬ k = 100000 by omega, show ¬ k = 100008 by omega, rst, hk, hG k hk]
      · simp at hk; rcases hk with rfl | rfl <;> simp [hpQ]
    have er : rst (upd (upd (rst hp rs) 100000 (some zB)) 100008 (some (eB 0))) [100000, 100008] = hpQ 0 := by rw [← rst_congr e, hpQ_rst]
    refine ⟨rfl, by simp [Tryd.results42, zB, eB], fun k hk => rfl, (rrec n).under e, fun k hk => ?_, fun k hk => ?_, ?_⟩
    · rw [er] at hk; unfold dom at hk ⊢
      by_cases h1 : k = 100000
      · subst h1; simp
      · by_cases h2 : k = 100008
        · subst h2; simp
        · simp only [hpQ, hpL_cons, hpL_nil, h1, h2, if_false] at hk
          have hk100 := G0_dom hk
          simp [h1, h2, rst, hk100, hG k hk100]; exact hk
    · rw [er]
      simp [keys] at hk
      rcases hk with rfl | rfl
      · exact ⟨by simp [hpQ, dom], by omega, fun hd => hd (hbig _ (by omega))⟩
      · exact ⟨by simp [hpQ, dom], by omega, fun hd => hd (hbig _ (by omega))⟩
    · rw [er]; exact fun k b hk => hpQ_ids 0 k b _ hk
end Go.Gy
