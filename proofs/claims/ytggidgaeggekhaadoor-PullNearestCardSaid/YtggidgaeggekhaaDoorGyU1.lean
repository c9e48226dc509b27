/-
  Contracts under two variables (quot.least, pull.limits): what stands of wide, root and the document's numbers; pull.must, told.
  Conditions: none.
-/
import Derived.Test.YtggidgaeggekhaaDoorGyW1
import Derived.Test.YtggidgaeggekhaaDoorGyT2
namespace Go.Gy
set_option linter.unusedSimpArgs false
set_option linter.unusedVariables false
open Go Go.RowKit Go.Proofs
def lmB : Blk := ⟨#[.int .i64 (-2097152), .int .i64 2097152, .int .i64 1, .int .i64 2097152, .int .i64 1, .int .i64 1048576, .int .i64 1, .int .i64 1024, .int .i64 (-2097152), .int .i64 2097152, .int .i64 0, .int .i64 13194139533312], 87⟩
def G1 : Hp := hpL G0 [(0, lmB)]
theorem G1F : GFlat G1 := fun k b h => by
  rcases hpL_mem h with h | h
  · simp at h
    obtain ⟨rfl, rfl⟩ := h
    exact ⟨by omega, by simp [lmB]⟩
  · exact G0F k b h
@[simp] theorem G1_big (k : Nat) (h : 100 ≤ k) : G1 k = none := by
  cases hb : G1 k with
  | none => rfl
  | some b => have := (G1F k b hb).1; omega
@[simp] theorem G1_limits : G1 0 = some lmB := by simp [G1]
theorem G1_dom {k : Nat} (h : dom G1 k) : k < 100 := by
  refine Classical.byContradiction fun hk => ?_
  exact h (G1_big k (by omega))
theorem G1_closed (D : Nat → Prop) (k : Nat) (b : Blk) (h : G1 k = some b) : b.ids D := fun x hx => flatF_ids ((G1F k b h).2 x hx)
theorem G1_rst (rs : List Nat) : rst G1 rs = G1 := rst_G G1F rs
theorem G1W : ∃ W, GOK G1 W := ⟨{ (default : World) with heap := Array.ofFn (n := 100) fun k => match G1 k.1 with | some b => .cells b.c b.T (0, 0) | none => .cells #[] 0 (0, 0) }, fun k b h => by
  have hk := (G1F k b h).1
  simp [hk, h]⟩
theorem G1up (W : World) (h : GOK G1 W) : GOK G0 W := fun k b hk => h k b (by
  have h0 : ¬ k = 0 := fun e => by subst e; simp [G0, G0L] at hk
  simp [G1, h0, hk])

@[simp] theorem wOf' (n : Int) (h : i64 n) (K : Value → Prop) : callK Tryd.prog G1 54 #[.int .i64 n] K ↔ K (wd n) := callK_iff G1W (by kernel_rfl) ((wof_ret n h).up G1up)
@[simp] theorem wMul' (a b : Int) (K : Value → Prop) : callK Tryd.prog G1 87 #[Value.agg #[.int .u64 (wi (a) 0), .int .u64 (wi (a) 1), .int .u64 (wi (a) 2), .int .u64 (wi (a) 3)], Value.agg #[.int .u64 (wi (b) 0), .int .u64 (wi (b) 1), .int .u64 (wi (b) 2), .int .u64 (wi (b) 3)]] K ↔ K (.tuple #[wd (sz a * sz b), .bool (mulO a b)]) := callK_iff G1W (by kernel_rfl) ((wmul_ret a b).up G1up)
@[simp] theorem wInt' (z : Int) (K : Value → Prop) : callK Tryd.prog G1 56 #[Value.agg #[.int .u64 (wi (z) 0), .int .u64 (wi (z) 1), .int .u64 (wi (z) 2), .int .u64 (wi (z) 3)]] K ↔ K (.tuple #[.int .i64 (if i64 (sz z) then sz z else 0), .bool (decide (i64 (sz z)))]) := callK_iff G1W (by kernel_rfl) ((wint_ret z).up G1up)
@[simp] theorem wCmp' (a b : Int) (K : Value → Prop) : callK Tryd.prog G1 75 #[Value.agg #[.int .u64 (wi (a) 0), .int .u64 (wi (a) 1), .int .u64 (wi (a) 2), .int .u64 (wi (a) 3)], Value.agg #[.int .u64 (wi (b) 0), .int .u64 (wi (b) 1), .int .u64 (wi (b) 2), .int .u64 (wi (b) 3)]] K ↔ K (.int .i64 (cmpI (sz a) (sz b))) := callK_iff G1W (by kernel_rfl) ((wcmp_ret a b).up G1up)
@[simp] theorem rHalf' (a b : Int) (ha : wr a) (hb : wr b) (h0 : 0 ≤ a) (hb0 : 0 < b) (K : Value → Prop) : callK Tryd.prog G1 18 #[Value.agg #[.int .u64 (wi (a) 0), .int .u64 (wi (a) 1), .int .u64 (wi (a) 2), .int .u64 (wi (a) 3)], Value.agg #[.int .u64 (wi (b) 0), .int .u64 (wi (b) 1), .int .u64 (wi (b) 2), .int .u64 (wi (b) 3)]] K ↔ K (.tuple #[wd ((isq (a / b) + 1) / 2), .int .i64 0]) := callK_iff G1W (by kernel_rfl) ((rHalf_p_ret a b ha hb h0 hb0).up G1up)
@[simp] theorem of2' (n : Int) (h : i64 n) (K : Value → Prop) : callK Tryd.prog G1 27 #[.int .i64 n] K ↔ K (wd n) := callK_iff G1W (by kernel_rfl) ((of2_ret n h).up G1up)
@[simp] theorem mul2' (a b : Int) (K : Value → Prop) : callK Tryd.prog G1 26 #[Value.agg #[.int .u64 (wi (a) 0), .int .u64 (wi (a) 1), .int .u64 (wi (a) 2), .int .u64 (wi (a) 3)], Value.agg #[.int .u64 (wi (b) 0), .int .u64 (wi (b) 1), .int .u64 (wi (b) 2), .int .u64 (wi (b) 3)]] K ↔ K (.tuple #[wd (sz a * sz b), .bool (mulO a b)]) := callK_iff G1W (by kernel_rfl) ((mul2_ret a b).up G1up)
@[simp] theorem cmp2' (a b : Int) (K : Value → Prop) : callK Tryd.prog G1 28 #[Value.agg #[.int .u64 (wi (a) 0), .int .u64 (wi (a) 1), .int .u64 (wi (a) 2), .int .u64 (wi (a) 3)], Value.agg #[.int .u64 (wi (b) 0), .int .u64 (wi (b) 1), .int .u64 (wi (b) 2), .int .u64 (wi (b) 3)]] K ↔ K (.int .i64 (cmpI (sz a) (sz b))) := callK_iff G1W (by kernel_rfl) ((cmp2_ret a b).up G1up)

theorem pmust_t (n : Int) : RetP Tryd.prog G1 93 #[.bool true, .int .i64 n] (.ret (.tuple #[])) := by
  refine retp_of G1F Tryd.func93 rfl Tryd.call93 (fun v h => by cases h; simp) (by simp) (by simp [Tryd.ntmps93]) ?_
  intro C hC hC0 hY
  repeat' (first
    | refine GW_seq ?_
    | simp only [List.length_cons, List.length_nil, Nat.reduceAdd, Nat.reduceMul, thenG_normal, thenG_ret, thenG_exit, thenG_goto, thenG_panic, blockG_normal, blockG_ret, blockG_goto, blockG_panic, jumpG_normal, jumpG_ret, jumpG_exit, jumpG_panic]
    | (refine GW_region' [] (by kernel_rfl) ?_; intro Q hQ hP; simp [hC, hY]; (first | refine hQ _ _ _ _ ?_ | refine hP _ _ (fun _ => ?_)); clear hQ hP Q)
    | (refine GW_draw' [] follows (by kernel_rfl) (by kernel_rfl) ?_; intro Q hQ hP; simp [hC, hY]; (first | refine hQ _ _ _ _ (by kernel_rfl) ?_ | refine hP _ _ (by kernel_rfl) (fun _ => ?_)); clear hQ hP Q)
    | refine GW_block ?_
    | refine GW_ret ?_
    | refine GW_skip ?_
    | refine GW_exit ?_
    | refine GW_goto ?_
    | refine GW_label ?_
    | simp only [blockG_exit]
    | (refine GW_cond (by simp; rfl) ?_ ?_ <;> (intro hb; first | (exfalso; exact absurd hb (by decide)) | skip)))
  exact ⟨.inl trivial, by simp [Tryd.results93]⟩
theorem pmust_f (n : Int) : RetP Tryd.prog G1 93 #[.bool false, .int .i64 n] (.pan (erV n)) := by
  refine retp_of G1F Tryd.func93 rfl Tryd.call93 (fun v h => by cases h) (by simp) (by simp [Tryd.ntmps93]) ?_
  intro C hC hC0 hY
  repeat' (first
    | refine GW_seq ?_
    | simp only [List.length_cons, List.length_nil, Nat.reduceAdd, Nat.reduceMul, thenG_normal, thenG_ret, thenG_exit, thenG_goto, thenG_panic, blockG_normal, blockG_ret, blockG_goto, blockG_panic, jumpG_normal, jumpG_ret, jumpG_exit, jumpG_panic]
    | (refine GW_region' [] (by kernel_rfl) ?_; intro Q hQ hP; simp [hC, hY]; (first | refine hQ _ _ _ _ ?_ | refine hP _ _ (fun _ => ?_)); clear hQ hP Q)
    | (refine GW_draw' [] follows (by kernel_rfl) (by kernel_rfl) ?_; intro Q hQ hP; simp [hC, hY]; (first | refine hQ _ _ _ _ (by kernel_rfl) ?_ | refine hP _ _ (by kernel_rfl) (fun _ => ?_)); clear hQ hP Q)
    | refine GW_block ?_
    | refine GW_ret ?_
    | refine GW_skip ?_
    | refine GW_exit ?_
    | refine GW_goto ?_
    | refine GW_label ?_
    | simp only [blockG_exit]
    | (refine GW_cond (by simp; rfl) ?_ ?_ <;> (intro hb; first | (exfalso; exact absurd hb (by decide)) | skip)))
  rfl
def capP : Array Value := #[.pointer (some ⟨100000, 0, none⟩)]
def hpP (n : Int) : Hp := hpL G1 [(100000, eB n)]
theorem hpP_rst (n : Int) : rst (hpP n) [100000] = hpP n := hpL_rst G1F (by simp)
theorem hpP_ids (n : Int) (k : Nat) (b : Blk) (D : Nat → Prop) (h : hpP n k = some b) : b.ids D := by
  rcases hpL_mem h with h | h
  · simp at h
    rcases h with ⟨_, rfl⟩
    simp [eB]
  · exact G1_closed _ _ _ h
@[simp] theorem opX_assertE' {dst : Option Tmp} {x : Operand} {T : TypeId} {ps : String} {af : Array Edge} {g : Option (Nat × Bool)} {V : XV} {yc nk : Nat} {ts : Nat → Value} {hp : Hp} {C : Eff → Prop} (h : ifE (gev ts x) = true) (hx : okX ts hp x) :
    opX Tryd.prog G1 V yc ⟨dst, .typeAssert x 20 25 false, T, ps, af, g⟩ ts hp nk C ↔ C (val (ifN (gev ts x)) []) := by
  obtain ⟨n, hn⟩ := ifE_of h
  refine pureV_iff (K := fun v => C (val v [])) ?_ ?_ fun W => ?_
  · intro y hy
    simp [Op.operands] at hy
    subst hy
    exact ⟨hx, by rw [hn]; rfl⟩
  · rw [hn]; rfl
  · simp only [execOp, hn]
    kernel_rfl
theorem rep6 : Array.replicate 6 undef = #[undef, undef, undef, undef, undef, undef] := rfl
theorem prec (n : Int) : RecF Tryd.prog G1 92 capP (hpP 0) [100000] (erV n) [(100000, eB n)] := by
  refine ⟨⟨_, Tryd.func92⟩, Tryd.call92, ?_, ?_⟩
  · refine back_of (k := 1) Tryd.func92 rfl fun args c₀ cs W hk hu => ?_
    obtain ⟨p0, rfl⟩ : ∃ p0, args = #[p0] := by
      rcases args with ⟨l⟩
      match l, hk with
      | [a], _ => exact ⟨a, rfl⟩
    have hn : Tryd.f92.ntmps = 7 := Tryd.ntmps92
    refine wpSIn_seq (wpSIn_region ?_)
    simp [wpOpsSIn, List.range, List.range.loop, go_sem, recoverD, hu, hn, rep6]
    refine wpSIn_seq (wpSIn_region ?_)
    simp [wpOpsSIn, List.range, List.range.loop, go_sem, neq_nil0]
    refine wpSIn_cond (t := false) (by simp [Act.eval]) ?_
    refine wpSIn_of_wpIn rfl (wpIn_skip ?_)
    exact ⟨.inl rfl, rfl, rfl, rfl, .tuple #[], by simp [results, Tryd.results92, go_sem]⟩
  · refine caught_of (B := 200000) (A := #[.pointer (some ⟨100000, 0, none⟩), erV n, erV n, undef, undef, undef, undef]) G1F (fun k hk => hpL_low (by simp) hk) Tryd.func92 rfl (by simp [Tryd.ntmps92]) ?_ ?_ ?_ ?_ ?_ ?_ (by omega) ?_ ?_
    · rw [hpP_rst]; simp [hpP, dom]
    · intro r c₀ cs W Q hu hQ
      have hrn : ∀ v, flatV v = true → ren r v = v := fun v hv => flatV_ren hv
      simp only [List.map_toArray, List.map_cons, List.map_nil, capP] at hQ ⊢
      generalize ren r (.pointer (some ⟨100000, 0, none⟩)) = p0 at hQ ⊢
      simp only [hrn (erV n) rfl, ren_undef] at hQ
      have hn : Tryd.f92.ntmps = 7 := Tryd.ntmps92
      simp [wpOpsSIn, List.range, List.range.loop, go_sem, recoverD, hu, pand, erV, hn, rep6]
      exact hQ
    · rw [hpP_rst]; exact fun k b h => hpP_ids 0 k b _ h
    · rw [hpP_rst]; simp [hpP, dom]
    · intro k b c h1 h2
      simp at h1 h2
      rw [h1.2, h2.2]
    · simp [eB]
    · rw [hpP_rst]; exact fun x hx => by simp [hpP, show ¬ x = 100000 by omega, show 100 ≤ x by omega]
    · intro C hC hC0 hY
      rw [hpP_rst]
      repeat' (first
        | refine GW_seq ?_
        | simp only [List.length_cons, List.length_nil, Nat.reduceAdd, Nat.reduceMul, thenG_normal, thenG_ret, thenG_exit, thenG_goto, thenG_panic, blockG_normal, blockG_ret, blockG_goto, blockG_panic, jumpG_normal, jumpG_ret, jumpG_exit, jumpG_panic]
        | (refine GW_region' [] (by kernel_rfl) ?_; intro Q hQ hP; simp [hC, hY, hpP, eB]; (first | refine hQ _ _ _ _ ?_ | refine hP _ _ (fun _ => ?_)); clear hQ hP Q)
        | (refine GW_draw' [] follows (by kernel_rfl) (by kernel_rfl) ?_; intro Q hQ hP; simp [hC, hY, hpP, eB]; (first | refine hQ _ _ _ _ (by kernel_rfl) ?_ | refine hP _ _ (by kernel_rfl) (fun _ => ?_)); clear hQ hP Q)
        | refine GW_block ?_
        | refine GW_ret ?_
        | refine GW_skip ?_
        | refine GW_exit ?_
        | refine GW_goto ?_
        | refine GW_label ?_
        | simp only [blockG_exit]
        | (refine GW_cond (by simp; rfl) ?_ ?_ <;> (intro hb; first | (exfalso; exact absurd hb (by decide)) | skip)))
      refine ⟨.inl trivial, by simp [Tryd.results92], fun k hk => ?_⟩
      simp [eB, hpP]
/-- What 'told' comes to, by what the closure comes to. -/
theorem ptold_ret {g : FuncId} {capv : List Value} {hp : Hp} {rs : List Nat} {ws : List (Nat × Blk)} (hG : ∀ k, k < 100 → hp k = G1 k) (hrs : ∀ k ∈ rs, k < 100000) (hc : capv.isEmpty = false) (hpl : capv.all plain0 = true)
    (h : Fun Tryd.prog G1 g capv.toArray hp rs (.ret (.tuple #[]) ws)) :
    Fun Tryd.prog G1 67 #[.func (.func g) #[] capv.toArray] hp rs (.ret (.int .i64 0) ws) := by
  have hids : ∀ x ∈ capv, ids0 (dom (rst hp rs)) x := fun x hx => (ids_plain0 (List.all_eq_true.1 hpl x hx)).1 (h.ids x (by simpa using hx))
  have hbig : ∀ x, 100000 ≤ x → rst hp rs x = none := fun x hx => by
    unfold rst; rw [if_neg]; rintro (h1 | h1)
    · omega
    · have := hrs x h1; omega
  refine fun_rec (out := .ret (.int .i64 0) ws) (B := 100000) (B1 := 100008) (id := 1) (t := 3) (ts1 := upd (fun t => [Value.func (.func g) #[] capv.toArray][t]?.getD undef) 2 (gptr 100000))
    (hp1 := upd (rst hp rs) 100000 (some (eB 0))) capP G1F hG Tryd.func67 rfl (by simp [Tryd.ntmps67]) Tryd.call67 ⟨_, _, _, _, prec 0⟩ ?_ h.closed ?_ (by simp [Tryd.ntmps67]) (by omega) hbig ?_ ?_ ?_ ?_ ?_ ?_
  · simpa using hids
  · exact ⟨flatV_ids (by simp), h.fits.2⟩
  · intro C hC hC0 hY
    repeat' (first
      | refine GW_seq ?_
      | simp only [List.length_cons, List.length_nil, Nat.reduceAdd, Nat.reduceMul, thenG_normal, thenG_ret, thenG_exit, thenG_goto, thenG_panic, blockG_normal, blockG_ret, blockG_goto, blockG_panic, jumpG_normal, jumpG_ret, jumpG_exit, jumpG_panic]
      | (refine GW_region' [] (by kernel_rfl) ?_; intro Q hQ hP; simp [hC, hY]; (first | refine hQ _ _ _ _ ?_ | refine hP _ _ (fun _ => ?_)); clear hQ hP Q)
      | (refine GW_draw' [] follows (by kernel_rfl) (by kernel_rfl) ?_; intro Q hQ hP; simp [hC, hY]; (first | refine hQ _ _ _ _ (by kernel_rfl) ?_ | refine hP _ _ (by kernel_rfl) (fun _ => ?_)); clear hQ hP Q)
      | refine GW_block ?_
      | refine GW_ret ?_
      | refine GW_skip ?_
      | refine GW_exit ?_
      | refine GW_goto ?_
      | refine GW_label ?_
      | simp only [blockG_exit]
      | (refine GW_cond (by simp; rfl) ?_ ?_ <;> (intro hb; first | (exfalso; exact absurd hb (by decide)) | skip)))
    exact ⟨trivial, rfl⟩
  · intro k hk
    have h1 : ¬ k = 100000 := fun e => hk (hbig k (by omega))
    simp [h1]
  · simp [okT, capP]
  · simp [capP]
  · simp [capP]
  · intro C d hC hC0 hY
    refine GW_seq ?_
    refine GW_region' [] (by kernel_rfl) ?_; intro Q hQ hP; simp [hC, hY, hc, hpl]
    have hk1 : ∀ k ∈ keys ws, k < 100000 := fun k hk => hrs k (h.fits.2.1 k hk).1
    have hk2 : (100000 : Nat) ∉ keys ws := fun hm => by have := hk1 _ hm; omega
    have w1 : updL (upd (rst hp rs) 100000 (some (eB 0))) ws 100000 = some (eB 0) := by
      rw [updL_other hk2]; simp
    refine heapK_of (hp' := hp) h (fun k hk => ?_) hG trivial ?_
    · have := hrs k hk
      simp [rst, hk, show ¬ k = 100000 by omega]
    simp only [eB] at w1
    simp [w1, eB]
    refine hQ _ _ _ _ ?_
    repeat' (first
      | refine GW_seq ?_
      | simp only [List.length_cons, List.length_nil, Nat.reduceAdd, Nat.reduceMul, thenG_normal, thenG_ret, thenG_exit, thenG_goto, thenG_panic, blockG_normal, blockG_ret, blockG_goto, blockG_panic, jumpG_normal, jumpG_ret, jumpG_exit, jumpG_panic]
      | (refine GW_region' [] (by kernel_rfl) ?_; intro Q hQ hP; simp [hC, hY, w1, eB]; (first | refine hQ _ _ _ _ ?_ | refine hP _ _ (fun _ => ?_)); clear hQ hP Q)
      | (refine GW_draw' [] follows (by kernel_rfl) (by kernel_rfl) ?_; intro Q hQ hP; simp [hC, hY, w1, eB]; (first | refine hQ _ _ _ _ (by kernel_rfl) ?_ | refine hP _ _ (by kernel_rfl) (fun _ => ?_)); clear hQ hP Q)
      | refine GW_block ?_
      | refine GW_ret ?_
      | refine GW_skip ?_
      | refine GW_exit ?_
      | refine GW_goto ?_
      | refine GW_label ?_
      | simp only [blockG_exit]
      | (refine GW_cond (by simp; rfl) ?_ ?_ <;> (intro hb; first | (exfalso; exact absurd hb (by decide)) | skip)))
    refine ⟨.inr rfl, by simp [Tryd.results67], fun k hk => ?_⟩
    have h1 : ¬ k = 100000 := fun e => hk (hbig k (by omega))
    rw [updL_comm_upd hk2]
    simp [h1]
theorem ptold_pan {g : FuncId} {capv : List Value} {hp : Hp} {rs : List Nat} {n : Int} (hG : ∀ k, k < 100 → hp k = G1 k) (hrs : ∀ k ∈ rs, k < 100000) (hc : capv.isEmpty = false) (hpl : capv.all plain0 = true)
    (h : Fun Tryd.prog G1 g capv.toArray hp rs (.pan (erV n))) :
    Fun Tryd.prog G1 67 #[.func (.func g) #[] capv.toArray] hp rs (.ret (.int .i64 n) []) := by
  have hids : ∀ x ∈ capv, ids0 (dom (rst hp rs)) x := fun x hx => (ids_plain0 (List.all_eq_true.1 hpl x hx)).1 (h.ids x (by simpa using hx))
  have hbig : ∀ x, 100000 ≤ x → rst hp rs x = none := fun x hx => by
    unfold rst; rw [if_neg]; rintro (h1 | h1)
    · omega
    · have := hrs x h1; omega
  refine fun_rec (out := .pan (erV n) [100000] [(100000, eB n)] (.int .i64 n)) (B := 100000) (B1 := 100008) (id := 1) (t := 3) (ts1 := upd (fun t => [Value.func (.func g) #[] capv.toArray][t]?.getD undef) 2 (gptr 100000))
    (hp1 := upd (rst hp rs) 100000 (some (eB 0))) capP G1F hG Tryd.func67 rfl (by simp [Tryd.ntmps67]) Tryd.call67 ⟨_, _, _, _, prec 0⟩ ?_ h.closed ?_ (by simp [Tryd.ntmps67]) (by omega) hbig ?_ ?_ ?_ ?_ ?_ ?_
  · simpa using hids
  · exact ⟨flatV_ids (by simp), by simp [keys], by simp, by simp⟩
  · intro C hC hC0 hY
    repeat' (first
      | refine GW_seq ?_
      | simp only [List.length_cons, List.length_nil, Nat.reduceAdd, Nat.reduceMul, thenG_normal, thenG_ret, thenG_exit, thenG_goto, thenG_panic, blockG_normal, blockG_ret, blockG_goto, blockG_panic, jumpG_normal, jumpG_ret, jumpG_exit, jumpG_panic]
      | (refine GW_region' [] (by kernel_rfl) ?_; intro Q hQ hP; simp [hC, hY]; (first | refine hQ _ _ _ _ ?_ | refine hP _ _ (fun _ => ?_)); clear hQ hP Q)
      | (refine GW_draw' [] follows (by kernel_rfl) (by kernel_rfl) ?_; intro Q hQ hP; simp [hC, hY]; (first | refine hQ _ _ _ _ (by kernel_rfl) ?_ | refine hP _ _ (by kernel_rfl) (fun _ => ?_)); clear hQ hP Q)
      | refine GW_block ?_
      | refine GW_ret ?_
      | refine GW_skip ?_
      | refine GW_exit ?_
      | refine GW_goto ?_
      | refine GW_label ?_
      | simp only [blockG_exit]
      | (refine GW_cond (by simp; rfl) ?_ ?_ <;> (intro hb; first | (exfalso; exact absurd hb (by decide)) | skip)))
    exact ⟨trivial, rfl⟩
  · intro k hk
    have h1 : ¬ k = 100000 := fun e => hk (hbig k (by omega))
    simp [h1]
  · simp [okT, capP]
  · simp [capP]
  · simp [capP]
  · intro C d hC hC0 hY
    refine GW_seq ?_
    refine GW_region' [] (by kernel_rfl) ?_; intro Q hQ hP; simp [hC, hY, hc, hpl]
    refine heapK_of (hp' := hp) h (fun k hk => ?_) hG trivial ?_
    · have := hrs k hk
      simp [rst, hk, show ¬ k = 100000 by omega]
    simp
    refine hP _ _ fun yc => ?_
    simp only [thenG_panic]
    have e : ∀ k, (k < 100 ∨ k ∈ [100000]) → hpP 0 k = upd (rst hp rs) 100000 (some (eB 0)) k := fun k hk => by
      rcases hk with hk | hk
      · simp [hpP, show ¬ k = 100000 by omega, rst, hk, hG k hk]
      · simp at hk; subst hk; simp [hpP]
    have er : rst (upd (rst hp rs) 100000 (some (eB 0))) [100000] = hpP 0 := by rw [← rst_congr e, hpP_rst]
    refine ⟨rfl, by simp [Tryd.results67, eB], fun k hk => rfl, (prec n).under e, fun k hk => ?_, fun k hk => ?_, ?_⟩
    · rw [er] at hk; unfold dom at hk ⊢
      by_cases h1 : k = 100000
      · subst h1; simp
      · simp only [hpP, hpL_cons, hpL_nil, h1, if_false] at hk
        have hk100 := G1_dom hk
        simp [h1, rst, hk100, hG k hk100]; exact hk
    · rw [er]
      simp [keys] at hk
      subst hk
      exact ⟨by simp [hpP, dom], by omega, fun hd => hd (hbig _ (by omega))⟩
    · rw [er]; exact fun k b hk => hpP_ids 0 k b _ hk
end Go.Gy
