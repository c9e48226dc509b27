/-
  Lemmas of this claim, in their order (GyA, GyB, GyC, GyD, GyB2, GyMP).
  Conditions: those of each theorem.
-/
import Derived.Orders
import Derived.Still
import Derived.Below
import Derived.RangeFuncRecord
import Derived.Tactics2
import Derived.TacticsIn
import Derived.OrdersIn
import Derived.RangeFuncLeaves
import Derived.RangeFuncSeq
import Derived.FollowTie
import Derived.RegionTactic
import Derived.Deep.MidRow
import Derived.ChangeKeysEq
import Derived.Laws.StructEq
import Derived.Laws.Cover3
import Derived.MapKept
set_option linter.unusedSimpArgs false
set_option linter.unusedVariables false
namespace Go.Gy
theorem nP {p:Prop} (h:p:=by
 exact absurd rfl (h1 _)):p:=h
theorem FX {p:Prop} (h:p:=by
 unfold Blk.obj;simp only;rw [bY (λx hx=>qQ h (hb x hx))]):p:=h
theorem xL {p:Prop} (h:p:=by
 obtain ⟨c,T⟩:=b;cases T<;>cases h):p:=h
abbrev bY := @Array.map_congr_left
abbrev vV := @Array.getElem?_setIfInBounds_ne
abbrev fp := Nat -> Value
abbrev dR := Nat -> Nat
abbrev ca := Array Value
abbrev iH := Nat -> Prop
theorem zO {p : Prop} (h : p := by omega) : p := h
theorem zS {p : Prop} (h : p := by simp) : p := h
theorem zD {p : Prop} (h : p := by decide) : p := h
theorem k2 {p0 p1 : Prop} (h0 : p0) (h1 : p1) : p0 /\ p1 := ⟨h0, h1⟩
theorem k3 {p0 p1 p2 : Prop} (h0 : p0) (h1 : p1) (h2 : p2) : p0 /\ p1 /\ p2 := ⟨h0, h1, h2⟩
theorem k4 {p0 p1 p2 p3 : Prop} (h0 : p0) (h1 : p1) (h2 : p2) (h3 : p3) : p0 /\ p1 /\ p2 /\ p3 := ⟨h0, h1, h2, h3⟩
theorem k5 {p0 p1 p2 p3 p4 : Prop} (h0 : p0) (h1 : p1) (h2 : p2) (h3 : p3) (h4 : p4) : p0 /\ p1 /\ p2 /\ p3 /\ p4 := ⟨h0, h1, h2, h3, h4⟩
theorem k6 {p0 p1 p2 p3 p4 p5 : Prop} (h0 : p0) (h1 : p1) (h2 : p2) (h3 : p3) (h4 : p4) (h5 : p5) : p0 /\ p1 /\ p2 /\ p3 /\ p4 /\ p5 := ⟨h0, h1, h2, h3, h4, h5⟩
theorem k7 {p0 p1 p2 p3 p4 p5 p6 : Prop} (h0 : p0) (h1 : p1) (h2 : p2) (h3 : p3) (h4 : p4) (h5 : p5) (h6 : p6) : p0 /\ p1 /\ p2 /\ p3 /\ p4 /\ p5 /\ p6 := ⟨h0, h1, h2, h3, h4, h5, h6⟩
theorem k8 {p0 p1 p2 p3 p4 p5 p6 p7 : Prop} (h0 : p0) (h1 : p1) (h2 : p2) (h3 : p3) (h4 : p4) (h5 : p5) (h6 : p6) (h7 : p7) : p0 /\ p1 /\ p2 /\ p3 /\ p4 /\ p5 /\ p6 /\ p7 := ⟨h0, h1, h2, h3, h4, h5, h6, h7⟩
theorem k9 {p0 p1 p2 p3 p4 p5 p6 p7 p8 : Prop} (h0 : p0) (h1 : p1) (h2 : p2) (h3 : p3) (h4 : p4) (h5 : p5) (h6 : p6) (h7 : p7) (h8 : p8) : p0 /\ p1 /\ p2 /\ p3 /\ p4 /\ p5 /\ p6 /\ p7 /\ p8 := ⟨h0, h1, h2, h3, h4, h5, h6, h7, h8⟩
theorem CT {p0 p1 p2 p3 p4 p5 p6 p7 p8 p9 : Prop} (h0 : p0) (h1 : p1) (h2 : p2) (h3 : p3) (h4 : p4) (h5 : p5) (h6 : p6) (h7 : p7) (h8 : p8) (h9 : p9) : p0 /\ p1 /\ p2 /\ p3 /\ p4 /\ p5 /\ p6 /\ p7 /\ p8 /\ p9 := ⟨h0, h1, h2, h3, h4, h5, h6, h7, h8, h9⟩
theorem Kx {p0 p1 p2 p3 p4 p5 p6 p7 p8 p9 lR : Prop} (h0 : p0) (h1 : p1) (h2 : p2) (h3 : p3) (h4 : p4) (h5 : p5) (h6 : p6) (h7 : p7) (h8 : p8) (h9 : p9) (qw : lR) : p0 /\ p1 /\ p2 /\ p3 /\ p4 /\ p5 /\ p6 /\ p7 /\ p8 /\ p9 /\ lR := ⟨h0, h1, h2, h3, h4, h5, h6, h7, h8, h9, qw⟩
theorem k12 {p0 p1 p2 p3 p4 p5 p6 p7 p8 p9 lR lZ : Prop} (h0 : p0) (h1 : p1) (h2 : p2) (h3 : p3) (h4 : p4) (h5 : p5) (h6 : p6) (h7 : p7) (h8 : p8) (h9 : p9) (qw : lR) (zx : lZ) : p0 /\ p1 /\ p2 /\ p3 /\ p4 /\ p5 /\ p6 /\ p7 /\ p8 /\ p9 /\ lR /\ lZ := ⟨h0, h1, h2, h3, h4, h5, h6, h7, h8, h9, qw, zx⟩
theorem k13 {p0 p1 p2 p3 p4 p5 p6 p7 p8 p9 lR lZ m7 : Prop} (h0 : p0) (h1 : p1) (h2 : p2) (h3 : p3) (h4 : p4) (h5 : p5) (h6 : p6) (h7 : p7) (h8 : p8) (h9 : p9) (qw : lR) (zx : lZ) (wv : m7) : p0 /\ p1 /\ p2 /\ p3 /\ p4 /\ p5 /\ p6 /\ p7 /\ p8 /\ p9 /\ lR /\ lZ /\ m7 := ⟨h0, h1, h2, h3, h4, h5, h6, h7, h8, h9, qw, zx, wv⟩
theorem k14 {p0 p1 p2 p3 p4 p5 p6 p7 p8 p9 lR lZ m7 ud : Prop} (h0 : p0) (h1 : p1) (h2 : p2) (h3 : p3) (h4 : p4) (h5 : p5) (h6 : p6) (h7 : p7) (h8 : p8) (h9 : p9) (qw : lR) (zx : lZ) (wv : m7) (zy : ud) : p0 /\ p1 /\ p2 /\ p3 /\ p4 /\ p5 /\ p6 /\ p7 /\ p8 /\ p9 /\ lR /\ lZ /\ m7 /\ ud := ⟨h0, h1, h2, h3, h4, h5, h6, h7, h8, h9, qw, zx, wv, zy⟩
theorem RK {p0 p1 p2 p3 p4 p5 p6 p7 p8 p9 lR lZ m7 ud ve : Prop} (h0 : p0) (h1 : p1) (h2 : p2) (h3 : p3) (h4 : p4) (h5 : p5) (h6 : p6) (h7 : p7) (h8 : p8) (h9 : p9) (qw : lR) (zx : lZ) (wv : m7) (zy : ud) (BA : ve) : p0 /\ p1 /\ p2 /\ p3 /\ p4 /\ p5 /\ p6 /\ p7 /\ p8 /\ p9 /\ lR /\ lZ /\ m7 /\ ud /\ ve := ⟨h0, h1, h2, h3, h4, h5, h6, h7, h8, h9, qw, zx, wv, zy, BA⟩
theorem k16 {p0 p1 p2 p3 p4 p5 p6 p7 p8 p9 lR lZ m7 ud ve wP : Prop} (h0 : p0) (h1 : p1) (h2 : p2) (h3 : p3) (h4 : p4) (h5 : p5) (h6 : p6) (h7 : p7) (h8 : p8) (h9 : p9) (qw : lR) (zx : lZ) (wv : m7) (zy : ud) (BA : ve) (HQ : wP) : p0 /\ p1 /\ p2 /\ p3 /\ p4 /\ p5 /\ p6 /\ p7 /\ p8 /\ p9 /\ lR /\ lZ /\ m7 /\ ud /\ ve /\ wP := ⟨h0, h1, h2, h3, h4, h5, h6, h7, h8, h9, qw, zx, wv, zy, BA, HQ⟩
theorem k17 {p0 p1 p2 p3 p4 p5 p6 p7 p8 p9 lR lZ m7 ud ve wP zT : Prop} (h0 : p0) (h1 : p1) (h2 : p2) (h3 : p3) (h4 : p4) (h5 : p5) (h6 : p6) (h7 : p7) (h8 : p8) (h9 : p9) (qw : lR) (zx : lZ) (wv : m7) (zy : ud) (BA : ve) (HQ : wP) (I7 : zT) : p0 /\ p1 /\ p2 /\ p3 /\ p4 /\ p5 /\ p6 /\ p7 /\ p8 /\ p9 /\ lR /\ lZ /\ m7 /\ ud /\ ve /\ wP /\ zT := ⟨h0, h1, h2, h3, h4, h5, h6, h7, h8, h9, qw, zx, wv, zy, BA, HQ, I7⟩
theorem k18 {p0 p1 p2 p3 p4 p5 p6 p7 p8 p9 lR lZ m7 ud ve wP zT Bg : Prop} (h0 : p0) (h1 : p1) (h2 : p2) (h3 : p3) (h4 : p4) (h5 : p5) (h6 : p6) (h7 : p7) (h8 : p8) (h9 : p9) (qw : lR) (zx : lZ) (wv : m7) (zy : ud) (BA : ve) (HQ : wP) (I7 : zT) (KF : Bg) : p0 /\ p1 /\ p2 /\ p3 /\ p4 /\ p5 /\ p6 /\ p7 /\ p8 /\ p9 /\ lR /\ lZ /\ m7 /\ ud /\ ve /\ wP /\ zT /\ Bg := ⟨h0, h1, h2, h3, h4, h5, h6, h7, h8, h9, qw, zx, wv, zy, BA, HQ, I7, KF⟩
theorem k19 {p0 p1 p2 p3 p4 p5 p6 p7 p8 p9 lR lZ m7 ud ve wP zT Bg CV : Prop} (h0 : p0) (h1 : p1) (h2 : p2) (h3 : p3) (h4 : p4) (h5 : p5) (h6 : p6) (h7 : p7) (h8 : p8) (h9 : p9) (qw : lR) (zx : lZ) (wv : m7) (zy : ud) (BA : ve) (HQ : wP) (I7 : zT) (KF : Bg) (MF : CV) : p0 /\ p1 /\ p2 /\ p3 /\ p4 /\ p5 /\ p6 /\ p7 /\ p8 /\ p9 /\ lR /\ lZ /\ m7 /\ ud /\ ve /\ wP /\ zT /\ Bg /\ CV := ⟨h0, h1, h2, h3, h4, h5, h6, h7, h8, h9, qw, zx, wv, zy, BA, HQ, I7, KF, MF⟩
theorem k20 {p0 p1 p2 p3 p4 p5 p6 p7 p8 p9 lR lZ m7 ud ve wP zT Bg CV JK : Prop} (h0 : p0) (h1 : p1) (h2 : p2) (h3 : p3) (h4 : p4) (h5 : p5) (h6 : p6) (h7 : p7) (h8 : p8) (h9 : p9) (qw : lR) (zx : lZ) (wv : m7) (zy : ud) (BA : ve) (HQ : wP) (I7 : zT) (KF : Bg) (MF : CV) (Oq : JK) : p0 /\ p1 /\ p2 /\ p3 /\ p4 /\ p5 /\ p6 /\ p7 /\ p8 /\ p9 /\ lR /\ lZ /\ m7 /\ ud /\ ve /\ wP /\ zT /\ Bg /\ CV /\ JK := ⟨h0, h1, h2, h3, h4, h5, h6, h7, h8, h9, qw, zx, wv, zy, BA, HQ, I7, KF, MF, Oq⟩
theorem k21 {p0 p1 p2 p3 p4 p5 p6 p7 p8 p9 lR lZ m7 ud ve wP zT Bg CV JK Lz : Prop} (h0 : p0) (h1 : p1) (h2 : p2) (h3 : p3) (h4 : p4) (h5 : p5) (h6 : p6) (h7 : p7) (h8 : p8) (h9 : p9) (qw : lR) (zx : lZ) (wv : m7) (zy : ud) (BA : ve) (HQ : wP) (I7 : zT) (KF : Bg) (MF : CV) (Oq : JK) (H3 : Lz) : p0 /\ p1 /\ p2 /\ p3 /\ p4 /\ p5 /\ p6 /\ p7 /\ p8 /\ p9 /\ lR /\ lZ /\ m7 /\ ud /\ ve /\ wP /\ zT /\ Bg /\ CV /\ JK /\ Lz := ⟨h0, h1, h2, h3, h4, h5, h6, h7, h8, h9, qw, zx, wv, zy, BA, HQ, I7, KF, MF, Oq, H3⟩
theorem k22 {p0 p1 p2 p3 p4 p5 p6 p7 p8 p9 lR lZ m7 ud ve wP zT Bg CV JK Lz Pw : Prop} (h0 : p0) (h1 : p1) (h2 : p2) (h3 : p3) (h4 : p4) (h5 : p5) (h6 : p6) (h7 : p7) (h8 : p8) (h9 : p9) (qw : lR) (zx : lZ) (wv : m7) (zy : ud) (BA : ve) (HQ : wP) (I7 : zT) (KF : Bg) (MF : CV) (Oq : JK) (H3 : Lz) (Xo : Pw) : p0 /\ p1 /\ p2 /\ p3 /\ p4 /\ p5 /\ p6 /\ p7 /\ p8 /\ p9 /\ lR /\ lZ /\ m7 /\ ud /\ ve /\ wP /\ zT /\ Bg /\ CV /\ JK /\ Lz /\ Pw := ⟨h0, h1, h2, h3, h4, h5, h6, h7, h8, h9, qw, zx, wv, zy, BA, HQ, I7, KF, MF, Oq, H3, Xo⟩
theorem k23 {p0 p1 p2 p3 p4 p5 p6 p7 p8 p9 lR lZ m7 ud ve wP zT Bg CV JK Lz Pw V6 : Prop} (h0 : p0) (h1 : p1) (h2 : p2) (h3 : p3) (h4 : p4) (h5 : p5) (h6 : p6) (h7 : p7) (h8 : p8) (h9 : p9) (qw : lR) (zx : lZ) (wv : m7) (zy : ud) (BA : ve) (HQ : wP) (I7 : zT) (KF : Bg) (MF : CV) (Oq : JK) (H3 : Lz) (Xo : Pw) (Hh : V6) : p0 /\ p1 /\ p2 /\ p3 /\ p4 /\ p5 /\ p6 /\ p7 /\ p8 /\ p9 /\ lR /\ lZ /\ m7 /\ ud /\ ve /\ wP /\ zT /\ Bg /\ CV /\ JK /\ Lz /\ Pw /\ V6 := ⟨h0, h1, h2, h3, h4, h5, h6, h7, h8, h9, qw, zx, wv, zy, BA, HQ, I7, KF, MF, Oq, H3, Xo, Hh⟩
theorem k24 {p0 p1 p2 p3 p4 p5 p6 p7 p8 p9 lR lZ m7 ud ve wP zT Bg CV JK Lz Pw V6 ku : Prop} (h0 : p0) (h1 : p1) (h2 : p2) (h3 : p3) (h4 : p4) (h5 : p5) (h6 : p6) (h7 : p7) (h8 : p8) (h9 : p9) (qw : lR) (zx : lZ) (wv : m7) (zy : ud) (BA : ve) (HQ : wP) (I7 : zT) (KF : Bg) (MF : CV) (Oq : JK) (H3 : Lz) (Xo : Pw) (Hh : V6) (Rm : ku) : p0 /\ p1 /\ p2 /\ p3 /\ p4 /\ p5 /\ p6 /\ p7 /\ p8 /\ p9 /\ lR /\ lZ /\ m7 /\ ud /\ ve /\ wP /\ zT /\ Bg /\ CV /\ JK /\ Lz /\ Pw /\ V6 /\ ku := ⟨h0, h1, h2, h3, h4, h5, h6, h7, h8, h9, qw, zx, wv, zy, BA, HQ, I7, KF, MF, Oq, H3, Xo, Hh, Rm⟩
theorem k25 {p0 p1 p2 p3 p4 p5 p6 p7 p8 p9 lR lZ m7 ud ve wP zT Bg CV JK Lz Pw V6 ku Q9 : Prop} (h0 : p0) (h1 : p1) (h2 : p2) (h3 : p3) (h4 : p4) (h5 : p5) (h6 : p6) (h7 : p7) (h8 : p8) (h9 : p9) (qw : lR) (zx : lZ) (wv : m7) (zy : ud) (BA : ve) (HQ : wP) (I7 : zT) (KF : Bg) (MF : CV) (Oq : JK) (H3 : Lz) (Xo : Pw) (Hh : V6) (Rm : ku) (h24 : Q9) : p0 /\ p1 /\ p2 /\ p3 /\ p4 /\ p5 /\ p6 /\ p7 /\ p8 /\ p9 /\ lR /\ lZ /\ m7 /\ ud /\ ve /\ wP /\ zT /\ Bg /\ CV /\ JK /\ Lz /\ Pw /\ V6 /\ ku /\ Q9 := ⟨h0, h1, h2, h3, h4, h5, h6, h7, h8, h9, qw, zx, wv, zy, BA, HQ, I7, KF, MF, Oq, H3, Xo, Hh, Rm, h24⟩
theorem k27 {p0 p1 p2 p3 p4 p5 p6 p7 p8 p9 lR lZ m7 ud ve wP zT Bg CV JK Lz Pw V6 ku Q9 p25 p26 : Prop} (h0 : p0) (h1 : p1) (h2 : p2) (h3 : p3) (h4 : p4) (h5 : p5) (h6 : p6) (h7 : p7) (h8 : p8) (h9 : p9) (qw : lR) (zx : lZ) (wv : m7) (zy : ud) (BA : ve) (HQ : wP) (I7 : zT) (KF : Bg) (MF : CV) (Oq : JK) (H3 : Lz) (Xo : Pw) (Hh : V6) (Rm : ku) (h24 : Q9) (h25 : p25) (h26 : p26) : p0 /\ p1 /\ p2 /\ p3 /\ p4 /\ p5 /\ p6 /\ p7 /\ p8 /\ p9 /\ lR /\ lZ /\ m7 /\ ud /\ ve /\ wP /\ zT /\ Bg /\ CV /\ JK /\ Lz /\ Pw /\ V6 /\ ku /\ Q9 /\ p25 /\ p26 := ⟨h0, h1, h2, h3, h4, h5, h6, h7, h8, h9, qw, zx, wv, zy, BA, HQ, I7, KF, MF, Oq, H3, Xo, Hh, Rm, h24, h25, h26⟩
theorem k30 {p0 p1 p2 p3 p4 p5 p6 p7 p8 p9 lR lZ m7 ud ve wP zT Bg CV JK Lz Pw V6 ku Q9 p25 p26 p27 p28 p29 : Prop} (h0 : p0) (h1 : p1) (h2 : p2) (h3 : p3) (h4 : p4) (h5 : p5) (h6 : p6) (h7 : p7) (h8 : p8) (h9 : p9) (qw : lR) (zx : lZ) (wv : m7) (zy : ud) (BA : ve) (HQ : wP) (I7 : zT) (KF : Bg) (MF : CV) (Oq : JK) (H3 : Lz) (Xo : Pw) (Hh : V6) (Rm : ku) (h24 : Q9) (h25 : p25) (h26 : p26) (h27 : p27) (h28 : p28) (h29 : p29) : p0 /\ p1 /\ p2 /\ p3 /\ p4 /\ p5 /\ p6 /\ p7 /\ p8 /\ p9 /\ lR /\ lZ /\ m7 /\ ud /\ ve /\ wP /\ zT /\ Bg /\ CV /\ JK /\ Lz /\ Pw /\ V6 /\ ku /\ Q9 /\ p25 /\ p26 /\ p27 /\ p28 /\ p29 := ⟨h0, h1, h2, h3, h4, h5, h6, h7, h8, h9, qw, zx, wv, zy, BA, HQ, I7, KF, MF, Oq, H3, Xo, Hh, Rm, h24, h25, h26, h27, h28, h29⟩
theorem eR {X A B : Prop} (x : X) (b : X -> B := by intro x; simp [x]) (a : A := by exact .inr trivial) : A /\ B := ⟨a, b x⟩
end Go.Gy

namespace Go.Gy
open Go Go.RowKit

inductive BTy
 | ty (t:TypeId)
 | raw (t:TypeId) (fr:Nat×Nat)
 | mp
def BTy.own:BTy->Bool
 | .ty _=>true
 | .raw _ _=>false
 | .mp=>false
def BTy.rd:BTy->Bool
 | .mp=>false
 | _=>true
@[simp] theorem BTy.own_ty (t:TypeId):BTy.own (.ty t)=true:=rfl
instance:Coe TypeId BTy:=⟨.ty⟩
structure Blk where
 c:Array Value
 T:BTy

abbrev Hp:=Nat->Option Blk

def upd {α:Type} (f:Nat->α) (k:Nat) (v:α):Nat->α:=λj=>if j=k then v else f j

theorem cY {α:Type} (f:Nat->α) (k:Nat) (v:α):upd f k v k=v:=by simp [upd]
theorem ao {α:Type} (f:Nat->α) {k j:Nat} (v:α) (h:j≠k):upd f k v j=f j:=by simp [upd,h]
theorem Kg {α:Type} (f:Nat->α) {k l:Nat} (u v:α) (h:k≠l):upd (upd f k u) l v=upd (upd f l v) k u:=by
 funext j;unfold upd;by_cases h1:j=l<;>by_cases h2:j=k<;>simp_all

def aF (r:dR):Value->Value
 | .pointer (some a)=>.pointer (some { a with block:=r a.block })
 | .slice (some a) n c=>.slice (some { a with block:=r a.block }) n c
 | .map (some b)=>.map (some (r b))
 | v=>v
def aw (r:dR):Value->Value
 | .func fn first cap=>.func fn (first.map (aF r)) (cap.map (aF r))
 | .iface t v=>.iface t (aF r v)
 | v=>aF r v
def aW (r:dR):Value->Value
 | .agg cs=>.agg (cs.map (aw r))
 | v=>aw r v
def ren (r:dR):Value->Value
 | .tuple vs=>.tuple (vs.map (aW r))
 | v=>aW r v

def aP (D:iH):Value->Prop
 | .pointer (some a)=>D a.block
 | .slice (some a) _ _=>D a.block
 | .map (some b)=>D b
 | _=>True
def aI (D:iH):Value->Prop
 | .func _ first cap=>(∀ x∈first,aP D x)/\(∀ x∈cap,aP D x)
 | .iface _ v=>aP D v
 | v=>aP D v
def cQ (D:iH):Value->Prop
 | .agg cs=>∀ x∈cs,aI D x
 | v=>aI D v
def aL (D:iH):Value->Prop
 | .tuple vs=>∀ x∈vs,cQ D x
 | v=>cQ D v

section congr
variable {D D':iH} {r r':dR}
theorem tV (h:∀ k,D k->D' k):∀ {v:Value},aP D v->aP D' v:=by
 intro v;unfold aP;split<;>first|exact h _|exact id
theorem iz (h:∀ k,D k->D' k):∀ {v:Value},aI D v->aI D' v:=by
 intro v;unfold aI;split
 ·exact λ⟨a,b⟩=>⟨λx hx=>tV h (a x hx),λx hx=>tV h (b x hx)⟩
 ·exact tV h
 ·exact tV h
theorem Lm (h:∀ k,D k->D' k):∀ {v:Value},cQ D v->cQ D' v:=by
 intro v;unfold cQ;split
 ·exact λa x hx=>iz h (a x hx)
 ·exact iz h
theorem jd (h:∀ k,D k->D' k):∀ {v:Value},aL D v->aL D' v:=by
 intro v;unfold aL;split
 ·exact λa x hx=>Lm h (a x hx)
 ·exact Lm h
theorem uQ (h:∀ k,D k->r' k=r k):∀ {v:Value},aP D v->aF r' v=aF r v:=by
 intro v;unfold aP;split<;>intro hd<;>simp_all [aF]
theorem qQ (h:∀ k,D k->r' k=r k):∀ {v:Value},aI D v->aw r' v=aw r v:=by
 intro v hv;unfold aI at hv;split at hv
 ·obtain ⟨a,b⟩:=hv;simp only [aw];rw [bY (λx hx=>uQ h (a x hx)),bY (λx hx=>uQ h (b x hx))]
 ·simp only [aw];rw [uQ h hv]
 ·rename_i h1 h2;unfold aw;split
  ·exact absurd rfl (h1 _ _ _)
  ·exact absurd rfl (h2 _ _)
  ·exact uQ h hv
theorem JV (h:∀ k,D k->r' k=r k):∀ {v:Value},cQ D v->aW r' v=aW r v:=by
 intro v hv;unfold cQ at hv;split at hv
 ·simp only [aW];rw [bY (λx hx=>qQ h (hv x hx))]
 ·rename_i h1;unfold aW;split
  ·exact nP
  ·exact qQ h hv
theorem jQ (h:∀ k,D k->r' k=r k):∀ {v:Value},aL D v->ren r' v=ren r v:=by
 intro v hv;unfold aL at hv;split at hv
 ·simp only [ren];rw [bY (λx hx=>JV h (hv x hx))]
 ·rename_i h1;unfold ren;split
  ·exact nP
  ·exact JV h hv
end congr

def mpL:List Value->Nat->List MapEntry
 | k::v::l,i=>⟨k,v,i⟩::mpL l (i+1)
 | _,_=>[]
def acp (c:ca):Obj:=.map (mpL c.toList 0).toArray (mpL c.toList 0).length
def Blk.obj (r:dR) (b:Blk):Obj:=match b.T with
 | .ty t=>.cells (b.c.map (aw r)) t (0,0)
 | .raw t fr=>.cells b.c t fr
 | .mp=>acp (b.c.map (aw r))
def Blk.obj0 (b:Blk):Obj:=match b.T with
 | .ty t=>.cells b.c t (0,0)
 | .raw t fr=>.cells b.c t fr
 | .mp=>acp b.c
def Blk.ids (D:iH) (b:Blk):Prop:=match b.T with
 | .ty _=>∀ x∈b.c,aI D x
 | .raw _ _=>True
 | .mp=>∀ x∈b.c,aI D x
theorem Blk.ids_of {D:iH} {b:Blk} (h:∀ x∈b.c,aI D x):b.ids D:=by
 unfold Blk.ids;split
 ·exact h
 ·trivial
 ·exact h
theorem Blk.obj_congr {D:iH} {r r':dR} (h:∀ k,D k->r' k=r k) {b:Blk} (hb:b.ids D):b.obj r'=b.obj r:=by
 obtain ⟨c,T⟩:=b
 cases T with
 | ty t =>
  exact FX
 | raw t fr=>rfl
 | mp =>
  exact FX
theorem Blk.ids_mono {D D':iH} (h:∀ k,D k->D' k) {b:Blk} (hb:b.ids D):b.ids D':=by
 obtain ⟨c,T⟩:=b
 cases T with
 | ty t=>exact λx hx=>iz h (hb x hx)
 | raw t fr=>trivial
 | mp=>exact λx hx=>iz h (hb x hx)

theorem Blk.obj_loop {r:dR} {b:Blk} {L:Loop} (h:some (Obj.loop L)=some (b.obj r)):False:=by
 exact xL
theorem Blk.obj_def {r:dR} {b:Blk} {x:Option (List Deferred)} (h:some (Obj.deferred x)=some (b.obj r)):False:=by
 exact xL
theorem Blk.obj0_def {b:Blk} {x:Option (List Deferred)} (h:some (Obj.deferred x)=some b.obj0):False:=by
 exact xL
def dom (hp:Hp):Nat->Prop:=λk=>hp k≠none

def fP:Value:=.complex .f32 0 1

def Rel (r:dR) (D:iH) (ts:fp) (a:Act):Prop :=
 ∀ t,ts t=fP\/(a.tmps.getD t undef=ren r (ts t)/\aL D (ts t))

def Sat (r:dR) (D:iH) (hp:Hp) (W:World):Prop :=
 ∀ k b,hp k=some b->W.heap[r k]? = some (b.obj r)/\b.ids D
def Inj (r:dR) (D:iH):Prop:=∀ k l,D k->D l->r k=r l->k=l

theorem Rel.mono {r r':dR} {D D':iH} {ts:fp} {a:Act} (h:Rel r D ts a) (hD:∀ k,D k->D' k) (hr:∀ k,D k->r' k=r k):Rel r' D' ts a :=
 λt=>(h t).imp id λh=>⟨by rw [h.1,jQ hr h.2],jd hD h.2⟩

def cJ (ts:fp) (dst:Option Tmp) (v:Value):Nat->Value :=
 match dst with
 | some d=>upd ts d v
 | none=>ts

theorem Rel.put {r:dR} {D:iH} {ts:fp} {a:Act} (h:Rel r D ts a) {dst:Option Tmp} (hd:∀ d,dst=some d->d<a.tmps.size) {v:Value} (hv:aL D v) :
  Rel r D (cJ ts dst v) (a.put dst (ren r v)):=by
 cases dst with
 | none=>exact h
 | some d =>
  intro t;have dp:=hd d rfl;by_cases e:t=d
  ·subst e;simp only [cJ,cY];exact .inr ⟨by simp [Act.put,dp],hv⟩
  ·simp only [cJ,ao _ _ e];refine (h t).imp id λh=>⟨?_,h.2⟩
   rw [<-h.1];simp [Act.put,vV (Ne.symm e)]

theorem kI (r:dR):ren r undef=undef:=by simp [undef,ren]
theorem mY (D:iH):aL D undef:=by simp [undef,aL]

end Go.Gy
namespace Go.Gy
open Go Go.RowKit
theorem ai {p:Prop} (h:p:=by simp [ak]):p:=h
theorem jz {p:Prop} (h:p:=by simpa using h):p:=h
theorem pK {p:Prop} (h:p:=by simpa [ak] using hm):p:=h
theorem m9 {p:Prop} (h:p:=by simpa [ak] using hk):p:=h
abbrev bI := @List.map_cons
abbrev aj := @List.mem_cons
abbrev aD := @List.mem_cons_of_mem
abbrev o5 := @Go.CallsIn.mono
abbrev aX := @Go.Sem.run_bind
abbrev bJ := @Go.Result.andThen_ok
abbrev eE := @List.mem_append_left
abbrev fh := @List.mem_append_right
abbrev kO := @List.map_append
abbrev bh := @List.mem_append
abbrev lr := @Bool.or_eq_false_iff
abbrev fG := @Array.getElem?_eq_none
abbrev jV := @Array.getElem_mem
abbrev fH := @List.length_cons
abbrev bn := @Bool.and_eq_true
abbrev o8 := @Nat.add_assoc

structure Eff where
  v : Value
  rs : List Nat
  ws : List (Nat × Blk)
  ns : List (Nat × Blk)
  pan : Option Value
  yl : Bool

def ak (l : List (Nat × Blk)) : List Nat := l.map (·.1)
theorem aC {l : List (Nat × Blk)} {k : Nat} : k ∈ ak l ↔ ∃ p ∈ l, p.1 = k := ai

def bH (hp : Hp) : List (Nat × Blk) -> Hp
  | [] => hp
  | (k, b) :: l => bH (upd hp k (some b)) l

theorem da {l : List (Nat × Blk)} : ∀ {hp : Hp} {k : Nat}, k ∉ ak l -> bH hp l k = hp k := by
  induction l with
  | nil => intro hp k _; rfl
  | cons p l ih =>
    intro hp k hk;obtain ⟨q, b⟩ := p;simp only [ak, bI, aj, not_or] at hk;simp only [bH];rw [ih (by simpa [ak] using hk.2), ao _ _ hk.1]

theorem tE {l : List (Nat × Blk)} : ∀ {hp : Hp} {k : Nat} {b : Option Blk}, k ∉ ak l -> bH (upd hp k b) l = upd (bH hp l) k b := by
  induction l with
  | nil => intro hp k b _; rfl
  | cons p l ih =>
    intro hp k b hk;obtain ⟨q, c⟩ := p;simp only [ak, bI, aj, not_or] at hk;simp only [bH];rw [Kg _ _ _ hk.1, ih (by simpa [ak] using hk.2)]

theorem YP {l m : List (Nat × Blk)} : ∀ {hp : Hp}, (∀ k ∈ ak l, k ∉ ak m) -> bH (bH hp l) m = bH (bH hp m) l := by
  induction l with
  | nil => intro hp _; rfl
  | cons p l ih =>
    intro hp h;obtain ⟨q, c⟩ := p;simp only [bH];rw [ih (λk hk => h k (by simp [ak] at hk |-; exact .inr hk)), tE (h q ai)]

theorem Bt {l : List (Nat × Blk)} : ∀ {hp : Hp} {k : Nat}, dom (bH hp l) k ↔ dom hp k \/ k ∈ ak l := by
  induction l with
  | nil => intro hp k; simp [bH, ak]
  | cons p l ih =>
    intro hp k;obtain ⟨q, c⟩ := p;simp only [bH];rw [ih];by_cases e : k = q
    · subst e; simp [dom, cY, ak]
    · simp [dom, ao _ _ e, ak, e]

theorem P8 {l : List (Nat × Blk)} : ∀ {hp : Hp} {k : Nat} {b : Blk}, bH hp l k = some b -> (hp k = some b /\ k ∉ ak l) \/ (k, b) ∈ l := by
  induction l with
  | nil => intro hp k b h; exact .inl ⟨h, ai⟩
  | cons p l ih =>
    intro hp k b h;obtain ⟨q, c⟩ := p;simp only [bH] at h;rcases ih h with ⟨h1, h2⟩ | h1
    · by_cases e : k = q
      · subst e; rw [cY] at h1; cases h1; exact .inr zS
      · rw [ao _ _ e] at h1; exact .inl ⟨h1, by simp [ak, e] at h2 |-; exact h2⟩
    · exact .inr (aD _ h1)

def rst (hp : Hp) (rs : List Nat) : Hp := λk => if k < 100 \/ k ∈ rs then hp k else none
theorem mu {hp : Hp} {rs : List Nat} {k : Nat} {b : Blk} (h : rst hp rs k = some b) : hp k = some b := by
  unfold rst at h; split at h
  · exact h
  · cases h
theorem qB {hp eG : Hp} {rs : List Nat} (h : ∀ k, (k < 100 \/ k ∈ rs) -> hp k = eG k) : rst hp rs = rst eG rs := by
  funext k; unfold rst; split
  · rename_i hk; exact h k hk
  · rfl

def eo (D : Nat -> Prop) (ns : List (Nat × Blk)) : Nat -> Prop := λk => D k \/ k ∈ ak ns

structure Turn (r' : Nat -> Nat) (D' : Nat -> Prop) (W W' : World) (ws ns : List (Nat × Blk)) : Prop where
  os : W'.os = W.os
  tape : W'.tape = W.tape
  output : W'.output = W.output
  size : W.heap.size <= W'.heap.size
  same : ∀ k, k < W.heap.size -> (∀ p ∈ ws, r' p.1 ≠ k) -> W'.heap[k]? = W.heap[k]?
  has : ∀ p ∈ ws ++ ns, W'.heap[r' p.1]? = some (p.2.obj r') /\ p.2.ids D'
  fresh : ∀ p ∈ ns, W.heap.size <= r' p.1
  apart : ∀ p ∈ ns, ∀ q ∈ ns, r' p.1 = r' q.1 -> p.1 = q.1

theorem Turn.of_below {r : Nat -> Nat} {D : Nat -> Prop} {W W' : World} (h : Below W.heap.size W W') : Turn r D W W' [] [] :=
  ⟨h.os, h.tape, h.output, h.size, λk hk _ => h.block k hk, λp hp => by simp at hp, λp hp => by simp at hp, λp hp => by simp at hp⟩

def Fs (P : Program) : Fence := { fn := λf => ∃ fn, P.funcs[f]? = some fn, depth := none, alive := false }
abbrev l7 (P : Program) (f : FuncId) (args : Array Value) (W : World) (R : Ending -> World -> Prop) : Prop := CallsIn (Fs P) 0 P f args W R
theorem l7.mono {P : Program} {f : FuncId} {args : Array Value} {W : World} {R R' : Ending -> World -> Prop} (h : l7 P f args W R) (hr : ∀ e w, R e w -> R' e w) : l7 P f args W R' := o5 h hr
theorem oR (P : Program) (n : Nat) : (Fs P).room n := λ_ h => by simp [Fs] at h
theorem l7.calls {P : Program} {f : FuncId} {args : Array Value} {W : World} {R : Ending -> World -> Prop} (h : l7 P f args W R) : Calls P f args W R := λcs => by
  obtain ⟨e, w', fr, r, s, x⟩ := h.2 cs (oR P _);refine ⟨e, w', fr, r, ?_, x⟩
  cases e with
  | returned v => exact stepsIn_wide.1 (StepsIn.mono (λm _ => fenced_wide P m) s)
  | panicked ch => exact stepsIn_wide.1 (StepsIn.mono (λm _ => fenced_wide P m) s)
  | outgrown => exact s
theorem CL {P : Program} {f : FuncId} {args : Array Value} {W W' : World} {x : Next} (h : (callFunc f args).run P W = .ok x W') : ∃ fn, P.funcs[f]? = some fn := by
  unfold callFunc at h;simp only [aX, run_program, bJ] at h
  cases hf : P.funcs[f]? with
  | none => simp [hf, stuck] at h
  | some fn => exact ⟨fn, rfl⟩

theorem NQ {P : Program} {o : Oper} {ρ : Operand -> Value} {W W' : World} {x : Next} (h : (execOp ρ o).run P W = .ok x W') : ∀ f, o.about P W ρ = some f -> (Fs P).fn f := by
  intro f hf;unfold Oper.about at hf;unfold execOp at h;split at hf
  · rename_i c hc
    simp only [hc, aX] at h
    cases hr : (resolve ρ c o.type).run P W with
    | halt y w => rw [hr] at hf; cases hf
    | ok dd w =>
      rw [hr] at hf h;simp only [bJ] at h;have ht := invoke_tie P w dd.target dd.args;have Vs : dd.target.leads P w dd.args = some f := hf;split at ht
      all_goals first
        | (rcases ht with ⟨g, gz, w', h1, h2⟩ | ⟨y, w', h2⟩
           · rw [Vs] at h1
             cases h1;rw [h2] at h;exact CL h
           · rw [h2] at h
             cases h)
        | (rw [ht] at Vs; cases Vs)
  · cases hf

def tG (P : Program) (o : Oper) (a : Act) (W : World) (R Rp : Value -> World -> Prop) : Prop :=
  match (execOp a.eval o).run P W with
  | .ok (.value u) W' => R u W'
  | .ok .skip W' => R undef W'
  | .ok (.enter f args) W' => l7 P f args W' (λe gS => match e with
      | .returned u => R u gS
      | .panicked ch => ∃ pv, ch = [{ v := pv, recovered := false }] /\ Rp pv gS
      | .outgrown => False)
  | .halt (.panic pv) W' => o.about P W a.eval = none /\ Rp pv W'
  | _ => False

def Ix (o : Oper) (r : Nat -> Nat) (D : Nat -> Prop) (ts : Nat -> Value) (a : Act) : Prop :=
  ∀ t, Operand.tmp t ∈ o.op.operands -> ts t = fP \/ (a.tmps.getD t undef = ren r (ts t) /\ aL D (ts t))

def OpD (P : Program) (o : Oper) (ts : Nat -> Value) (hp : Hp) (e : Eff) : Prop :=
  ∀ r D a W, Ix o r D ts a -> Sat r D hp W -> Inj r D -> (∀ k, k < 100 -> D k -> r k = k) -> (∀ k, dom hp k -> D k) -> (∀ p ∈ e.ns, ¬ D p.1 /\ 100 <= p.1) ->
    tG P o a W (λu W' => e.pan = none /\ ∃ r', (∀ k, D k -> r' k = r k) /\ u = ren r' e.v /\ aL (eo D e.ns) e.v /\ Turn r' (eo D e.ns) W W' e.ws e.ns)
      (λpv W' => e.pan = some pv /\ Below W.heap.size W W')

structure OKP where
  ok : Oper -> (Nat -> Value) -> Nat -> Hp -> Eff -> Prop
  congr : ∀ o ts ov yc Bw hp e, (∀ t, Operand.tmp t ∈ o.op.operands -> ts t = ov t) -> (e.yl = true -> yc = Bw) -> ok o ts yc hp e -> ok o ov Bw hp e
  yw : ∀ o ts yc hp e o' ov Bw eG e', ok o ts yc hp e -> ok o' ov Bw eG e' -> e.yl = true -> e'.yl = true -> ak e.ws = ak e'.ws
  un : Oper -> (Nat -> Value) -> Prop
  uncongr : ∀ o ts ov, (∀ t, Operand.tmp t ∈ o.op.operands -> ts t = ov t) -> un o ts -> un o ov

theorem zh (ts : Nat -> Value) {x y : Option Tmp} (u v : Value) (h : ∀ d, x = some d -> y ≠ some d) : cJ (cJ ts x u) y v = cJ (cJ ts y v) x u := by
  cases x with
  | none => rfl
  | some d =>
    cases y with
    | none => rfl
    | some e => exact Kg _ _ _ (λhe => h d rfl (by rw [he]))
theorem JR (ts : Nat -> Value) {x : Option Tmp} {t : Nat} (v : Value) (h : ∀ d, x = some d -> t ≠ d) : cJ ts x v t = ts t := by
  cases x with
  | none => rfl
  | some d => exact ao _ _ (h d rfl)

structure St where
  ts : Nat -> Value
  hp : Hp
  lg : Nat -> List Nat × List Nat
  yc : Nat
  yd : Bool
  pn : Option Value
  wr : Bool

def St.after (s : St) (i : Nat) (o : Oper) (e : Eff) : St :=
  { ts := cJ s.ts o.dst e.v, hp := bH s.hp (e.ws ++ e.ns), lg := upd s.lg i (e.rs, ak e.ws ++ ak e.ns), yc := if e.yl then s.yc + 1 else s.yc, yd := s.yd || (e.yl && e.ws.isEmpty), pn := s.pn.or e.pan, wr := s.wr || !e.ws.isEmpty }
def St.pass (s : St) (o : Oper) : St := { s with ts := cJ s.ts o.dst undef }

def gp (ops : Array Oper) (o : Oper) (ts : Nat -> Value) : Option Bool :=
  match o.guard with
  | none => some true
  | some (j, w) =>
    match (ops[j]?).bind (·.dst) with
    | some d => match ts d with
      | .bool b => some (b == w)
      | .tuple _ => some false
      | _ => none
    | none => some false

def Nw (md : Region.Mode) (ops : Array Oper) : Nat -> Nat -> Nat -> Bool
  | 0, _, _ => false
  | f + 1, i, j => match ops[i]? with
    | some o => o.after.any λe => Region.binds md e && (e.on == j || Nw md ops f e.on j)
    | none => false
def wU (md : Region.Mode) (ops : Array Oper) (i j : Nat) : Bool := Nw md ops 3 i j

structure Fits (md : Region.Mode) (ops : Array Oper) (base i : Nat) (s : St) (e : Eff) : Prop where
  wsrs : ∀ k ∈ ak e.ws, k ∈ e.rs /\ dom s.hp k /\ 100 <= k
  ids : ∀ k ∈ ak e.ns, base + 8 * i <= k /\ k < base + 8 * i + 8 /\ 100 <= k
  nodup : ∀ k ∈ ak e.ns, s.hp k = none
  once : ∀ k b c, (k, b) ∈ e.ws ++ e.ns -> (k, c) ∈ e.ws ++ e.ns -> b = c
  log : ∀ j, wU md ops i j = false -> (∀ k ∈ e.rs ++ ak e.ns, k ∉ (s.lg j).2) /\ (∀ k ∈ ak e.ws ++ ak e.ns, k ∉ (s.lg j).1)
  new : s.lg i = ([], [])
  pan : e.pan ≠ none -> s.pn = none
  yl : e.yl = true -> e.ws = [] -> s.yd = false

def gOp (OK : OKP) (md : Region.Mode) (ops : Array Oper) (base i : Nat) (K : St -> Prop) (s : St) : Prop :=
  match ops[i]? with
  | none => K s
  | some o => match gp ops o s.ts with
    | some true => ∃ e, OK.ok o s.ts s.yc (rst s.hp e.rs) e /\ Fits md ops base i s e /\ K (s.after i o e)
    | some false => OK.un o s.ts /\ K (s.pass o)
    | none => False

def Cn (OK : OKP) (md : Region.Mode) (ops : Array Oper) (base : Nat) (K : St -> Prop) : Nat -> Array Bool -> St -> Prop
  | 0, listed, s => Region.ready md ops listed = [] /\ K s
  | fuel + 1, listed, s =>
    (Region.ready md ops listed = [] -> K s) /\
    ∀ i ∈ Region.ready md ops listed, gOp OK md ops base i (Cn OK md ops base K fuel (listed.setIfInBounds i true)) s

def pU (OK : OKP) (md : Region.Mode) (ops : Array Oper) (base i : Nat) (o : Oper) (e : Option Eff) (s : St) : Prop :=
  match e with
  | some e => gp ops o s.ts = some true /\ OK.ok o s.ts s.yc (rst s.hp e.rs) e /\ Fits md ops base i s e
  | none => gp ops o s.ts = some false /\ OK.un o s.ts

def St.next (s : St) (i : Nat) (o : Oper) : Option Eff -> St
  | some e => s.after i o e
  | none => s.pass o

theorem Ax {OK : OKP} {md : Region.Mode} {ops : Array Oper} {base i : Nat} {o : Oper} {e : Option Eff} {s : St} {K : St -> Prop} (hi : ops[i]? = some o) (hy : pU OK md ops base i o e s) (h : K (s.next i o e)) :
    gOp OK md ops base i K s := by
  unfold gOp; simp only [hi]
  cases e with
  | some e => obtain ⟨h1, h2, h3⟩ := hy; simp only [h1]; exact ⟨e, h2, h3, h⟩
  | none => simp only [pU] at hy; simp only [hy.1]; exact ⟨hy.2, h⟩

theorem I4 {OK : OKP} {md : Region.Mode} {ops : Array Oper} {base i : Nat} {o : Oper} {s : St} {K : St -> Prop} (hi : ops[i]? = some o) (h : gOp OK md ops base i K s) :
    ∃ e, pU OK md ops base i o e s /\ K (s.next i o e) := by
  unfold gOp at h; simp only [hi] at h
  cases hw : gp ops o s.ts with
  | none => rw [hw] at h; exact h.elim
  | some b =>
    cases b with
    | true => rw [hw] at h; obtain ⟨e, h1, h2, h3⟩ := h; exact ⟨some e, ⟨hw, h1, h2⟩, h3⟩
    | false => rw [hw] at h; exact ⟨none, ⟨hw, h.1⟩, h.2⟩

theorem iS {ops : Array Oper} {o : Oper} {ts ov : Nat -> Value} (h : ∀ t ∈ o.looksAt ops, ts t = ov t) : gp ops o ts = gp ops o ov := by
  unfold gp
  cases hg : o.guard with
  | none => rfl
  | some g =>
    obtain ⟨j, w⟩ := g
    cases hd : (ops[j]?).bind (·.dst) with
    | none => simp [hd]
    | some d =>
      have : ts d = ov d := h d (by simp [Oper.looksAt, hg, hd]);simp [hd, this]

theorem OpD.congr {P : Program} {o : Oper} {ts ov : Nat -> Value} {hp : Hp} {e : Eff} (h : OpD P o ts hp e) (ht : ∀ t, Operand.tmp t ∈ o.op.operands -> ts t = ov t) : OpD P o ov hp e :=
  λr D a W hr => h r D a W (λt ht' => by rw [ht t ht']; exact hr t ht')

theorem fz {ops : Array Oper} {o : Oper} {t : Tmp} (h : Operand.tmp t ∈ o.op.operands) : t ∈ o.looksAt ops :=
  eE _ (List.mem_filterMap.2 ⟨.tmp t, jz, rfl⟩)

theorem Sj {OK : OKP} {md : Region.Mode} {ops : Array Oper} {base i j : Nat} {oi oj : Oper} {ei ej : Option Eff} {s : St} (cW : i ≠ j)
    (hap : oi.apart ops oj = true) (hw : wU md ops j i = false) (NH : wU md ops i j = false)
    (hy : pU OK md ops base i oi ei s) (h : pU OK md ops base j oj ej (s.next i oi ei)) :
    pU OK md ops base j oj ej s /\ pU OK md ops base i oi ei (s.next j oj ej) /\ (s.next i oi ei).next j oj ej = (s.next j oj ej).next i oi ei := by
  obtain ⟨h1, h2, h3⟩ := Oper.apart_spec hap;have Re : ∀ v, ∀ t ∈ oj.looksAt ops, cJ s.ts oi.dst v t = s.ts t := λv t ht => JR _ _ (λd hd e => h1 d hd (e ▸ ht));have Rd : ∀ v, ∀ t ∈ oi.looksAt ops, cJ s.ts oj.dst v t = s.ts t := λv t ht => JR _ _ (λd hd e => h3 d hd (e ▸ ht))
  cases ei with
  | none =>
    cases ej with
    | none =>
      refine ⟨?_, ?_, ?_⟩
      · simp only [pU, St.next, St.pass] at h |-; rw [<- h.1]; exact ⟨iS (λt ht => (Re _ t ht).symm), OK.uncongr _ _ _ (λt ht => Re _ t (fz ht)) h.2⟩
      · simp only [pU, St.next, St.pass] at hy |-; rw [<- hy.1]; exact ⟨iS (λt ht => Rd _ t ht), OK.uncongr _ _ _ (λt ht => (Rd _ t (fz ht)).symm) hy.2⟩
      · simp only [St.next, St.pass]; rw [zh _ _ _ h2]
    | some e =>
      obtain ⟨a1, a2, a3⟩ := h;refine ⟨⟨?_, ?_, ?_⟩, ?_, ?_⟩
      · rw [<- a1]; exact iS (λt ht => (Re _ t ht).symm)
      · exact OK.congr _ _ _ _ _ _ _ (λt ht => Re _ t (fz ht)) (λ_ => rfl) a2
      · exact ⟨a3.wsrs, a3.ids, a3.nodup, a3.once, a3.log, a3.new, a3.pan, a3.yl⟩
      · simp only [pU, St.next, St.after] at hy |-; rw [<- hy.1]; exact ⟨iS (λt ht => Rd _ t ht), OK.uncongr _ _ _ (λt ht => (Rd _ t (fz ht)).symm) hy.2⟩
      · simp only [St.next, St.pass, St.after]; rw [zh _ _ _ h2]
  | some e =>
    obtain ⟨b1, b2, b3⟩ := hy
    cases ej with
    | none =>
      refine ⟨?_, ⟨?_, ?_, ?_⟩, ?_⟩
      · simp only [pU, St.next, St.after] at h |-; rw [<- h.1]; exact ⟨iS (λt ht => (Re _ t ht).symm), OK.uncongr _ _ _ (λt ht => Re _ t (fz ht)) h.2⟩
      · simp only [St.next, St.pass]; rw [<- b1]; exact iS (λt ht => Rd _ t ht)
      · simp only [St.next, St.pass]; exact OK.congr _ _ _ _ _ _ _ (λt ht => (Rd _ t (fz ht)).symm) (λ_ => rfl) b2
      · exact ⟨b3.wsrs, b3.ids, b3.nodup, b3.once, b3.log, b3.new, b3.pan, b3.yl⟩
      · simp only [St.next, St.pass, St.after]; rw [zh _ _ _ h2]
    | some f =>
      obtain ⟨a1, a2, a3⟩ := h;simp only [St.next, St.after] at a1 a2 a3;have lgi : (upd s.lg i (e.rs, ak e.ws ++ ak e.ns)) i = (e.rs, ak e.ws ++ ak e.ns) := cY _ _ _;have alC := a3.log i hw;simp only [lgi] at alC
      -- Qh e avv f aCc not aE0, and Ws other way about
      have k1 : ∀ k ∈ f.rs ++ ak f.ns, k ∉ ak (e.ws ++ e.ns) := λk hk hm => alC.1 k hk pK;have k2 : ∀ k ∈ ak (f.ws ++ f.ns), k ∉ e.rs := λk hk => alC.2 k m9
      have k3 : ∀ k ∈ ak (e.ws ++ e.ns), k ∉ ak (f.ws ++ f.ns) := λk hk hm => by
        have gk : k ∈ ak f.ws \/ k ∈ ak f.ns := pK;rcases gk with gk | gk
        · exact k1 k (eE _ (a3.wsrs k gk).1) hk
        · exact k1 k (fh _ gk) hk
      have big : ∀ k ∈ ak (e.ws ++ e.ns), 100 <= k := λk hk => by
        have : k ∈ ak e.ws \/ k ∈ ak e.ns := m9;rcases this with h | h
        · exact (b3.wsrs k h).2.2
        · exact (b3.ids k h).2.2
      have avT : ∀ k ∈ ak (f.ws ++ f.ns), 100 <= k := λk hk => by
        have : k ∈ ak f.ws \/ k ∈ ak f.ns := m9;rcases this with h | h
        · exact (a3.wsrs k h).2.2
        · exact (a3.ids k h).2.2
      have r1 : rst (bH s.hp (e.ws ++ e.ns)) f.rs = rst s.hp f.rs := qB λk hk => da λhm => by
        rcases hk with hk | hk
        · have := big k hm; omega
        · exact k1 k (eE _ hk) hm
      have r2 : rst (bH s.hp (f.ws ++ f.ns)) e.rs = rst s.hp e.rs := qB λk hk => da λhm => by
        rcases hk with hk | hk
        · have := avT k hm; omega
        · exact k2 k hm hk
      have lgj : s.lg j = ([], []) := by have := a3.new; dsimp only at this; rwa [ao _ _ (Ne.symm cW)] at this
      have nb : f.yl = true -> e.yl = false := λhf => by
        cases he : e.yl with
        | false => rfl
        | true =>
          have hk := OK.yw _ _ _ _ _ _ _ _ _ _ b2 a2 he hf;by_cases XC : f.ws = []
          · rw [XC] at hk
            have he0 : e.ws = [] := m9;have := a3.yl hf XC;rw [he, he0] at this;simp at this
          · obtain ⟨p, l, hp⟩ := List.exists_cons_of_ne_nil XC
            have hm : p.1 ∈ ak f.ws := aC.2 ⟨p, by rw [hp]; simp, rfl⟩;have h9 := k1 p.1 (eE _ (a3.wsrs p.1 hm).1);rw [<- hk] at hm;exact absurd (by simp only [ak, kO, bh]; exact .inl (by simpa [ak] using hm)) h9
      have yls : f.yl = true -> e.yl = false /\ (f.ws = [] -> s.yd = false) := λhf => ⟨nb hf, λXC => by
        have := a3.yl hf XC; simp only [lr] at this; exact this.1⟩
      have atP : e.yl = true -> f.yl = false := λhe => by
        cases hf : f.yl with
        | false => rfl
        | true => rw [(yls hf).1] at he; cases he
      have pns : f.pan ≠ none -> e.pan = none /\ s.pn = none := λhf => by
        have := a3.pan hf; simp only [Option.or_eq_none_iff] at this; exact ⟨this.2, this.1⟩
      have asP : e.pan ≠ none -> f.pan = none := λhe => by
        cases hf : f.pan with
        | none => rfl
        | some v => exact absurd (pns (by rw [hf]; simp)).1 he
      refine ⟨⟨?_, ?_, ?_⟩, ⟨?_, ?_, ?_⟩, ?_⟩
      · rw [<- a1]; exact iS (λt ht => (Re _ t ht).symm)
      · rw [<- r1]; exact OK.congr _ _ _ _ _ _ _ (λt ht => Re _ t (fz ht)) (λhf => by rw [(yls hf).1]; simp) a2
      · refine ⟨λk hk => ⟨(a3.wsrs k hk).1, ?_, (a3.wsrs k hk).2.2⟩, a3.ids, λk hk => ?_, a3.once, λq hq => ?_, lgj, λhf => (pns hf).2, λhf XC => (yls hf).2 XC⟩
        · rcases Bt.1 (a3.wsrs k hk).2.1 with h | h
          · exact h
          · exact absurd h (k1 k (eE _ (a3.wsrs k hk).1))
        · have := a3.nodup k hk
          dsimp only at this;rwa [da (k1 k (fh _ hk))] at this
        · by_cases hqi : q = i
          · subst hqi; rw [b3.new]; simp
          · have := a3.log q hq; dsimp only at this; rwa [ao _ _ hqi] at this
      · simp only [St.next, St.after]; rw [<- b1]; exact iS (λt ht => Rd _ t ht)
      · simp only [St.next, St.after]; rw [r2]; exact OK.congr _ _ _ _ _ _ _ (λt ht => (Rd _ t (fz ht)).symm) (λhe => by rw [atP he]; simp) b2
      · simp only [St.next, St.after]
        refine ⟨λk hk => ⟨(b3.wsrs k hk).1, Bt.2 (.inl (b3.wsrs k hk).2.1), (b3.wsrs k hk).2.2⟩, b3.ids, λk hk => ?_, b3.once, λq hq => ?_, ?_, λhe => ?_, λhe XC => ?_⟩
        · show bH s.hp (f.ws ++ f.ns) k = none
          rw [da (λhm => k3 k (by simpa [ak] using Or.inr (by simpa [ak] using hk)) hm)];exact b3.nodup k hk
        · by_cases hqj : q = j
          · subst hqj
            simp only [cY];refine ⟨λk hk hm => ?_, λk hk hm => ?_⟩
            · rcases bh.1 hk with hk | hk
              · exact k2 k pK hk
              · exact k3 k (by simp [ak] at hk |-; exact .inr hk) pK
            · exact k1 k (eE _ hm) m9
          · simp only [ao _ _ hqj]; exact b3.log q hq
        · show upd s.lg j _ i = _
          rw [ao _ _ cW]; exact b3.new
        · show s.pn.or f.pan = none
          rw [b3.pan he, asP he]; rfl
        · show (s.yd || (f.yl && f.ws.isEmpty)) = false
          rw [b3.yl he XC, atP he]; rfl
      · simp only [St.next, St.after]
        rw [zh _ _ _ h2, YP k3, Kg _ _ _ cW, Bool.or_right_comm, Bool.or_right_comm s.wr]
        have e1 : (s.pn.or e.pan).or f.pan = (s.pn.or f.pan).or e.pan := by
          cases he : e.pan with
          | none => cases hf : f.pan <;> cases s.pn <;> rfl
          | some v => rw [asP (by rw [he]; simp)]; cases s.pn <;> rfl
        have e2 : (if f.yl = true then (if e.yl = true then s.yc + 1 else s.yc) + 1 else if e.yl = true then s.yc + 1 else s.yc) = (if e.yl = true then (if f.yl = true then s.yc + 1 else s.yc) + 1 else if f.yl = true then s.yc + 1 else s.yc) := by
          cases e.yl <;> cases f.yl <;> rfl
        rw [e1, e2]

def BF (md : Region.Mode) (ops : Array Oper) (listed : Array Bool) : Prop :=
  ∀ k o, ops[k]? = some o -> listed.getD k false = true -> ∀ e ∈ o.after, Region.binds md e = true -> listed.getD e.on false = true
theorem ajj {listed : Array Bool} {k : Nat} (h0 : listed.getD k true = false) (h1 : listed.getD k false = true) : False := by
  rcases Nat.lt_or_ge k listed.size with h' | h'
  · simp [h'] at h0 h1; rw [h0] at h1; cases h1
  · simp [fG h'] at h1
theorem Cl {md : Region.Mode} {ops : Array Oper} {listed : Array Bool} (oM : BF md ops listed) {j : Nat} (hj : listed.getD j true = false) : ∀ (f i : Nat), (∀ o, ops[i]? = some o -> ∀ e ∈ o.after, Region.binds md e = true -> listed.getD e.on false = true) -> Nw md ops f i j = false
  | 0, _, _ => rfl
  | f + 1, i, h => by
    unfold Nw
    cases ho : ops[i]? with
    | none => rfl
    | some o =>
      simp only;rw [Array.any_eq_false];intro k hk;have hm : o.after[k] ∈ o.after := jV hk
      cases hb : Region.binds md o.after[k] with
      | false => simp
      | true =>
        have hl := h o ho _ hm hb
        have cW : (o.after[k].on == j) = false := by
          rw [beq_eq_false_iff_ne];exact λe => ajj hj (e ▸ hl)
        rw [cW, Cl oM hj f _ (λo' ho' e he Vr => oM _ o' ho' hl e he Vr)];simp
theorem BF.set {md : Region.Mode} {ops : Array Oper} {listed : Array Bool} (oM : BF md ops listed) {j : Nat} (hj : j ∈ Region.ready md ops listed) : BF md ops (listed.setIfInBounds j true) := by
  have mono : ∀ {x : Nat}, listed.getD x false = true -> (listed.setIfInBounds j true).getD x false = true := λ{x} hx => by
    by_cases c : j = x
    · subst c
      rcases Nat.lt_or_ge j listed.size with h' | h'
      · simp [h']
      · simp [fG h'] at hx
    · rw [getD_set_ne false c]; exact hx
  intro k o hk hl e he hb;by_cases c : j = k
  · subst c
    obtain ⟨_, oj, KL, iJ⟩ := mem_ready.1 hj;rw [hk] at KL;cases KL;exact mono (iJ e he hb)
  · rw [getD_set_ne false c] at hl
    exact mono (oM k o hk hl e he hb)
theorem NB {OK : OKP} {md : Region.Mode} {ops : Array Oper} {base : Nat} {K : St -> Prop} {i : Nat} {oi : Oper} {ei : Option Eff} (hi : ops[i]? = some oi) :
    ∀ (fuel : Nat) (listed : Array Bool) (s : St), BF md ops listed ->
      (∀ j oj, ops[j]? = some oj -> j ≠ i -> listed.getD j true = false -> (∀ e ∈ oj.after, Region.binds md e = true -> e.on ≠ i) -> oi.apart ops oj = true) ->
      i ∈ Region.ready md ops listed -> pU OK md ops base i oi ei s ->
      Cn OK md ops base K fuel (listed.setIfInBounds i true) (s.next i oi ei) -> Cn OK md ops base K (fuel + 1) listed s := by
  intro fuel
  induction fuel with
  | zero =>
    intro listed s _ _ hr hy H;refine ⟨λh => (by rw [h] at hr; cases hr), λj hj => ?_⟩;by_cases Qs : j = i
    · subst Qs; exact Ax hi hy H
    · have := ready_mono hj Qs
      rw [H.1] at this;cases this
  | succ fuel ih =>
    intro listed s oM eU hr hy H;refine ⟨λh => (by rw [h] at hr; cases hr), λj hj => ?_⟩;by_cases Qs : j = i
    · subst Qs; exact Ax hi hy H
    · have h1 := H.2 j (ready_mono hj Qs)
      obtain ⟨alq, oj, KL, iJ⟩ := mem_ready.1 hj;obtain ⟨aqV, oi', arh, aqy⟩ := mem_ready.1 hr;rw [hi] at arh; cases arh;have axL : ∀ e ∈ oj.after, Region.binds md e = true -> e.on ≠ i := λe he hb heq => ajj aqV (heq ▸ iJ e he hb);have Kw : wU md ops j i = false := Cl oM aqV 3 j λo ho e he hb => by rw [KL] at ho; cases ho; exact iJ e he hb
      have kf : wU md ops i j = false := Cl oM alq 3 i λo ho e he hb => by rw [hi] at ho; cases ho; exact aqy e he hb
      obtain ⟨ej, hyj, hK⟩ := I4 KL h1;obtain ⟨c1, c2, c3⟩ := Sj (Ne.symm Qs) (eU j oj KL Qs alq axL) Kw kf hy hyj
      have alc : ∀ k ok, ops[k]? = some ok -> k ≠ i -> (listed.setIfInBounds j true).getD k true = false ->
          (∀ e ∈ ok.after, Region.binds md e = true -> e.on ≠ i) -> oi.apart ops ok = true := λk ok hk Zg Zl Ek => by
        refine eU k ok hk Zg ?_ Ek;by_cases hjk : j = k
        · subst hjk; exact alq
        · rw [getD_set_ne true hjk] at Zl; exact Zl
      refine Ax KL c1 (ih (listed.setIfInBounds j true) _ (oM.set hj) alc (ready_mono hr (Ne.symm Qs)) c2 ?_);rw [Array.setIfInBounds_comm _ _ Qs, <- c3];exact hK

def CZ (OK : OKP) (md : Region.Mode) (ops : Array Oper) (base : Nat) (K : St -> Prop) : Nat -> List Oper -> St -> Prop
  | _, [], s => K s
  | k, o :: rest, s => match gp ops o s.ts with
    | some true => ∃ e, OK.ok o s.ts s.yc (rst s.hp e.rs) e /\ Fits md ops base k s e /\ CZ OK md ops base K (k + 1) rest (s.after k o e)
    | some false => OK.un o s.ts /\ CZ OK md ops base K (k + 1) rest (s.pass o)
    | none => False

theorem Kk {OK : OKP} {md : Region.Mode} {ops : Array Oper} {base : Nat} {K : St -> Prop} : ∀ (l : List Oper) (k : Nat) (listed : Array Bool) (s : St), BF md ops listed -> (∀ j, l[j]? = ops[k + j]?) ->
    Region.lexFrom md ops l.length k listed = true -> CZ OK md ops base K k l s -> Cn OK md ops base K l.length listed s
  | [], _, _, _, _, _, hB, h => ⟨by simpa [Region.lexFrom] using hB, h⟩
  | o :: l, k, listed, s, oM, hl, hB, h => by
    have h0 : ops[k]? = some o := by simpa using (hl 0).symm
    simp only [fH, Region.lexFrom, bn] at hB;obtain ⟨⟨hr, hf⟩, hB'⟩ := hB;have Af : gOp OK md ops base k (CZ OK md ops base K (k + 1) l) s := by unfold gOp; simp only [h0]; exact h
    obtain ⟨e, hy, hK⟩ := I4 h0 Af
    exact NB h0 l.length listed s oM (Region.free_spec h0 hf) (by simpa using hr) hy
      (Kk l (k + 1) _ _ (oM.set (by simpa using hr)) (λj => by have := hl (j + 1); simpa [o8, Nat.add_comm 1 j] using this) hB' hK)

theorem fj {p:Prop} (h:p:=by cases h):p:=h
theorem sr {p:Prop} (h:p:=by simpa using ho):p:=h
abbrev aO := @Array.getElem?_eq_some_iff
abbrev iQ := @Nat.lt_of_lt_of_le
abbrev aA := @Nat.le_refl
abbrev o4 := @Option.bind_some
abbrev bf := @Option.some.injEq
abbrev cX := @List.all_eq_true
abbrev kW := @Array.mem_of_getElem?
abbrev aV := @if_true
abbrev bq := @List.nil_append
abbrev kP := @Bool.false_eq_true
abbrev cw := @if_false
abbrev jY := @Array.getD_eq_getD_getElem?
abbrev mN := @Array.getElem?_replicate

structure Ext where
  X : Nat -> (Nat -> Prop) -> World -> Prop
  ok : ∀ c S W W', X c S W -> (∀ k, S k -> W'.heap[k]? = W.heap[k]?) -> W'.os = W.os -> W'.tape = W.tape -> W'.output = W.output -> W.heap.size <= W'.heap.size -> X c S W'

structure Sh where
  w : Nat
  a : Nat
  ob : Nat -> Blk
structure YG where
  l : Nat
  xs : List (Array Value)
  stop : Nat
  pn : Option Value
  sh : Option Sh
def YG.still : YG := ⟨0, [], 0, none, none⟩
def YG.has (y : YG) (c : Nat) (W : World) : Prop := match y.sh with
  | none => True
  | some s => W.heap[s.a]? = some (s.ob c).obj0
def YG.at (y : YG) (k : Nat) : Prop := match y.sh with
  | none => False
  | some s => k = s.a
def YG.pan (y : YG) (c : Nat) : Option Value := if c = y.stop then y.pn else none

structure Ctx where
  E : Ext
  hp0 : Hp
  r0 : Nat -> Nat
  G : Hp
  Y : Option YG

def GOK (G : Hp) (W : World) : Prop := ∀ k b, G k = some b -> W.heap[k]? = some b.obj0

def qG (P : Program) (G : Hp) (E : Ext) (y : YG) : Prop :=
  ∀ c x S W, GOK G W -> y.xs[c]? = some x -> c <= y.stop -> E.X c S W -> (∀ k, S k -> k < W.heap.size) -> y.has c W ->
    YieldAt (Fs P) 0 P y.l x W λe W' => (match y.pan c with | none => e = .returned (.bool (c != y.stop)) | some pv => e = .panicked [{ v := pv, recovered := false }]) /\ GOK G W' /\ W.heap.size <= W'.heap.size /\ (∀ k, k < W.heap.size -> ¬ S k -> ¬ y.at k -> W'.heap[k]? = W.heap[k]?) /\ y.has (c + 1) W' /\
      ∃ S', E.X (c + 1) S' W' /\ (∀ k, S' k -> k < W'.heap.size) /\ ∀ k, S' k -> k < W.heap.size -> S k
def YG.fine (y : YG) (C : Ctx) : Prop := match y.sh with
  | none => True
  | some s => dom C.hp0 s.w /\ C.r0 s.w = s.a /\ ∀ c, (∀ r, (s.ob c).obj r = (s.ob c).obj0) /\ ∀ D, (s.ob c).ids D
def ux (P : Program) (C : Ctx) (y : YG) : Prop := qG P C.G C.E y /\ y.fine C

def HX (D : Nat) : Deferred := { target := .collected D, args := #[] }

structure RI (C : Ctx) (n : Nat) (d : List Deferred) (r : Nat -> Nat) (ts : Nat -> Value) (hp : Hp) (yc : Nat) (a : Act) (W : World) : Prop where
  size : a.tmps.size = n
  rel : Rel r (dom hp) ts a
  sat : Sat r (dom hp) hp W
  inj : Inj r (dom hp)
  ext : ∃ (S : Nat -> Prop) (ms : List Nat), C.E.X yc S W /\ (∀ k, S k -> k < W.heap.size) /\ (∀ i, dom hp i -> 100 <= i -> ¬ S (r i)) /\ (a.defers = ms.map HX ++ d /\ ms.Nodup) /\ ∀ D ∈ ms, W.heap[D]? = some (.deferred (some [])) /\ ¬ S D /\ C.Y ≠ some .still
  keep : ∀ i, dom C.hp0 i -> dom hp i /\ r i = C.r0 i
  glob : ∀ k, k < 100 -> hp k = C.G k
  low : ∀ k, k < 100 -> dom hp k -> r k = k

section
variable {P : Program} {C : Ctx} {n : Nat} {d : List Deferred} {r : Nat -> Nat} {ts : Nat -> Value} {hp : Hp} {yc : Nat} {a : Act} {W : World}

theorem RI.lt (h : RI C n d r ts hp yc a W) {k : Nat} (hk : dom hp k) : r k < W.heap.size := by
  unfold dom at hk
  cases hb : hp k with
  | none => exact absurd hb hk
  | some b => exact (aO.1 (h.sat k b hb).1).1

theorem RI.ne_mark (h : RI C n d r ts hp yc a W) {k D : Nat} (hk : dom hp k) (hD : W.heap[D]? = some (.deferred (some []))) : r k ≠ D := λe => by
  unfold dom at hk
  cases hb : hp k with
  | none => exact absurd hb hk
  | some b =>
    have := (h.sat k b hb).1;rw [e, hD] at this; exact (Blk.obj_def this).elim

theorem RI.elsewhere (h : RI C n d r ts hp yc a W) {W' : World} (os : W'.os = W.os) (tape : W'.tape = W.tape) (output : W'.output = W.output) (size : W.heap.size <= W'.heap.size)
    (hs : ∀ k, k < W.heap.size -> W'.heap[k]? = W.heap[k]?) : RI C n d r ts hp yc a W' :=
  { h with
    sat := λk b hk => by
      have := h.sat k b hk;exact ⟨(hs _ (h.lt (by unfold dom; rw [hk]; simp))).trans this.1, this.2⟩
    ext := by
      obtain ⟨S, ms, h1, h2, h3, h4, h5⟩ := h.ext;exact ⟨S, ms, C.E.ok _ _ _ _ h1 (λk hk => hs k (h2 k hk)) os tape output size, λk hk => iQ (h2 k hk) size, h3, h4, λD hD => ⟨by rw [hs D (aO.1 (h5 D hD).1).1]; exact (h5 D hD).1, (h5 D hD).2⟩⟩ }

theorem RI.drew (h : RI C n d r ts hp yc a W) : RI C n d r ts hp yc a { W with drawn := W.drawn + 1 } :=
  h.elsewhere rfl rfl rfl (aA _) λ_ _ => rfl

theorem RI.below (h : RI C n d r ts hp yc a W) {W' : World} (hb : Below W.heap.size W W') : RI C n d r ts hp yc a W' :=
  h.elsewhere hb.os hb.tape hb.output hb.size hb.block

theorem RI.put (h : RI C n d r ts hp yc a W) {dst : Option Tmp} (hd : ∀ d, dst = some d -> d < n) {v : Value} (hv : aL (dom hp) v) : RI C n d r (cJ ts dst v) hp yc (a.put dst (ren r v)) W :=
  { h with
    size := by cases dst <;> simp [Act.put, h.size]
    ext := by cases dst <;> exact h.ext
    rel := h.rel.put (λe he => by rw [h.size]; exact hd e he) hv }

theorem RI.put_undef (h : RI C n d r ts hp yc a W) {dst : Option Tmp} (hd : ∀ d, dst = some d -> d < n) : RI C n d r (cJ ts dst undef) hp yc (a.put dst undef) W := by
  have := h.put hd (mY (dom hp));rwa [kI] at this

theorem aaC {hp : Hp} {ws ns : List (Nat × Blk)} (Sv : ∀ k ∈ ak ws, dom hp k) (k : Nat) : dom (bH hp (ws ++ ns)) k ↔ eo (dom hp) ns k := by
  rw [Bt];unfold eo;constructor
  · rintro (h | h)
    · exact .inl h
    · have : k ∈ ak ws \/ k ∈ ak ns := by simpa [ak] using h
      exact this.elim (λh => .inl (Sv k h)) .inr
  · rintro (h | h)
    · exact .inl h
    · exact .inr (by simp [ak] at h |-; exact .inr h)

theorem RI.after (h : RI C n d r ts hp yc a W) {dst : Option Tmp} (hd : ∀ d, dst = some d -> d < n) {e : Eff} {r' : Nat -> Nat} {W' : World} (hr : ∀ k, dom hp k -> r' k = r k)
    (hv : aL (eo (dom hp) e.ns) e.v) (ht : Turn r' (eo (dom hp) e.ns) W W' e.ws e.ns) (Sv : ∀ k ∈ ak e.ws, dom hp k /\ 100 <= k) (hns : ∀ k ∈ ak e.ns, hp k = none /\ 100 <= k) :
    RI C n d r' (cJ ts dst e.v) (bH hp (e.ws ++ e.ns)) yc (a.put dst (ren r' e.v)) W' := by
  have hD : dom (bH hp (e.ws ++ e.ns)) = eo (dom hp) e.ns := funext λk => propext (aaC (λk hk => (Sv k hk).1) k);have old : ∀ k, eo (dom hp) e.ns k -> dom hp k \/ k ∈ ak e.ns := λk hk => hk;have RL : ∀ k, dom hp k -> r' k < W.heap.size := λk hk => by rw [hr k hk]; exact h.lt hk
  have fr : ∀ k, k ∈ ak e.ns -> W.heap.size <= r' k := λk hk => by
    obtain ⟨p, eG, rfl⟩ := aC.1 hk; exact ht.fresh p eG
  have big : ∀ k ∈ ak (e.ws ++ e.ns), 100 <= k := λk hk => by
    have : k ∈ ak e.ws \/ k ∈ ak e.ns := m9;exact this.elim (λh => (Sv k h).2) (λh => (hns k h).2)
  have arK : Inj r' (eo (dom hp) e.ns) := λk l hk hl hkl => by
    rcases old k hk with hk | hk <;> rcases old l hl with hl | hl
    · exact h.inj k l hk hl (by rw [<- hr k hk, <- hr l hl]; exact hkl)
    · have h1 := RL k hk; have h2 := fr l hl; omega
    · have h1 := RL l hl; have h2 := fr k hk; omega
    · obtain ⟨p, hp1, rfl⟩ := aC.1 hk
      obtain ⟨q, om, rfl⟩ := aC.1 hl;exact ht.apart p hp1 q om hkl
  have base : RI C n d r' ts (bH hp (e.ws ++ e.ns)) yc a W' :=
    { size := h.size
      rel := by rw [hD]; exact h.rel.mono (λk hk => .inl hk) hr
      sat := λk b hk => by
        rw [hD];rcases P8 hk with ⟨h1, h2⟩ | h1
        · have jR : dom hp k := by unfold dom; rw [h1]; simp
          have hs := h.sat k b h1;refine ⟨?_, Blk.ids_mono (λ_ hk => .inl hk) hs.2⟩;rw [ht.same (r' k) (RL k jR) (λp hp1 e1 => ?_), hr k jR, hs.1, Blk.obj_congr hr hs.2];have hp2 : p.1 ∈ ak e.ws := aC.2 ⟨p, hp1, rfl⟩;have : p.1 = k := arK _ _ (.inl (Sv _ hp2).1) (.inl jR) e1;exact h2 (by rw [<- this]; simp [ak] at hp2 |-; exact .inl hp2)
        · exact ht.has _ h1
      inj := by rw [hD]; exact arK
      ext := by
        obtain ⟨S, ms, h1, h2, h3, h4, h5⟩ := h.ext;refine ⟨S, ms, C.E.ok _ _ _ _ h1 (λk hk => ht.same k (h2 k hk) λp hp1 e1 => ?_) ht.os ht.tape ht.output ht.size, λk hk => iQ (h2 k hk) ht.size, λi hi h1i hS => ?_, h4, λD hD => ⟨?_, (h5 D hD).2⟩⟩
        · have hp2 := (Sv _ (aC.2 ⟨p, hp1, rfl⟩)).1
          rw [hr _ hp2] at e1;exact h3 _ hp2 (Sv _ (aC.2 ⟨p, hp1, rfl⟩)).2 (e1 ▸ hk)
        · rw [hD] at hi
          rcases old i hi with hi | hi
          · rw [hr i hi] at hS; exact h3 i hi h1i hS
          · have h6 := h2 _ hS; have h7 := fr i hi; omega
        · rw [ht.same D (aO.1 (h5 D hD).1).1 (λp hp1 e1 => ?_)]
          · exact (h5 D hD).1
          · have hp2 := (Sv _ (aC.2 ⟨p, hp1, rfl⟩)).1
            rw [hr _ hp2] at e1;exact h.ne_mark hp2 (h5 D hD).1 e1
      keep := λi hi => ⟨by rw [hD]; exact .inl (h.keep i hi).1, by rw [hr i (h.keep i hi).1]; exact (h.keep i hi).2⟩
      glob := λk hk => by rw [da (λhm => by have := big k hm; omega)]; exact h.glob k hk
      low := λk hk hd => by
        rw [hD] at hd;rcases old k hd with hd | hd
        · rw [hr k hd]; exact h.low k hk hd
        · have := (hns k hd).2; omega }
  exact base.put hd (by rw [hD]; exact hv)

abbrev Fw (P : Program) (ro : Option Nat) : Fence := { Fs P with round := ro }

theorem lz {ro : Option Nat} {m : Nat} {o : Oper} {R Rp : Value -> World -> Prop} {next : Act -> World -> Prop} {Q : Exit -> Act -> World -> Prop} (B4 : ∀ c, o.op ≠ .defer c) (h : tG P o a W R Rp) (hn : ∀ u W', R u W' -> next (a.put o.dst u) W')
    (hp : ∀ pv W', Rp pv W' -> Q (.panic [{ v := pv, recovered := false }]) a W') : o.wpIn (Fw P ro) m P a W next Q := by
  refine ⟨?_, ?_⟩
  · unfold tG at h
    generalize hx : (execOp a.eval o).run P W = x at h
    cases x with
    | ok nx W' => exact NQ hx
    | halt x W' =>
      cases x <;> first | exact h.elim | (intro f hf; rw [h.1] at hf; cases hf)
  have e : (Fw P ro).round = ro := rfl;rw [e, Oper.semAt_eq ro a.eval o B4];unfold tG at h;generalize (execOp a.eval o).run P W = x at h
  cases x with
  | ok nx W' =>
    cases nx <;> simp only [Oper.uponIn] at h |- <;> first
      | exact hn _ _ h
      | (exact h.elim)
      | (refine ⟨λh => fj, ?_⟩
         refine o5 (⟨h.1, λcs _ => h.2 cs (oR P _)⟩ : CallsIn (Fw P ro) (m - 1) P _ _ _ _) ?_;intro e w'' hr
         cases e with
         | returned u => exact hn _ _ hr
         | panicked ch => obtain ⟨pv, rfl, hr⟩ := hr; exact hp _ _ hr
         | outgrown => exact hr.elim)
  | halt x W' => cases x <;> first | exact h.elim | exact hp _ _ h.2

theorem mB {ops : Array Oper} {o : Oper} {b : Bool} (h : Rel r (dom hp) ts a) (hj : gp ops o ts = some b) : Region.wanted o (yielded ops a.tmps) = b := by
  unfold Region.wanted;unfold gp at hj
  cases hg : o.guard with
  | none => simpa [hg] using hj
  | some g =>
    obtain ⟨j, w⟩ := g;simp only [hg] at hj |-;unfold yielded
    cases hd : (ops[j]?).bind (·.dst) with
    | none => simpa [hd] using hj
    | some t =>
      simp only [hd] at hj;simp only [o4];have ht := h t
      cases hv : ts t with
      | bool c =>
        simp only [hv, bf] at hj;obtain ⟨h1, _⟩ := ht.resolve_left (by rw [hv]; simp [fP]);rw [hv] at h1;simp only [ren, aW, aw, aF] at h1
        cases hq : a.tmps[t]? with
        | none => simp [hq, undef] at h1
        | some u => simp [hq] at h1; subst h1; simpa using hj
      | tuple vs =>
        simp only [hv, bf] at hj;obtain ⟨h1, _⟩ := ht.resolve_left (by rw [hv]; simp [fP]);rw [hv] at h1;simp only [ren] at h1
        cases hq : a.tmps[t]? with
        | none => simpa using hj
        | some u => simp [hq] at h1; subst h1; simpa using hj
      | _ => simp [hv] at hj

def pW (n : Nat) (ops : List Oper) : Bool := ops.all λo => (match o.dst with | some d => decide (d < n) | none => true) && (match o.op with | .defer _ => false | _ => true)
theorem qI {n : Nat} {ops : List Oper} (h : pW n ops = true) {o : Oper} (ho : o ∈ ops) : (∀ d, o.dst = some d -> d < n) /\ ∀ c, o.op ≠ .defer c := by
  have := cX.1 h o ho;simp only [bn] at this;refine ⟨λd hd => ?_, λc hc => ?_⟩
  · have h1 := this.1; simpa [hd] using h1
  · have h2 := this.2; simp [hc] at h2

theorem adJ {ro : Option Nat} {m : Nat} {o : Oper} {e : Eff} {next : Act -> World -> Prop} {Q : Exit -> Act -> World -> Prop} (h : RI C n d r ts hp yc a W) (hd : (∀ d, o.dst = some d -> d < n) /\ ∀ c, o.op ≠ .defer c)
    (ho : OpD P o ts (rst hp e.rs) e) (Sv : ∀ k ∈ ak e.ws, dom hp k /\ 100 <= k) (hns : ∀ k ∈ ak e.ns, hp k = none /\ 100 <= k)
    (hn : ∀ r' a' W', e.pan = none -> RI C n d r' (cJ ts o.dst e.v) (bH hp (e.ws ++ e.ns)) yc a' W' -> next a' W')
    (eG : ∀ pv W', e.pan = some pv -> RI C n d r ts hp yc a W' -> Q (.panic [{ v := pv, recovered := false }]) a W') : o.wpIn (Fw P ro) m P a W next Q := by
  refine lz hd.2 (ho r (dom hp) a W (λt _ => h.rel t) (λk b hk => h.sat k b (mu hk)) h.inj h.low (λk hk => ?_) (λp hp1 => ?_)) ?_ ?_
  · unfold dom at hk |-
    cases hb : rst hp e.rs k with
    | none => exact absurd hb hk
    | some b => rw [mu hb]; simp
  · have := hns _ (aC.2 ⟨p, hp1, rfl⟩)
    exact ⟨by unfold dom; simp [this.1], this.2⟩
  · rintro u W' ⟨oz, r', hr, rfl, hv, ht⟩
    exact hn r' _ _ oz (h.after hd.1 hr hv ht Sv hns)
  · rintro pv W' ⟨oz, hb⟩
    exact eG pv W' oz (h.below hb)

def Zx (P : Program) (C : Ctx) (n : Nat) (d : List Deferred) (ro : Option Nat) (OK : OKP) : Prop :=
  ∀ (o : Oper) (e : Eff) (ts : Nat -> Value) (hp : Hp) (yc : Nat) (r : Nat -> Nat) (a : Act) (W : World) (m : Nat) (next : Act -> World -> Prop) (Q : Exit -> Act -> World -> Prop),
    RI C n d r ts hp yc a W -> ((∀ d, o.dst = some d -> d < n) /\ ∀ c, o.op ≠ .defer c) -> OK.ok o ts yc (rst hp e.rs) e -> (∀ k ∈ ak e.ws, dom hp k /\ 100 <= k) -> (∀ k ∈ ak e.ns, hp k = none /\ 100 <= k) ->
    (∀ r' a' W', e.pan = none -> RI C n d r' (cJ ts o.dst e.v) (bH hp (e.ws ++ e.ns)) (if e.yl then yc + 1 else yc) a' W' -> next a' W') ->
    (∀ pv W' Bw, e.pan = some pv -> RI C n d r ts hp Bw a W' -> Q (.panic [{ v := pv, recovered := false }]) a W') -> o.wpIn (Fw P ro) m P a W next Q

def SC (P : Program) (OK : OKP) : Prop :=
  ∀ (o : Oper) (ts : Nat -> Value) (r : Nat -> Nat) (D : Nat -> Prop) (a : Act) (W : World), Rel r D ts a -> OK.un o ts -> ∀ f, o.about P W a.eval = some f -> (Fs P).fn f

theorem uZ {OK : OKP} {md : Region.Mode} {ops : Array Oper} {base : Nat} {K : St -> Prop} : ∀ (fuel : Nat) (listed : Array Bool) (s : St), Cn OK md ops base K fuel listed s -> ∃ s', K s' /\ (∀ v, s.pn = some v -> s'.pn = some v) /\ (s'.wr = false -> s.wr = false)
  | 0, _, s, h => ⟨s, h.2, λ_ h => h, id⟩
  | fuel + 1, listed, s, h => by
    cases hr : Region.ready md ops listed with
    | nil => exact ⟨s, h.1 hr, λ_ h => h, id⟩
    | cons i l =>
      have h1 := h.2 i (by rw [hr]; simp);unfold gOp at h1
      cases ho : ops[i]? with
      | none => simp only [ho] at h1; exact uZ fuel _ s h1
      | some o =>
        simp only [ho] at h1
        cases hw : gp ops o s.ts with
        | none => rw [hw] at h1; exact h1.elim
        | some b =>
          rw [hw] at h1
          cases b with
          | true =>
            obtain ⟨e, _, _, h4⟩ := h1;obtain ⟨s', k, h5, h6⟩ := uZ fuel _ _ h4;refine ⟨s', k, λv hv => h5 v (by simp [St.after, hv]), λhs => ?_⟩;have := h6 hs; simp only [St.after, lr] at this; exact this.1
          | false =>
            obtain ⟨s', k, h5, h6⟩ := uZ fuel _ _ h1.2;exact ⟨s', k, h5, h6⟩

theorem m8 {ts : Nat -> Value} {dst : Option Tmp} {v : Value} {t : Nat} (h : dst ≠ some t) : cJ ts dst v t = ts t := by
  cases dst with
  | none => rfl
  | some d => exact ao _ _ (λe => h (by rw [e]))
theorem u6 {OK : OKP} {ro : Option Nat} {m : Nat} {md : Region.Mode} {ops : Array Oper} {base : Nat} {K : St -> Prop} {Q : Exit -> Act -> World -> Prop} {hp0 : Hp} {jK : Nat -> Value} (Af : Zx P C n d ro OK) (Zl : SC P OK) (jJ : ∀ o ∈ ops, (∀ d, o.dst = some d -> d < n) /\ ∀ c, o.op ≠ .defer c)
    (hK : ∀ s, K s -> s.pn = none -> ∀ r' a' W', RI C n d r' s.ts s.hp s.yc a' W' -> Q .normal a' W')
    (hP : ∀ s' pv, K s' -> s'.pn = some pv -> s'.wr = false -> ∀ r a W ts hp yc, (∀ k b, hp0 k = some b -> hp k = some b) -> (∀ t, (∀ o ∈ ops, o.dst ≠ some t) -> ts t = jK t) -> RI C n d r ts hp yc a W -> Q (.panic [{ v := pv, recovered := false }]) a W) (CS : ∀ s', K s' -> s'.pn ≠ none -> s'.wr = false) :
    ∀ (fuel : Nat) (listed : Array Bool) (s : St) (r : Nat -> Nat) (a : Act) (W : World), RI C n d r s.ts s.hp s.yc a W -> s.pn = none -> (s.wr = false -> ∀ k b, hp0 k = some b -> s.hp k = some b) -> (∀ t, (∀ o ∈ ops, o.dst ≠ some t) -> s.ts t = jK t) -> Cn OK md ops base K fuel listed s -> wpAnyIn (Fw P ro) m P md ops Q fuel listed a W
  | 0, _, s, r, a, W, hR, oz, hs, Ah, h => ⟨h.1, hK s h.2 oz r a W hR⟩
  | fuel + 1, listed, s, r, a, W, hR, oz, hs, Ah, h => by
    refine ⟨λh0 => hK s (h.1 h0) oz r a W hR, λi hi => ?_⟩;have h1 := h.2 i hi;unfold wpOpIn;unfold gOp at h1
    cases ho : ops[i]? with
    | none => simp only [ho] at h1; exact u6 Af Zl jJ hK hP CS fuel _ s r a W hR oz hs Ah h1
    | some o =>
      simp only [ho] at h1;have hd := jJ o (kW ho)
      cases hw : gp ops o s.ts with
      | none => rw [hw] at h1; exact h1.elim
      | some b =>
        rw [hw] at h1;simp only [mB hR.rel hw]
        cases b with
        | true =>
          obtain ⟨e, h2, h3, h4⟩ := h1;simp only [aV]
          have pZ : (s.after i o e).wr = false -> ∀ k b, hp0 k = some b -> (s.after i o e).hp k = some b := λNH k b hk => by
            simp only [St.after, lr] at NH;have e0 : e.ws = [] := by have := NH.2; simpa using this
            have jR := hs NH.1 k b hk;show bH s.hp (e.ws ++ e.ns) k = some b;rw [e0, bq, da (λhm => by have := h3.nodup k hm; rw [jR] at this; cases this)];exact jR
          refine Af o e s.ts s.hp s.yc r a W m _ _ hR hd h2 (λk hk => (h3.wsrs k hk).2) (λk hk => ⟨h3.nodup k hk, (h3.ids k hk).2.2⟩) ?_ ?_
          · intro r' a' W' hpe Ry
            exact u6 Af Zl jJ hK hP CS fuel _ (s.after i o e) r' a' W' Ry (by simp [St.after, oz, hpe]) pZ (λt ht => (m8 (ht o (kW ho))).trans (Ah t ht)) h4
          · intro pv W' Bw hpe Ry
            obtain ⟨s', k, h5, h6⟩ := uZ fuel _ _ h4;have hp5 := h5 pv (by simp [St.after, oz, hpe]);have hw5 := CS s' k (by rw [hp5]; simp);have hw6 := h6 hw5;simp only [St.after, lr] at hw6;exact hP s' pv k hp5 hw5 r a W' s.ts s.hp Bw (hs hw6.1) Ah Ry
        | false =>
          simp only [kP, cw];exact ⟨Zl o s.ts r _ a W hR.rel h1.1, u6 Af Zl jJ hK hP CS fuel _ (s.pass o) r _ W (hR.put_undef hd.1) oz hs (λt ht => (m8 (ht o (kW ho))).trans (Ah t ht)) h1.2⟩

theorem PG {OK : OKP} {ro : Option Nat} {m : Nat} {id : Nat} {l : List Oper} {base : Nat} {K : St -> Prop} {Q : Exit -> Act -> World -> Prop} (Af : Zx P C n d ro OK) (Zl : SC P OK) (hm : P.follows .mixedOrders = true)
    (hB : Region.lexFrom .any l.toArray l.length 0 (Array.replicate l.length false) = true) (jJ : pW n l = true) (h : RI C n d r ts hp yc a W)
    (hw : CZ OK .any l.toArray base K 0 l ⟨ts, hp, λ_ => ([], []), yc, false, none, false⟩) (hK : ∀ s, K s -> s.pn = none -> ∀ r' a' W', RI C n d r' s.ts s.hp s.yc a' W' -> Q .normal a' W')
    (hP : ∀ s' pv, K s' -> s'.pn = some pv -> s'.wr = false -> ∀ r a W ov eG yc, (∀ k b, hp k = some b -> eG k = some b) -> (∀ t, (∀ o ∈ l, o.dst ≠ some t) -> ov t = ts t) -> RI C n d r ov eG yc a W -> Q (.panic [{ v := pv, recovered := false }]) a W) (CS : ∀ s', K s' -> s'.pn ≠ none -> s'.wr = false) : (Code.region id l.toArray true).wpIn (Fw P ro) m P Q a W := by
  refine wpIn_region_any hm ?_;have := Kk (md := .any) (ops := l.toArray) l 0 (Array.replicate l.length false) ⟨ts, hp, λ_ => ([], []), yc, false, none, false⟩ (λk o _ hl => by rw [jY, mN] at hl; split at hl <;> simp at hl) zS hB hw;have h2 := u6 (C := C) (n := n) (d := d) (Q := Q) (m := m) (hp0 := hp) Af Zl (λo ho => qI jJ sr) hK (λs' pv h1 h2 h3 r a W ov eG yc h4 h5 h6 => hP s' pv h1 h2 h3 r a W ov eG yc h4 (λt ht => h5 t (λo ho => ht o sr)) h6) CS _ _ _ r a _ h.drew rfl (λ_ _ _ h => h) (λ_ _ => rfl) this;simpa using h2

end
theorem aB {p:Prop} (h:p:=by simp;omega):p:=h
abbrev dt := @Array.all_eq_true_iff_forall_mem
abbrev iP := @Array.getElem?_toList
abbrev j0 := @Array.getElem?_map
abbrev rB := @Array.getElem?_extract
abbrev oZ := @Array.toArray_toList
abbrev CH := @Array.mem_or_eq_of_mem_setIfInBounds
abbrev gI := @Array.ext_getElem?
abbrev ag := @if_pos
abbrev kV := @Go.World.putObj_heap_same
abbrev j9 := @Array.toList_map
abbrev aK := @List.mem_map
abbrev du := @Nat.add_zero
abbrev fQ := Value -> Prop

def qK:Value->Bool
 | .pointer (some _)=>false
 | .slice (some _) _ _=>false
 | .map (some _)=>false
 | _=>true
def bU:Value->Bool
 | .func _ first cap=>first.all qK&&cap.all qK
 | .iface _ v=>qK v
 | v=>qK v
def pX:Value->Bool
 | .agg cs=>cs.all bU
 | v=>bU v
def bp:Value->Bool
 | .tuple vs=>vs.all pX
 | v=>pX v

section
variable {r:dR} {D:iH}
theorem fi {f:Value->Value} {xs:ca} (h:∀ x∈xs,f x=x):xs.map f=xs:=by
 have:xs.map f=xs.map id:=bY λx hx=>by simpa using h x hx
 rw [this];simp
theorem y8 {v:Value} (h:qK v=true):aF r v=v:=by unfold qK at h;split at h<;>simp_all [aF]
theorem y7 {v:Value} (h:qK v=true):aP D v:=by unfold qK at h;split at h<;>simp_all [aP]
theorem fY {v:Value} (h:bU v=true):aw r v=v:=by
 unfold bU at h;split at h
 ·simp only [bn] at h;simp only [aw];rw [fi (λx hx=>y8 (dt.1 h.1 x hx)),fi (λx hx=>y8 (dt.1 h.2 x hx))]
 ·simp only [aw];rw [y8 h]
 ·rename_i h1 h2;unfold aw;split
  ·exact absurd rfl (h1 _ _ _)
  ·exact absurd rfl (h2 _ _)
  ·exact y8 h
theorem jm {v:Value} (h:bU v=true):aI D v:=by
 unfold bU at h;split at h
 ·simp only [bn] at h;exact ⟨λx hx=>y7 (dt.1 h.1 x hx),λx hx=>y7 (dt.1 h.2 x hx)⟩
 ·exact y7 (v:=_) h
 ·rename_i h1 h2;unfold aI;split
  ·exact absurd rfl (h1 _ _ _)
  ·exact absurd rfl (h2 _ _)
  ·exact y7 h
theorem Blk.obj_flat {r:dR} {b:Blk} (h:∀ x∈b.c,bU x=true):b.obj r=b.obj0:=by
 obtain ⟨c,T⟩:=b
 cases T with
 | ty t=>unfold Blk.obj Blk.obj0;simp only;rw [fi (λx hx=>fY (h x hx))]
 | raw t fr=>rfl
 | mp=>unfold Blk.obj Blk.obj0;simp only;rw [fi (λx hx=>fY (h x hx))]
theorem Blk.flat_ids {b:Blk} (h:∀ x∈b.c,bU x=true):b.ids D:=Blk.ids_of λx hx=>jm (h x hx)
theorem Lc {v:Value} (h:pX v=true):aW r v=v:=by
 unfold pX at h;split at h
 ·simp only [aW];rw [fi (λx hx=>fY (dt.1 h x hx))]
 ·rename_i h1;unfold aW;split
  ·exact nP
  ·exact fY h
theorem Lb {v:Value} (h:pX v=true):cQ D v:=by
 unfold pX at h;split at h
 ·exact λx hx=>jm (dt.1 h x hx)
 ·rename_i h1;unfold cQ;split
  ·exact nP
  ·exact jm h
theorem bS {v:Value} (h:bp v=true):ren r v=v:=by
 unfold bp at h;split at h
 ·simp only [ren];rw [fi (λx hx=>Lc (dt.1 h x hx))]
 ·rename_i h1;unfold ren;split
  ·exact nP
  ·exact Lc h
theorem bw {v:Value} (h:bp v=true):aL D v:=by
 unfold bp at h;split at h
 ·exact λx hx=>Lb (dt.1 h x hx)
 ·rename_i h1;unfold aL;split
  ·exact nP
  ·exact Lb h
end

def qR:Value->Bool
 | .agg _=>false
 | .tuple _=>false
 | _=>true
theorem PH {r:dR} {v:Value} (h:qR v=true):ren r v=aw r v:=by cases v<;>simp_all [qR,ren,aW]
theorem abP {D:iH} {v:Value} (h:qR v=true):aL D v↔aI D v:=by cases v<;>simp_all [qR,aL,cQ]
theorem Ym {r:dR} {v:Value} (h:qR v=true):qR (aw r v)=true:=by
 cases v with
 | pointer p=>cases p<;>rfl
 | slice p _ _=>cases p<;>rfl
 | map p=>cases p<;>rfl
 | agg _=>simp [qR] at h
 | tuple _=>simp [qR] at h
 | _=>rfl

def gev (ts:fp):Operand->Value
 | .tmp t=>ts t
 | .const v=>v
 | .global g=>.pointer (some ⟨g,0,none⟩)
 | .func f=>.func (.func f) #[] #[]
def nj:Value->Prop
 | .complex _ _ _=>False
 | _=>True
theorem acH {v:Value} (h:nj v):v≠fP:=by intro e;rw [e] at h;exact h
def okX (ts:fp) (hp:Hp):Operand->Prop
 | .tmp t=>nj (ts t)
 | .const v=>bp v=true
 | .global g=>g<100/\(hp g).isSome=true
 | .func _=>True

section
variable {P:Program} {o:Oper} {r:dR} {D:iH} {ts:fp} {a:Act} {hp:Hp}
theorem ev {x:Operand} (h:Ix o r D ts a) (hx:x∈o.op.operands) (hk:okX ts hp x) (bC:∀ k,k<100->D k->r k=k) (hD:∀ k,k<100->dom hp k->D k) :
  a.eval x=ren r (gev ts x)/\aL D (gev ts x):=by
 cases x with
 | tmp t=>exact (h t hx).resolve_left (acH hk)
 | const v=>exact ⟨(bS hk).symm,bw hk⟩
 | global g =>
  obtain ⟨h1,h2⟩:=hk;have hd:D g:=hD g h1 (by unfold dom;intro e;rw [e] at h2;simp at h2);exact ⟨by simp [Act.eval,gev,ren,aW,aw,aF,bC g h1 hd],by simpa [gev,aL,cQ,aI,aP] using hd⟩
 | func f=>exact ⟨by simp [Act.eval,gev,ren,aW,aw],by simp [gev,aL,cQ,aI]⟩

def oe (P:Program) (T:TypeId):Option Bool :=
 match P.underlying T with
 | some (.struct _)=>some true
 | some (.array _ _)=>some true
 | some _=>some false
 | none=>none
def bo (P:Program) (T:TypeId):Option Nat:=(P.info? T).map (·.size)
def dm (P:Program) (T:TypeId):Option Value:=(P.info? T).bind (·.zero)

theorem qC {T:TypeId} {b:Bool} (h:oe P T=some b) (W:World):(isAgg T).run P W=.ok b W:=by
 unfold oe at h;unfold isAgg
 cases hu:P.underlying T with
 | none=>simp [hu] at h
 | some dd =>
  rw [aX,run_underlying hu W];cases dd<;>simp_all
theorem fW {T:TypeId} {m:Nat} (h:bo P T=some m) (W:World):(sizeOf T).run P W=.ok m W:=by
 unfold bo at h
 cases hi:P.info? T with
 | none=>simp [hi] at h
 | some i=>simp [hi] at h;simp [sizeOf,typeInfo,hi,h]
theorem tC {T:TypeId} {z:Value} (h:dm P T=some z) (W:World):(zeroValue T).run P W=.ok z W:=by
 unfold dm at h
 cases hi:P.info? T with
 | none=>simp [hi] at h
 | some i=>simp [hi] at h;simp [zeroValue,typeInfo,hi,h]

def eV (P:Program) (T:TypeId) (c:ca) (off:Nat):Option Value :=
 match oe P T with
 | some true=>match bo P T with
  | some m=>if off+m<=c.size then some (.agg (c.extract off (off+m))) else none
  | none=>none
 | some false=>match c[off]? with
  | some v=>if qR v then some v else none
  | none=>none
 | none=>none

theorem vj {T:TypeId} {c:ca} {off:Nat} {v:Value} (h:eV P T c off=some v) {W:World} {b:Nat} {T':TypeId} {fr:Nat×Nat} (hb:W.heap[b]? = some (.cells (c.map (aw r)) T' fr)) :
  (loadVar T ⟨b,off,none⟩).run P W=.ok (ren r v) W:=by
 unfold eV at h
 cases ha:oe P T with
 | none=>simp [ha] at h
 | some bb =>
  cases bb with
  | true =>
   simp only [ha] at h
   cases hs:bo P T with
   | none=>simp [hs] at h
   | some m =>
    simp only [hs] at h;split at h
    ·rename_i hle;cases h
     have hl:(loadCells ⟨b,off,none⟩ m).run P W=.ok ((c.extract off (off+m)).map (aw r)) W:=by
      have:=run_loadCells_list (P:=P) W ⟨b,off,none⟩ ((c.extract off (off+m)).map (aw r)).toList (λj v hv=>by
       rw [Addr.add_mid,cell_of_row W b (off+j) _ _ _ hb];simp only [iP,j0,rB] at hv;rw [j0];split at hv
       ·exact hv
       ·simp at hv)
      have hlen:((c.extract off (off+m)).map (aw r)).toList.length=m:=aB;rw [hlen] at this;rw [this,oZ]
     simp [loadVar,aX,qC ha,fW hs,hl,ren,aW]
    ·simp at h
  | false =>
   simp only [ha] at h
   cases hc:c[off]? with
   | none=>simp [hc] at h
   | some u =>
    simp only [hc] at h;split at h
    ·rename_i hsc;obtain rfl:u=v:=jz;have abc:W.cell? ⟨b,off,none⟩=some (aw r u):=by rw [cell_of_row W b off _ _ _ hb];simp [hc]
     simp [loadVar,aX,qC ha,load,Sem.run,abc,PH hsc]
    ·simp at h

theorem B7 {T:TypeId} {c:ca} {off:Nat} {v:Value} (h:eV P T c off=some v) (hc:∀ x∈c,aI D x):aL D v:=by
 unfold eV at h;split at h
 ·split at h
  ·split at h
   ·cases h;intro x hx;have:=Array.mem_extract_iff_getElem.1 hx;obtain ⟨k,hk,e⟩:=this;exact e▸hc _ (jV _)
   ·simp at h
  ·simp at h
 ·split at h
  ·rename_i u hu;split at h
   ·rename_i hs;cases h;exact (abP hs).2 (hc _ (kW hu))
   ·simp at h
  ·simp at h
 ·simp at h

def fB (P:Program) (T:TypeId) (b:Blk) (off:Nat):Option Value:=match b.T with
 | .ty _=>eV P T b.c off
 | .raw _ _=>match eV P T b.c off with
  | some v=>if bp v then some v else none
  | none=>none
 | .mp=>none
theorem uR (v:Value):aw (λk=>k) v=v:=by
 have h0:∀ v,aF (λk=>k) v=v:=λv=>by unfold aF;split<;>rfl
 unfold aw;split
 ·have:(aF λk=>k)=id:=funext h0;rw [this];simp
 ·rw [h0]
 ·exact h0 _
theorem zY {T:TypeId} {k off:Nat} {b:Blk} {v:Value} (h:fB P T b off=some v) {W:World} (hb:W.heap[k]? = some (b.obj r)):(loadVar T ⟨k,off,none⟩).run P W=.ok (ren r v) W:=by
 obtain ⟨c,t⟩:=b
 cases t with
 | ty t=>exact vj h hb
 | raw t fr =>
  simp only [fB] at h;split at h
  ·rename_i u hu;split at h
   ·rename_i hf;cases h;have e:c.map (aw λk=>k)=c:=fi λx _=>uR x;have:=vj (r:=λk=>k) hu (W:=W) (b:=k) (T':=t) (fr:=fr) (by rw [e];exact hb);rw [this,bS hf,bS hf]
   ·cases h
  ·cases h
 | mp=>simp [fB] at h
theorem XL {T:TypeId} {b:Blk} {off:Nat} {v:Value} (h:fB P T b off=some v) (hb:b.ids D):aL D v:=by
 obtain ⟨c,t⟩:=b
 cases t with
 | ty t=>exact B7 h hb
 | raw t fr =>
  simp only [fB] at h;split at h
  ·split at h
   ·rename_i hf;cases h;exact bw hf
   ·cases h
  ·cases h
 | mp=>simp [fB] at h
def gv (c:ca) (o:Nat):List Value->Array Value
 | []=>c
 | v::vs=>gv (c.setIfInBounds o v) (o+1) vs
theorem Uy (f:Value->Value) (vs:List Value):∀ (c:ca) (o:Nat),(gv c o vs).map f=gv (c.map f) o (vs.map f):=by
 induction vs with
 | nil=>intro c o;rfl
 | cons v vs ih=>intro c o;simp only [gv,bI];rw [ih,Array.map_setIfInBounds]
theorem Uz {Q:fQ} (vs:List Value) (hv:∀ x∈vs,Q x):∀ (c:ca) (o:Nat),(∀ x∈c,Q x)->∀ x∈gv c o vs,Q x:=by
 induction vs with
 | nil=>intro c o hc;exact hc
 | cons v vs ih =>
  intro c o hc;refine ih (λx hx=>hv x (aD _ hx)) _ _ (λx hx=>?_);rcases CH hx with h|h
  ·exact hc x h
  ·exact h▸hv v zS

theorem J1 {x:Addr} {v u:Value} (hv:qR v=true) {W:World} (hu:W.cell? x=some u) (hf:W.frozen? x=false):(store x v).run P W=.ok () (W.setCell x v):=by
 unfold store
 cases v with
 | agg _=>simp [qR] at hv
 | tuple _=>simp [qR] at hv
 | _=>simp [Sem.run,hu,hf]

theorem Ar {b:Nat} {T:TypeId} (vs:List Value) (h1:∀ v∈vs,qR v=true):∀ (c:ca) (o i:Nat) (W:World),W.heap[b]? = some (.cells c T (0,0))->o+i+vs.length<=c.size ->
  (storeCells ⟨b,o,none⟩ vs i).run P W=.ok () (W.putObj b (.cells (gv c (o+i) vs) T (0,0))):=by
 induction vs with
 | nil =>
  intro c o i W hb _;obtain ⟨dp,he⟩:=aO.1 hb
  have:W.putObj b (.cells c T (0,0))=W:=by
   unfold World.putObj
   have:W.heap.setIfInBounds b (.cells c T (0,0))=W.heap:=by
    apply gI;intro k;by_cases e:b=k
    ·subst e;simp [he,dp]
    ·simp [vV e]
   rw [this]
  simp [storeCells,gv,this]
 | cons v vs ih =>
  intro c o i W hb hle;simp only [fH] at hle;obtain ⟨dp,he⟩:=aO.1 hb
  have abc:(W.cell? ⟨b,o+i,none⟩).isSome=true:=by
   rw [cell_of_row W b (o+i) _ _ _ hb];simp;omega
  obtain ⟨u,hu⟩:=Option.isSome_iff_exists.1 abc;have CP:W.frozen? ⟨b,o+i,none⟩=false:=by simp [World.frozen?,hb]
  have hv:=h1 v zS
  have AU:W.setCell ⟨b,o+i,none⟩ v=W.putObj b (.cells (c.setIfInBounds (o+i) v) T (0,0)):=by
   unfold World.setCell World.putObj;congr 1;apply gI;intro k;by_cases e:b=k
   ·subst e;rw [Array.getElem?_modify,ag rfl,hb];simp [dp]
   ·simp [Array.getElem?_modify,e,vV e]
  have Af:(store ⟨b,o+i,none⟩ v).run P W=.ok () (W.putObj b (.cells (c.setIfInBounds (o+i) v) T (0,0))):=by
   rw [<-AU];exact J1 hv hu CP
  have Vr:(W.putObj b (.cells (c.setIfInBounds (o+i) v) T (0,0))).heap[b]? = some (.cells (c.setIfInBounds (o+i) v) T (0,0)):=kV dp;have:=ih (λx hx=>h1 x (aD _ hx)) (c.setIfInBounds (o+i) v) o (i+1) _ Vr aB;simp only [storeCells,aX,Addr.add_mid,Af,bJ,this];simp only [gv,World.putObj];congr 2
  ·simp [o8]

def cellsOf (v:Value):Array Value:=v.cells
theorem tJ {v:Value} (h:∀ vs,v≠.tuple vs):(ren r v).cells=v.cells.map (aw r):=by
 cases v with
 | agg cs=>simp [ren,aW,Value.cells]
 | tuple vs=>exact absurd rfl (h vs)
 | pointer p=>cases p<;>simp [ren,aW,aw,aF,Value.cells]
 | slice p _ _=>cases p<;>simp [ren,aW,aw,aF,Value.cells]
 | map p=>cases p<;>simp [ren,aW,aw,aF,Value.cells]
 | _=>simp [ren,aW,aw,aF,Value.cells]
theorem tI {v:Value} (h:∀ vs,v≠.tuple vs) (hv:aL D v):∀ x∈v.cells,aI D x:=by
 cases v with
 | agg cs=>exact hv
 | tuple vs=>exact absurd rfl (h vs)
 | _=>intro x hx;simp [Value.cells] at hx;subst hx;exact hv

def cI:Value->Bool
 | .tuple _=>false
 | .agg cs=>cs.all qR
 | .complex _ _ _=>false
 | _=>true
theorem jg {v:Value} (h:cI v=true):∀ vs,v≠.tuple vs:=by intro vs e;rw [e] at h;simp [cI] at h
theorem Nd {v:Value} (h:cI v=true):∀ x∈v.cells,qR x=true:=by
 cases v with
 | agg cs=>exact λx hx=>dt.1 h x hx
 | tuple vs=>simp [cI] at h
 | _=>intro x hx;simp [Value.cells] at hx;subst hx;simp_all [qR,cI]

theorem Ci {T:TypeId} {c:ca} {off:Nat} {v:Value} (hv:cI v=true) (hs:bo P T=some v.cells.size) (hle:off+v.cells.size<=c.size) {W:World} {b:Nat} {T':TypeId}
  (hb:W.heap[b]? = some (.cells (c.map (aw r)) T' (0,0))) :
  (storeVar T ⟨b,off,none⟩ (ren r v)).run P W=.ok () (W.putObj b (.cells ((gv c off v.cells.toList).map (aw r)) T' (0,0))):=by
 have hc:=tJ (r:=r) (jg hv)
 have:=Ar (P:=P) (T:=T') (b:=b) (v.cells.map (aw r)).toList (λx hx=>by
  simp only [j9,aK] at hx;obtain ⟨y,hy,rfl⟩:=hx;exact Ym (Nd hv y (by simpa using hy))) (c.map (aw r)) off 0 W hb (by simpa using hle)
 simp only [du] at this;rw [Uy];simp only [j9] at this;simp [storeVar,aX,fW hs,hc,this]
end
theorem su {p:Prop} (h:p:=by unfold eqGuard;split<;>rfl):p:=h
theorem Dy {p:Prop} (h:p:=by unfold CK at hb;split at hb<;>simp_all):p:=h
theorem GJ {p:Prop} (h:p:=by
 split at h
 ·cases h;rename_i hb;refine ⟨?_,rfl⟩;have:¬b<0:=zO;simp [binOp,Op.shift,this]
 ·cases h):p:=h
theorem D5 {p:Prop} (h:p:=by
 split at h
 ·split at h
  ·cases h
  ·cases h;rename_i hk hb;subst hk;exact ⟨by simp [binOp,Op.intDiv,hb],rfl⟩
 ·cases h):p:=h
theorem Gb {p:Prop} (h:p:=by
 unfold OW at hi;split at hi
 ·rename_i kk h1 h2;split at h
  ·rename_i k a k' b e1 e2;split at h
   ·rename_i e;subst e;cases h;exact ⟨_,_,LK h2 e1 W,LK h2 e2 W,by simp [Op.equalIn,run_underlying h1]⟩
   ·cases h
  ·cases h
 ·cases hi):p:=h
theorem FH {p:Prop} (h:p:=by
 have hnf:=hn f zS;cases a
 ·simp [Op.eqFields,hnf,p1,p2,p3]
 ·simp [Op.eqFields,hnf,p1,p2,p3,ih]):p:=h
theorem F0 {p:Prop} (h:p:=by
 split at h
 ·rename_i hs;cases h;unfold Ux at hs;split at hs
  ·rename_i e hu;exact ⟨by simp only [aX,hg,bJ,binOp,run_equal_slice_nil W T e p l c hu,cK],rfl⟩
  ·cases hs
 ·cases h):p:=h
abbrev rU := @List.drop_eq_nil_of_le
abbrev CD := @List.drop_eq_getElem_cons
abbrev jw := @Array.getElem?_eq_getElem
abbrev ft := @List.map_nil
abbrev rF := @Bool.or_eq_true
abbrev oV := @List.any_eq_false
abbrev cK := @Go.Sem.run_pure

def jS (op:BinOp) (k:IntKind) (a b:Int):Int :=
 match op with
 | .and=>k.wrap (BitVec.ofInt k.bits a &&& BitVec.ofInt k.bits b).toNat
 | .or=>k.wrap (BitVec.ofInt k.bits a ||| BitVec.ofInt k.bits b).toNat
 | .xor=>k.wrap (BitVec.ofInt k.bits a ^^^ BitVec.ofInt k.bits b).toNat
 | _=>k.wrap (BitVec.ofInt k.bits a &&& ~~~ BitVec.ofInt k.bits b).toNat

def uI (op:BinOp) (k:IntKind) (a:Int) (k':IntKind) (b:Int):Option Value :=
 match op with
 | .shl=>if 0<=b then some (.int k (k.wrap (a*2^min b.toNat k.bits))) else none
 | .shr=>if 0<=b then some (.int k (a.fdiv (2^min b.toNat k.bits))) else none
 | .add=>if k=k' then some (.int k (k.wrap (a+b))) else none
 | .sub=>if k=k' then some (.int k (k.wrap (a - b))) else none
 | .mul=>if k=k' then some (.int k (k.wrap (a*b))) else none
 | .quo=>if k=k' then if b=0 then none else some (.int k (k.wrap (a.tdiv b))) else none
 | .rem=>if k=k' then if b=0 then none else some (.int k (a.tmod b)) else none
 | .and=>if k=k' then some (.int k (jS .and k a b)) else none
 | .or=>if k=k' then some (.int k (jS .or k a b)) else none
 | .xor=>if k=k' then some (.int k (jS .xor k a b)) else none
 | .andNot=>if k=k' then some (.int k (jS .andNot k a b)) else none
 | .eql=>if k=k' then some (.bool (a==b)) else none
 | .neq=>if k=k' then some (.bool (a != b)) else none
 | .lss=>if k=k' then some (.bool (a<b)) else none
 | .leq=>if k=k' then some (.bool (a<=b)) else none
 | .gtr=>if k=k' then some (.bool (b<a)) else none
 | .geq=>if k=k' then some (.bool (b<=a)) else none

def HN:List Value->List Value->Option Bool
 | [],[]=>some true
 | .int k a::xs,.int k' b::ys=>if k=k' then match HN xs ys with
  | some r=>some (a==b&&r)
  | none=>none
  else none
 | _,_=>none

def CK (P:Program) (T:TypeId):Bool:=match P.underlying T with|some .bool=>true|_=>false
def BM (P:Program) (T:TypeId):Option Nat :=
 match P.underlying T with
 | some (.array n e)=>match P.underlying e with
  | some (.int _)=>match bo P e with
   | some 1=>if P.eqGuardType P.depth T then none else some n
   | _=>none
  | _=>none
 | _=>none

def HK (P:Program) (T:TypeId) (xs ys:ca):Option Bool :=
 match BM P T with
 | some n=>if xs.size=n/\ys.size=n then HN xs.toList ys.toList else none
 | none=>none

def ID (P:Program) (T:TypeId):Option Nat :=
 match BM P T,bo P T,oe P T with
 | some n,some m,some true=>if m=n then some n else none
 | _,_,_=>none
def OW (P:Program) (T:TypeId):Bool :=
 match P.underlying T,oe P T with
 | some (.int _),some false=>true
 | _,_=>false
def aaP (P:Program) (T off:Nat) (xs ys:ca):Option Bool :=
 match ID P T with
 | some n=>if off+n<=xs.size/\off+n<=ys.size then HK P T (xs.extract off (off+n)) (ys.extract off (off+n)) else none
 | none=>if OW P T=true then match xs[off]?,ys[off]? with
   | some (.int k a),some (.int k' b)=>if k=k' then some (a==b) else none
   | _,_=>none
  else none
def KD (P:Program) (xs ys:ca):List (TypeId×Nat)->Option Bool
 | []=>some true
 | f::fs=>match aaP P f.1 f.2 xs ys,KD P xs ys fs with
  | some a,some b=>some (a&&b)
  | _,_=>none
def r6 (P:Program) (T:TypeId):Option (List (TypeId×Nat)) :=
 match P.underlying T with
 | some (.struct fs) => if P.stoodInHeld T || P.eqGuardType P.depth T || fs.toList.any (λf => f.name == "_") then none else some (fs.toList.map λf => (f.type, f.offset))
 | _=>none
def snF (P:Program) (T:TypeId):Option (List (TypeId×Nat)×Nat) :=
 match r6 P T,bo P T,oe P T with
 | some l,some m,some true=>some (l,m)
 | _,_,_=>none
def aaR (P:Program) (o:Option (List (TypeId×Nat)×Nat)) (off:Nat) (xs ys:ca):Option Bool :=
 match o with
 | some (l,m)=>if off+m<=xs.size/\off+m<=ys.size then KD P (xs.extract off (off+m)) (ys.extract off (off+m)) l else none
 | none=>none
def aaQ (P:Program) (T off:Nat) (xs ys:ca):Option Bool :=
 match ID P T with
 | some n=>if off+n<=xs.size/\off+n<=ys.size then HK P T (xs.extract off (off+n)) (ys.extract off (off+n)) else none
 | none=>if OW P T=true then match xs[off]?,ys[off]? with
   | some (.int k a),some (.int k' b)=>if k=k' then some (a==b) else none
   | _,_=>none
  else aaR P (snF P T) off xs ys
def My (P:Program) (xs ys:ca):List (TypeId×Nat)->Option Bool
 | []=>some true
 | f::fs=>match aaQ P f.1 f.2 xs ys,My P xs ys fs with
  | some a,some b=>some (a&&b)
  | _,_=>none
def KW (P:Program) (T:TypeId) (n:Option Nat) (st:Option (List (TypeId×Nat))) (xs ys:ca):Option Bool :=
 match n with
 | some _=>HK P T xs ys
 | none=>match st with
  | some l=>if (xs.all bU&&ys.all bU)=true then My P xs ys l else none
  | none=>none
def Mj (P:Program) (T:TypeId) (xs ys:ca):Option Bool:=KW P T (BM P T) (r6 P T) xs ys
def Ux (P:Program) (T:TypeId):Bool:=match P.underlying T with|some (.slice _)=>true|_=>false
def zq (P:Program) (op:BinOp) (T:TypeId) (x y:Value):Option Value :=
 match x,y with
 | .int k a,.int k' b=>uI op k a k' b
 | .bool a,.bool b=>match op with
  | .eql=>if CK P T then some (.bool (a==b)) else none
  | .neq=>if CK P T then some (.bool (a != b)) else none
  | _=>none
 | .agg xs,.agg ys=>match op with
  | .eql=>match Mj P T xs ys with
   | some r=>some (.bool r)
   | none=>none
  | .neq=>match Mj P T xs ys with
   | some r=>some (.bool (!r))
   | none=>none
  | _=>none
 | .slice p _ _,.slice none 0 0=>match op with
  | .eql=>if Ux P T then some (.bool p.isNone) else none
  | .neq=>if Ux P T then some (.bool (!p.isNone)) else none
  | _=>none
 | _,_=>none

def un1 (op:UnOp) (x:Value):Option Value :=
 match op,x with
 | .neg,.int k a=>some (.int k (k.wrap (0 - a)))
 | .xor,.int k a=>some (.int k (jS .xor k (if k.signed then -1 else k.max) a))
 | .not,.bool b=>some (.bool !b)
 | _,_=>none

def AD (P:Program) (src dst:TypeId) (x:Value):Option Value :=
 match P.underlying src,P.underlying dst,x with
 | some _,some (.int k),.int _ n=>some (.int k (k.wrap n))
 | _,_,_=>none

section
variable {P:Program}

theorem TF {op:BinOp} {T:TypeId} {k k':IntKind} {a b:Int} {v:Value} (h:uI op k a k' b=some v) (W:World) :
  (binOp op T (.int k a) (.int k' b)).run P W=.ok v W/\bp v=true:=by
 cases op<;>simp only [uI] at h
 case shl =>
  exact GJ
 case shr =>
  exact GJ
 case quo =>
  exact D5
 case rem =>
  exact D5
 all_goals
  split at h
  ·cases h;rename_i hk;subst hk;exact ⟨by simp [binOp,Op.intArith,Op.intBits,Op.intCmp,jS],rfl⟩
  ·cases h

theorem LJ {e:TypeId} {kk:IntKind} (hu:P.underlying e=some (.int kk)) {cs:ca} {i:Nat} {v:Value} (h:cs[i]? = some v) (W:World):(part e cs (i*1)).run P W=.ok v W:=by
 have ha:(isAgg e).run P W=.ok false W:=qC (by simp [oe,hu]) W;simp [part,ha,h]

theorem vi {d:Nat} {e:TypeId} {kk:IntKind} (hu:P.underlying e=some (.int kk)) (W:World):∀ (m j:Nat) (xs ys:ca) (r:Bool),j+m=xs.size->j+m=ys.size->HN (xs.toList.drop j) (ys.toList.drop j)=some r ->
  (Op.eqItems (d+1) e 1 xs ys (List.range' j m)).run P W=.ok r W
 | 0,j,xs,ys,r,hx,hy,h=>by
  rw [rU aB,rU aB] at h;simp only [HN,bf] at h;subst h;simp [Op.eqItems]
 | m+1,j,xs,ys,r,hx,hy,h=>by
  have hjx:j<xs.size:=zO;have hjy:j<ys.size:=zO;rw [CD (l:=xs.toList) (by simpa using hjx),CD (l:=ys.toList) (by simpa using hjy)] at h;have gx:xs[j]? = some xs[j]:=jw hjx;have gy:ys[j]? = some ys[j]:=jw hjy;simp only [Array.getElem_toList] at h;generalize xs[j]=x at *
  generalize ys[j]=y at *
  unfold HN at h;split at h
  ·rename_i e1 _;cases e1
  ·rename_i k a xs' k' b ys' e1 e2;simp only [List.cons.injEq] at e1 e2;obtain ⟨rfl,rfl⟩:=e1;obtain ⟨rfl,rfl⟩:=e2;split at h
   ·rename_i hk;subst hk;split at h
    ·rename_i q hq;cases h;have my:=vi (d:=d) hu W m (j+1) xs ys q zO zO hq;have heq:(Op.equalIn (d+1) e (.int k a) (.int k b)).run P W=.ok (a==b) W:=by simp [Op.equalIn,run_underlying hu]
     simp only [List.range'_succ,Op.eqItems,aX,LJ hu gx,LJ hu gy,bJ,heq];cases RX:a==b
     ·simp
     ·simpa using my
    ·cases h
   ·cases h
  ·cases h

theorem z4 {T:TypeId} {xs ys:ca} {r:Bool} (d:Nat) (h:HK P T xs ys=some r) (W:World):(Op.equalIn (d+2) T (.agg xs) (.agg ys)).run P W=.ok r W/\P.eqGuardType P.depth T=false:=by
 unfold HK at h;split at h
 ·rename_i n hn;split at h
  ·rename_i hs;unfold BM at hn;split at hn
   ·rename_i m e hu;split at hn
    ·rename_i kk hue;split at hn
     ·rename_i Ag;split at hn
      ·cases hn
      ·rename_i hg;cases hn;refine ⟨?_,by simpa using hg⟩;unfold bo at Ag
       cases hi:P.info? e with
       | none=>simp [hi] at Ag
       | some i =>
        have ot:i.size=1:=by simpa [hi] using Ag
        have hc:P.cellsOf e=1:=by simp [Program.cellsOf,hi,ot]
        rw [run_equalIn_array W (d+1) xs ys hu hi,hc,List.range_eq_range'];exact vi (d:=d) hue W _ 0 xs ys r zO zO jz
     ·cases hn
    ·cases hn
   ·cases hn
  ·cases h
 ·cases h

theorem qD {T:TypeId} {m off:Nat} {xs:ca} (h1:oe P T=some true) (h2:bo P T=some m) (h:off+m<=xs.size) (W:World):(part T xs off).run P W=.ok (.agg (xs.extract off (off+m))) W:=by
 have ha:=qC h1 W;have hs:=fW h2 W;simp [part,ha,hs,h]
theorem LK {T:TypeId} {off:Nat} {xs:ca} {v:Value} (h1:oe P T=some false) (h:xs[off]? = some v) (W:World):(part T xs off).run P W=.ok v W:=by
 have ha:=qC h1 W;simp [part,ha,h]
theorem Tf {T off:Nat} {xs ys:ca} {r:Bool} (d:Nat) (h:aaP P T off xs ys=some r) (W:World) :
  ∃ a b,(part T xs off).run P W=.ok a W/\(part T ys off).run P W=.ok b W/\(Op.equalIn (d+2) T a b).run P W=.ok r W:=by
 unfold aaP at h;split at h
 ·rename_i n hn;split at h
  ·rename_i hs;unfold ID at hn;split at hn
   ·rename_i n' m h1 h2 h3;split at hn
    ·rename_i e;cases hn;subst e;exact ⟨_,_,qD h3 h2 hs.1 W,qD h3 h2 hs.2 W,(z4 d h W).1⟩
    ·cases hn
   ·cases hn
  ·cases h
 ·split at h
  ·rename_i hi;exact Gb
  ·cases h
theorem IZ {xs ys : Array Value} (d : Nat) (W : World) : ∀ (fs : List Field) (r : Bool), (∀ f ∈ fs, f.name ≠ "_") -> KD P xs ys (fs.map λf => (f.type, f.offset)) = some r -> (Op.eqFields (d + 2) xs ys fs).run P W = .ok r W
 | [],r,_,h=>by
  simp only [ft,KD,bf] at h;subst h;rfl
 | f::fs,r,hn,h=>by
  simp only [bI,KD] at h;split at h
  ·rename_i a b ha hb;cases h;obtain ⟨x,y,p1,p2,p3⟩:=Tf d ha W;have ih:=IZ d W fs b (λg hg=>hn g (aD _ hg)) hb;exact FH
  ·cases h
theorem I1 {T:TypeId} {l:List (TypeId×Nat)} {xs ys:ca} {r:Bool} (d:Nat) (hl:r6 P T=some l) (h:KD P xs ys l=some r) (W:World):(Op.equalIn (d+3) T (.agg xs) (.agg ys)).run P W=.ok r W:=by
 unfold r6 at hl;split at hl
 ·rename_i fs hu;split at hl
  ·cases hl
  ·rename_i hc;cases hl;simp only [rF,not_or,Bool.not_eq_true] at hc;have Dz:P.fieldsOf T=fs:=by unfold Program.fieldsOf;rw [hu]
   have e:=run_equalIn_struct (P:=P) W (d+2) T xs ys (by rw [Dz];exact hu) hc.1.1;rw [Dz] at e
   have:=IZ d W fs.toList r (λf hf hn=>by
    have:=oV.1 hc.2 f hf;simp [hn] at this) h
   exact e.trans this
 ·cases hl
theorem Tg {T off:Nat} {xs ys:ca} {r:Bool} (d:Nat) (h:aaQ P T off xs ys=some r) (W:World) :
  ∃ a b,(part T xs off).run P W=.ok a W/\(part T ys off).run P W=.ok b W/\(Op.equalIn (d+3) T a b).run P W=.ok r W:=by
 unfold aaQ at h;split at h
 ·rename_i n hn;split at h
  ·rename_i hs;unfold ID at hn;split at hn
   ·rename_i n' m h1 h2 h3;split at hn
    ·rename_i e;cases hn;subst e;exact ⟨_,_,qD h3 h2 hs.1 W,qD h3 h2 hs.2 W,(z4 (d+1) h W).1⟩
    ·cases hn
   ·cases hn
  ·cases h
 ·split at h
  ·rename_i hi;exact Gb
  ·unfold aaR at h;split at h
   ·rename_i l m hs;unfold snF at hs;split at hs
    ·rename_i l' m' h1 h2 h3;cases hs;split at h
     ·rename_i Ag;exact ⟨_,_,qD h3 h2 Ag.1 W,qD h3 h2 Ag.2 W,I1 d h1 h W⟩
     ·cases h
    ·cases hs
   ·cases h
theorem I0 {xs ys : Array Value} (d : Nat) (W : World) : ∀ (fs : List Field) (r : Bool), (∀ f ∈ fs, f.name ≠ "_") -> My P xs ys (fs.map λf => (f.type, f.offset)) = some r -> (Op.eqFields (d + 3) xs ys fs).run P W = .ok r W
 | [],r,_,h=>by
  simp only [ft,My,bf] at h;subst h;rfl
 | f::fs,r,hn,h=>by
  simp only [bI,My] at h;split at h
  ·rename_i a b ha hb;cases h;obtain ⟨x,y,p1,p2,p3⟩:=Tg d ha W;have ih:=I0 d W fs b (λg hg=>hn g (aD _ hg)) hb;exact FH
  ·cases h
theorem IA {T:TypeId} {xs ys:ca} {r:Bool} (h:Mj P T xs ys=some r) (W:World):(Op.equal T (.agg xs) (.agg ys)).run P W=.ok r W/\P.eqGuardType P.depth T=false:=by
 unfold Mj KW at h;split at h
 ·exact z4 9998 h W
 ·split at h
  ·rename_i l hl;split at h
   ·unfold r6 at hl;split at hl
    ·rename_i fs hu;split at hl
     ·cases hl
     ·rename_i hc;cases hl;simp only [rF,not_or,Bool.not_eq_true] at hc;have Dz:P.fieldsOf T=fs:=by unfold Program.fieldsOf;rw [hu]
      refine ⟨?_,hc.1.2⟩;have e:=run_equalIn_struct (P:=P) W 9999 T xs ys (by rw [Dz];exact hu) hc.1.1;rw [Dz] at e
      have:=I0 9996 W fs.toList r (λf hf hn=>by
       have:=oV.1 hc.2 f hf;simp [hn] at this) h
      exact e.trans this
    ·cases hl
   ·cases h
  ·cases h
theorem SN {op:BinOp} {T:TypeId} {x y:Value} {ox oy:Operand} {v:Value} (h:zq P op T x y=some v) (W:World) :
  (do eqGuard op T ox oy x y;binOp op T x y).run P W=.ok v W/\bp v=true:=by
 unfold zq at h;split at h
 ·rename_i k a k' b;have h1:=TF (P:=P) (T:=T) h W;refine ⟨?_,h1.2⟩;have hg:(eqGuard op T ox oy (.int k a) (.int k' b)).run P W=.ok () W:=su;simp only [aX,hg,bJ,h1.1]
 ·rename_i a b;have hg:(eqGuard op T ox oy (.bool a) (.bool b)).run P W=.ok () W:=su;split at h
  ·split at h
   ·rename_i hb;cases h;have hu:P.underlying T=some .bool:=Dy;exact ⟨by simp only [aX,hg,bJ,binOp,run_equal_bool W T a b hu,cK],rfl⟩
   ·cases h
  ·split at h
   ·rename_i hb;cases h;have hu:P.underlying T=some .bool:=Dy;exact ⟨by simp only [aX,hg,bJ,binOp,run_equal_bool W T a b hu,cK];cases a<;>cases b<;>rfl,rfl⟩
   ·cases h
  ·cases h
 ·rename_i xs ys;split at h
  ·split at h
   ·rename_i r hr;cases h;have h1:=IA hr W;have hg:(eqGuard .eql T ox oy (.agg xs) (.agg ys)).run P W=.ok () W:=by simp [eqGuard,h1.2]
    exact ⟨by simp [aX,hg,binOp,h1.1],rfl⟩
   ·cases h
  ·split at h
   ·rename_i r hr;cases h;have h1:=IA hr W;have hg:(eqGuard .neq T ox oy (.agg xs) (.agg ys)).run P W=.ok () W:=by simp [eqGuard,h1.2]
    exact ⟨by simp [aX,hg,binOp,h1.1],rfl⟩
   ·cases h
  ·cases h
 ·rename_i p l c;have hg:(eqGuard op T ox oy (.slice p l c) (.slice none 0 0)).run P W=.ok () W:=su;split at h
  ·exact F0
  ·exact F0
  ·cases h
 ·cases h

theorem YO {op:UnOp} {x v:Value} (h:un1 op x=some v) (W:World):(Op.unary op x).run P W=.ok v W/\bp v=true:=by
 unfold un1 at h;split at h
 ·cases h;exact ⟨by simp [Op.unary,Op.intArith],rfl⟩
 ·cases h;exact ⟨by simp [Op.unary,Op.intBits,jS],rfl⟩
 ·cases h;exact ⟨by simp [Op.unary],rfl⟩
 ·cases h

theorem N4 {src dst:TypeId} {x v:Value} (h:AD P src dst x=some v) (W:World):(convert src dst x).run P W=.ok v W/\bp v=true:=by
 unfold AD at h;split at h
 ·rename_i u k kk m hs hd;cases h;refine ⟨?_,rfl⟩;unfold convert;simp only [aX,run_underlying hs,run_underlying hd,bJ];cases u<;>simp [Conv.intToInt]
 ·cases h
end
abbrev o7 := @Option.map_eq_some_iff
abbrev bj := @List.cons_append
abbrev gH := @List.map_toArray
def mpC (l:List (ByteArray×Value)):Array Value:=(l.flatMap λp=>[Value.string p.1,p.2]).toArray
def mpB (l:List (ByteArray×Value)):Blk:=⟨mpC l,.mp⟩
def Nu:List Value->Option (List (ByteArray×Value))
 | []=>some []
 | .string s::v::l=>(Nu l).map ((s,v)::·)
 | _=>none
def TW (b:Blk):Option (List (ByteArray×Value)):=match b.T with
 | .mp=>Nu b.c.toList
 | _=>none
theorem Wu:∀ l:List (ByteArray×Value),Nu (l.flatMap λp=>[Value.string p.1,p.2])=some l
 | []=>rfl
 | p::l=>by simp [Nu,Wu l]
theorem P7:∀ (cs:List Value) (l:List (ByteArray×Value)),Nu cs=some l->cs=l.flatMap λp=>[Value.string p.1,p.2]
 | [],l,h=>by simp [Nu] at h;subst h;rfl
 | [v],l,h=>by cases v<;>simp [Nu] at h
 | k::v::cs,l,h=>by
  cases k with
  | string s =>
   simp only [Nu,o7] at h;obtain ⟨l',h1,rfl⟩:=h;rw [P7 cs l' h1];simp
  | _=>simp [Nu] at h
theorem Pj (l:List (ByteArray×Value)):TW (mpB l)=some l:=by simp [TW,mpB,mpC,Wu]
theorem Ph {b:Blk} {l:List (ByteArray×Value)} (h:TW b=some l):b=mpB l:=by
 obtain ⟨c,T⟩:=b
 cases T with
 | mp =>
  simp only [TW] at h;unfold mpB mpC;rw [<-P7 _ _ h]
 | _=>simp [TW] at h
def ix (s:ByteArray):List (ByteArray×Value)->Option Value
 | []=>none
 | p::l=>if (s==p.1)=true then some p.2 else ix s l
def vm (r:dR):List (ByteArray×Value)->Nat->List MapEntry
 | [],_=>[]
 | p::l,i=>⟨.string p.1,aw r p.2,i⟩::vm r l (i+1)
theorem Oc (r:dR):∀ (l:List (ByteArray×Value)) (i:Nat),(vm r l i).length=l.length
 | [],_=>rfl
 | p::l,i=>by simp [vm,Oc r l]
theorem VR (r:dR):∀ (l:List (ByteArray×Value)) (i:Nat),mpL ((l.flatMap λp=>[Value.string p.1,p.2]).map (aw r)) i=vm r l i
 | [],_=>rfl
 | p::l,i=>by
  simp only [List.flatMap_cons,bj,bq,bI,mpL,vm,VR r l]
  rfl
theorem Na (r:dR) (l:List (ByteArray×Value)):(mpB l).obj r=.map (vm r l 0).toArray l.length:=by
 unfold Blk.obj mpB acp mpC;simp only [gH,VR,Oc]
theorem Ob (r:dR) (q:ByteArray×Value):∀ (l:List (ByteArray×Value)) (i:Nat),vm r (l++[q]) i=vm r l i++[⟨.string q.1,aw r q.2,i+l.length⟩]
 | [],i=>by simp [vm]
 | p::l,i=>by simp only [bj,vm,Ob r q l,fH];rw [(zO:i+1+l.length=i+(l.length+1))]
theorem K8 (r:dR) (s:ByteArray):∀ (l:List (ByteArray×Value)) (i j:Nat),ix s l=none->Instr.findNow .string (.string s) (vm r l i) j=some none
 | [],_,_,_=>rfl
 | p::l,i,j,h=>by
  simp only [ix] at h;split at h
  ·cases h
  ·rename_i hc;simp only [vm,Instr.findNow,Instr.sameNow];rw [show (s==p.1)=false by simpa using hc];exact K8 r s l (i+1) (j+1) h
theorem K9 (r:dR) (s:ByteArray) {v:Value}:∀ (l:List (ByteArray×Value)) (i j:Nat),ix s l=some v->∃ k,Instr.findNow .string (.string s) (vm r l i) j=some (some (k,aw r v))
 | [],_,_,h=>fj
 | p::l,i,j,h=>by
  simp only [ix] at h;split at h
  ·rename_i hc;cases h;simp only [vm,Instr.findNow,Instr.sameNow,hc];exact ⟨j,rfl⟩
  ·rename_i hc;simp only [vm,Instr.findNow,Instr.sameNow];rw [show (s==p.1)=false by simpa using hc];exact K9 r s l (i+1) (j+1) h
def qT (P:Program) (T:TypeId):Bool:=match P.underlying T with
 | some (.map kt _)=>(match P.underlying kt with|some .string=>true|_=>false)
 | _=>false
theorem LP {P:Program} {T:TypeId} (h:qT P T=true):∃ kt e,P.underlying T=some (.map kt e)/\P.underlying kt=some .string:=by
 unfold qT at h;split at h
 ·rename_i kt e hk;split at h
  ·rename_i hs;exact ⟨kt,e,hk,hs⟩
  ·cases h
 ·cases h
section
variable {P:Program} {T:TypeId} {W:World} {k:Nat} {s:ByteArray} {r:dR} {l:List (ByteArray×Value)}
theorem Uo (hT:qT P T=true) (hk:W.heap[k]? = some ((mpB l).obj r)) (hf:ix s l=none) {x v:Value} (hx:x=aw r v):(Instr.mapUpdate T (.map (some k)) (.string s) x).run P W=.ok () (W.putObj k ((mpB (l++[(s,v)])).obj r)):=by
 obtain ⟨kt,e,h1,h2⟩:=LP hT;rw [Na] at hk |-;have NF:(Instr.findKey kt (.string s) (vm r l 0).toArray.toList).run P W=.ok none W:=MapKept.run_findKey h2 (K8 r s l 0 0 hf);subst hx;unfold Instr.mapUpdate;simp only [aX,run_underlying h1,bJ,MapKept.run_getObj_map hk,MapKept.run_checkKey h2 (k:=.string s) trivial false 9999,NF,MapKept.run_setObj_map _ hk];simp [World.putObj,Ob]
theorem Up (hT:qT P T=true) (hk:W.heap[k]? = some ((mpB l).obj r)) {v:Value} (hf:ix s l=some v):(Instr.lookup T (.map (some k)) (.string s) false).run P W=.ok (aw r v) W:=by
 obtain ⟨kt,e,h1,h2⟩:=LP hT;rw [Na] at hk;obtain ⟨q,hq⟩:=K9 r s l 0 0 hf;have NF:(Instr.findKey kt (.string s) (vm r l 0).toArray.toList).run P W=.ok (some (q,aw r v)) W:=MapKept.run_findKey h2 hq;unfold Instr.lookup;simp only [aX,run_underlying h1,bJ,MapKept.run_getObj_map hk,cK,MapKept.run_checkKey h2 (k:=.string s) trivial _ 9999,NF];simp
end
end Go.Gy
