/-
  Lemmas of this claim, in their order (GyA, GyB, GyC, GyD, GyB2, GyMP).
  Conditions: those of each theorem.
-/
import Derived.Orders
import Derived.Still
import Derived.Below
import Derived.RangeFuncRecord
import Derived.Tactics2
import Derived.TacticsIn
import Derived.OrdersIn
import Derived.RangeFuncLeaves
import Derived.RangeFuncSeq
import Derived.FollowTie
import Derived.RegionTactic
import Derived.Deep.MidRow
import Derived.ChangeKeysEq
import Derived.Laws.StructEq
import Derived.Laws.Cover3
import Derived.MapKept
set_option linter.unusedSimpArgs false
set_option linter.unusedVariables false
namespace Go.Gy
theorem mv {p:Prop} (h:p:=by
 exact absurd rfl (h1 _)):p:=h
theorem EJ {p:Prop} (h:p:=by
 unfold Blk.obj;simp only;rw [bK (λx hx=>pQ h (hb x hx))]):p:=h
theorem wP {p:Prop} (h:p:=by
 obtain ⟨c,T⟩:=b;cases T<;>cases h):p:=h
abbrev bK := @Array.map_congr_left
abbrev uU := @Array.getElem?_setIfInBounds_ne
abbrev lL := @Ne.symm
abbrev eM := Nat -> Value
abbrev cI := Nat -> Nat
abbrev bV := Array Value
abbrev gA := Nat -> Prop
theorem zO {p : Prop} (h : p := by omega) : p := h
theorem zS {p : Prop} (h : p := by simp) : p := h
theorem zD {p : Prop} (h : p := by decide) : p := h
theorem k2 {p0 p1 : Prop} (h0 : p0) (h1 : p1) : p0 /\ p1 := ⟨h0, h1⟩
theorem k3 {p0 p1 p2 : Prop} (h0 : p0) (h1 : p1) (h2 : p2) : p0 /\ p1 /\ p2 := ⟨h0, h1, h2⟩
theorem k4 {p0 p1 p2 p3 : Prop} (h0 : p0) (h1 : p1) (h2 : p2) (h3 : p3) : p0 /\ p1 /\ p2 /\ p3 := ⟨h0, h1, h2, h3⟩
theorem k5 {p0 p1 p2 p3 p4 : Prop} (h0 : p0) (h1 : p1) (h2 : p2) (h3 : p3) (h4 : p4) : p0 /\ p1 /\ p2 /\ p3 /\ p4 := ⟨h0, h1, h2, h3, h4⟩
theorem k6 {p0 p1 p2 p3 p4 p5 : Prop} (h0 : p0) (h1 : p1) (h2 : p2) (h3 : p3) (h4 : p4) (h5 : p5) : p0 /\ p1 /\ p2 /\ p3 /\ p4 /\ p5 := ⟨h0, h1, h2, h3, h4, h5⟩
theorem k7 {p0 p1 p2 p3 p4 p5 p6 : Prop} (h0 : p0) (h1 : p1) (h2 : p2) (h3 : p3) (h4 : p4) (h5 : p5) (h6 : p6) : p0 /\ p1 /\ p2 /\ p3 /\ p4 /\ p5 /\ p6 := ⟨h0, h1, h2, h3, h4, h5, h6⟩
theorem k8 {p0 p1 p2 p3 p4 p5 p6 p7 : Prop} (h0 : p0) (h1 : p1) (h2 : p2) (h3 : p3) (h4 : p4) (h5 : p5) (h6 : p6) (h7 : p7) : p0 /\ p1 /\ p2 /\ p3 /\ p4 /\ p5 /\ p6 /\ p7 := ⟨h0, h1, h2, h3, h4, h5, h6, h7⟩
theorem k9 {p0 p1 p2 p3 p4 p5 p6 p7 p8 : Prop} (h0 : p0) (h1 : p1) (h2 : p2) (h3 : p3) (h4 : p4) (h5 : p5) (h6 : p6) (h7 : p7) (h8 : p8) : p0 /\ p1 /\ p2 /\ p3 /\ p4 /\ p5 /\ p6 /\ p7 /\ p8 := ⟨h0, h1, h2, h3, h4, h5, h6, h7, h8⟩
theorem k10 {p0 p1 p2 p3 p4 p5 p6 p7 p8 p9 : Prop} (h0 : p0) (h1 : p1) (h2 : p2) (h3 : p3) (h4 : p4) (h5 : p5) (h6 : p6) (h7 : p7) (h8 : p8) (h9 : p9) : p0 /\ p1 /\ p2 /\ p3 /\ p4 /\ p5 /\ p6 /\ p7 /\ p8 /\ p9 := ⟨h0, h1, h2, h3, h4, h5, h6, h7, h8, h9⟩
theorem k11 {p0 p1 p2 p3 p4 p5 p6 p7 p8 p9 kX : Prop} (h0 : p0) (h1 : p1) (h2 : p2) (h3 : p3) (h4 : p4) (h5 : p5) (h6 : p6) (h7 : p7) (h8 : p8) (h9 : p9) (pb : kX) : p0 /\ p1 /\ p2 /\ p3 /\ p4 /\ p5 /\ p6 /\ p7 /\ p8 /\ p9 /\ kX := ⟨h0, h1, h2, h3, h4, h5, h6, h7, h8, h9, pb⟩
theorem k12 {p0 p1 p2 p3 p4 p5 p6 p7 p8 p9 kX ll : Prop} (h0 : p0) (h1 : p1) (h2 : p2) (h3 : p3) (h4 : p4) (h5 : p5) (h6 : p6) (h7 : p7) (h8 : p8) (h9 : p9) (pb : kX) (zQ : ll) : p0 /\ p1 /\ p2 /\ p3 /\ p4 /\ p5 /\ p6 /\ p7 /\ p8 /\ p9 /\ kX /\ ll := ⟨h0, h1, h2, h3, h4, h5, h6, h7, h8, h9, pb, zQ⟩
theorem k13 {p0 p1 p2 p3 p4 p5 p6 p7 p8 p9 kX ll m8 : Prop} (h0 : p0) (h1 : p1) (h2 : p2) (h3 : p3) (h4 : p4) (h5 : p5) (h6 : p6) (h7 : p7) (h8 : p8) (h9 : p9) (pb : kX) (zQ : ll) (zR : m8) : p0 /\ p1 /\ p2 /\ p3 /\ p4 /\ p5 /\ p6 /\ p7 /\ p8 /\ p9 /\ kX /\ ll /\ m8 := ⟨h0, h1, h2, h3, h4, h5, h6, h7, h8, h9, pb, zQ, zR⟩
theorem k14 {p0 p1 p2 p3 p4 p5 p6 p7 p8 p9 kX ll m8 ua : Prop} (h0 : p0) (h1 : p1) (h2 : p2) (h3 : p3) (h4 : p4) (h5 : p5) (h6 : p6) (h7 : p7) (h8 : p8) (h9 : p9) (pb : kX) (zQ : ll) (zR : m8) (zT : ua) : p0 /\ p1 /\ p2 /\ p3 /\ p4 /\ p5 /\ p6 /\ p7 /\ p8 /\ p9 /\ kX /\ ll /\ m8 /\ ua := ⟨h0, h1, h2, h3, h4, h5, h6, h7, h8, h9, pb, zQ, zR, zT⟩
theorem k15 {p0 p1 p2 p3 p4 p5 p6 p7 p8 p9 kX ll m8 ua vu : Prop} (h0 : p0) (h1 : p1) (h2 : p2) (h3 : p3) (h4 : p4) (h5 : p5) (h6 : p6) (h7 : p7) (h8 : p8) (h9 : p9) (pb : kX) (zQ : ll) (zR : m8) (zT : ua) (HK : vu) : p0 /\ p1 /\ p2 /\ p3 /\ p4 /\ p5 /\ p6 /\ p7 /\ p8 /\ p9 /\ kX /\ ll /\ m8 /\ ua /\ vu := ⟨h0, h1, h2, h3, h4, h5, h6, h7, h8, h9, pb, zQ, zR, zT, HK⟩
theorem k16 {p0 p1 p2 p3 p4 p5 p6 p7 p8 p9 kX ll m8 ua vu yI : Prop} (h0 : p0) (h1 : p1) (h2 : p2) (h3 : p3) (h4 : p4) (h5 : p5) (h6 : p6) (h7 : p7) (h8 : p8) (h9 : p9) (pb : kX) (zQ : ll) (zR : m8) (zT : ua) (HK : vu) (Je : yI) : p0 /\ p1 /\ p2 /\ p3 /\ p4 /\ p5 /\ p6 /\ p7 /\ p8 /\ p9 /\ kX /\ ll /\ m8 /\ ua /\ vu /\ yI := ⟨h0, h1, h2, h3, h4, h5, h6, h7, h8, h9, pb, zQ, zR, zT, HK, Je⟩
theorem k17 {p0 p1 p2 p3 p4 p5 p6 p7 p8 p9 kX ll m8 ua vu yI Am : Prop} (h0 : p0) (h1 : p1) (h2 : p2) (h3 : p3) (h4 : p4) (h5 : p5) (h6 : p6) (h7 : p7) (h8 : p8) (h9 : p9) (pb : kX) (zQ : ll) (zR : m8) (zT : ua) (HK : vu) (Je : yI) (K5 : Am) : p0 /\ p1 /\ p2 /\ p3 /\ p4 /\ p5 /\ p6 /\ p7 /\ p8 /\ p9 /\ kX /\ ll /\ m8 /\ ua /\ vu /\ yI /\ Am := ⟨h0, h1, h2, h3, h4, h5, h6, h7, h8, h9, pb, zQ, zR, zT, HK, Je, K5⟩
theorem k18 {p0 p1 p2 p3 p4 p5 p6 p7 p8 p9 kX ll m8 ua vu yI Am BX : Prop} (h0 : p0) (h1 : p1) (h2 : p2) (h3 : p3) (h4 : p4) (h5 : p5) (h6 : p6) (h7 : p7) (h8 : p8) (h9 : p9) (pb : kX) (zQ : ll) (zR : m8) (zT : ua) (HK : vu) (Je : yI) (K5 : Am) (MO : BX) : p0 /\ p1 /\ p2 /\ p3 /\ p4 /\ p5 /\ p6 /\ p7 /\ p8 /\ p9 /\ kX /\ ll /\ m8 /\ ua /\ vu /\ yI /\ Am /\ BX := ⟨h0, h1, h2, h3, h4, h5, h6, h7, h8, h9, pb, zQ, zR, zT, HK, Je, K5, MO⟩
theorem k19 {p0 p1 p2 p3 p4 p5 p6 p7 p8 p9 kX ll m8 ua vu yI Am BX Ip : Prop} (h0 : p0) (h1 : p1) (h2 : p2) (h3 : p3) (h4 : p4) (h5 : p5) (h6 : p6) (h7 : p7) (h8 : p8) (h9 : p9) (pb : kX) (zQ : ll) (zR : m8) (zT : ua) (HK : vu) (Je : yI) (K5 : Am) (MO : BX) (PJ : Ip) : p0 /\ p1 /\ p2 /\ p3 /\ p4 /\ p5 /\ p6 /\ p7 /\ p8 /\ p9 /\ kX /\ ll /\ m8 /\ ua /\ vu /\ yI /\ Am /\ BX /\ Ip := ⟨h0, h1, h2, h3, h4, h5, h6, h7, h8, h9, pb, zQ, zR, zT, HK, Je, K5, MO, PJ⟩
theorem k20 {p0 p1 p2 p3 p4 p5 p6 p7 p8 p9 kX ll m8 ua vu yI Am BX Ip Kg : Prop} (h0 : p0) (h1 : p1) (h2 : p2) (h3 : p3) (h4 : p4) (h5 : p5) (h6 : p6) (h7 : p7) (h8 : p8) (h9 : p9) (pb : kX) (zQ : ll) (zR : m8) (zT : ua) (HK : vu) (Je : yI) (K5 : Am) (MO : BX) (PJ : Ip) (TK : Kg) : p0 /\ p1 /\ p2 /\ p3 /\ p4 /\ p5 /\ p6 /\ p7 /\ p8 /\ p9 /\ kX /\ ll /\ m8 /\ ua /\ vu /\ yI /\ Am /\ BX /\ Ip /\ Kg := ⟨h0, h1, h2, h3, h4, h5, h6, h7, h8, h9, pb, zQ, zR, zT, HK, Je, K5, MO, PJ, TK⟩
theorem k21 {p0 p1 p2 p3 p4 p5 p6 p7 p8 p9 kX ll m8 ua vu yI Am BX Ip Kg NR : Prop} (h0 : p0) (h1 : p1) (h2 : p2) (h3 : p3) (h4 : p4) (h5 : p5) (h6 : p6) (h7 : p7) (h8 : p8) (h9 : p9) (pb : kX) (zQ : ll) (zR : m8) (zT : ua) (HK : vu) (Je : yI) (K5 : Am) (MO : BX) (PJ : Ip) (TK : Kg) (JR : NR) : p0 /\ p1 /\ p2 /\ p3 /\ p4 /\ p5 /\ p6 /\ p7 /\ p8 /\ p9 /\ kX /\ ll /\ m8 /\ ua /\ vu /\ yI /\ Am /\ BX /\ Ip /\ Kg /\ NR := ⟨h0, h1, h2, h3, h4, h5, h6, h7, h8, h9, pb, zQ, zR, zT, HK, Je, K5, MO, PJ, TK, JR⟩
theorem k22 {p0 p1 p2 p3 p4 p5 p6 p7 p8 p9 kX ll m8 ua vu yI Am BX Ip Kg NR Sl : Prop} (h0 : p0) (h1 : p1) (h2 : p2) (h3 : p3) (h4 : p4) (h5 : p5) (h6 : p6) (h7 : p7) (h8 : p8) (h9 : p9) (pb : kX) (zQ : ll) (zR : m8) (zT : ua) (HK : vu) (Je : yI) (K5 : Am) (MO : BX) (PJ : Ip) (TK : Kg) (JR : NR) (h21 : Sl) : p0 /\ p1 /\ p2 /\ p3 /\ p4 /\ p5 /\ p6 /\ p7 /\ p8 /\ p9 /\ kX /\ ll /\ m8 /\ ua /\ vu /\ yI /\ Am /\ BX /\ Ip /\ Kg /\ NR /\ Sl := ⟨h0, h1, h2, h3, h4, h5, h6, h7, h8, h9, pb, zQ, zR, zT, HK, Je, K5, MO, PJ, TK, JR, h21⟩
theorem k23 {p0 p1 p2 p3 p4 p5 p6 p7 p8 p9 kX ll m8 ua vu yI Am BX Ip Kg NR Sl YI : Prop} (h0 : p0) (h1 : p1) (h2 : p2) (h3 : p3) (h4 : p4) (h5 : p5) (h6 : p6) (h7 : p7) (h8 : p8) (h9 : p9) (pb : kX) (zQ : ll) (zR : m8) (zT : ua) (HK : vu) (Je : yI) (K5 : Am) (MO : BX) (PJ : Ip) (TK : Kg) (JR : NR) (h21 : Sl) (h22 : YI) : p0 /\ p1 /\ p2 /\ p3 /\ p4 /\ p5 /\ p6 /\ p7 /\ p8 /\ p9 /\ kX /\ ll /\ m8 /\ ua /\ vu /\ yI /\ Am /\ BX /\ Ip /\ Kg /\ NR /\ Sl /\ YI := ⟨h0, h1, h2, h3, h4, h5, h6, h7, h8, h9, pb, zQ, zR, zT, HK, Je, K5, MO, PJ, TK, JR, h21, h22⟩
theorem k24 {p0 p1 p2 p3 p4 p5 p6 p7 p8 p9 kX ll m8 ua vu yI Am BX Ip Kg NR Sl YI p23 : Prop} (h0 : p0) (h1 : p1) (h2 : p2) (h3 : p3) (h4 : p4) (h5 : p5) (h6 : p6) (h7 : p7) (h8 : p8) (h9 : p9) (pb : kX) (zQ : ll) (zR : m8) (zT : ua) (HK : vu) (Je : yI) (K5 : Am) (MO : BX) (PJ : Ip) (TK : Kg) (JR : NR) (h21 : Sl) (h22 : YI) (h23 : p23) : p0 /\ p1 /\ p2 /\ p3 /\ p4 /\ p5 /\ p6 /\ p7 /\ p8 /\ p9 /\ kX /\ ll /\ m8 /\ ua /\ vu /\ yI /\ Am /\ BX /\ Ip /\ Kg /\ NR /\ Sl /\ YI /\ p23 := ⟨h0, h1, h2, h3, h4, h5, h6, h7, h8, h9, pb, zQ, zR, zT, HK, Je, K5, MO, PJ, TK, JR, h21, h22, h23⟩
theorem k25 {p0 p1 p2 p3 p4 p5 p6 p7 p8 p9 kX ll m8 ua vu yI Am BX Ip Kg NR Sl YI p23 p24 : Prop} (h0 : p0) (h1 : p1) (h2 : p2) (h3 : p3) (h4 : p4) (h5 : p5) (h6 : p6) (h7 : p7) (h8 : p8) (h9 : p9) (pb : kX) (zQ : ll) (zR : m8) (zT : ua) (HK : vu) (Je : yI) (K5 : Am) (MO : BX) (PJ : Ip) (TK : Kg) (JR : NR) (h21 : Sl) (h22 : YI) (h23 : p23) (h24 : p24) : p0 /\ p1 /\ p2 /\ p3 /\ p4 /\ p5 /\ p6 /\ p7 /\ p8 /\ p9 /\ kX /\ ll /\ m8 /\ ua /\ vu /\ yI /\ Am /\ BX /\ Ip /\ Kg /\ NR /\ Sl /\ YI /\ p23 /\ p24 := ⟨h0, h1, h2, h3, h4, h5, h6, h7, h8, h9, pb, zQ, zR, zT, HK, Je, K5, MO, PJ, TK, JR, h21, h22, h23, h24⟩
theorem k27 {p0 p1 p2 p3 p4 p5 p6 p7 p8 p9 kX ll m8 ua vu yI Am BX Ip Kg NR Sl YI p23 p24 p25 p26 : Prop} (h0 : p0) (h1 : p1) (h2 : p2) (h3 : p3) (h4 : p4) (h5 : p5) (h6 : p6) (h7 : p7) (h8 : p8) (h9 : p9) (pb : kX) (zQ : ll) (zR : m8) (zT : ua) (HK : vu) (Je : yI) (K5 : Am) (MO : BX) (PJ : Ip) (TK : Kg) (JR : NR) (h21 : Sl) (h22 : YI) (h23 : p23) (h24 : p24) (h25 : p25) (h26 : p26) : p0 /\ p1 /\ p2 /\ p3 /\ p4 /\ p5 /\ p6 /\ p7 /\ p8 /\ p9 /\ kX /\ ll /\ m8 /\ ua /\ vu /\ yI /\ Am /\ BX /\ Ip /\ Kg /\ NR /\ Sl /\ YI /\ p23 /\ p24 /\ p25 /\ p26 := ⟨h0, h1, h2, h3, h4, h5, h6, h7, h8, h9, pb, zQ, zR, zT, HK, Je, K5, MO, PJ, TK, JR, h21, h22, h23, h24, h25, h26⟩
theorem eR {X A B : Prop} (x : X) (b : X -> B := by intro x; simp [x]) (a : A := by exact .inr trivial) : A /\ B := ⟨a, b x⟩
end Go.Gy

namespace Go.Gy
open Go Go.RowKit

inductive BTy
 | ty (t:TypeId)
 | raw (t:TypeId) (fr:Nat×Nat)
 | mp
def BTy.own:BTy->Bool
 | .ty _=>true
 | .raw _ _=>false
 | .mp=>false
def BTy.rd:BTy->Bool
 | .mp=>false
 | _=>true
@[simp] theorem BTy.own_ty (t:TypeId):BTy.own (.ty t)=true:=rfl
instance:Coe TypeId BTy:=⟨.ty⟩
structure Blk where
 c:Array Value
 T:BTy

abbrev Hp:=Nat->Option Blk

def upd {α:Type} (f:Nat->α) (k:Nat) (v:α):Nat->α:=λj=>if j=k then v else f j

theorem bj {α:Type} (f:Nat->α) (k:Nat) (v:α):upd f k v k=v:=by simp [upd]
theorem aj {α:Type} (f:Nat->α) {k j:Nat} (v:α) (h:j≠k):upd f k v j=f j:=by simp [upd,h]
theorem IL {α:Type} (f:Nat->α) {k l:Nat} (u v:α) (h:k≠l):upd (upd f k u) l v=upd (upd f l v) k u:=by
 funext j;unfold upd;by_cases h1:j=l<;>by_cases h2:j=k<;>simp_all

def aA (r:cI):Value->Value
 | .pointer (some a)=>.pointer (some { a with block:=r a.block })
 | .slice (some a) n c=>.slice (some { a with block:=r a.block }) n c
 | .map (some b)=>.map (some (r b))
 | v=>v
def aw (r:cI):Value->Value
 | .func fn first cap=>.func fn (first.map (aA r)) (cap.map (aA r))
 | .iface t v=>.iface t (aA r v)
 | v=>aA r v
def aT (r:cI):Value->Value
 | .agg cs=>.agg (cs.map (aw r))
 | v=>aw r v
def ren (r:cI):Value->Value
 | .tuple vs=>.tuple (vs.map (aT r))
 | v=>aT r v

def aR (D:gA):Value->Prop
 | .pointer (some a)=>D a.block
 | .slice (some a) _ _=>D a.block
 | .map (some b)=>D b
 | _=>True
def aL (D:gA):Value->Prop
 | .func _ first cap=>(∀ x∈first,aR D x)/\(∀ x∈cap,aR D x)
 | .iface _ v=>aR D v
 | v=>aR D v
def cp (D:gA):Value->Prop
 | .agg cs=>∀ x∈cs,aL D x
 | v=>aL D v
def aN (D:gA):Value->Prop
 | .tuple vs=>∀ x∈vs,cp D x
 | v=>cp D v

section congr
variable {D D':gA} {r r':cI}
theorem sT (h:∀ k,D k->D' k):∀ {v:Value},aR D v->aR D' v:=by
 intro v;unfold aR;split<;>first|exact h _|exact id
theorem pr (h:∀ k,D k->D' k):∀ {v:Value},aL D v->aL D' v:=by
 intro v;unfold aL;split
 ·exact λ⟨a,b⟩=>⟨λx hx=>sT h (a x hx),λx hx=>sT h (b x hx)⟩
 ·exact sT h
 ·exact sT h
theorem J1 (h:∀ k,D k->D' k):∀ {v:Value},cp D v->cp D' v:=by
 intro v;unfold cp;split
 ·exact λa x hx=>pr h (a x hx)
 ·exact pr h
theorem il (h:∀ k,D k->D' k):∀ {v:Value},aN D v->aN D' v:=by
 intro v;unfold aN;split
 ·exact λa x hx=>J1 h (a x hx)
 ·exact J1 h
theorem tI (h:∀ k,D k->r' k=r k):∀ {v:Value},aR D v->aA r' v=aA r v:=by
 intro v;unfold aR;split<;>intro hd<;>simp_all [aA]
theorem pQ (h:∀ k,D k->r' k=r k):∀ {v:Value},aL D v->aw r' v=aw r v:=by
 intro v hv;unfold aL at hv;split at hv
 ·obtain ⟨a,b⟩:=hv;simp only [aw];rw [bK (λx hx=>tI h (a x hx)),bK (λx hx=>tI h (b x hx))]
 ·simp only [aw];rw [tI h hv]
 ·rename_i h1 h2;unfold aw;split
  ·exact absurd rfl (h1 _ _ _)
  ·exact absurd rfl (h2 _ _)
  ·exact tI h hv
theorem Iv (h:∀ k,D k->r' k=r k):∀ {v:Value},cp D v->aT r' v=aT r v:=by
 intro v hv;unfold cp at hv;split at hv
 ·simp only [aT];rw [bK (λx hx=>pQ h (hv x hx))]
 ·rename_i h1;unfold aT;split
  ·exact mv
  ·exact pQ h hv
theorem jg (h:∀ k,D k->r' k=r k):∀ {v:Value},aN D v->ren r' v=ren r v:=by
 intro v hv;unfold aN at hv;split at hv
 ·simp only [ren];rw [bK (λx hx=>Iv h (hv x hx))]
 ·rename_i h1;unfold ren;split
  ·exact mv
  ·exact Iv h hv
end congr

def mpL:List Value->Nat->List MapEntry
 | k::v::l,i=>⟨k,v,i⟩::mpL l (i+1)
 | _,_=>[]
def Sa (c:bV):Obj:=.map (mpL c.toList 0).toArray (mpL c.toList 0).length
def Blk.obj (r:cI) (b:Blk):Obj:=match b.T with
 | .ty t=>.cells (b.c.map (aw r)) t (0,0)
 | .raw t fr=>.cells b.c t fr
 | .mp=>Sa (b.c.map (aw r))
def Blk.obj0 (b:Blk):Obj:=match b.T with
 | .ty t=>.cells b.c t (0,0)
 | .raw t fr=>.cells b.c t fr
 | .mp=>Sa b.c
def Blk.ids (D:gA) (b:Blk):Prop:=match b.T with
 | .ty _=>∀ x∈b.c,aL D x
 | .raw _ _=>True
 | .mp=>∀ x∈b.c,aL D x
theorem Blk.ids_of {D:gA} {b:Blk} (h:∀ x∈b.c,aL D x):b.ids D:=by
 unfold Blk.ids;split
 ·exact h
 ·trivial
 ·exact h
theorem Blk.obj_congr {D:gA} {r r':cI} (h:∀ k,D k->r' k=r k) {b:Blk} (hb:b.ids D):b.obj r'=b.obj r:=by
 obtain ⟨c,T⟩:=b
 cases T with
 | ty t =>
  exact EJ
 | raw t fr=>rfl
 | mp =>
  exact EJ
theorem Blk.ids_mono {D D':gA} (h:∀ k,D k->D' k) {b:Blk} (hb:b.ids D):b.ids D':=by
 obtain ⟨c,T⟩:=b
 cases T with
 | ty t=>exact λx hx=>pr h (hb x hx)
 | raw t fr=>trivial
 | mp=>exact λx hx=>pr h (hb x hx)

theorem Blk.obj_loop {r:cI} {b:Blk} {L:Loop} (h:some (Obj.loop L)=some (b.obj r)):False:=by
 exact wP
theorem Blk.obj_def {r:cI} {b:Blk} {x:Option (List Deferred)} (h:some (Obj.deferred x)=some (b.obj r)):False:=by
 exact wP
theorem Blk.obj0_def {b:Blk} {x:Option (List Deferred)} (h:some (Obj.deferred x)=some b.obj0):False:=by
 exact wP
def dom (hp:Hp):Nat->Prop:=λk=>hp k≠none

def eY:Value:=.complex .f32 0 1

def Rel (r:cI) (D:gA) (ts:eM) (a:Act):Prop :=
 ∀ t,ts t=eY\/(a.tmps.getD t undef=ren r (ts t)/\aN D (ts t))

def Sat (r:cI) (D:gA) (hp:Hp) (W:World):Prop :=
 ∀ k b,hp k=some b->W.heap[r k]? = some (b.obj r)/\b.ids D
def Inj (r:cI) (D:gA):Prop:=∀ k l,D k->D l->r k=r l->k=l

theorem Rel.mono {r r':cI} {D D':gA} {ts:eM} {a:Act} (h:Rel r D ts a) (hD:∀ k,D k->D' k) (hr:∀ k,D k->r' k=r k):Rel r' D' ts a :=
 λt=>(h t).imp id λh=>⟨by rw [h.1,jg hr h.2],il hD h.2⟩

def dk (ts:eM) (dst:Option Tmp) (v:Value):Nat->Value :=
 match dst with
 | some d=>upd ts d v
 | none=>ts

theorem Rel.put {r:cI} {D:gA} {ts:eM} {a:Act} (h:Rel r D ts a) {dst:Option Tmp} (hd:∀ d,dst=some d->d<a.tmps.size) {v:Value} (hv:aN D v) :
  Rel r D (dk ts dst v) (a.put dst (ren r v)):=by
 cases dst with
 | none=>exact h
 | some d =>
  intro t;have cA:=hd d rfl;by_cases e:t=d
  ·subst e;simp only [dk,bj];exact .inr ⟨by simp [Act.put,cA],hv⟩
  ·simp only [dk,aj _ _ e];refine (h t).imp id λh=>⟨?_,h.2⟩
   rw [<-h.1];simp [Act.put,uU (lL e)]

theorem ir (r:cI):ren r undef=undef:=by simp [undef,ren]
theorem kT (D:gA):aN D undef:=by simp [undef,aN]

end Go.Gy
namespace Go.Gy
open Go Go.RowKit
theorem ah {p:Prop} (h:p:=by simp [ak]):p:=h
theorem kA {p:Prop} (h:p:=by simpa using h):p:=h
theorem oI {p:Prop} (h:p:=by simpa [ak] using hm):p:=h
theorem lN {p:Prop} (h:p:=by simpa [ak] using hk):p:=h
abbrev bJ := @List.map_cons
abbrev al := @List.mem_cons
abbrev br := @List.mem_cons_of_mem
abbrev nT := @Go.CallsIn.mono
abbrev aY := @Go.Sem.run_bind
abbrev bD := @Go.Result.andThen_ok
abbrev fB := @List.mem_append_left
abbrev lK := @List.mem_append_right
abbrev uI := @List.map_append
abbrev cN := @List.mem_append
abbrev kn := @Bool.or_eq_false_iff
abbrev gN := @Array.getElem?_eq_none
abbrev jj := @Array.getElem_mem
abbrev fA := @List.length_cons
abbrev bO := @Bool.and_eq_true
abbrev qy := @Nat.add_assoc

structure Eff where
  v : Value
  rs : List Nat
  ws : List (Nat × Blk)
  ns : List (Nat × Blk)
  pan : Option Value
  yl : Bool

def ak (l : List (Nat × Blk)) : List Nat := l.map (·.1)
theorem aI {l : List (Nat × Blk)} {k : Nat} : k ∈ ak l ↔ ∃ p ∈ l, p.1 = k := ah

def bW (hp : Hp) : List (Nat × Blk) -> Hp
  | [] => hp
  | (k, b) :: l => bW (upd hp k (some b)) l

theorem dw {l : List (Nat × Blk)} : ∀ {hp : Hp} {k : Nat}, k ∉ ak l -> bW hp l k = hp k := by
  induction l with
  | nil => intro hp k _; rfl
  | cons p l ih =>
    intro hp k hk;obtain ⟨q, b⟩ := p;simp only [ak, bJ, al, not_or] at hk;simp only [bW];rw [ih (by simpa [ak] using hk.2), aj _ _ hk.1]

theorem nK {l : List (Nat × Blk)} : ∀ {hp : Hp} {k : Nat} {b : Option Blk}, k ∉ ak l -> bW (upd hp k b) l = upd (bW hp l) k b := by
  induction l with
  | nil => intro hp k b _; rfl
  | cons p l ih =>
    intro hp k b hk;obtain ⟨q, c⟩ := p;simp only [ak, bJ, al, not_or] at hk;simp only [bW];rw [IL _ _ _ hk.1, ih (by simpa [ak] using hk.2)]

theorem U8 {l m : List (Nat × Blk)} : ∀ {hp : Hp}, (∀ k ∈ ak l, k ∉ ak m) -> bW (bW hp l) m = bW (bW hp m) l := by
  induction l with
  | nil => intro hp _; rfl
  | cons p l ih =>
    intro hp h;obtain ⟨q, c⟩ := p;simp only [bW];rw [ih (λk hk => h k (by simp [ak] at hk |-; exact .inr hk)), nK (h q ah)]

theorem Az {l : List (Nat × Blk)} : ∀ {hp : Hp} {k : Nat}, dom (bW hp l) k ↔ dom hp k \/ k ∈ ak l := by
  induction l with
  | nil => intro hp k; simp [bW, ak]
  | cons p l ih =>
    intro hp k;obtain ⟨q, c⟩ := p;simp only [bW];rw [ih];by_cases e : k = q
    · subst e; simp [dom, bj, ak]
    · simp [dom, aj _ _ e, ak, e]

theorem Ow {l : List (Nat × Blk)} : ∀ {hp : Hp} {k : Nat} {b : Blk}, bW hp l k = some b -> (hp k = some b /\ k ∉ ak l) \/ (k, b) ∈ l := by
  induction l with
  | nil => intro hp k b h; exact .inl ⟨h, ah⟩
  | cons p l ih =>
    intro hp k b h;obtain ⟨q, c⟩ := p;simp only [bW] at h;rcases ih h with ⟨h1, h2⟩ | h1
    · by_cases e : k = q
      · subst e; rw [bj] at h1; cases h1; exact .inr zS
      · rw [aj _ _ e] at h1; exact .inl ⟨h1, by simp [ak, e] at h2 |-; exact h2⟩
    · exact .inr (br _ h1)

def rst (hp : Hp) (rs : List Nat) : Hp := λk => if k < 100 \/ k ∈ rs then hp k else none
theorem iO {hp : Hp} {rs : List Nat} {k : Nat} {b : Blk} (h : rst hp rs k = some b) : hp k = some b := by
  unfold rst at h; split at h
  · exact h
  · cases h
theorem pz {hp db : Hp} {rs : List Nat} (h : ∀ k, (k < 100 \/ k ∈ rs) -> hp k = db k) : rst hp rs = rst db rs := by
  funext k; unfold rst; split
  · rename_i hk; exact h k hk
  · rfl

def cJ (D : Nat -> Prop) (ns : List (Nat × Blk)) : Nat -> Prop := λk => D k \/ k ∈ ak ns

structure Turn (r' : Nat -> Nat) (D' : Nat -> Prop) (W W' : World) (ws ns : List (Nat × Blk)) : Prop where
  os : W'.os = W.os
  tape : W'.tape = W.tape
  output : W'.output = W.output
  size : W.heap.size <= W'.heap.size
  same : ∀ k, k < W.heap.size -> (∀ p ∈ ws, r' p.1 ≠ k) -> W'.heap[k]? = W.heap[k]?
  has : ∀ p ∈ ws ++ ns, W'.heap[r' p.1]? = some (p.2.obj r') /\ p.2.ids D'
  fresh : ∀ p ∈ ns, W.heap.size <= r' p.1
  apart : ∀ p ∈ ns, ∀ q ∈ ns, r' p.1 = r' q.1 -> p.1 = q.1

theorem Turn.of_below {r : Nat -> Nat} {D : Nat -> Prop} {W W' : World} (h : Below W.heap.size W W') : Turn r D W W' [] [] :=
  ⟨h.os, h.tape, h.output, h.size, λk hk _ => h.block k hk, λp hp => by simp at hp, λp hp => by simp at hp, λp hp => by simp at hp⟩

def Fs (P : Program) : Fence := { fn := λf => ∃ fn, P.funcs[f]? = some fn, depth := none, alive := false }
abbrev jD (P : Program) (f : FuncId) (args : Array Value) (W : World) (R : Ending -> World -> Prop) : Prop := CallsIn (Fs P) 0 P f args W R
theorem jD.mono {P : Program} {f : FuncId} {args : Array Value} {W : World} {R R' : Ending -> World -> Prop} (h : jD P f args W R) (hr : ∀ e w, R e w -> R' e w) : jD P f args W R' := nT h hr
theorem mJ (P : Program) (n : Nat) : (Fs P).room n := λ_ h => by simp [Fs] at h
theorem jD.calls {P : Program} {f : FuncId} {args : Array Value} {W : World} {R : Ending -> World -> Prop} (h : jD P f args W R) : Calls P f args W R := λcs => by
  obtain ⟨e, w', fr, r, s, x⟩ := h.2 cs (mJ P _);refine ⟨e, w', fr, r, ?_, x⟩
  cases e with
  | returned v => exact stepsIn_wide.1 (StepsIn.mono (λm _ => fenced_wide P m) s)
  | panicked ch => exact stepsIn_wide.1 (StepsIn.mono (λm _ => fenced_wide P m) s)
  | outgrown => exact s
theorem BO {P : Program} {f : FuncId} {args : Array Value} {W W' : World} {x : Next} (h : (callFunc f args).run P W = .ok x W') : ∃ fn, P.funcs[f]? = some fn := by
  unfold callFunc at h;simp only [aY, run_program, bD] at h
  cases hf : P.funcs[f]? with
  | none => simp [hf, stuck] at h
  | some fn => exact ⟨fn, rfl⟩

theorem Ho {P : Program} {o : Oper} {ρ : Operand -> Value} {W W' : World} {x : Next} (h : (execOp ρ o).run P W = .ok x W') : ∀ f, o.about P W ρ = some f -> (Fs P).fn f := by
  intro f hf;unfold Oper.about at hf;unfold execOp at h;split at hf
  · rename_i c hc
    simp only [hc, aY] at h
    cases hr : (resolve ρ c o.type).run P W with
    | halt y w => rw [hr] at hf; cases hf
    | ok dd w =>
      rw [hr] at hf h;simp only [bD] at h;have ht := invoke_tie P w dd.target dd.args;have Vr : dd.target.leads P w dd.args = some f := hf;split at ht
      all_goals first
        | (rcases ht with ⟨g, fL, w', h1, h2⟩ | ⟨y, w', h2⟩
           · rw [Vr] at h1
             cases h1;rw [h2] at h;exact BO h
           · rw [h2] at h
             cases h)
        | (rw [ht] at Vr; cases Vr)
  · cases hf

def pW (P : Program) (o : Oper) (a : Act) (W : World) (R Rp : Value -> World -> Prop) : Prop :=
  match (execOp a.eval o).run P W with
  | .ok (.value u) W' => R u W'
  | .ok .skip W' => R undef W'
  | .ok (.enter f args) W' => jD P f args W' (λe gF => match e with
      | .returned u => R u gF
      | .panicked ch => ∃ pv, ch = [{ v := pv, recovered := false }] /\ Rp pv gF
      | .outgrown => False)
  | .halt (.panic pv) W' => o.about P W a.eval = none /\ Rp pv W'
  | _ => False

def zx (o : Oper) (r : Nat -> Nat) (D : Nat -> Prop) (ts : Nat -> Value) (a : Act) : Prop :=
  ∀ t, Operand.tmp t ∈ o.op.operands -> ts t = eY \/ (a.tmps.getD t undef = ren r (ts t) /\ aN D (ts t))

def OpD (P : Program) (o : Oper) (ts : Nat -> Value) (hp : Hp) (e : Eff) : Prop :=
  ∀ r D a W, zx o r D ts a -> Sat r D hp W -> Inj r D -> (∀ k, k < 100 -> D k -> r k = k) -> (∀ k, dom hp k -> D k) -> (∀ p ∈ e.ns, ¬ D p.1 /\ 100 <= p.1) ->
    pW P o a W (λu W' => e.pan = none /\ ∃ r', (∀ k, D k -> r' k = r k) /\ u = ren r' e.v /\ aN (cJ D e.ns) e.v /\ Turn r' (cJ D e.ns) W W' e.ws e.ns)
      (λpv W' => e.pan = some pv /\ Below W.heap.size W W')

structure OKP where
  ok : Oper -> (Nat -> Value) -> Nat -> Hp -> Eff -> Prop
  congr : ∀ o ts oW yc xS hp e, (∀ t, Operand.tmp t ∈ o.op.operands -> ts t = oW t) -> (e.yl = true -> yc = xS) -> ok o ts yc hp e -> ok o oW xS hp e
  yw : ∀ o ts yc hp e o' oW xS db e', ok o ts yc hp e -> ok o' oW xS db e' -> e.yl = true -> e'.yl = true -> ak e.ws = ak e'.ws
  un : Oper -> (Nat -> Value) -> Prop
  uncongr : ∀ o ts oW, (∀ t, Operand.tmp t ∈ o.op.operands -> ts t = oW t) -> un o ts -> un o oW

theorem yn (ts : Nat -> Value) {x y : Option Tmp} (u v : Value) (h : ∀ d, x = some d -> y ≠ some d) : dk (dk ts x u) y v = dk (dk ts y v) x u := by
  cases x with
  | none => rfl
  | some d =>
    cases y with
    | none => rfl
    | some e => exact IL _ _ _ (λhe => h d rfl (by rw [he]))
theorem Is (ts : Nat -> Value) {x : Option Tmp} {t : Nat} (v : Value) (h : ∀ d, x = some d -> t ≠ d) : dk ts x v t = ts t := by
  cases x with
  | none => rfl
  | some d => exact aj _ _ (h d rfl)

structure St where
  ts : Nat -> Value
  hp : Hp
  lg : Nat -> List Nat × List Nat
  yc : Nat
  yd : Bool
  pn : Option Value
  wr : Bool

def St.after (s : St) (i : Nat) (o : Oper) (e : Eff) : St :=
  { ts := dk s.ts o.dst e.v, hp := bW s.hp (e.ws ++ e.ns), lg := upd s.lg i (e.rs, ak e.ws ++ ak e.ns), yc := if e.yl then s.yc + 1 else s.yc, yd := s.yd || (e.yl && e.ws.isEmpty), pn := s.pn.or e.pan, wr := s.wr || !e.ws.isEmpty }
def St.pass (s : St) (o : Oper) : St := { s with ts := dk s.ts o.dst undef }

def gn (ops : Array Oper) (o : Oper) (ts : Nat -> Value) : Option Bool :=
  match o.guard with
  | none => some true
  | some (j, w) =>
    match (ops[j]?).bind (·.dst) with
    | some d => match ts d with
      | .bool b => some (b == w)
      | .tuple _ => some false
      | _ => none
    | none => some false

def LQ (md : Region.Mode) (ops : Array Oper) : Nat -> Nat -> Nat -> Bool
  | 0, _, _ => false
  | f + 1, i, j => match ops[i]? with
    | some o => o.after.any λe => Region.binds md e && (e.on == j || LQ md ops f e.on j)
    | none => false
def zo (md : Region.Mode) (ops : Array Oper) (i j : Nat) : Bool := LQ md ops 3 i j

structure Fits (md : Region.Mode) (ops : Array Oper) (base i : Nat) (s : St) (e : Eff) : Prop where
  wsrs : ∀ k ∈ ak e.ws, k ∈ e.rs /\ dom s.hp k /\ 100 <= k
  ids : ∀ k ∈ ak e.ns, base + 8 * i <= k /\ k < base + 8 * i + 8 /\ 100 <= k
  nodup : ∀ k ∈ ak e.ns, s.hp k = none
  once : ∀ k b c, (k, b) ∈ e.ws ++ e.ns -> (k, c) ∈ e.ws ++ e.ns -> b = c
  log : ∀ j, zo md ops i j = false -> (∀ k ∈ e.rs ++ ak e.ns, k ∉ (s.lg j).2) /\ (∀ k ∈ ak e.ws ++ ak e.ns, k ∉ (s.lg j).1)
  new : s.lg i = ([], [])
  pan : e.pan ≠ none -> s.pn = none
  yl : e.yl = true -> e.ws = [] -> s.yd = false

def gOp (OK : OKP) (md : Region.Mode) (ops : Array Oper) (base i : Nat) (K : St -> Prop) (s : St) : Prop :=
  match ops[i]? with
  | none => K s
  | some o => match gn ops o s.ts with
    | some true => ∃ e, OK.ok o s.ts s.yc (rst s.hp e.rs) e /\ Fits md ops base i s e /\ K (s.after i o e)
    | some false => OK.un o s.ts /\ K (s.pass o)
    | none => False

def Bt (OK : OKP) (md : Region.Mode) (ops : Array Oper) (base : Nat) (K : St -> Prop) : Nat -> Array Bool -> St -> Prop
  | 0, listed, s => Region.ready md ops listed = [] /\ K s
  | fuel + 1, listed, s =>
    (Region.ready md ops listed = [] -> K s) /\
    ∀ i ∈ Region.ready md ops listed, gOp OK md ops base i (Bt OK md ops base K fuel (listed.setIfInBounds i true)) s

def oX (OK : OKP) (md : Region.Mode) (ops : Array Oper) (base i : Nat) (o : Oper) (e : Option Eff) (s : St) : Prop :=
  match e with
  | some e => gn ops o s.ts = some true /\ OK.ok o s.ts s.yc (rst s.hp e.rs) e /\ Fits md ops base i s e
  | none => gn ops o s.ts = some false /\ OK.un o s.ts

def St.next (s : St) (i : Nat) (o : Oper) : Option Eff -> St
  | some e => s.after i o e
  | none => s.pass o

theorem zq {OK : OKP} {md : Region.Mode} {ops : Array Oper} {base i : Nat} {o : Oper} {e : Option Eff} {s : St} {K : St -> Prop} (hi : ops[i]? = some o) (hy : oX OK md ops base i o e s) (h : K (s.next i o e)) :
    gOp OK md ops base i K s := by
  unfold gOp; simp only [hi]
  cases e with
  | some e => obtain ⟨h1, h2, h3⟩ := hy; simp only [h1]; exact ⟨e, h2, h3, h⟩
  | none => simp only [oX] at hy; simp only [hy.1]; exact ⟨hy.2, h⟩

theorem HJ {OK : OKP} {md : Region.Mode} {ops : Array Oper} {base i : Nat} {o : Oper} {s : St} {K : St -> Prop} (hi : ops[i]? = some o) (h : gOp OK md ops base i K s) :
    ∃ e, oX OK md ops base i o e s /\ K (s.next i o e) := by
  unfold gOp at h; simp only [hi] at h
  cases hw : gn ops o s.ts with
  | none => rw [hw] at h; exact h.elim
  | some b =>
    cases b with
    | true => rw [hw] at h; obtain ⟨e, h1, h2, h3⟩ := h; exact ⟨some e, ⟨hw, h1, h2⟩, h3⟩
    | false => rw [hw] at h; exact ⟨none, ⟨hw, h.1⟩, h.2⟩

theorem gT {ops : Array Oper} {o : Oper} {ts oW : Nat -> Value} (h : ∀ t ∈ o.looksAt ops, ts t = oW t) : gn ops o ts = gn ops o oW := by
  unfold gn
  cases hg : o.guard with
  | none => rfl
  | some g =>
    obtain ⟨j, w⟩ := g
    cases hd : (ops[j]?).bind (·.dst) with
    | none => simp [hd]
    | some d =>
      have : ts d = oW d := h d (by simp [Oper.looksAt, hg, hd]);simp [hd, this]

theorem OpD.congr {P : Program} {o : Oper} {ts oW : Nat -> Value} {hp : Hp} {e : Eff} (h : OpD P o ts hp e) (ht : ∀ t, Operand.tmp t ∈ o.op.operands -> ts t = oW t) : OpD P o oW hp e :=
  λr D a W hr => h r D a W (λt ht' => by rw [ht t ht']; exact hr t ht')

theorem eJ {ops : Array Oper} {o : Oper} {t : Tmp} (h : Operand.tmp t ∈ o.op.operands) : t ∈ o.looksAt ops :=
  fB _ (List.mem_filterMap.2 ⟨.tmp t, kA, rfl⟩)

theorem OP {OK : OKP} {md : Region.Mode} {ops : Array Oper} {base i j : Nat} {oi oj : Oper} {ei ej : Option Eff} {s : St} (df : i ≠ j)
    (hap : oi.apart ops oj = true) (hw : zo md ops j i = false) (L7 : zo md ops i j = false)
    (hy : oX OK md ops base i oi ei s) (h : oX OK md ops base j oj ej (s.next i oi ei)) :
    oX OK md ops base j oj ej s /\ oX OK md ops base i oi ei (s.next j oj ej) /\ (s.next i oi ei).next j oj ej = (s.next j oj ej).next i oi ei := by
  obtain ⟨h1, h2, h3⟩ := Oper.apart_spec hap;have tsj : ∀ v, ∀ t ∈ oj.looksAt ops, dk s.ts oi.dst v t = s.ts t := λv t ht => Is _ _ (λd hd e => h1 d hd (e ▸ ht));have tsi : ∀ v, ∀ t ∈ oi.looksAt ops, dk s.ts oj.dst v t = s.ts t := λv t ht => Is _ _ (λd hd e => h3 d hd (e ▸ ht))
  cases ei with
  | none =>
    cases ej with
    | none =>
      refine ⟨?_, ?_, ?_⟩
      · simp only [oX, St.next, St.pass] at h |-; rw [<- h.1]; exact ⟨gT (λt ht => (tsj _ t ht).symm), OK.uncongr _ _ _ (λt ht => tsj _ t (eJ ht)) h.2⟩
      · simp only [oX, St.next, St.pass] at hy |-; rw [<- hy.1]; exact ⟨gT (λt ht => tsi _ t ht), OK.uncongr _ _ _ (λt ht => (tsi _ t (eJ ht)).symm) hy.2⟩
      · simp only [St.next, St.pass]; rw [yn _ _ _ h2]
    | some e =>
      obtain ⟨a1, a2, a3⟩ := h;refine ⟨⟨?_, ?_, ?_⟩, ?_, ?_⟩
      · rw [<- a1]; exact gT (λt ht => (tsj _ t ht).symm)
      · exact OK.congr _ _ _ _ _ _ _ (λt ht => tsj _ t (eJ ht)) (λ_ => rfl) a2
      · exact ⟨a3.wsrs, a3.ids, a3.nodup, a3.once, a3.log, a3.new, a3.pan, a3.yl⟩
      · simp only [oX, St.next, St.after] at hy |-; rw [<- hy.1]; exact ⟨gT (λt ht => tsi _ t ht), OK.uncongr _ _ _ (λt ht => (tsi _ t (eJ ht)).symm) hy.2⟩
      · simp only [St.next, St.pass, St.after]; rw [yn _ _ _ h2]
  | some e =>
    obtain ⟨b1, b2, b3⟩ := hy
    cases ej with
    | none =>
      refine ⟨?_, ⟨?_, ?_, ?_⟩, ?_⟩
      · simp only [oX, St.next, St.after] at h |-; rw [<- h.1]; exact ⟨gT (λt ht => (tsj _ t ht).symm), OK.uncongr _ _ _ (λt ht => tsj _ t (eJ ht)) h.2⟩
      · simp only [St.next, St.pass]; rw [<- b1]; exact gT (λt ht => tsi _ t ht)
      · simp only [St.next, St.pass]; exact OK.congr _ _ _ _ _ _ _ (λt ht => (tsi _ t (eJ ht)).symm) (λ_ => rfl) b2
      · exact ⟨b3.wsrs, b3.ids, b3.nodup, b3.once, b3.log, b3.new, b3.pan, b3.yl⟩
      · simp only [St.next, St.pass, St.after]; rw [yn _ _ _ h2]
    | some f =>
      obtain ⟨a1, a2, a3⟩ := h;simp only [St.next, St.after] at a1 a2 a3;have lgi : (upd s.lg i (e.rs, ak e.ws ++ ak e.ns)) i = (e.rs, ak e.ws ++ ak e.ns) := bj _ _ _;have agM := a3.log i hw;simp only [lgi] at agM
      -- Vc e apG f avf not axM, and VH other way about
      have k1 : ∀ k ∈ f.rs ++ ak f.ns, k ∉ ak (e.ws ++ e.ns) := λk hk hm => agM.1 k hk oI;have k2 : ∀ k ∈ ak (f.ws ++ f.ns), k ∉ e.rs := λk hk => agM.2 k lN
      have k3 : ∀ k ∈ ak (e.ws ++ e.ns), k ∉ ak (f.ws ++ f.ns) := λk hk hm => by
        have hm' : k ∈ ak f.ws \/ k ∈ ak f.ns := oI;rcases hm' with hm' | hm'
        · exact k1 k (fB _ (a3.wsrs k hm').1) hk
        · exact k1 k (lK _ hm') hk
      have big : ∀ k ∈ ak (e.ws ++ e.ns), 100 <= k := λk hk => by
        have : k ∈ ak e.ws \/ k ∈ ak e.ns := lN;rcases this with h | h
        · exact (b3.wsrs k h).2.2
        · exact (b3.ids k h).2.2
      have apZ : ∀ k ∈ ak (f.ws ++ f.ns), 100 <= k := λk hk => by
        have : k ∈ ak f.ws \/ k ∈ ak f.ns := lN;rcases this with h | h
        · exact (a3.wsrs k h).2.2
        · exact (a3.ids k h).2.2
      have r1 : rst (bW s.hp (e.ws ++ e.ns)) f.rs = rst s.hp f.rs := pz λk hk => dw λhm => by
        rcases hk with hk | hk
        · have := big k hm; omega
        · exact k1 k (fB _ hk) hm
      have r2 : rst (bW s.hp (f.ws ++ f.ns)) e.rs = rst s.hp e.rs := pz λk hk => dw λhm => by
        rcases hk with hk | hk
        · have := apZ k hm; omega
        · exact k2 k hm hk
      have lgj : s.lg j = ([], []) := by have := a3.new; dsimp only at this; rwa [aj _ _ (lL df)] at this
      have nb : f.yl = true -> e.yl = false := λhf => by
        cases he : e.yl with
        | false => rfl
        | true =>
          have hk := OK.yw _ _ _ _ _ _ _ _ _ _ b2 a2 he hf;by_cases VC : f.ws = []
          · rw [VC] at hk
            have he0 : e.ws = [] := lN;have := a3.yl hf VC;rw [he, he0] at this;simp at this
          · obtain ⟨p, l, hp⟩ := List.exists_cons_of_ne_nil VC
            have hm : p.1 ∈ ak f.ws := aI.2 ⟨p, by rw [hp]; simp, rfl⟩;have h9 := k1 p.1 (fB _ (a3.wsrs p.1 hm).1);rw [<- hk] at hm;exact absurd (by simp only [ak, uI, cN]; exact .inl (by simpa [ak] using hm)) h9
      have yls : f.yl = true -> e.yl = false /\ (f.ws = [] -> s.yd = false) := λhf => ⟨nb hf, λVC => by
        have := a3.yl hf VC; simp only [kn] at this; exact this.1⟩
      have aoa : e.yl = true -> f.yl = false := λhe => by
        cases hf : f.yl with
        | false => rfl
        | true => rw [(yls hf).1] at he; cases he
      have pns : f.pan ≠ none -> e.pan = none /\ s.pn = none := λhf => by
        have := a3.pan hf; simp only [Option.or_eq_none_iff] at this; exact ⟨this.2, this.1⟩
      have ang : e.pan ≠ none -> f.pan = none := λhe => by
        cases hf : f.pan with
        | none => rfl
        | some v => exact absurd (pns (by rw [hf]; simp)).1 he
      refine ⟨⟨?_, ?_, ?_⟩, ⟨?_, ?_, ?_⟩, ?_⟩
      · rw [<- a1]; exact gT (λt ht => (tsj _ t ht).symm)
      · rw [<- r1]; exact OK.congr _ _ _ _ _ _ _ (λt ht => tsj _ t (eJ ht)) (λhf => by rw [(yls hf).1]; simp) a2
      · refine ⟨λk hk => ⟨(a3.wsrs k hk).1, ?_, (a3.wsrs k hk).2.2⟩, a3.ids, λk hk => ?_, a3.once, λq hq => ?_, lgj, λhf => (pns hf).2, λhf VC => (yls hf).2 VC⟩
        · rcases Az.1 (a3.wsrs k hk).2.1 with h | h
          · exact h
          · exact absurd h (k1 k (fB _ (a3.wsrs k hk).1))
        · have := a3.nodup k hk
          dsimp only at this;rwa [dw (k1 k (lK _ hk))] at this
        · by_cases hqi : q = i
          · subst hqi; rw [b3.new]; simp
          · have := a3.log q hq; dsimp only at this; rwa [aj _ _ hqi] at this
      · simp only [St.next, St.after]; rw [<- b1]; exact gT (λt ht => tsi _ t ht)
      · simp only [St.next, St.after]; rw [r2]; exact OK.congr _ _ _ _ _ _ _ (λt ht => (tsi _ t (eJ ht)).symm) (λhe => by rw [aoa he]; simp) b2
      · simp only [St.next, St.after]
        refine ⟨λk hk => ⟨(b3.wsrs k hk).1, Az.2 (.inl (b3.wsrs k hk).2.1), (b3.wsrs k hk).2.2⟩, b3.ids, λk hk => ?_, b3.once, λq hq => ?_, ?_, λhe => ?_, λhe VC => ?_⟩
        · show bW s.hp (f.ws ++ f.ns) k = none
          rw [dw (λhm => k3 k (by simpa [ak] using Or.inr (by simpa [ak] using hk)) hm)];exact b3.nodup k hk
        · by_cases hqj : q = j
          · subst hqj
            simp only [bj];refine ⟨λk hk hm => ?_, λk hk hm => ?_⟩
            · rcases cN.1 hk with hk | hk
              · exact k2 k oI hk
              · exact k3 k (by simp [ak] at hk |-; exact .inr hk) oI
            · exact k1 k (fB _ hm) lN
          · simp only [aj _ _ hqj]; exact b3.log q hq
        · show upd s.lg j _ i = _
          rw [aj _ _ df]; exact b3.new
        · show s.pn.or f.pan = none
          rw [b3.pan he, ang he]; rfl
        · show (s.yd || (f.yl && f.ws.isEmpty)) = false
          rw [b3.yl he VC, aoa he]; rfl
      · simp only [St.next, St.after]
        rw [yn _ _ _ h2, U8 k3, IL _ _ _ df, Bool.or_right_comm, Bool.or_right_comm s.wr]
        have e1 : (s.pn.or e.pan).or f.pan = (s.pn.or f.pan).or e.pan := by
          cases he : e.pan with
          | none => cases hf : f.pan <;> cases s.pn <;> rfl
          | some v => rw [ang (by rw [he]; simp)]; cases s.pn <;> rfl
        have e2 : (if f.yl = true then (if e.yl = true then s.yc + 1 else s.yc) + 1 else if e.yl = true then s.yc + 1 else s.yc) = (if e.yl = true then (if f.yl = true then s.yc + 1 else s.yc) + 1 else if f.yl = true then s.yc + 1 else s.yc) := by
          cases e.yl <;> cases f.yl <;> rfl
        rw [e1, e2]

def AK (md : Region.Mode) (ops : Array Oper) (listed : Array Bool) : Prop :=
  ∀ k o, ops[k]? = some o -> listed.getD k false = true -> ∀ e ∈ o.after, Region.binds md e = true -> listed.getD e.on false = true
theorem aeX {listed : Array Bool} {k : Nat} (h0 : listed.getD k true = false) (h1 : listed.getD k false = true) : False := by
  rcases Nat.lt_or_ge k listed.size with h' | h'
  · simp [h'] at h0 h1; rw [h0] at h1; cases h1
  · simp [gN h'] at h1
theorem Bs {md : Region.Mode} {ops : Array Oper} {listed : Array Bool} (mM : AK md ops listed) {j : Nat} (hj : listed.getD j true = false) : ∀ (f i : Nat), (∀ o, ops[i]? = some o -> ∀ e ∈ o.after, Region.binds md e = true -> listed.getD e.on false = true) -> LQ md ops f i j = false
  | 0, _, _ => rfl
  | f + 1, i, h => by
    unfold LQ
    cases ho : ops[i]? with
    | none => rfl
    | some o =>
      simp only;rw [Array.any_eq_false];intro k hk;have hm : o.after[k] ∈ o.after := jj hk
      cases hb : Region.binds md o.after[k] with
      | false => simp
      | true =>
        have hl := h o ho _ hm hb
        have df : (o.after[k].on == j) = false := by
          rw [beq_eq_false_iff_ne];exact λe => aeX hj (e ▸ hl)
        rw [df, Bs mM hj f _ (λo' ho' e he Jh => mM _ o' ho' hl e he Jh)];simp
theorem AK.set {md : Region.Mode} {ops : Array Oper} {listed : Array Bool} (mM : AK md ops listed) {j : Nat} (hj : j ∈ Region.ready md ops listed) : AK md ops (listed.setIfInBounds j true) := by
  have mono : ∀ {x : Nat}, listed.getD x false = true -> (listed.setIfInBounds j true).getD x false = true := λ{x} hx => by
    by_cases c : j = x
    · subst c
      rcases Nat.lt_or_ge j listed.size with h' | h'
      · simp [h']
      · simp [gN h'] at hx
    · rw [getD_set_ne false c]; exact hx
  intro k o hk hl e he hb;by_cases c : j = k
  · subst c
    obtain ⟨_, oj, Jl, jK⟩ := mem_ready.1 hj;rw [hk] at Jl;cases Jl;exact mono (jK e he hb)
  · rw [getD_set_ne false c] at hl
    exact mono (mM k o hk hl e he hb)
theorem LX {OK : OKP} {md : Region.Mode} {ops : Array Oper} {base : Nat} {K : St -> Prop} {i : Nat} {oi : Oper} {ei : Option Eff} (hi : ops[i]? = some oi) :
    ∀ (fuel : Nat) (listed : Array Bool) (s : St), AK md ops listed ->
      (∀ j oj, ops[j]? = some oj -> j ≠ i -> listed.getD j true = false -> (∀ e ∈ oj.after, Region.binds md e = true -> e.on ≠ i) -> oi.apart ops oj = true) ->
      i ∈ Region.ready md ops listed -> oX OK md ops base i oi ei s ->
      Bt OK md ops base K fuel (listed.setIfInBounds i true) (s.next i oi ei) -> Bt OK md ops base K (fuel + 1) listed s := by
  intro fuel
  induction fuel with
  | zero =>
    intro listed s _ _ hr hy H;refine ⟨λh => (by rw [h] at hr; cases hr), λj hj => ?_⟩;by_cases hji : j = i
    · subst hji; exact zq hi hy H
    · have := ready_mono hj hji
      rw [H.1] at this;cases this
  | succ fuel ih =>
    intro listed s mM dx hr hy H;refine ⟨λh => (by rw [h] at hr; cases hr), λj hj => ?_⟩;by_cases hji : j = i
    · subst hji; exact zq hi hy H
    · have h1 := H.2 j (ready_mono hj hji)
      obtain ⟨agF, oj, Jl, jK⟩ := mem_ready.1 hj;obtain ⟨alH, oi', alX, alq⟩ := mem_ready.1 hr;rw [hi] at alX; cases alX;have arB : ∀ e ∈ oj.after, Region.binds md e = true -> e.on ≠ i := λe he hb heq => aeX alH (heq ▸ jK e he hb);have hw1 : zo md ops j i = false := Bs mM alH 3 j λo ho e he hb => by rw [Jl] at ho; cases ho; exact jK e he hb
      have hw2 : zo md ops i j = false := Bs mM agF 3 i λo ho e he hb => by rw [hi] at ho; cases ho; exact alq e he hb
      obtain ⟨ej, hyj, hK⟩ := HJ Jl h1;obtain ⟨c1, c2, c3⟩ := OP (lL hji) (dx j oj Jl hji agF arB) hw1 hw2 hy hyj
      have agx : ∀ k ok, ops[k]? = some ok -> k ≠ i -> (listed.setIfInBounds j true).getD k true = false ->
          (∀ e ∈ ok.after, Region.binds md e = true -> e.on ≠ i) -> oi.apart ops ok = true := λk ok hk hki hun Vy => by
        refine dx k ok hk hki ?_ Vy;by_cases hjk : j = k
        · subst hjk; exact agF
        · rw [getD_set_ne true hjk] at hun; exact hun
      refine zq Jl c1 (ih (listed.setIfInBounds j true) _ (mM.set hj) agx (ready_mono hr (lL hji)) c2 ?_);rw [Array.setIfInBounds_comm _ _ hji, <- c3];exact hK

def B7 (OK : OKP) (md : Region.Mode) (ops : Array Oper) (base : Nat) (K : St -> Prop) : Nat -> List Oper -> St -> Prop
  | _, [], s => K s
  | k, o :: rest, s => match gn ops o s.ts with
    | some true => ∃ e, OK.ok o s.ts s.yc (rst s.hp e.rs) e /\ Fits md ops base k s e /\ B7 OK md ops base K (k + 1) rest (s.after k o e)
    | some false => OK.un o s.ts /\ B7 OK md ops base K (k + 1) rest (s.pass o)
    | none => False

theorem IP {OK : OKP} {md : Region.Mode} {ops : Array Oper} {base : Nat} {K : St -> Prop} : ∀ (l : List Oper) (k : Nat) (listed : Array Bool) (s : St), AK md ops listed -> (∀ j, l[j]? = ops[k + j]?) ->
    Region.lexFrom md ops l.length k listed = true -> B7 OK md ops base K k l s -> Bt OK md ops base K l.length listed s
  | [], _, _, _, _, _, hB, h => ⟨by simpa [Region.lexFrom] using hB, h⟩
  | o :: l, k, listed, s, mM, hl, hB, h => by
    have h0 : ops[k]? = some o := by simpa using (hl 0).symm
    simp only [fA, Region.lexFrom, bO] at hB;obtain ⟨⟨hr, hf⟩, hB'⟩ := hB;have tc : gOp OK md ops base k (B7 OK md ops base K (k + 1) l) s := by unfold gOp; simp only [h0]; exact h
    obtain ⟨e, hy, hK⟩ := HJ h0 tc
    exact LX h0 l.length listed s mM (Region.free_spec h0 hf) (by simpa using hr) hy
      (IP l (k + 1) _ _ (mM.set (by simpa using hr)) (λj => by have := hl (j + 1); simpa [qy, Nat.add_comm 1 j] using this) hB' hK)

theorem ew {p:Prop} (h:p:=by cases h):p:=h
theorem rB {p:Prop} (h:p:=by simpa using ho):p:=h
abbrev a9 := @Array.getElem?_eq_some_iff
abbrev j8 := @Nat.lt_of_lt_of_le
abbrev aG := @Nat.le_refl
abbrev lC := @Option.bind_some
abbrev bg := @Option.some.injEq
abbrev dL := @List.all_eq_true
abbrev ke := @Array.mem_of_getElem?
abbrev aU := @if_true
abbrev bw := @List.nil_append
abbrev gB := @Bool.false_eq_true
abbrev bY := @if_false
abbrev jl := @Array.getD_eq_getD_getElem?
abbrev jm := @Array.getElem?_replicate

structure Ext where
  X : Nat -> (Nat -> Prop) -> World -> Prop
  ok : ∀ c S W W', X c S W -> (∀ k, S k -> W'.heap[k]? = W.heap[k]?) -> W'.os = W.os -> W'.tape = W.tape -> W'.output = W.output -> W.heap.size <= W'.heap.size -> X c S W'

structure Sh where
  w : Nat
  a : Nat
  ob : Nat -> Blk
structure YG where
  l : Nat
  xs : List (Array Value)
  stop : Nat
  pn : Option Value
  sh : Option Sh
def YG.still : YG := ⟨0, [], 0, none, none⟩
def YG.has (y : YG) (c : Nat) (W : World) : Prop := match y.sh with
  | none => True
  | some s => W.heap[s.a]? = some (s.ob c).obj0
def YG.at (y : YG) (k : Nat) : Prop := match y.sh with
  | none => False
  | some s => k = s.a
def YG.pan (y : YG) (c : Nat) : Option Value := if c = y.stop then y.pn else none

structure Ctx where
  E : Ext
  hp0 : Hp
  r0 : Nat -> Nat
  G : Hp
  Y : Option YG

def GOK (G : Hp) (W : World) : Prop := ∀ k b, G k = some b -> W.heap[k]? = some b.obj0

def pE (P : Program) (G : Hp) (E : Ext) (y : YG) : Prop :=
  ∀ c x S W, GOK G W -> y.xs[c]? = some x -> c <= y.stop -> E.X c S W -> (∀ k, S k -> k < W.heap.size) -> y.has c W ->
    YieldAt (Fs P) 0 P y.l x W λe W' => (match y.pan c with | none => e = .returned (.bool (c != y.stop)) | some pv => e = .panicked [{ v := pv, recovered := false }]) /\ GOK G W' /\ W.heap.size <= W'.heap.size /\ (∀ k, k < W.heap.size -> ¬ S k -> ¬ y.at k -> W'.heap[k]? = W.heap[k]?) /\ y.has (c + 1) W' /\
      ∃ S', E.X (c + 1) S' W' /\ (∀ k, S' k -> k < W'.heap.size) /\ ∀ k, S' k -> k < W.heap.size -> S k
def YG.fine (y : YG) (C : Ctx) : Prop := match y.sh with
  | none => True
  | some s => dom C.hp0 s.w /\ C.r0 s.w = s.a /\ ∀ c, (∀ r, (s.ob c).obj r = (s.ob c).obj0) /\ ∀ D, (s.ob c).ids D
def qc (P : Program) (C : Ctx) (y : YG) : Prop := pE P C.G C.E y /\ y.fine C

def H9 (D : Nat) : Deferred := { target := .collected D, args := #[] }

structure RI (C : Ctx) (n : Nat) (d : List Deferred) (r : Nat -> Nat) (ts : Nat -> Value) (hp : Hp) (yc : Nat) (a : Act) (W : World) : Prop where
  size : a.tmps.size = n
  rel : Rel r (dom hp) ts a
  sat : Sat r (dom hp) hp W
  inj : Inj r (dom hp)
  ext : ∃ (S : Nat -> Prop) (ms : List Nat), C.E.X yc S W /\ (∀ k, S k -> k < W.heap.size) /\ (∀ i, dom hp i -> 100 <= i -> ¬ S (r i)) /\ (a.defers = ms.map H9 ++ d /\ ms.Nodup) /\ ∀ D ∈ ms, W.heap[D]? = some (.deferred (some [])) /\ ¬ S D /\ C.Y ≠ some .still
  keep : ∀ i, dom C.hp0 i -> dom hp i /\ r i = C.r0 i
  glob : ∀ k, k < 100 -> hp k = C.G k
  low : ∀ k, k < 100 -> dom hp k -> r k = k

section
variable {P : Program} {C : Ctx} {n : Nat} {d : List Deferred} {r : Nat -> Nat} {ts : Nat -> Value} {hp : Hp} {yc : Nat} {a : Act} {W : World}

theorem RI.lt (h : RI C n d r ts hp yc a W) {k : Nat} (hk : dom hp k) : r k < W.heap.size := by
  unfold dom at hk
  cases hb : hp k with
  | none => exact absurd hb hk
  | some b => exact (a9.1 (h.sat k b hb).1).1

theorem RI.ne_mark (h : RI C n d r ts hp yc a W) {k D : Nat} (hk : dom hp k) (hD : W.heap[D]? = some (.deferred (some []))) : r k ≠ D := λe => by
  unfold dom at hk
  cases hb : hp k with
  | none => exact absurd hb hk
  | some b =>
    have := (h.sat k b hb).1;rw [e, hD] at this; exact (Blk.obj_def this).elim

theorem RI.elsewhere (h : RI C n d r ts hp yc a W) {W' : World} (os : W'.os = W.os) (tape : W'.tape = W.tape) (output : W'.output = W.output) (size : W.heap.size <= W'.heap.size)
    (hs : ∀ k, k < W.heap.size -> W'.heap[k]? = W.heap[k]?) : RI C n d r ts hp yc a W' :=
  { h with
    sat := λk b hk => by
      have := h.sat k b hk;exact ⟨(hs _ (h.lt (by unfold dom; rw [hk]; simp))).trans this.1, this.2⟩
    ext := by
      obtain ⟨S, ms, h1, h2, h3, h4, h5⟩ := h.ext;exact ⟨S, ms, C.E.ok _ _ _ _ h1 (λk hk => hs k (h2 k hk)) os tape output size, λk hk => j8 (h2 k hk) size, h3, h4, λD hD => ⟨by rw [hs D (a9.1 (h5 D hD).1).1]; exact (h5 D hD).1, (h5 D hD).2⟩⟩ }

theorem RI.drew (h : RI C n d r ts hp yc a W) : RI C n d r ts hp yc a { W with drawn := W.drawn + 1 } :=
  h.elsewhere rfl rfl rfl (aG _) λ_ _ => rfl

theorem RI.below (h : RI C n d r ts hp yc a W) {W' : World} (hb : Below W.heap.size W W') : RI C n d r ts hp yc a W' :=
  h.elsewhere hb.os hb.tape hb.output hb.size hb.block

theorem RI.put (h : RI C n d r ts hp yc a W) {dst : Option Tmp} (hd : ∀ d, dst = some d -> d < n) {v : Value} (hv : aN (dom hp) v) : RI C n d r (dk ts dst v) hp yc (a.put dst (ren r v)) W :=
  { h with
    size := by cases dst <;> simp [Act.put, h.size]
    ext := by cases dst <;> exact h.ext
    rel := h.rel.put (λe he => by rw [h.size]; exact hd e he) hv }

theorem RI.put_undef (h : RI C n d r ts hp yc a W) {dst : Option Tmp} (hd : ∀ d, dst = some d -> d < n) : RI C n d r (dk ts dst undef) hp yc (a.put dst undef) W := by
  have := h.put hd (kT (dom hp));rwa [ir] at this

theorem W0 {hp : Hp} {ws ns : List (Nat × Blk)} (OU : ∀ k ∈ ak ws, dom hp k) (k : Nat) : dom (bW hp (ws ++ ns)) k ↔ cJ (dom hp) ns k := by
  rw [Az];unfold cJ;constructor
  · rintro (h | h)
    · exact .inl h
    · have : k ∈ ak ws \/ k ∈ ak ns := by simpa [ak] using h
      exact this.elim (λh => .inl (OU k h)) .inr
  · rintro (h | h)
    · exact .inl h
    · exact .inr (by simp [ak] at h |-; exact .inr h)

theorem RI.after (h : RI C n d r ts hp yc a W) {dst : Option Tmp} (hd : ∀ d, dst = some d -> d < n) {e : Eff} {r' : Nat -> Nat} {W' : World} (hr : ∀ k, dom hp k -> r' k = r k)
    (hv : aN (cJ (dom hp) e.ns) e.v) (ht : Turn r' (cJ (dom hp) e.ns) W W' e.ws e.ns) (OU : ∀ k ∈ ak e.ws, dom hp k /\ 100 <= k) (hns : ∀ k ∈ ak e.ns, hp k = none /\ 100 <= k) :
    RI C n d r' (dk ts dst e.v) (bW hp (e.ws ++ e.ns)) yc (a.put dst (ren r' e.v)) W' := by
  have hD : dom (bW hp (e.ws ++ e.ns)) = cJ (dom hp) e.ns := funext λk => propext (W0 (λk hk => (OU k hk).1) k);have old : ∀ k, cJ (dom hp) e.ns k -> dom hp k \/ k ∈ ak e.ns := λk hk => hk;have VE : ∀ k, dom hp k -> r' k < W.heap.size := λk hk => by rw [hr k hk]; exact h.lt hk
  have fr : ∀ k, k ∈ ak e.ns -> W.heap.size <= r' k := λk hk => by
    obtain ⟨p, db, rfl⟩ := aI.1 hk; exact ht.fresh p db
  have big : ∀ k ∈ ak (e.ws ++ e.ns), 100 <= k := λk hk => by
    have : k ∈ ak e.ws \/ k ∈ ak e.ns := lN;exact this.elim (λh => (OU k h).2) (λh => (hns k h).2)
  have amn : Inj r' (cJ (dom hp) e.ns) := λk l hk hl hkl => by
    rcases old k hk with hk | hk <;> rcases old l hl with hl | hl
    · exact h.inj k l hk hl (by rw [<- hr k hk, <- hr l hl]; exact hkl)
    · have h1 := VE k hk; have h2 := fr l hl; omega
    · have h1 := VE l hl; have h2 := fr k hk; omega
    · obtain ⟨p, hp1, rfl⟩ := aI.1 hk
      obtain ⟨q, nc, rfl⟩ := aI.1 hl;exact ht.apart p hp1 q nc hkl
  have base : RI C n d r' ts (bW hp (e.ws ++ e.ns)) yc a W' :=
    { size := h.size
      rel := by rw [hD]; exact h.rel.mono (λk hk => .inl hk) hr
      sat := λk b hk => by
        rw [hD];rcases Ow hk with ⟨h1, h2⟩ | h1
        · have g8 : dom hp k := by unfold dom; rw [h1]; simp
          have hs := h.sat k b h1;refine ⟨?_, Blk.ids_mono (λ_ hk => .inl hk) hs.2⟩;rw [ht.same (r' k) (VE k g8) (λp hp1 e1 => ?_), hr k g8, hs.1, Blk.obj_congr hr hs.2];have hp2 : p.1 ∈ ak e.ws := aI.2 ⟨p, hp1, rfl⟩;have : p.1 = k := amn _ _ (.inl (OU _ hp2).1) (.inl g8) e1;exact h2 (by rw [<- this]; simp [ak] at hp2 |-; exact .inl hp2)
        · exact ht.has _ h1
      inj := by rw [hD]; exact amn
      ext := by
        obtain ⟨S, ms, h1, h2, h3, h4, h5⟩ := h.ext;refine ⟨S, ms, C.E.ok _ _ _ _ h1 (λk hk => ht.same k (h2 k hk) λp hp1 e1 => ?_) ht.os ht.tape ht.output ht.size, λk hk => j8 (h2 k hk) ht.size, λi hi h1i hS => ?_, h4, λD hD => ⟨?_, (h5 D hD).2⟩⟩
        · have hp2 := (OU _ (aI.2 ⟨p, hp1, rfl⟩)).1
          rw [hr _ hp2] at e1;exact h3 _ hp2 (OU _ (aI.2 ⟨p, hp1, rfl⟩)).2 (e1 ▸ hk)
        · rw [hD] at hi
          rcases old i hi with hi | hi
          · rw [hr i hi] at hS; exact h3 i hi h1i hS
          · have h6 := h2 _ hS; have h7 := fr i hi; omega
        · rw [ht.same D (a9.1 (h5 D hD).1).1 (λp hp1 e1 => ?_)]
          · exact (h5 D hD).1
          · have hp2 := (OU _ (aI.2 ⟨p, hp1, rfl⟩)).1
            rw [hr _ hp2] at e1;exact h.ne_mark hp2 (h5 D hD).1 e1
      keep := λi hi => ⟨by rw [hD]; exact .inl (h.keep i hi).1, by rw [hr i (h.keep i hi).1]; exact (h.keep i hi).2⟩
      glob := λk hk => by rw [dw (λhm => by have := big k hm; omega)]; exact h.glob k hk
      low := λk hk hd => by
        rw [hD] at hd;rcases old k hd with hd | hd
        · rw [hr k hd]; exact h.low k hk hd
        · have := (hns k hd).2; omega }
  exact base.put hd (by rw [hD]; exact hv)

abbrev Fw (P : Program) (ro : Option Nat) : Fence := { Fs P with round := ro }

theorem jI {ro : Option Nat} {m : Nat} {o : Oper} {R Rp : Value -> World -> Prop} {next : Act -> World -> Prop} {Q : Exit -> Act -> World -> Prop} (BS : ∀ c, o.op ≠ .defer c) (h : pW P o a W R Rp) (hn : ∀ u W', R u W' -> next (a.put o.dst u) W')
    (hp : ∀ pv W', Rp pv W' -> Q (.panic [{ v := pv, recovered := false }]) a W') : o.wpIn (Fw P ro) m P a W next Q := by
  refine ⟨?_, ?_⟩
  · unfold pW at h
    generalize hx : (execOp a.eval o).run P W = x at h
    cases x with
    | ok nx W' => exact Ho hx
    | halt x W' =>
      cases x <;> first | exact h.elim | (intro f hf; rw [h.1] at hf; cases hf)
  have e : (Fw P ro).round = ro := rfl;rw [e, Oper.semAt_eq ro a.eval o BS];unfold pW at h;generalize (execOp a.eval o).run P W = x at h
  cases x with
  | ok nx W' =>
    cases nx <;> simp only [Oper.uponIn] at h |- <;> first
      | exact hn _ _ h
      | (exact h.elim)
      | (refine ⟨λh => ew, ?_⟩
         refine nT (⟨h.1, λcs _ => h.2 cs (mJ P _)⟩ : CallsIn (Fw P ro) (m - 1) P _ _ _ _) ?_;intro e w'' hr
         cases e with
         | returned u => exact hn _ _ hr
         | panicked ch => obtain ⟨pv, rfl, hr⟩ := hr; exact hp _ _ hr
         | outgrown => exact hr.elim)
  | halt x W' => cases x <;> first | exact h.elim | exact hp _ _ h.2

theorem pS {ops : Array Oper} {o : Oper} {b : Bool} (h : Rel r (dom hp) ts a) (hj : gn ops o ts = some b) : Region.wanted o (yielded ops a.tmps) = b := by
  unfold Region.wanted;unfold gn at hj
  cases hg : o.guard with
  | none => simpa [hg] using hj
  | some g =>
    obtain ⟨j, w⟩ := g;simp only [hg] at hj |-;unfold yielded
    cases hd : (ops[j]?).bind (·.dst) with
    | none => simpa [hd] using hj
    | some t =>
      simp only [hd] at hj;simp only [lC];have ht := h t
      cases hv : ts t with
      | bool c =>
        simp only [hv, bg] at hj;obtain ⟨h1, _⟩ := ht.resolve_left (by rw [hv]; simp [eY]);rw [hv] at h1;simp only [ren, aT, aw, aA] at h1
        cases hq : a.tmps[t]? with
        | none => simp [hq, undef] at h1
        | some u => simp [hq] at h1; subst h1; simpa using hj
      | tuple vs =>
        simp only [hv, bg] at hj;obtain ⟨h1, _⟩ := ht.resolve_left (by rw [hv]; simp [eY]);rw [hv] at h1;simp only [ren] at h1
        cases hq : a.tmps[t]? with
        | none => simpa using hj
        | some u => simp [hq] at h1; subst h1; simpa using hj
      | _ => simp [hv] at hj

def sO (n : Nat) (ops : List Oper) : Bool := ops.all λo => (match o.dst with | some d => decide (d < n) | none => true) && (match o.op with | .defer _ => false | _ => true)
theorem pG {n : Nat} {ops : List Oper} (h : sO n ops = true) {o : Oper} (ho : o ∈ ops) : (∀ d, o.dst = some d -> d < n) /\ ∀ c, o.op ≠ .defer c := by
  have := dL.1 h o ho;simp only [bO] at this;refine ⟨λd hd => ?_, λc hc => ?_⟩
  · have h1 := this.1; simpa [hd] using h1
  · have h2 := this.2; simp [hc] at h2

theorem Zs {ro : Option Nat} {m : Nat} {o : Oper} {e : Eff} {next : Act -> World -> Prop} {Q : Exit -> Act -> World -> Prop} (h : RI C n d r ts hp yc a W) (hd : (∀ d, o.dst = some d -> d < n) /\ ∀ c, o.op ≠ .defer c)
    (ho : OpD P o ts (rst hp e.rs) e) (OU : ∀ k ∈ ak e.ws, dom hp k /\ 100 <= k) (hns : ∀ k ∈ ak e.ns, hp k = none /\ 100 <= k)
    (hn : ∀ r' a' W', e.pan = none -> RI C n d r' (dk ts o.dst e.v) (bW hp (e.ws ++ e.ns)) yc a' W' -> next a' W')
    (db : ∀ pv W', e.pan = some pv -> RI C n d r ts hp yc a W' -> Q (.panic [{ v := pv, recovered := false }]) a W') : o.wpIn (Fw P ro) m P a W next Q := by
  refine jI hd.2 (ho r (dom hp) a W (λt _ => h.rel t) (λk b hk => h.sat k b (iO hk)) h.inj h.low (λk hk => ?_) (λp hp1 => ?_)) ?_ ?_
  · unfold dom at hk |-
    cases hb : rst hp e.rs k with
    | none => exact absurd hb hk
    | some b => rw [iO hb]; simp
  · have := hns _ (aI.2 ⟨p, hp1, rfl⟩)
    exact ⟨by unfold dom; simp [this.1], this.2⟩
  · rintro u W' ⟨o7, r', hr, rfl, hv, ht⟩
    exact hn r' _ _ o7 (h.after hd.1 hr hv ht OU hns)
  · rintro pv W' ⟨o7, hb⟩
    exact db pv W' o7 (h.below hb)

def VV (P : Program) (C : Ctx) (n : Nat) (d : List Deferred) (ro : Option Nat) (OK : OKP) : Prop :=
  ∀ (o : Oper) (e : Eff) (ts : Nat -> Value) (hp : Hp) (yc : Nat) (r : Nat -> Nat) (a : Act) (W : World) (m : Nat) (next : Act -> World -> Prop) (Q : Exit -> Act -> World -> Prop),
    RI C n d r ts hp yc a W -> ((∀ d, o.dst = some d -> d < n) /\ ∀ c, o.op ≠ .defer c) -> OK.ok o ts yc (rst hp e.rs) e -> (∀ k ∈ ak e.ws, dom hp k /\ 100 <= k) -> (∀ k ∈ ak e.ns, hp k = none /\ 100 <= k) ->
    (∀ r' a' W', e.pan = none -> RI C n d r' (dk ts o.dst e.v) (bW hp (e.ws ++ e.ns)) (if e.yl then yc + 1 else yc) a' W' -> next a' W') ->
    (∀ pv W' xS, e.pan = some pv -> RI C n d r ts hp xS a W' -> Q (.panic [{ v := pv, recovered := false }]) a W') -> o.wpIn (Fw P ro) m P a W next Q

def OZ (P : Program) (OK : OKP) : Prop :=
  ∀ (o : Oper) (ts : Nat -> Value) (r : Nat -> Nat) (D : Nat -> Prop) (a : Act) (W : World), Rel r D ts a -> OK.un o ts -> ∀ f, o.about P W a.eval = some f -> (Fs P).fn f

theorem tR {OK : OKP} {md : Region.Mode} {ops : Array Oper} {base : Nat} {K : St -> Prop} : ∀ (fuel : Nat) (listed : Array Bool) (s : St), Bt OK md ops base K fuel listed s -> ∃ s', K s' /\ (∀ v, s.pn = some v -> s'.pn = some v) /\ (s'.wr = false -> s.wr = false)
  | 0, _, s, h => ⟨s, h.2, λ_ h => h, id⟩
  | fuel + 1, listed, s, h => by
    cases hr : Region.ready md ops listed with
    | nil => exact ⟨s, h.1 hr, λ_ h => h, id⟩
    | cons i l =>
      have h1 := h.2 i (by rw [hr]; simp);unfold gOp at h1
      cases ho : ops[i]? with
      | none => simp only [ho] at h1; exact tR fuel _ s h1
      | some o =>
        simp only [ho] at h1
        cases hw : gn ops o s.ts with
        | none => rw [hw] at h1; exact h1.elim
        | some b =>
          rw [hw] at h1
          cases b with
          | true =>
            obtain ⟨e, _, _, h4⟩ := h1;obtain ⟨s', k, h5, h6⟩ := tR fuel _ _ h4;refine ⟨s', k, λv hv => h5 v (by simp [St.after, hv]), λhs => ?_⟩;have := h6 hs; simp only [St.after, kn] at this; exact this.1
          | false =>
            obtain ⟨s', k, h5, h6⟩ := tR fuel _ _ h1.2;exact ⟨s', k, h5, h6⟩

theorem py {ts : Nat -> Value} {dst : Option Tmp} {v : Value} {t : Nat} (h : dst ≠ some t) : dk ts dst v t = ts t := by
  cases dst with
  | none => rfl
  | some d => exact aj _ _ (λe => h (by rw [e]))
theorem tS {OK : OKP} {ro : Option Nat} {m : Nat} {md : Region.Mode} {ops : Array Oper} {base : Nat} {K : St -> Prop} {Q : Exit -> Act -> World -> Prop} {hp0 : Hp} {iP : Nat -> Value} (tc : VV P C n d ro OK) (hun : OZ P OK) (jL : ∀ o ∈ ops, (∀ d, o.dst = some d -> d < n) /\ ∀ c, o.op ≠ .defer c)
    (hK : ∀ s, K s -> s.pn = none -> ∀ r' a' W', RI C n d r' s.ts s.hp s.yc a' W' -> Q .normal a' W')
    (hP : ∀ s' pv, K s' -> s'.pn = some pv -> s'.wr = false -> ∀ r a W ts hp yc, (∀ k b, hp0 k = some b -> hp k = some b) -> (∀ t, (∀ o ∈ ops, o.dst ≠ some t) -> ts t = iP t) -> RI C n d r ts hp yc a W -> Q (.panic [{ v := pv, recovered := false }]) a W) (J0 : ∀ s', K s' -> s'.pn ≠ none -> s'.wr = false) :
    ∀ (fuel : Nat) (listed : Array Bool) (s : St) (r : Nat -> Nat) (a : Act) (W : World), RI C n d r s.ts s.hp s.yc a W -> s.pn = none -> (s.wr = false -> ∀ k b, hp0 k = some b -> s.hp k = some b) -> (∀ t, (∀ o ∈ ops, o.dst ≠ some t) -> s.ts t = iP t) -> Bt OK md ops base K fuel listed s -> wpAnyIn (Fw P ro) m P md ops Q fuel listed a W
  | 0, _, s, r, a, W, hR, o7, hs, AG, h => ⟨h.1, hK s h.2 o7 r a W hR⟩
  | fuel + 1, listed, s, r, a, W, hR, o7, hs, AG, h => by
    refine ⟨λh0 => hK s (h.1 h0) o7 r a W hR, λi hi => ?_⟩;have h1 := h.2 i hi;unfold wpOpIn;unfold gOp at h1
    cases ho : ops[i]? with
    | none => simp only [ho] at h1; exact tS tc hun jL hK hP J0 fuel _ s r a W hR o7 hs AG h1
    | some o =>
      simp only [ho] at h1;have hd := jL o (ke ho)
      cases hw : gn ops o s.ts with
      | none => rw [hw] at h1; exact h1.elim
      | some b =>
        rw [hw] at h1;simp only [pS hR.rel hw]
        cases b with
        | true =>
          obtain ⟨e, h2, h3, h4⟩ := h1;simp only [aU]
          have BT : (s.after i o e).wr = false -> ∀ k b, hp0 k = some b -> (s.after i o e).hp k = some b := λL7 k b hk => by
            simp only [St.after, kn] at L7;have e0 : e.ws = [] := by have := L7.2; simpa using this
            have g8 := hs L7.1 k b hk;show bW s.hp (e.ws ++ e.ns) k = some b;rw [e0, bw, dw (λhm => by have := h3.nodup k hm; rw [g8] at this; cases this)];exact g8
          refine tc o e s.ts s.hp s.yc r a W m _ _ hR hd h2 (λk hk => (h3.wsrs k hk).2) (λk hk => ⟨h3.nodup k hk, (h3.ids k hk).2.2⟩) ?_ ?_
          · intro r' a' W' hpe Xq
            exact tS tc hun jL hK hP J0 fuel _ (s.after i o e) r' a' W' Xq (by simp [St.after, o7, hpe]) BT (λt ht => (py (ht o (ke ho))).trans (AG t ht)) h4
          · intro pv W' xS hpe Xq
            obtain ⟨s', k, h5, h6⟩ := tR fuel _ _ h4;have hp5 := h5 pv (by simp [St.after, o7, hpe]);have hw5 := J0 s' k (by rw [hp5]; simp);have hw6 := h6 hw5;simp only [St.after, kn] at hw6;exact hP s' pv k hp5 hw5 r a W' s.ts s.hp xS (hs hw6.1) AG Xq
        | false =>
          simp only [gB, bY];exact ⟨hun o s.ts r _ a W hR.rel h1.1, tS tc hun jL hK hP J0 fuel _ (s.pass o) r _ W (hR.put_undef hd.1) o7 hs (λt ht => (py (ht o (ke ho))).trans (AG t ht)) h1.2⟩

theorem N6 {OK : OKP} {ro : Option Nat} {m : Nat} {id : Nat} {l : List Oper} {base : Nat} {K : St -> Prop} {Q : Exit -> Act -> World -> Prop} (tc : VV P C n d ro OK) (hun : OZ P OK) (hm : P.follows .mixedOrders = true)
    (hB : Region.lexFrom .any l.toArray l.length 0 (Array.replicate l.length false) = true) (jL : sO n l = true) (h : RI C n d r ts hp yc a W)
    (hw : B7 OK .any l.toArray base K 0 l ⟨ts, hp, λ_ => ([], []), yc, false, none, false⟩) (hK : ∀ s, K s -> s.pn = none -> ∀ r' a' W', RI C n d r' s.ts s.hp s.yc a' W' -> Q .normal a' W')
    (hP : ∀ s' pv, K s' -> s'.pn = some pv -> s'.wr = false -> ∀ r a W oW db yc, (∀ k b, hp k = some b -> db k = some b) -> (∀ t, (∀ o ∈ l, o.dst ≠ some t) -> oW t = ts t) -> RI C n d r oW db yc a W -> Q (.panic [{ v := pv, recovered := false }]) a W) (J0 : ∀ s', K s' -> s'.pn ≠ none -> s'.wr = false) : (Code.region id l.toArray true).wpIn (Fw P ro) m P Q a W := by
  refine wpIn_region_any hm ?_;have := IP (md := .any) (ops := l.toArray) l 0 (Array.replicate l.length false) ⟨ts, hp, λ_ => ([], []), yc, false, none, false⟩ (λk o _ hl => by rw [jl, jm] at hl; split at hl <;> simp at hl) zS hB hw;have h2 := tS (C := C) (n := n) (d := d) (Q := Q) (m := m) (hp0 := hp) tc hun (λo ho => pG jL rB) hK (λs' pv h1 h2 h3 r a W oW db yc h4 h5 h6 => hP s' pv h1 h2 h3 r a W oW db yc h4 (λt ht => h5 t (λo ho => ht o rB)) h6) J0 _ _ _ r a _ h.drew rfl (λ_ _ _ h => h) (λ_ _ => rfl) this;simpa using h2

end
theorem aE {p:Prop} (h:p:=by simp;omega):p:=h
theorem rj {p:Prop} (h:p:=by simpa using hy):p:=h
abbrev cV := @Array.all_eq_true_iff_forall_mem
abbrev j4 := @Array.getElem?_toList
abbrev lz := @Array.getElem?_map
abbrev uK := @Array.getElem?_extract
abbrev nR := @Array.toArray_toList
abbrev BK := @Array.mem_or_eq_of_mem_setIfInBounds
abbrev iB := @Array.ext_getElem?
abbrev ai := @if_pos
abbrev jq := @Go.World.putObj_heap_same
abbrev iH := @Array.toList_map
abbrev aD := @List.mem_map
abbrev dZ := @Nat.add_zero
abbrev iQ := Value -> Prop

def mD:Value->Bool
 | .pointer (some _)=>false
 | .slice (some _) _ _=>false
 | .map (some _)=>false
 | _=>true
def bP:Value->Bool
 | .func _ first cap=>first.all mD&&cap.all mD
 | .iface _ v=>mD v
 | v=>mD v
def o6:Value->Bool
 | .agg cs=>cs.all bP
 | v=>bP v
def bz:Value->Bool
 | .tuple vs=>vs.all o6
 | v=>o6 v

section
variable {r:cI} {D:gA}
theorem eK {f:Value->Value} {xs:bV} (h:∀ x∈xs,f x=x):xs.map f=xs:=by
 have:xs.map f=xs.map id:=bK λx hx=>by simpa using h x hx
 rw [this];simp
theorem x9 {v:Value} (h:mD v=true):aA r v=v:=by unfold mD at h;split at h<;>simp_all [aA]
theorem x8 {v:Value} (h:mD v=true):aR D v:=by unfold mD at h;split at h<;>simp_all [aR]
theorem eU {v:Value} (h:bP v=true):aw r v=v:=by
 unfold bP at h;split at h
 ·simp only [bO] at h;simp only [aw];rw [eK (λx hx=>x9 (cV.1 h.1 x hx)),eK (λx hx=>x9 (cV.1 h.2 x hx))]
 ·simp only [aw];rw [x9 h]
 ·rename_i h1 h2;unfold aw;split
  ·exact absurd rfl (h1 _ _ _)
  ·exact absurd rfl (h2 _ _)
  ·exact x9 h
theorem jd {v:Value} (h:bP v=true):aL D v:=by
 unfold bP at h;split at h
 ·simp only [bO] at h;exact ⟨λx hx=>x8 (cV.1 h.1 x hx),λx hx=>x8 (cV.1 h.2 x hx)⟩
 ·exact x8 (v:=_) h
 ·rename_i h1 h2;unfold aL;split
  ·exact absurd rfl (h1 _ _ _)
  ·exact absurd rfl (h2 _ _)
  ·exact x8 h
theorem Blk.obj_flat {r:cI} {b:Blk} (h:∀ x∈b.c,bP x=true):b.obj r=b.obj0:=by
 obtain ⟨c,T⟩:=b
 cases T with
 | ty t=>unfold Blk.obj Blk.obj0;simp only;rw [eK (λx hx=>eU (h x hx))]
 | raw t fr=>rfl
 | mp=>unfold Blk.obj Blk.obj0;simp only;rw [eK (λx hx=>eU (h x hx))]
theorem Blk.flat_ids {b:Blk} (h:∀ x∈b.c,bP x=true):b.ids D:=Blk.ids_of λx hx=>jd (h x hx)
theorem JQ {v:Value} (h:o6 v=true):aT r v=v:=by
 unfold o6 at h;split at h
 ·simp only [aT];rw [eK (λx hx=>eU (cV.1 h x hx))]
 ·rename_i h1;unfold aT;split
  ·exact mv
  ·exact eU h
theorem JP {v:Value} (h:o6 v=true):cp D v:=by
 unfold o6 at h;split at h
 ·exact λx hx=>jd (cV.1 h x hx)
 ·rename_i h1;unfold cp;split
  ·exact mv
  ·exact jd h
theorem bM {v:Value} (h:bz v=true):ren r v=v:=by
 unfold bz at h;split at h
 ·simp only [ren];rw [eK (λx hx=>JQ (cV.1 h x hx))]
 ·rename_i h1;unfold ren;split
  ·exact mv
  ·exact JQ h
theorem cb {v:Value} (h:bz v=true):aN D v:=by
 unfold bz at h;split at h
 ·exact λx hx=>JP (cV.1 h x hx)
 ·rename_i h1;unfold aN;split
  ·exact mv
  ·exact JP h
end

def sB:Value->Bool
 | .agg _=>false
 | .tuple _=>false
 | _=>true
theorem N7 {r:cI} {v:Value} (h:sB v=true):ren r v=aw r v:=by cases v<;>simp_all [sB,ren,aT]
theorem XM {D:gA} {v:Value} (h:sB v=true):aN D v↔aL D v:=by cases v<;>simp_all [sB,aN,cp]
theorem UL {r:cI} {v:Value} (h:sB v=true):sB (aw r v)=true:=by
 cases v with
 | pointer p=>cases p<;>rfl
 | slice p _ _=>cases p<;>rfl
 | map p=>cases p<;>rfl
 | agg _=>simp [sB] at h
 | tuple _=>simp [sB] at h
 | _=>rfl

def gev (ts:eM):Operand->Value
 | .tmp t=>ts t
 | .const v=>v
 | .global g=>.pointer (some ⟨g,0,none⟩)
 | .func f=>.func (.func f) #[] #[]
def nj:Value->Prop
 | .complex _ _ _=>False
 | _=>True
theorem Yr {v:Value} (h:nj v):v≠eY:=by intro e;rw [e] at h;exact h
def okX (ts:eM) (hp:Hp):Operand->Prop
 | .tmp t=>nj (ts t)
 | .const v=>bz v=true
 | .global g=>g<100/\(hp g).isSome=true
 | .func _=>True

section
variable {P:Program} {o:Oper} {r:cI} {D:gA} {ts:eM} {a:Act} {hp:Hp}
theorem ev {x:Operand} (h:zx o r D ts a) (hx:x∈o.op.operands) (hk:okX ts hp x) (ba:∀ k,k<100->D k->r k=k) (hD:∀ k,k<100->dom hp k->D k) :
  a.eval x=ren r (gev ts x)/\aN D (gev ts x):=by
 cases x with
 | tmp t=>exact (h t hx).resolve_left (Yr hk)
 | const v=>exact ⟨(bM hk).symm,cb hk⟩
 | global g =>
  obtain ⟨h1,h2⟩:=hk;have hd:D g:=hD g h1 (by unfold dom;intro e;rw [e] at h2;simp at h2);exact ⟨by simp [Act.eval,gev,ren,aT,aw,aA,ba g h1 hd],by simpa [gev,aN,cp,aL,aR] using hd⟩
 | func f=>exact ⟨by simp [Act.eval,gev,ren,aT,aw],by simp [gev,aN,cp,aL]⟩

def oe (P:Program) (T:TypeId):Option Bool :=
 match P.underlying T with
 | some (.struct _)=>some true
 | some (.array _ _)=>some true
 | some _=>some false
 | none=>none
def bA (P:Program) (T:TypeId):Option Nat:=(P.info? T).map (·.size)
def cT (P:Program) (T:TypeId):Option Value:=(P.info? T).bind (·.zero)

theorem pA {T:TypeId} {b:Bool} (h:oe P T=some b) (W:World):(isAgg T).run P W=.ok b W:=by
 unfold oe at h;unfold isAgg
 cases hu:P.underlying T with
 | none=>simp [hu] at h
 | some dd =>
  rw [aY,run_underlying hu W];cases dd<;>simp_all
theorem fu {T:TypeId} {m:Nat} (h:bA P T=some m) (W:World):(sizeOf T).run P W=.ok m W:=by
 unfold bA at h
 cases hi:P.info? T with
 | none=>simp [hi] at h
 | some i=>simp [hi] at h;simp [sizeOf,typeInfo,hi,h]
theorem sy {T:TypeId} {z:Value} (h:cT P T=some z) (W:World):(zeroValue T).run P W=.ok z W:=by
 unfold cT at h
 cases hi:P.info? T with
 | none=>simp [hi] at h
 | some i=>simp [hi] at h;simp [zeroValue,typeInfo,hi,h]

def eh (P:Program) (T:TypeId) (c:bV) (off:Nat):Option Value :=
 match oe P T with
 | some true=>match bA P T with
  | some m=>if off+m<=c.size then some (.agg (c.extract off (off+m))) else none
  | none=>none
 | some false=>match c[off]? with
  | some v=>if sB v then some v else none
  | none=>none
 | none=>none

theorem ud {T:TypeId} {c:bV} {off:Nat} {v:Value} (h:eh P T c off=some v) {W:World} {b:Nat} {T':TypeId} {fr:Nat×Nat} (hb:W.heap[b]? = some (.cells (c.map (aw r)) T' fr)) :
  (loadVar T ⟨b,off,none⟩).run P W=.ok (ren r v) W:=by
 unfold eh at h
 cases ha:oe P T with
 | none=>simp [ha] at h
 | some bb =>
  cases bb with
  | true =>
   simp only [ha] at h
   cases hs:bA P T with
   | none=>simp [hs] at h
   | some m =>
    simp only [hs] at h;split at h
    ·rename_i hle;cases h
     have hl:(loadCells ⟨b,off,none⟩ m).run P W=.ok ((c.extract off (off+m)).map (aw r)) W:=by
      have:=run_loadCells_list (P:=P) W ⟨b,off,none⟩ ((c.extract off (off+m)).map (aw r)).toList (λj v hv=>by
       rw [Addr.add_mid,cell_of_row W b (off+j) _ _ _ hb];simp only [j4,lz,uK] at hv;rw [lz];split at hv
       ·exact hv
       ·simp at hv)
      have hlen:((c.extract off (off+m)).map (aw r)).toList.length=m:=aE;rw [hlen] at this;rw [this,nR]
     simp [loadVar,aY,pA ha,fu hs,hl,ren,aT]
    ·simp at h
  | false =>
   simp only [ha] at h
   cases hc:c[off]? with
   | none=>simp [hc] at h
   | some u =>
    simp only [hc] at h;split at h
    ·rename_i hsc;obtain rfl:u=v:=kA;have Xu:W.cell? ⟨b,off,none⟩=some (aw r u):=by rw [cell_of_row W b off _ _ _ hb];simp [hc]
     simp [loadVar,aY,pA ha,load,Sem.run,Xu,N7 hsc]
    ·simp at h

theorem Be {T:TypeId} {c:bV} {off:Nat} {v:Value} (h:eh P T c off=some v) (hc:∀ x∈c,aL D x):aN D v:=by
 unfold eh at h;split at h
 ·split at h
  ·split at h
   ·cases h;intro x hx;have:=Array.mem_extract_iff_getElem.1 hx;obtain ⟨k,hk,e⟩:=this;exact e▸hc _ (jj _)
   ·simp at h
  ·simp at h
 ·split at h
  ·rename_i u hu;split at h
   ·rename_i hs;cases h;exact (XM hs).2 (hc _ (ke hu))
   ·simp at h
  ·simp at h
 ·simp at h

def ft (P:Program) (T:TypeId) (b:Blk) (off:Nat):Option Value:=match b.T with
 | .ty _=>eh P T b.c off
 | .raw _ _=>match eh P T b.c off with
  | some v=>if bz v then some v else none
  | none=>none
 | .mp=>none
theorem yq (v:Value):aw (λk=>k) v=v:=by
 have h0:∀ v,aA (λk=>k) v=v:=λv=>by unfold aA;split<;>rfl
 unfold aw;split
 ·have:(aA λk=>k)=id:=funext h0;rw [this];simp
 ·rw [h0]
 ·exact h0 _
theorem yK {T:TypeId} {k off:Nat} {b:Blk} {v:Value} (h:ft P T b off=some v) {W:World} (hb:W.heap[k]? = some (b.obj r)):(loadVar T ⟨k,off,none⟩).run P W=.ok (ren r v) W:=by
 obtain ⟨c,t⟩:=b
 cases t with
 | ty t=>exact ud h hb
 | raw t fr =>
  simp only [ft] at h;split at h
  ·rename_i u hu;split at h
   ·rename_i hf;cases h;have e:c.map (aw λk=>k)=c:=eK λx _=>yq x;have:=ud (r:=λk=>k) hu (W:=W) (b:=k) (T':=t) (fr:=fr) (by rw [e];exact hb);rw [this,bM hf,bM hf]
   ·cases h
  ·cases h
 | mp=>simp [ft] at h
theorem Ue {T:TypeId} {b:Blk} {off:Nat} {v:Value} (h:ft P T b off=some v) (hb:b.ids D):aN D v:=by
 obtain ⟨c,t⟩:=b
 cases t with
 | ty t=>exact Be h hb
 | raw t fr =>
  simp only [ft] at h;split at h
  ·split at h
   ·rename_i hf;cases h;exact cb hf
   ·cases h
  ·cases h
 | mp=>simp [ft] at h
def gh (c:bV) (o:Nat):List Value->Array Value
 | []=>c
 | v::vs=>gh (c.setIfInBounds o v) (o+1) vs
theorem QJ (f:Value->Value) (vs:List Value):∀ (c:bV) (o:Nat),(gh c o vs).map f=gh (c.map f) o (vs.map f):=by
 induction vs with
 | nil=>intro c o;rfl
 | cons v vs ih=>intro c o;simp only [gh,bJ];rw [ih,Array.map_setIfInBounds]
theorem QK {Q:iQ} (vs:List Value) (hv:∀ x∈vs,Q x):∀ (c:bV) (o:Nat),(∀ x∈c,Q x)->∀ x∈gh c o vs,Q x:=by
 induction vs with
 | nil=>intro c o hc;exact hc
 | cons v vs ih =>
  intro c o hc;refine ih (λx hx=>hv x (br _ hx)) _ _ (λx hx=>?_);rcases BK hx with h|h
  ·exact hc x h
  ·exact h▸hv v zS

theorem IB {x:Addr} {v u:Value} (hv:sB v=true) {W:World} (hu:W.cell? x=some u) (hf:W.frozen? x=false):(store x v).run P W=.ok () (W.setCell x v):=by
 unfold store
 cases v with
 | agg _=>simp [sB] at hv
 | tuple _=>simp [sB] at hv
 | _=>simp [Sem.run,hu,hf]

theorem zl {b:Nat} {T:TypeId} (vs:List Value) (h1:∀ v∈vs,sB v=true):∀ (c:bV) (o i:Nat) (W:World),W.heap[b]? = some (.cells c T (0,0))->o+i+vs.length<=c.size ->
  (storeCells ⟨b,o,none⟩ vs i).run P W=.ok () (W.putObj b (.cells (gh c (o+i) vs) T (0,0))):=by
 induction vs with
 | nil =>
  intro c o i W hb _;obtain ⟨cA,he⟩:=a9.1 hb
  have:W.putObj b (.cells c T (0,0))=W:=by
   unfold World.putObj
   have:W.heap.setIfInBounds b (.cells c T (0,0))=W.heap:=by
    apply iB;intro k;by_cases e:b=k
    ·subst e;simp [he,cA]
    ·simp [uU e]
   rw [this]
  simp [storeCells,gh,this]
 | cons v vs ih =>
  intro c o i W hb hle;simp only [fA] at hle;obtain ⟨cA,he⟩:=a9.1 hb
  have Xu:(W.cell? ⟨b,o+i,none⟩).isSome=true:=by
   rw [cell_of_row W b (o+i) _ _ _ hb];simp;omega
  obtain ⟨u,hu⟩:=Option.isSome_iff_exists.1 Xu;have L5:W.frozen? ⟨b,o+i,none⟩=false:=by simp [World.frozen?,hb]
  have hv:=h1 v zS
  have Le:W.setCell ⟨b,o+i,none⟩ v=W.putObj b (.cells (c.setIfInBounds (o+i) v) T (0,0)):=by
   unfold World.setCell World.putObj;congr 1;apply iB;intro k;by_cases e:b=k
   ·subst e;rw [Array.getElem?_modify,ai rfl,hb];simp [cA]
   ·simp [Array.getElem?_modify,e,uU e]
  have tc:(store ⟨b,o+i,none⟩ v).run P W=.ok () (W.putObj b (.cells (c.setIfInBounds (o+i) v) T (0,0))):=by
   rw [<-Le];exact IB hv hu L5
  have Jh:(W.putObj b (.cells (c.setIfInBounds (o+i) v) T (0,0))).heap[b]? = some (.cells (c.setIfInBounds (o+i) v) T (0,0)):=jq cA;have:=ih (λx hx=>h1 x (br _ hx)) (c.setIfInBounds (o+i) v) o (i+1) _ Jh aE;simp only [storeCells,aY,Addr.add_mid,tc,bD,this];simp only [gh,World.putObj];congr 2
  ·simp [qy]

def cellsOf (v:Value):Array Value:=v.cells
theorem sN {v:Value} (h:∀ vs,v≠.tuple vs):(ren r v).cells=v.cells.map (aw r):=by
 cases v with
 | agg cs=>simp [ren,aT,Value.cells]
 | tuple vs=>exact absurd rfl (h vs)
 | pointer p=>cases p<;>simp [ren,aT,aw,aA,Value.cells]
 | slice p _ _=>cases p<;>simp [ren,aT,aw,aA,Value.cells]
 | map p=>cases p<;>simp [ren,aT,aw,aA,Value.cells]
 | _=>simp [ren,aT,aw,aA,Value.cells]
theorem sL {v:Value} (h:∀ vs,v≠.tuple vs) (hv:aN D v):∀ x∈v.cells,aL D x:=by
 cases v with
 | agg cs=>exact hv
 | tuple vs=>exact absurd rfl (h vs)
 | _=>intro x hx;simp [Value.cells] at hx;subst hx;exact hv

def cw:Value->Bool
 | .tuple _=>false
 | .agg cs=>cs.all sB
 | .complex _ _ _=>false
 | _=>true
theorem hJ {v:Value} (h:cw v=true):∀ vs,v≠.tuple vs:=by intro vs e;rw [e] at h;simp [cw] at h
theorem Lt {v:Value} (h:cw v=true):∀ x∈v.cells,sB x=true:=by
 cases v with
 | agg cs=>exact λx hx=>cV.1 h x hx
 | tuple vs=>simp [cw] at h
 | _=>intro x hx;simp [Value.cells] at hx;subst hx;simp_all [sB,cw]

theorem Bp {T:TypeId} {c:bV} {off:Nat} {v:Value} (hv:cw v=true) (hs:bA P T=some v.cells.size) (hle:off+v.cells.size<=c.size) {W:World} {b:Nat} {T':TypeId}
  (hb:W.heap[b]? = some (.cells (c.map (aw r)) T' (0,0))) :
  (storeVar T ⟨b,off,none⟩ (ren r v)).run P W=.ok () (W.putObj b (.cells ((gh c off v.cells.toList).map (aw r)) T' (0,0))):=by
 have hc:=sN (r:=r) (hJ hv)
 have:=zl (P:=P) (T:=T') (b:=b) (v.cells.map (aw r)).toList (λx hx=>by
  simp only [iH,aD] at hx;obtain ⟨y,hy,rfl⟩:=hx;exact UL (Lt hv y rj)) (c.map (aw r)) off 0 W hb (by simpa using hle)
 simp only [dZ] at this;rw [QJ];simp only [iH] at this;simp [storeVar,aY,fu hs,hc,this]
end
theorem rC {p:Prop} (h:p:=by unfold eqGuard;split<;>rfl):p:=h
theorem CE {p:Prop} (h:p:=by unfold BM at hb;split at hb<;>simp_all):p:=h
theorem Fp {p:Prop} (h:p:=by
 split at h
 ·cases h;rename_i hb;refine ⟨?_,rfl⟩;have:¬b<0:=zO;simp [binOp,Op.shift,this]
 ·cases h):p:=h
theorem C8 {p:Prop} (h:p:=by
 split at h
 ·split at h
  ·cases h
  ·cases h;rename_i hk hb;subst hk;exact ⟨by simp [binOp,Op.intDiv,hb],rfl⟩
 ·cases h):p:=h
theorem EX {p:Prop} (h:p:=by
 unfold ab5 at hi;split at hi
 ·rename_i kk h1 h2;split at h
  ·rename_i k a k' b e1 e2;split at h
   ·rename_i e;subst e;cases h;exact ⟨_,_,Ks h2 e1 W,Ks h2 e2 W,by simp [Op.equalIn,run_underlying h1]⟩
   ·cases h
  ·cases h
 ·cases hi):p:=h
theorem EA {p:Prop} (h:p:=by
 have hnf:=hn f zS;cases a
 ·simp [Op.eqFields,hnf,p1,p2,p3]
 ·simp [Op.eqFields,hnf,p1,p2,p3,ih]):p:=h
theorem EN {p:Prop} (h:p:=by
 split at h
 ·rename_i hs;cases h;unfold Bq at hs;split at hs
  ·rename_i e hu;exact ⟨by simp only [aY,hg,bD,binOp,run_equal_slice_nil W T e p l c hu,cx],rfl⟩
  ·cases hs
 ·cases h):p:=h
abbrev BF := @List.drop_eq_getElem_cons
abbrev iE := @Array.getElem?_eq_getElem
abbrev dt := @List.map_nil
abbrev qv := @Bool.or_eq_true
abbrev jY := @List.any_eq_false
abbrev cx := @Go.Sem.run_pure

def jE (op:BinOp) (k:IntKind) (a b:Int):Int :=
 match op with
 | .and=>k.wrap (BitVec.ofInt k.bits a &&& BitVec.ofInt k.bits b).toNat
 | .or=>k.wrap (BitVec.ofInt k.bits a ||| BitVec.ofInt k.bits b).toNat
 | .xor=>k.wrap (BitVec.ofInt k.bits a ^^^ BitVec.ofInt k.bits b).toNat
 | _=>k.wrap (BitVec.ofInt k.bits a &&& ~~~ BitVec.ofInt k.bits b).toNat

def tu (op:BinOp) (k:IntKind) (a:Int) (k':IntKind) (b:Int):Option Value :=
 match op with
 | .shl=>if 0<=b then some (.int k (k.wrap (a*2^min b.toNat k.bits))) else none
 | .shr=>if 0<=b then some (.int k (a.fdiv (2^min b.toNat k.bits))) else none
 | .add=>if k=k' then some (.int k (k.wrap (a+b))) else none
 | .sub=>if k=k' then some (.int k (k.wrap (a - b))) else none
 | .mul=>if k=k' then some (.int k (k.wrap (a*b))) else none
 | .quo=>if k=k' then if b=0 then none else some (.int k (k.wrap (a.tdiv b))) else none
 | .rem=>if k=k' then if b=0 then none else some (.int k (a.tmod b)) else none
 | .and=>if k=k' then some (.int k (jE .and k a b)) else none
 | .or=>if k=k' then some (.int k (jE .or k a b)) else none
 | .xor=>if k=k' then some (.int k (jE .xor k a b)) else none
 | .andNot=>if k=k' then some (.int k (jE .andNot k a b)) else none
 | .eql=>if k=k' then some (.bool (a==b)) else none
 | .neq=>if k=k' then some (.bool (a != b)) else none
 | .lss=>if k=k' then some (.bool (a<b)) else none
 | .leq=>if k=k' then some (.bool (a<=b)) else none
 | .gtr=>if k=k' then some (.bool (b<a)) else none
 | .geq=>if k=k' then some (.bool (b<=a)) else none

def Gu:List Value->List Value->Option Bool
 | [],[]=>some true
 | .int k a::xs,.int k' b::ys=>if k=k' then match Gu xs ys with
  | some r=>some (a==b&&r)
  | none=>none
  else none
 | _,_=>none

def BM (P:Program) (T:TypeId):Bool:=match P.underlying T with|some .bool=>true|_=>false
def Ht (P:Program) (T:TypeId):Option Nat :=
 match P.underlying T with
 | some (.array n e)=>match P.underlying e with
  | some (.int _)=>match bA P e with
   | some 1=>if P.eqGuardType P.depth T then none else some n
   | _=>none
  | _=>none
 | _=>none

def I8 (P:Program) (T:TypeId) (xs ys:bV):Option Bool :=
 match Ht P T with
 | some n=>if xs.size=n/\ys.size=n then Gu xs.toList ys.toList else none
 | none=>none

def Tg (P:Program) (T:TypeId):Option Nat :=
 match Ht P T,bA P T,oe P T with
 | some n,some m,some true=>if m=n then some n else none
 | _,_,_=>none
def ab5 (P:Program) (T:TypeId):Bool :=
 match P.underlying T,oe P T with
 | some (.int _),some false=>true
 | _,_=>false
def af9 (P:Program) (T off:Nat) (xs ys:bV):Option Bool :=
 match Tg P T with
 | some n=>if off+n<=xs.size/\off+n<=ys.size then I8 P T (xs.extract off (off+n)) (ys.extract off (off+n)) else none
 | none=>if ab5 P T=true then match xs[off]?,ys[off]? with
   | some (.int k a),some (.int k' b)=>if k=k' then some (a==b) else none
   | _,_=>none
  else none
def TB (P:Program) (xs ys:bV):List (TypeId×Nat)->Option Bool
 | []=>some true
 | f::fs=>match af9 P f.1 f.2 xs ys,TB P xs ys fs with
  | some a,some b=>some (a&&b)
  | _,_=>none
def tN (P:Program) (T:TypeId):Option (List (TypeId×Nat)) :=
 match P.underlying T with
 | some (.struct fs) => if P.stoodInHeld T || P.eqGuardType P.depth T || fs.toList.any (λf => f.name == "_") then none else some (fs.toList.map λf => (f.type, f.offset))
 | _=>none
def snF (P:Program) (T:TypeId):Option (List (TypeId×Nat)×Nat) :=
 match tN P T,bA P T,oe P T with
 | some l,some m,some true=>some (l,m)
 | _,_,_=>none
def aga (P:Program) (o:Option (List (TypeId×Nat)×Nat)) (off:Nat) (xs ys:bV):Option Bool :=
 match o with
 | some (l,m)=>if off+m<=xs.size/\off+m<=ys.size then TB P (xs.extract off (off+m)) (ys.extract off (off+m)) l else none
 | none=>none
def Xb (P:Program) (T off:Nat) (xs ys:bV):Option Bool :=
 match Tg P T with
 | some n=>if off+n<=xs.size/\off+n<=ys.size then I8 P T (xs.extract off (off+n)) (ys.extract off (off+n)) else none
 | none=>if ab5 P T=true then match xs[off]?,ys[off]? with
   | some (.int k a),some (.int k' b)=>if k=k' then some (a==b) else none
   | _,_=>none
  else aga P (snF P T) off xs ys
def KZ (P:Program) (xs ys:bV):List (TypeId×Nat)->Option Bool
 | []=>some true
 | f::fs=>match Xb P f.1 f.2 xs ys,KZ P xs ys fs with
  | some a,some b=>some (a&&b)
  | _,_=>none
def Jy (P:Program) (T:TypeId) (n:Option Nat) (st:Option (List (TypeId×Nat))) (xs ys:bV):Option Bool :=
 match n with
 | some _=>I8 P T xs ys
 | none=>match st with
  | some l=>if (xs.all bP&&ys.all bP)=true then KZ P xs ys l else none
  | none=>none
def KL (P:Program) (T:TypeId) (xs ys:bV):Option Bool:=Jy P T (Ht P T) (tN P T) xs ys
def Bq (P:Program) (T:TypeId):Bool:=match P.underlying T with|some (.slice _)=>true|_=>false
def vc (P:Program) (op:BinOp) (T:TypeId) (x y:Value):Option Value :=
 match x,y with
 | .int k a,.int k' b=>tu op k a k' b
 | .bool a,.bool b=>match op with
  | .eql=>if BM P T then some (.bool (a==b)) else none
  | .neq=>if BM P T then some (.bool (a != b)) else none
  | _=>none
 | .agg xs,.agg ys=>match op with
  | .eql=>match KL P T xs ys with
   | some r=>some (.bool r)
   | none=>none
  | .neq=>match KL P T xs ys with
   | some r=>some (.bool (!r))
   | none=>none
  | _=>none
 | .slice p _ _,.slice none 0 0=>match op with
  | .eql=>if Bq P T then some (.bool p.isNone) else none
  | .neq=>if Bq P T then some (.bool (!p.isNone)) else none
  | _=>none
 | _,_=>none

def un1 (op:UnOp) (x:Value):Option Value :=
 match op,x with
 | .neg,.int k a=>some (.int k (k.wrap (0 - a)))
 | .xor,.int k a=>some (.int k (jE .xor k (if k.signed then -1 else k.max) a))
 | .not,.bool b=>some (.bool !b)
 | _,_=>none

def zF (P:Program) (src dst:TypeId) (x:Value):Option Value :=
 match P.underlying src,P.underlying dst,x with
 | some _,some (.int k),.int _ n=>some (.int k (k.wrap n))
 | _,_,_=>none

section
variable {P:Program}

theorem P5 {op:BinOp} {T:TypeId} {k k':IntKind} {a b:Int} {v:Value} (h:tu op k a k' b=some v) (W:World) :
  (binOp op T (.int k a) (.int k' b)).run P W=.ok v W/\bz v=true:=by
 cases op<;>simp only [tu] at h
 case shl =>
  exact Fp
 case shr =>
  exact Fp
 case quo =>
  exact C8
 case rem =>
  exact C8
 all_goals
  split at h
  ·cases h;rename_i hk;subst hk;exact ⟨by simp [binOp,Op.intArith,Op.intBits,Op.intCmp,jE],rfl⟩
  ·cases h

theorem Kr {e:TypeId} {kk:IntKind} (hu:P.underlying e=some (.int kk)) {cs:bV} {i:Nat} {v:Value} (h:cs[i]? = some v) (W:World):(part e cs (i*1)).run P W=.ok v W:=by
 have ha:(isAgg e).run P W=.ok false W:=pA (by simp [oe,hu]) W;simp [part,ha,h]

theorem uc {d:Nat} {e:TypeId} {kk:IntKind} (hu:P.underlying e=some (.int kk)) (W:World):∀ (m j:Nat) (xs ys:bV) (r:Bool),j+m=xs.size->j+m=ys.size->Gu (xs.toList.drop j) (ys.toList.drop j)=some r ->
  (Op.eqItems (d+1) e 1 xs ys (List.range' j m)).run P W=.ok r W
 | 0,j,xs,ys,r,hx,hy,h=>by
  rw [List.drop_eq_nil_of_le aE,List.drop_eq_nil_of_le aE] at h;simp only [Gu,bg] at h;subst h;simp [Op.eqItems]
 | m+1,j,xs,ys,r,hx,hy,h=>by
  have hjx:j<xs.size:=zO;have hjy:j<ys.size:=zO;rw [BF (l:=xs.toList) (by simpa using hjx),BF (l:=ys.toList) (by simpa using hjy)] at h;have gx:xs[j]? = some xs[j]:=iE hjx;have gy:ys[j]? = some ys[j]:=iE hjy;simp only [Array.getElem_toList] at h;generalize xs[j]=x at *
  generalize ys[j]=y at *
  unfold Gu at h;split at h
  ·rename_i e1 _;cases e1
  ·rename_i k a xs' k' b ys' e1 e2;simp only [List.cons.injEq] at e1 e2;obtain ⟨rfl,rfl⟩:=e1;obtain ⟨rfl,rfl⟩:=e2;split at h
   ·rename_i hk;subst hk;split at h
    ·rename_i q hq;cases h;have n9:=uc (d:=d) hu W m (j+1) xs ys q zO zO hq;have heq:(Op.equalIn (d+1) e (.int k a) (.int k b)).run P W=.ok (a==b) W:=by simp [Op.equalIn,run_underlying hu]
     simp only [List.range'_succ,Op.eqItems,aY,Kr hu gx,Kr hu gy,bD,heq];cases Xr:a==b
     ·simp
     ·simpa using n9
    ·cases h
   ·cases h
  ·cases h

theorem yQ {T:TypeId} {xs ys:bV} {r:Bool} (d:Nat) (h:I8 P T xs ys=some r) (W:World):(Op.equalIn (d+2) T (.agg xs) (.agg ys)).run P W=.ok r W/\P.eqGuardType P.depth T=false:=by
 unfold I8 at h;split at h
 ·rename_i n hn;split at h
  ·rename_i hs;unfold Ht at hn;split at hn
   ·rename_i m e hu;split at hn
    ·rename_i kk hue;split at hn
     ·rename_i yg;split at hn
      ·cases hn
      ·rename_i hg;cases hn;refine ⟨?_,by simpa using hg⟩;unfold bA at yg
       cases hi:P.info? e with
       | none=>simp [hi] at yg
       | some i =>
        have jU:i.size=1:=by simpa [hi] using yg
        have hc:P.cellsOf e=1:=by simp [Program.cellsOf,hi,jU]
        rw [run_equalIn_array W (d+1) xs ys hu hi,hc,List.range_eq_range'];exact uc (d:=d) hue W _ 0 xs ys r zO zO kA
     ·cases hn
    ·cases hn
   ·cases hn
  ·cases h
 ·cases h

theorem pB {T:TypeId} {m off:Nat} {xs:bV} (h1:oe P T=some true) (h2:bA P T=some m) (h:off+m<=xs.size) (W:World):(part T xs off).run P W=.ok (.agg (xs.extract off (off+m))) W:=by
 have ha:=pA h1 W;have hs:=fu h2 W;simp [part,ha,hs,h]
theorem Ks {T:TypeId} {off:Nat} {xs:bV} {v:Value} (h1:oe P T=some false) (h:xs[off]? = some v) (W:World):(part T xs off).run P W=.ok v W:=by
 have ha:=pA h1 W;simp [part,ha,h]
theorem Pz {T off:Nat} {xs ys:bV} {r:Bool} (d:Nat) (h:af9 P T off xs ys=some r) (W:World) :
  ∃ a b,(part T xs off).run P W=.ok a W/\(part T ys off).run P W=.ok b W/\(Op.equalIn (d+2) T a b).run P W=.ok r W:=by
 unfold af9 at h;split at h
 ·rename_i n hn;split at h
  ·rename_i hs;unfold Tg at hn;split at hn
   ·rename_i n' m h1 h2 h3;split at hn
    ·rename_i e;cases hn;subst e;exact ⟨_,_,pB h3 h2 hs.1 W,pB h3 h2 hs.2 W,(yQ d h W).1⟩
    ·cases hn
   ·cases hn
  ·cases h
 ·split at h
  ·rename_i hi;exact EX
  ·cases h
theorem HC {xs ys : Array Value} (d : Nat) (W : World) : ∀ (fs : List Field) (r : Bool), (∀ f ∈ fs, f.name ≠ "_") -> TB P xs ys (fs.map λf => (f.type, f.offset)) = some r -> (Op.eqFields (d + 2) xs ys fs).run P W = .ok r W
 | [],r,_,h=>by
  simp only [dt,TB,bg] at h;subst h;rfl
 | f::fs,r,hn,h=>by
  simp only [bJ,TB] at h;split at h
  ·rename_i a b ha hb;cases h;obtain ⟨x,y,p1,p2,p3⟩:=Pz d ha W;have ih:=HC d W fs b (λg hg=>hn g (br _ hg)) hb;exact EA
  ·cases h
theorem HE {T:TypeId} {l:List (TypeId×Nat)} {xs ys:bV} {r:Bool} (d:Nat) (hl:tN P T=some l) (h:TB P xs ys l=some r) (W:World):(Op.equalIn (d+3) T (.agg xs) (.agg ys)).run P W=.ok r W:=by
 unfold tN at hl;split at hl
 ·rename_i fs hu;split at hl
  ·cases hl
  ·rename_i hc;cases hl;simp only [qv,not_or,Bool.not_eq_true] at hc;have hfo:P.fieldsOf T=fs:=by unfold Program.fieldsOf;rw [hu]
   have e:=run_equalIn_struct (P:=P) W (d+2) T xs ys (by rw [hfo];exact hu) hc.1.1;rw [hfo] at e
   have:=HC d W fs.toList r (λf hf hn=>by
    have:=jY.1 hc.2 f hf;simp [hn] at this) h
   exact e.trans this
 ·cases hl
theorem PA {T off:Nat} {xs ys:bV} {r:Bool} (d:Nat) (h:Xb P T off xs ys=some r) (W:World) :
  ∃ a b,(part T xs off).run P W=.ok a W/\(part T ys off).run P W=.ok b W/\(Op.equalIn (d+3) T a b).run P W=.ok r W:=by
 unfold Xb at h;split at h
 ·rename_i n hn;split at h
  ·rename_i hs;unfold Tg at hn;split at hn
   ·rename_i n' m h1 h2 h3;split at hn
    ·rename_i e;cases hn;subst e;exact ⟨_,_,pB h3 h2 hs.1 W,pB h3 h2 hs.2 W,(yQ (d+1) h W).1⟩
    ·cases hn
   ·cases hn
  ·cases h
 ·split at h
  ·rename_i hi;exact EX
  ·unfold aga at h;split at h
   ·rename_i l m hs;unfold snF at hs;split at hs
    ·rename_i l' m' h1 h2 h3;cases hs;split at h
     ·rename_i yg;exact ⟨_,_,pB h3 h2 yg.1 W,pB h3 h2 yg.2 W,HE d h1 h W⟩
     ·cases h
    ·cases hs
   ·cases h
theorem HD {xs ys : Array Value} (d : Nat) (W : World) : ∀ (fs : List Field) (r : Bool), (∀ f ∈ fs, f.name ≠ "_") -> KZ P xs ys (fs.map λf => (f.type, f.offset)) = some r -> (Op.eqFields (d + 3) xs ys fs).run P W = .ok r W
 | [],r,_,h=>by
  simp only [dt,KZ,bg] at h;subst h;rfl
 | f::fs,r,hn,h=>by
  simp only [bJ,KZ] at h;split at h
  ·rename_i a b ha hb;cases h;obtain ⟨x,y,p1,p2,p3⟩:=PA d ha W;have ih:=HD d W fs b (λg hg=>hn g (br _ hg)) hb;exact EA
  ·cases h
theorem Hq {T:TypeId} {xs ys:bV} {r:Bool} (h:KL P T xs ys=some r) (W:World):(Op.equal T (.agg xs) (.agg ys)).run P W=.ok r W/\P.eqGuardType P.depth T=false:=by
 unfold KL Jy at h;split at h
 ·exact yQ 9998 h W
 ·split at h
  ·rename_i l hl;split at h
   ·unfold tN at hl;split at hl
    ·rename_i fs hu;split at hl
     ·cases hl
     ·rename_i hc;cases hl;simp only [qv,not_or,Bool.not_eq_true] at hc;have hfo:P.fieldsOf T=fs:=by unfold Program.fieldsOf;rw [hu]
      refine ⟨?_,hc.1.2⟩;have e:=run_equalIn_struct (P:=P) W 9999 T xs ys (by rw [hfo];exact hu) hc.1.1;rw [hfo] at e
      have:=HD 9996 W fs.toList r (λf hf hn=>by
       have:=jY.1 hc.2 f hf;simp [hn] at this) h
      exact e.trans this
    ·cases hl
   ·cases h
  ·cases h
theorem Pa {op:BinOp} {T:TypeId} {x y:Value} {ox oy:Operand} {v:Value} (h:vc P op T x y=some v) (W:World) :
  (do eqGuard op T ox oy x y;binOp op T x y).run P W=.ok v W/\bz v=true:=by
 unfold vc at h;split at h
 ·rename_i k a k' b;have h1:=P5 (P:=P) (T:=T) h W;refine ⟨?_,h1.2⟩;have hg:(eqGuard op T ox oy (.int k a) (.int k' b)).run P W=.ok () W:=rC;simp only [aY,hg,bD,h1.1]
 ·rename_i a b;have hg:(eqGuard op T ox oy (.bool a) (.bool b)).run P W=.ok () W:=rC;split at h
  ·split at h
   ·rename_i hb;cases h;have hu:P.underlying T=some .bool:=CE;exact ⟨by simp only [aY,hg,bD,binOp,run_equal_bool W T a b hu,cx],rfl⟩
   ·cases h
  ·split at h
   ·rename_i hb;cases h;have hu:P.underlying T=some .bool:=CE;exact ⟨by simp only [aY,hg,bD,binOp,run_equal_bool W T a b hu,cx];cases a<;>cases b<;>rfl,rfl⟩
   ·cases h
  ·cases h
 ·rename_i xs ys;split at h
  ·split at h
   ·rename_i r hr;cases h;have h1:=Hq hr W;have hg:(eqGuard .eql T ox oy (.agg xs) (.agg ys)).run P W=.ok () W:=by simp [eqGuard,h1.2]
    exact ⟨by simp [aY,hg,binOp,h1.1],rfl⟩
   ·cases h
  ·split at h
   ·rename_i r hr;cases h;have h1:=Hq hr W;have hg:(eqGuard .neq T ox oy (.agg xs) (.agg ys)).run P W=.ok () W:=by simp [eqGuard,h1.2]
    exact ⟨by simp [aY,hg,binOp,h1.1],rfl⟩
   ·cases h
  ·cases h
 ·rename_i p l c;have hg:(eqGuard op T ox oy (.slice p l c) (.slice none 0 0)).run P W=.ok () W:=rC;split at h
  ·exact EN
  ·exact EN
  ·cases h
 ·cases h

theorem U7 {op:UnOp} {x v:Value} (h:un1 op x=some v) (W:World):(Op.unary op x).run P W=.ok v W/\bz v=true:=by
 unfold un1 at h;split at h
 ·cases h;exact ⟨by simp [Op.unary,Op.intArith],rfl⟩
 ·cases h;exact ⟨by simp [Op.unary,Op.intBits,jE],rfl⟩
 ·cases h;exact ⟨by simp [Op.unary],rfl⟩
 ·cases h

theorem Mz {src dst:TypeId} {x v:Value} (h:zF P src dst x=some v) (W:World):(convert src dst x).run P W=.ok v W/\bz v=true:=by
 unfold zF at h;split at h
 ·rename_i u k kk m hs hd;cases h;refine ⟨?_,rfl⟩;unfold convert;simp only [aY,run_underlying hs,run_underlying hd,bD];cases u<;>simp [Conv.intToInt]
 ·cases h
end
theorem E0 {p:Prop} (h:p:=by
 split at h
 ·rename_i kt e hk;split at h
  ·rename_i hs;exact ⟨kt,e,hk,hs⟩
  ·cases h
 ·cases h):p:=h
abbrev j5 := @Option.map_eq_some_iff
abbrev bq := @List.cons_append
abbrev ff := @List.map_toArray
abbrev qd := @Go.MapKept.run_findKey
abbrev qH := @Go.MapKept.run_getObj_map
abbrev qC := @Go.MapKept.run_checkKey
def mpC (l:List (ByteArray×Value)):Array Value:=(l.flatMap λp=>[Value.string p.1,p.2]).toArray
def mpB (l:List (ByteArray×Value)):Blk:=⟨mpC l,.mp⟩
def LP:List Value->Option (List (ByteArray×Value))
 | []=>some []
 | .string s::v::l=>(LP l).map ((s,v)::·)
 | _=>none
def Qc (b:Blk):Option (List (ByteArray×Value)):=match b.T with
 | .mp=>LP b.c.toList
 | _=>none
theorem SM:∀ l:List (ByteArray×Value),LP (l.flatMap λp=>[Value.string p.1,p.2])=some l
 | []=>rfl
 | p::l=>by simp [LP,SM l]
theorem Ot:∀ (cs:List Value) (l:List (ByteArray×Value)),LP cs=some l->cs=l.flatMap λp=>[Value.string p.1,p.2]
 | [],l,h=>by simp [LP] at h;subst h;rfl
 | [v],l,h=>by cases v<;>simp [LP] at h
 | k::v::cs,l,h=>by
  cases k with
  | string s =>
   simp only [LP,j5] at h;obtain ⟨l',h1,rfl⟩:=h;rw [Ot cs l' h1];simp
  | _=>simp [LP] at h
theorem Ns (l:List (ByteArray×Value)):Qc (mpB l)=some l:=by simp [Qc,mpB,mpC,SM]
theorem Nr {b:Blk} {l:List (ByteArray×Value)} (h:Qc b=some l):b=mpB l:=by
 obtain ⟨c,T⟩:=b
 cases T with
 | mp =>
  simp only [Qc] at h;unfold mpB mpC;rw [<-Ot _ _ h]
 | _=>simp [Qc] at h
def gH (s:ByteArray):List (ByteArray×Value)->Option Value
 | []=>none
 | p::l=>if (s==p.1)=true then some p.2 else gH s l
def uf (r:cI):List (ByteArray×Value)->Nat->List MapEntry
 | [],_=>[]
 | p::l,i=>⟨.string p.1,aw r p.2,i⟩::uf r l (i+1)
theorem MD (r:cI):∀ (l:List (ByteArray×Value)) (i:Nat),(uf r l i).length=l.length
 | [],_=>rfl
 | p::l,i=>by simp [uf,MD r l]
theorem R8 (r:cI):∀ (l:List (ByteArray×Value)) (i:Nat),mpL ((l.flatMap λp=>[Value.string p.1,p.2]).map (aw r)) i=uf r l i
 | [],_=>rfl
 | p::l,i=>by
  simp only [List.flatMap_cons,bq,bw,bJ,mpL,uf,R8 r l]
  rfl
theorem Ln (r:cI) (l:List (ByteArray×Value)):(mpB l).obj r=.map (uf r l 0).toArray l.length:=by
 unfold Blk.obj mpB Sa mpC;simp only [ff,R8,MD]
theorem MC (r:cI) (q:ByteArray×Value):∀ (l:List (ByteArray×Value)) (i:Nat),uf r (l++[q]) i=uf r l i++[⟨.string q.1,aw r q.2,i+l.length⟩]
 | [],i=>by simp [uf]
 | p::l,i=>by simp only [bq,uf,MC r q l,fA];rw [(zO:i+1+l.length=i+(l.length+1))]
theorem JM (r:cI) (s:ByteArray):∀ (l:List (ByteArray×Value)) (i j:Nat),gH s l=none->Instr.findNow .string (.string s) (uf r l i) j=some none
 | [],_,_,_=>rfl
 | p::l,i,j,h=>by
  simp only [gH] at h;split at h
  ·cases h
  ·rename_i hc;simp only [uf,Instr.findNow,Instr.sameNow];rw [show (s==p.1)=false by simpa using hc];exact JM r s l (i+1) (j+1) h
theorem JN (r:cI) (s:ByteArray) {v:Value}:∀ (l:List (ByteArray×Value)) (i j:Nat),gH s l=some v->∃ k,Instr.findNow .string (.string s) (uf r l i) j=some (some (k,aw r v))
 | [],_,_,h=>ew
 | p::l,i,j,h=>by
  simp only [gH] at h;split at h
  ·rename_i hc;cases h;simp only [uf,Instr.findNow,Instr.sameNow,hc];exact ⟨j,rfl⟩
  ·rename_i hc;simp only [uf,Instr.findNow,Instr.sameNow];rw [show (s==p.1)=false by simpa using hc];exact JN r s l (i+1) (j+1) h
def tM (P:Program) (T:TypeId):Bool:=match P.underlying T with
 | some (.map kt _)=>(match P.underlying kt with|some .string=>true|_=>false)
 | _=>false
theorem Kv {P:Program} {T:TypeId} (h:tM P T=true):∃ kt e,P.underlying T=some (.map kt e)/\P.underlying kt=some .string:=by
 unfold tM at h;exact E0
def muC (l:List (Int×Value)):Array Value:=(l.flatMap λp=>[Value.int .u8 p.1,p.2]).toArray
def muB (l:List (Int×Value)):Blk:=⟨muC l,.mp⟩
def Ou:List Value->Option (List (Int×Value))
 | []=>some []
 | .int .u8 s::v::l=>(Ou l).map ((s,v)::·)
 | _=>none
def Qd (b:Blk):Option (List (Int×Value)):=match b.T with
 | .mp=>Ou b.c.toList
 | _=>none
theorem SN:∀ l:List (Int×Value),Ou (l.flatMap λp=>[Value.int .u8 p.1,p.2])=some l
 | []=>rfl
 | p::l=>by simp [Ou,SN l]
theorem Ov:∀ (cs:List Value) (l:List (Int×Value)),Ou cs=some l->cs=l.flatMap λp=>[Value.int .u8 p.1,p.2]
 | [],l,h=>by simp [Ou] at h;subst h;rfl
 | [v],l,h=>by
  unfold Ou at h;split at h
  ·rename_i heq;cases heq
  ·rename_i heq;cases heq
  ·cases h
 | k::v::cs,l,h=>by
  unfold Ou at h;split at h
  ·rename_i heq;cases heq
  ·rename_i s v' l' heq;cases heq;simp only [j5] at h;obtain ⟨l',h1,rfl⟩:=h;rw [Ov cs l' h1];simp
  ·cases h
theorem Nu (l:List (Int×Value)):Qd (muB l)=some l:=by simp [Qd,muB,muC,SN]
theorem Nt {b:Blk} {l:List (Int×Value)} (h:Qd b=some l):b=muB l:=by
 obtain ⟨c,T⟩:=b
 cases T with
 | mp =>
  simp only [Qd] at h;unfold muB muC;rw [<-Ov _ _ h]
 | _=>simp [Qd] at h
theorem acx:mpB []=muB []:=rfl
def jT (s:Int):List (Int×Value)->Option Value
 | []=>none
 | p::l=>if (s==p.1)=true then some p.2 else jT s l
def vg (r:cI):List (Int×Value)->Nat->List MapEntry
 | [],_=>[]
 | p::l,i=>⟨.int .u8 p.1,aw r p.2,i⟩::vg r l (i+1)
theorem MF (r:cI):∀ (l:List (Int×Value)) (i:Nat),(vg r l i).length=l.length
 | [],_=>rfl
 | p::l,i=>by simp [vg,MF r l]
theorem R9 (r:cI):∀ (l:List (Int×Value)) (i:Nat),mpL ((l.flatMap λp=>[Value.int .u8 p.1,p.2]).map (aw r)) i=vg r l i
 | [],_=>rfl
 | p::l,i=>by
  simp only [List.flatMap_cons,bq,bw,bJ,mpL,vg,R9 r l]
  rfl
theorem Sb (r:cI) (l:List (Int×Value)):(muB l).obj r=.map (vg r l 0).toArray l.length:=by
 unfold Blk.obj muB Sa muC;simp only [ff,R9,MF]
theorem ME (r:cI) (q:Int×Value):∀ (l:List (Int×Value)) (i:Nat),vg r (l++[q]) i=vg r l i++[⟨.int .u8 q.1,aw r q.2,i+l.length⟩]
 | [],i=>by simp [vg]
 | p::l,i=>by simp only [bq,vg,ME r q l,fA];rw [(zO:i+1+l.length=i+(l.length+1))]
theorem HG (r:cI) (s:Int):∀ (l:List (Int×Value)) (i j:Nat),jT s l=none->Instr.findNow (.int .u8) (.int .u8 s) (vg r l i) j=some none
 | [],_,_,_=>rfl
 | p::l,i,j,h=>by
  simp only [jT] at h;split at h
  ·cases h
  ·rename_i hc;simp only [vg,Instr.findNow,Instr.sameNow,aU];rw [show (s==p.1)=false by simpa using hc];exact HG r s l (i+1) (j+1) h
theorem HH (r:cI) (s:Int) {v:Value}:∀ (l:List (Int×Value)) (i j:Nat),jT s l=some v->∃ k,Instr.findNow (.int .u8) (.int .u8 s) (vg r l i) j=some (some (k,aw r v))
 | [],_,_,h=>ew
 | p::l,i,j,h=>by
  simp only [jT] at h;split at h
  ·rename_i hc;cases h;simp only [vg,Instr.findNow,Instr.sameNow,aU,hc];exact ⟨j,rfl⟩
  ·rename_i hc;simp only [vg,Instr.findNow,Instr.sameNow,aU];rw [show (s==p.1)=false by simpa using hc];exact HH r s l (i+1) (j+1) h
def Ay (P:Program) (T:TypeId):Bool:=match P.underlying T with
 | some (.map kt _)=>(match P.underlying kt with|some (.int .u8)=>true|_=>false)
 | _=>false
theorem Oq {P:Program} {T:TypeId} (h:Ay P T=true):∃ kt e,P.underlying T=some (.map kt e)/\P.underlying kt=some (.int .u8):=by
 unfold Ay at h;exact E0
def Ka (P:Program) (T:TypeId) (k:Value):Bool:=match k with
 | .int _ _=>Ay P T
 | _=>tM P T
section
variable {P:Program} {T:TypeId} {W:World} {k:Nat} {s:Int} {r:cI} {l:List (Int×Value)}
theorem Ob (hT:Ay P T=true) (hk:W.heap[k]? = some ((muB l).obj r)) (hf:jT s l=none) {x v:Value} (hx:x=aw r v):(Instr.mapUpdate T (.map (some k)) (.int .u8 s) x).run P W=.ok () (W.putObj k ((muB (l++[(s,v)])).obj r)):=by
 obtain ⟨kt,e,h1,h2⟩:=Oq hT;rw [Sb] at hk |-;have Gw:(Instr.findKey kt (.int .u8 s) (vg r l 0).toArray.toList).run P W=.ok none W:=qd h2 (HG r s l 0 0 hf);subst hx;unfold Instr.mapUpdate;simp only [aY,run_underlying h1,bD,qH hk,qC h2 (k:=.int .u8 s) rfl false 9999,Gw,MapKept.run_setObj_map _ hk];simp [World.putObj,ME]
theorem Oc (hT:Ay P T=true) (hk:W.heap[k]? = some ((muB l).obj r)) {v:Value} (hf:jT s l=some v):(Instr.lookup T (.map (some k)) (.int .u8 s) false).run P W=.ok (aw r v) W:=by
 obtain ⟨kt,e,h1,h2⟩:=Oq hT;rw [Sb] at hk;obtain ⟨q,hq⟩:=HH r s l 0 0 hf;have Gw:(Instr.findKey kt (.int .u8 s) (vg r l 0).toArray.toList).run P W=.ok (some (q,aw r v)) W:=qd h2 hq;unfold Instr.lookup;simp only [aY,run_underlying h1,bD,qH hk,cx,qC h2 (k:=.int .u8 s) rfl _ 9999,Gw];simp
end
section
variable {P:Program} {T:TypeId} {W:World} {k:Nat} {s:ByteArray} {r:cI} {l:List (ByteArray×Value)}
theorem QD (hT:tM P T=true) (hk:W.heap[k]? = some ((mpB l).obj r)) (hf:gH s l=none) {x v:Value} (hx:x=aw r v):(Instr.mapUpdate T (.map (some k)) (.string s) x).run P W=.ok () (W.putObj k ((mpB (l++[(s,v)])).obj r)):=by
 obtain ⟨kt,e,h1,h2⟩:=Kv hT;rw [Ln] at hk |-;have Gw:(Instr.findKey kt (.string s) (uf r l 0).toArray.toList).run P W=.ok none W:=qd h2 (JM r s l 0 0 hf);subst hx;unfold Instr.mapUpdate;simp only [aY,run_underlying h1,bD,qH hk,qC h2 (k:=.string s) trivial false 9999,Gw,MapKept.run_setObj_map _ hk];simp [World.putObj,MC]
theorem QE (hT:tM P T=true) (hk:W.heap[k]? = some ((mpB l).obj r)) {v:Value} (hf:gH s l=some v):(Instr.lookup T (.map (some k)) (.string s) false).run P W=.ok (aw r v) W:=by
 obtain ⟨kt,e,h1,h2⟩:=Kv hT;rw [Ln] at hk;obtain ⟨q,hq⟩:=JN r s l 0 0 hf;have Gw:(Instr.findKey kt (.string s) (uf r l 0).toArray.toList).run P W=.ok (some (q,aw r v)) W:=qd h2 hq;unfold Instr.lookup;simp only [aY,run_underlying h1,bD,qH hk,cx,qC h2 (k:=.string s) trivial _ 9999,Gw];simp
end
end Go.Gy
