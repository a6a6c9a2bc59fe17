/- Two ends, and what is under way: what the acts come to. -/
import Derived.Test.YtjpccbjgmogclaaLink3
import Derived.Test.YtjpccbjgmogclaaLinkN
set_option linter.all false
set_option linter.unusedSimpArgs false
set_option maxRecDepth 100000
set_option maxHeartbeats 8000000
namespace Go.Proofs.Ytjpccbjgmogclaa.Link
open Go Go.RowKit Go.Proofs.Ytjpccbjgmogclaa.Lift Go.Proofs.Ytjpccbjgmogclaa.TLK Go.Proofs.Ytjpccbjgmogclaa.Base Go.Proofs.Ytjpccbjgmogclaa Go.Proofs.Ytjpccbjgmogclaa.Sent

attribute [-simp] Go.Proofs.Ytjpccbjgmogclaa.Lift.unf1
@[simp] theorem unf1_int (k : IntKind) (n : Int) : unf1 (.int k n) = .int k n := rfl
@[simp] theorem unf1_str (s : ByteArray) : unf1 (.str s) = .str s := rfl
@[simp] theorem unf1_bool (b : Bool) : unf1 (.bool b) = .bool b := rfl
@[simp] theorem unf1_ref (a b c : Nat) : unf1 (.ref a b c) = .ref a b c := rfl
@[simp] theorem unf1_rref (l : List AV) : unf1 (.rref l) = .rref l := rfl
@[simp] theorem unf1_agg (l : List AV) : unf1 (.agg l) = .agg l := rfl

/-- Two ends, and what is under way. -/
structure Pr where
  a : Ed
  b : Ed
  way : List Pt
  p0 : Nat
  p1 : Nat
  c0 : Nat
  c1 : Nat

/-- The pair's cells. -/
@[simp] def cPr (fa fb : Bool) (w : AV) (P : Pr) : List AV := [
  .int .i64 P.a.fr, .int .i64 P.a.to, .int .i64 P.a.inc, .int .i64 P.a.o.pe, .int .i64 P.a.o.sq, .ro 1 (enc eStr P.a.o.tx) fa, .int .i64 P.a.o.wt, .int .i64 P.a.o.lf, .int .i64 P.a.me, .int .i64 P.a.ip, .int .i64 P.a.la,
  .int .i64 P.b.fr, .int .i64 P.b.to, .int .i64 P.b.inc, .int .i64 P.b.o.pe, .int .i64 P.b.o.sq, .ro 1 (enc eStr P.b.o.tx) fb, .int .i64 P.b.o.wt, .int .i64 P.b.o.lf, .int .i64 P.b.me, .int .i64 P.b.ip, .int .i64 P.b.la,
  w, .int .i64 P.p0, .int .i64 P.p1, .int .i64 P.c0, .int .i64 P.c1, .bool true]

/-- Bounds. -/
structure Sm (P : Pr) : Prop where
  a : P.a.o.tx.length ≤ 1000
  b : P.b.o.tx.length ≤ 1000
  w : P.way.length ≤ 100000
  p0 : P.p0 ≤ 1000
  p1 : P.p1 ≤ 1000
  c0 : P.c0 ≤ 1000
  c1 : P.c1 ≤ 1000

def putsP0 (P : Pr) : Pr := if (putE P.a 16 (nm P.p0)).2.2 = 0 then { P with a := (putE P.a 16 (nm P.p0)).1, p0 := P.p0 + 1, way := P.way ++ (putE P.a 16 (nm P.p0)).2.1 } else P
def putsP1 (P : Pr) : Pr := if (putE P.b 16 (nm P.p1)).2.2 = 0 then { P with b := (putE P.b 16 (nm P.p1)).1, p1 := P.p1 + 1, way := P.way ++ (putE P.b 16 (nm P.p1)).2.1 } else P

theorem putE_len (e : Ed) (b : Int) (t : ByteArray) : (putE e b t).2.1.length ≤ 1 := by
  unfold putE
  split
  · simp
  · simp only [datL]; split <;> simp

def ticksP0 (P : Pr) : Pr := { P with a := (tikE P.a).1, way := P.way ++ (tikE P.a).2 }
def ticksP1 (P : Pr) : Pr := { P with b := (tikE P.b).1, way := P.way ++ (tikE P.b).2 }

theorem tikE_len (e : Ed) : (tikE e).2.length ≤ 1 := by
  unfold tikE
  simp only [datL]; split <;> simp

/-- A packet comes to the first end, to the second one. -/
def comesP0 (P : Pr) (p : Pt) : Pr := { P with a := (takE P.a p).1, c1 := if (takE P.a p).2.2.1 = true then P.c1 + 1 else P.c1, way := P.way ++ (takE P.a p).2.2.2 }
def comesP1 (P : Pr) (p : Pt) : Pr := { P with b := (takE P.b p).1, c0 := if (takE P.b p).2.2.1 = true then P.c0 + 1 else P.c0, way := P.way ++ (takE P.b p).2.2.2 }

/-- How what is under way lies there. -/
def WF (P : Pr) (w : AV) (objs : List AObj) : Prop :=
  (w = .own 1 0 P.way.length ∧ ∃ v, objs = [⟨44, 7, false, enc ePt P.way, v⟩]) ∨ (w = .ro 7 [] true ∧ objs = [] ∧ P.way = [])

abbrev oPr (fa fb : Bool) (w : AV) (P : Pr) (v0 : Nat) : AObj := ⟨40, 28, true, [cPr fa fb w P], v0⟩

end Go.Proofs.Ytjpccbjgmogclaa.Link
