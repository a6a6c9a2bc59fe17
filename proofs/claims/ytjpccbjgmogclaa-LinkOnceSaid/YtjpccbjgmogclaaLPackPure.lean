/- Packets: may one be? -/
import Derived.Test.YtjpccbjgmogclaaLiftS
set_option linter.all false
set_option linter.unusedSimpArgs false
set_option maxRecDepth 100000
namespace Go.Proofs.Ytjpccbjgmogclaa.Oct
open Go Go.RowKit Go.Proofs.Ytjpccbjgmogclaa.Lift Go.Proofs.Ytjpccbjgmogclaa

theorem bs0 : bs [] = ⟨⟨[]⟩⟩ := rfl
def inF (h : Bool) (n least most : Int) : Bool := if h = true then decide (least ≤ n) && decide (n ≤ most) else decide (n = 0)
/-- A packet. -/
structure Pk where
  kind : Int
  frm : Int
  to : Int
  inc : Int
  peer : Int
  seq : Int
  body : List Int

def hP (k : Int) : Bool := decide (1 ≤ k) && decide (k ≤ 3)
def hS (k : Int) : Bool := decide (k = 1) || decide (k = 2)
def hB (k : Int) : Bool := decide (k = 1) || decide (k = 4)
def chkP (p : Pk) : Bool := decide (1 ≤ p.kind) && (decide (p.kind ≤ 4) && (decide (0 ≤ p.frm) && (decide (p.frm ≤ 71) && (decide (0 ≤ p.to) && (decide (p.to ≤ 71) && (!decide (p.frm = p.to) &&
  (inF true p.inc 1 72057594037927935 && (inF (hP p.kind) p.peer 1 72057594037927935 && (inF (hS p.kind) p.seq 1 72057594037927935 && (decide (p.body.length ≤ 32) && (decide (0 < p.body.length) == hB p.kind)))))))))))

end Go.Proofs.Ytjpccbjgmogclaa.Oct
