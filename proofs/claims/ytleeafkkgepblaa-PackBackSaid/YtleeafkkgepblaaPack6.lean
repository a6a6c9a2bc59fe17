/- Packets: what is opened, by the document; the law. -/
import Derived.Test.YtleeafkkgepblaaPack5
import Derived.Test.YtleeafkkgepblaaPack6a
import Derived.Test.YtleeafkkgepblaaPack6b
import Derived.Test.YtleeafkkgepblaaPack6c
set_option linter.all false
set_option linter.unusedSimpArgs false
set_option maxRecDepth 100000
set_option maxHeartbeats 8000000
namespace Go.Proofs.Ytleeafkkgepblaa.Oct
open Go Go.RowKit Go.Proofs.Ytleeafkkgepblaa.Lift Go.Proofs.Ytleeafkkgepblaa.TPB Go.Proofs.Ytleeafkkgepblaa.Base Go.Proofs.Ytleeafkkgepblaa Go.Proofs.Ytleeafkkgepblaa.CrcC

theorem rdT_E4 (r : List Int) (e m : Int) (h : E4 e) : E4 (rdT r e m).2.2 := by
  have h1 := nxt_E4 r m
  unfold rdT
  split
  · exact h
  · split
    · exact h1
    · split
      · exact .inr (.inl rfl)
      · exact .inl rfl
theorem fail3_E4 (c : Bool) (e : Int) (h : E4 e) : E4 (fail3 c e) := by
  unfold fail3
  split
  · split
    · exact .inr (.inr (.inl rfl))
    · exact h
  · exact h
theorem rdB_E4 (c : Bool) (r : List Int) (e : Int) (h : E4 e) : E4 (rdB c r e).2.2 := by
  unfold rdB
  split
  · exact fail3_E4 _ _ (rdT_E4 _ _ _ h)
  · exact h
theorem parseP_E4 (x : List Int) : E4 (parseP x).2 := by
  unfold parseP
  split
  · refine endE_E4 _ _ ?_
    unfold readP
    exact rdB_E4 _ _ _ (rdH_E4 _ _ _ _ _ (rdH_E4 _ _ _ _ _ (rdL_E4 _ _ _ (fail3_E4 _ _ (rdN_E4 _ _ _ (rdN_E4 _ _ _ (rdL_E4 _ _ _ (.inl rfl))))))))
  · exact .inl rfl
theorem openP_wr (s : List Int) : IntKind.i64.wrap (openP s).2 = (openP s).2 := by
  unfold openP
  split
  · exact cutP_wr s
  · split
    · rfl
    · exact (parseP_E4 _).wr
theorem eq_self (p : Pk) : eqCs [0, 0, 0, 0, 0, 0, 2] (pk p) (pk p) = some true := by
  simp [eqCs]

end Go.Proofs.Ytleeafkkgepblaa.Oct
