/- For any bytes, at most 1,000 each, crc.Of and crc.More answer as the reference's Of; no other condition. -/
import Derived.Test.YtckjliikaocifabGCrcx2
import Derived.Test.YtckjliikaocifabCrcBase
namespace Go.Proofs.Ytckjliikaocifab.Pure
open Go.RowKit Go.Proofs.Ytckjliikaocifab.GCrc Go.Proofs.Ytckjliikaocifab.CrcBase Go.Proofs.YtckjliikaocifabW.PrintWords Go.Proofs.YtckjliikaocifabW.PrintLast

theorem tells_late (a b : List Int) : Ev (fun k => siskinlaw02_CrcTells.j0 k a b true) true := by
  refine Ev.step (fun k => ?_) (Ev.bind works_f (Ev.now true))
  simp only [siskinlaw02_CrcTells.j0]
  rw [if_pos trivial]

theorem tells_now (a b : List Int) (ha : a.length ≤ 1000) (hb : b.length ≤ 1000) (ba : ∀ x ∈ a, isByte x) (bb : ∀ x ∈ b, isByte x) : Ev (fun k => siskinlaw02_CrcTells.j0 k a b false) true := by
  have sa : (strOfNums a).size = a.length := strOfNums_size a
  have sb : (strOfNums b).size = b.length := strOfNums_size b
  have h1 := Of_f a (by omega) ba
  have h2 : Ev (fun k => siskinref02_Of.f k (strOfNums a)) (I (crc a)) := by
    have := Ref_f (strOfNums a) (by omega)
    rwa [byteList_str a ba] at this
  have h3 : Ev (fun k => crc_More.f k (I (crc a)) b) (I (crc (a ++ b))) := by
    have := More_f (crc a) b (by omega) bb
    rwa [crc_append] at this
  have h4 : Ev (fun k => siskinref02_Of.f k (strOfNums a ++ strOfNums b)) (I (crc (a ++ b))) := by
    have := Ref_f (strOfNums a ++ strOfNums b) (by rw [ByteArray.size_append]; omega)
    rwa [byteList_append, byteList_str a ba, byteList_str b bb] at this
  refine Ev.step (g := fun k => siskinlaw02_CrcTells.j0 k a b false) (f := fun k => (crc_Of.f k a).bind fun t108 => ((siskinref02_Of.f k (strOfNums a)).bind fun t109 => (if t108 = t109 then ((crc_Of.f k a).bind fun t110 => ((crc_More.f k t110 b).bind fun t111 => (if (strOfNums a).size + (strOfNums b).size ≤ 9223372036854775807 then ((siskinref02_Of.f k ((strOfNums a) ++ (strOfNums b))).bind fun t112 => (if t111 = t112 then ((siskinlaw02_works.f k).bind fun t113 => (some t113)) else (some false))) else (none)))) else (some false)))) (fun k => ?_) ?_
  · simp only [siskinlaw02_CrcTells.j0]
    rw [if_neg (by decide)]
  · refine Ev.bind h1 (Ev.bind h2 ?_)
    simp only [if_true]
    refine Ev.bind h1 (Ev.bind h3 ?_)
    simp only [show (strOfNums a).size + (strOfNums b).size ≤ 9223372036854775807 from by omega, if_true]
    refine Ev.bind h4 ?_
    simp only [if_true]
    exact Ev.bind works_f (Ev.now true)

theorem CrcTells : siskinlaw02_CrcTells.Pure := by
  intro a b _ _ ba _ _ bb
  refine Ev.rounds ?_
  unfold siskinlaw02_CrcTells.f
  by_cases ha : (a.length : Int) > 1000
  · simp only [ha, if_true]
    exact tells_late a b
  · simp only [ha, if_false]
    by_cases hb : (b.length : Int) > 1000
    · simp only [hb, decide_true]
      exact tells_late a b
    · simp only [hb, decide_false]
      exact tells_now a b (by omega) (by omega) (bytes_of_wf ba) (bytes_of_wf bb)

end Go.Proofs.Ytckjliikaocifab.Pure
