/- Sums of bytes: what the document's functions come to. -/
import Derived.Test.YtleeafkkgepblaaCrc2
set_option linter.all false
set_option linter.unusedSimpArgs false
set_option maxRecDepth 100000
set_option maxHeartbeats 4000000
namespace Go.Proofs.Ytleeafkkgepblaa.CrcC
open Go Go.RowKit Go.Proofs.Ytleeafkkgepblaa.Lift Go.Proofs.Ytleeafkkgepblaa.TPB Go.Proofs.Ytleeafkkgepblaa.Base Go.Proofs.Ytleeafkkgepblaa

theorem f_div (s : BitVec 32) : IntKind.u32.wrap ((Crc.I s).tdiv 2) = Crc.I (s >>> 1) := by
  have h1 := Crc.I_lo s
  have h2 := Crc.I_hi s
  have h3 := Crc.I_half s
  rw [Int.tdiv_eq_ediv_of_nonneg h1, IntKind.wrap_u32]
  omega
theorem f_rem (s : BitVec 32) : (Crc.I s).tmod 2 = Crc.I s % 2 := Int.tmod_eq_emod_of_nonneg (Crc.I_lo s)

theorem bs_at (r : List Int) (i : Nat) (hi : i < r.length) (h : 0 ≤ r[i] ∧ r[i] ≤ 255) (h' : i < (bs r).size) : ((bs r)[i].toNat : Int) = r[i] := by
  have h1 := bs_get? r i
  rw [getElem?_pos (bs r) i h', List.getElem?_eq_getElem hi] at h1
  simp only [Option.map_some, Option.some.injEq] at h1
  rw [h1]
  rw [UInt8.toNat_ofNat']; omega

end Go.Proofs.Ytleeafkkgepblaa.CrcC
