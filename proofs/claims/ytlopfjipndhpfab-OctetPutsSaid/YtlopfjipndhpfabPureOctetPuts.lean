/- The reading of the law's call is true. -/
import Derived.Test.YtlopfjipndhpfabOM
import Derived.Test.YtlopfjipndhpfabOctNum
set_option linter.unusedVariables false
set_option linter.unusedSimpArgs false
set_option maxRecDepth 100000
namespace Go.Proofs.Ytlopfjipndhpfab.Pure
open Go Go.RowKit Go.Proofs.Ytlopfjipndhpfab.Lift Go.Proofs.Ytlopfjipndhpfab Go.Proofs.Ytlopfjipndhpfab.TM Go.Proofs.Ytlopfjipndhpfab.Oct

theorem OctetPuts : ∀ (y0 : (List Int)) (y1 : Int) (y2 : ByteArray), (okSl (okInt .u8)) y0 → (okInt .i64) y1 → okStr y2 → F TM.T 3 [.ro 1 (y0.map (eInt .u8)) false, .int .i64 y1, .str y2] [] = some (.bool true, []) := by
  intro l n s _ _ _
  show F TM.T 3 [.ro 1 (enc (eInt .u8) l) false, .int .i64 n, .str s] [] = _
  by_cases h1 : (1000 : Int) < l.length
  · exact F_call T3 (ex := .ret) (by simp [TM.c3, TM.c3_b, callArgs_none, F8, h1]; rfl) (by simp) (by simp [TM.c3])
  by_cases h2 : (1000 : Int) < s.size
  · exact F_call T3 (ex := .ret) (by simp [TM.c3, TM.c3_b, callArgs_none, F8, h1, h2]; rfl) (by simp) (by simp [TM.c3])
  obtain ⟨v9, f9⟩ := F9 l n (by omega)
  obtain ⟨v10, f10⟩ := F10 l s (by omega) (by omega)
  have f11 := F11 n
  have f12 := F12 s (by omega)
  have hn := numB_len _ (clampN_lt n)
  have hm := numB_len s.size (by omega)
  have e1 : l.length + (numB (clampN n)).length ≤ 4611686018427387904 := by omega
  have e2 : l.length + ((numB s.size).length + s.size) ≤ 4611686018427387904 := by omega
  have e3 : bs (l ++ numB s.size ++ sb s) = bs l ++ (bs (numB s.size) ++ s) := by rw [bs_append, bs_append, bs_sb, ByteArray.append_assoc]
  have e4 : bs (l ++ numB (clampN n)) = bs l ++ bs (numB (clampN n)) := bs_append _ _
  rw [show l.length + (numB (clampN n)).length = (l ++ numB (clampN n)).length from by simp] at f9
  rw [show l.length + (numB s.size).length + s.size = (l ++ numB s.size ++ sb s).length from by simp; omega] at f10
  generalize l ++ numB (clampN n) = X at f9 e4
  generalize l ++ numB s.size ++ sb s = Y at f10 e3
  exact F_call T3 (ex := .ret) (by simp [TM.c3, TM.c3_b, callArgs_none, F8, h1, h2, f9, f10, f11, f12, e1, e2, e3, e4]; rfl) (by simp) (by simp [TM.c3])

end Go.Proofs.Ytlopfjipndhpfab.Pure
