/- For any bytes, at most 1,000, crc.Seal and crc.Open answer as the reference; no other condition. -/
import Derived.Test.YtckjliikaocifabGCrcbx2
import Derived.Test.YtckjliikaocifabSealBase
namespace Go.Proofs.Ytckjliikaocifab.Pure
open Go.RowKit Go.Proofs.Ytckjliikaocifab.GCrcb Go.Proofs.Ytckjliikaocifab.CrcBaseb Go.Proofs.YtckjliikaocifabW.PrintWords Go.Proofs.YtckjliikaocifabW.PrintLast Go.Proofs.YtckjliikaocifabW.PrintMore

theorem str_append (a b : List Int) : strOfNums (a ++ b) = strOfNums a ++ strOfNums b := by
  apply ByteArray.ext
  rw [ByteArray.data_append]
  simp [strOfNums]
theorem toL (a : List Int) : (strOfNums a).toList = a.map fun n => UInt8.ofNat n.toNat := by rw [ByteArray.toList_eq, strOfNums_data]
theorem toL_inj {a b : List Int} (ha : ∀ x ∈ a, isByte x) (hb : ∀ x ∈ b, isByte x) (h : (strOfNums a).toList = (strOfNums b).toList) : a = b := by
  rw [← byteList_str a ha, ← byteList_str b hb]
  unfold byteList
  rw [← ByteArray.toList_eq, ← ByteArray.toList_eq, h]

theorem ref_four (s : BitVec 32) : siskinref02_Four.f (I s) = some (strOfNums (four s)) := by
  have h0 := I_lo s
  have h1 := I_hi s
  unfold siskinref02_Four.f four byteAt
  rw [Int.tmod_eq_emod_of_nonneg h0, Int.tdiv_eq_ediv_of_nonneg h0, Int.tdiv_eq_ediv_of_nonneg h0, Int.tdiv_eq_ediv_of_nonneg h0]
  have e0 : I s % 256 % 256 = I s / 2 ^ (8 * 0) % 256 := by simp
  have e1 : I s / 256 % 4294967296 % 256 = I s / 2 ^ (8 * 1) % 256 := by
    rw [show ((2 : Int) ^ (8 * 1)) = 256 from by decide]; omega
  have e2 : I s / 65536 % 4294967296 % 256 = I s / 2 ^ (8 * 2) % 256 := by
    rw [show ((2 : Int) ^ (8 * 2)) = 65536 from by decide]; omega
  have e3 : I s / 16777216 % 4294967296 % 256 = I s / 2 ^ (8 * 3) % 256 := by
    rw [show ((2 : Int) ^ (8 * 3)) = 16777216 from by decide]; omega
  rw [e0, e1, e2, e3]

theorem ref_seal (a : List Int) (ha : a.length ≤ 1000000) (hb : ∀ x ∈ a, isByte x) : Ev (fun k => siskinref02_Seal.f k (strOfNums a)) (strOfNums (a ++ four (crc a))) := by
  have hs : (strOfNums a).size = a.length := strOfNums_size a
  have h4 : (strOfNums (four (crc a))).size = 4 := strOfNums_size _
  have h := Ref_f (strOfNums a) (by omega)
  rw [byteList_str a hb] at h
  refine Ev.bind h ?_
  rw [ref_four]
  simp only [Option.bind_some, show (strOfNums a).size + (strOfNums (four (crc a))).size ≤ 9223372036854775807 from by omega, if_true]
  rw [str_append]
  exact Ev.now _

theorem opened_seal (a : List Int) : opened (a ++ four (crc a)) = (a, true) := by
  have hl : (a ++ four (crc a)).length = a.length + 4 := by rw [List.length_append]; rfl
  unfold opened
  rw [if_neg (by omega), hl, show a.length + 4 - 4 = a.length from by omega, List.drop_left, List.take_left, if_pos rfl]

theorem CrcSeals : siskinlaw02_CrcSeals.Pure := by
  intro l _ _ hwf
  have hb := bytes_of_wf hwf
  refine Ev.rounds ?_
  unfold siskinlaw02_CrcSeals.f
  by_cases big : (l.length : Int) > 1000
  · simp only [big, if_true]
    exact Ev.bind works_f (Ev.now true)
  · simp only [big, if_false]
    have hlb : ∀ x ∈ l ++ four (crc l), isByte x := by
      intro x hx
      rcases List.mem_append.1 hx with h | h
      · exact hb x h
      · exact four_byte _ x h
    have h1 := seal_ev l (by omega) hb
    have h2 := open_ev (l ++ four (crc l)) (by rw [List.length_append]; show l.length + 4 ≤ _; omega) hlb
    rw [opened_seal] at h2
    have h3 := open_ev l (by omega) hb
    have h4 := ref_seal l (by omega) hb
    refine Ev.bind h1 (Ev.bind h2 (Ev.bind h3 (Ev.bind h4 ?_)))
    simp only [if_true, bne_self_eq_false]
    have hw : wrap64 ((l.length : Int) - 4) = (l.length : Int) - 4 := w64 (by omega) (by omega)
    by_cases a : l.length < 4
    · have ho : opened l = ([], false) := by unfold opened; rw [if_pos a]
      rw [ho]
      refine Ev.step (fun k => ?_) (Ev.bind works_f (Ev.now true))
      simp only [siskinlaw02_CrcSeals.j0]
      rw [if_neg (by decide), hw, if_neg (by omega), if_pos (by decide), if_neg (by decide), if_pos (by rfl)]
    · obtain ⟨n, hn⟩ : ∃ n, n + 4 = l.length := ⟨l.length - 4, by omega⟩
      have e : l.length - 4 = n := by omega
      have e' : (l.length : Int) - 4 = (n : Int) := by omega
      have hm : mx (n : Int) 0 = (n : Int) := by unfold mx; rw [if_neg (by omega)]
      have htb : ∀ x ∈ l.take n, isByte x := fun x hx => hb x (List.mem_of_mem_take hx)
      have h5 := ref_seal (l.take n) (by rw [List.length_take]; omega) htb
      have hcomb : l.take n ++ l.drop n = l := List.take_append_drop n l
      have key : ((strOfNums (l.take n ++ four (crc (l.take n)))).toList == (strOfNums l).toList) = decide (l.drop n = four (crc (l.take n))) := by
        rw [Bool.eq_iff_iff, beq_iff_eq, decide_eq_true_iff]
        constructor
        · intro h
          have h6 := toL_inj (by
            intro x hx
            rcases List.mem_append.1 hx with h | h
            · exact htb x h
            · exact four_byte _ x h) hb h
          have h7 : l.take n ++ four (crc (l.take n)) = l.take n ++ l.drop n := h6.trans hcomb.symm
          exact (List.append_cancel_left h7).symm
        · intro h
          rw [← h, hcomb]
      by_cases c : l.drop n = four (crc (l.take n))
      · have ho : opened l = (l.take n, true) := by unfold opened; rw [if_neg a, e, if_pos c]
        rw [ho]
        rw [decide_eq_true c] at key
        refine Ev.step (f := fun k => (siskinref02_Seal.f k (strOfNums (l.take n))).bind fun t146 => if (true == (t146.toList == (strOfNums l).toList)) = true then ((siskinlaw02_works.f k).bind fun t148 => (some t148)) else (some false)) (fun k => ?_) (Ev.bind h5 ?_)
        · simp only [siskinlaw02_CrcSeals.j0]
          rw [if_neg (by decide), hw, e', if_pos (by omega), hm, if_pos (by omega), if_pos (by omega), Int.toNat_natCast]
          simp only [if_true]
        · simp only [key, beq_self_eq_true, if_true]
          exact Ev.bind works_f (Ev.now true)
      · have ho : opened l = ([], false) := by unfold opened; rw [if_neg a, e, if_neg c]
        rw [ho]
        rw [decide_eq_false c] at key
        refine Ev.step (f := fun k => (siskinref02_Seal.f k (strOfNums (l.take n))).bind fun t146 => if (false == (t146.toList == (strOfNums l).toList)) = true then ((siskinlaw02_works.f k).bind fun t149 => (some t149)) else (some false)) (fun k => ?_) (Ev.bind h5 ?_)
        · simp only [siskinlaw02_CrcSeals.j0]
          rw [if_neg (by decide), hw, e', if_pos (by omega), hm, if_pos (by omega), if_pos (by omega), Int.toNat_natCast]
          simp
        · simp only [key, beq_self_eq_true, if_true]
          exact Ev.bind works_f (Ev.now true)

end Go.Proofs.Ytckjliikaocifab.Pure
