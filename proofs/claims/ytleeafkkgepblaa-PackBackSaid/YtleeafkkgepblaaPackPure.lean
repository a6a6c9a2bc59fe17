/- Packets as bytes: there and back. -/
import Derived.Test.YtleeafkkgepblaaMsgPure
import Derived.Test.YtleeafkkgepblaaFramePure
set_option linter.all false
set_option linter.unusedSimpArgs false
set_option maxRecDepth 100000
namespace Go.Proofs.Ytleeafkkgepblaa.Oct
open Go Go.RowKit Go.Proofs.Ytleeafkkgepblaa.Lift Go.Proofs.Ytleeafkkgepblaa Go.Proofs.Ytleeafkkgepblaa.CrcC

/-- A packet. -/
structure Pk where
  kind : Int
  frm : Int
  to : Int
  inc : Int
  peer : Int
  seq : Int
  body : List Int

def hP (k : Int) : Bool := decide (1 ≤ k) && decide (k ≤ 3)
def hS (k : Int) : Bool := decide (k = 1) || decide (k = 2)
def hB (k : Int) : Bool := decide (k = 1) || decide (k = 4)
def chkP (p : Pk) : Bool := decide (1 ≤ p.kind) && (decide (p.kind ≤ 4) && (decide (0 ≤ p.frm) && (decide (p.frm ≤ 71) && (decide (0 ≤ p.to) && (decide (p.to ≤ 71) && (!decide (p.frm = p.to) &&
  (inF true p.inc 1 72057594037927935 && (inF (hP p.kind) p.peer 1 72057594037927935 && (inF (hS p.kind) p.seq 1 72057594037927935 && (decide (p.body.length ≤ 32) && (decide (0 < p.body.length) == hB p.kind)))))))))))
def tb (h : Bool) (b : List Int) : List Int := if h = true then textB b else []
def bytesP (p : Pk) : List Int := numB p.kind.toNat ++ (numB p.frm.toNat ++ (numB p.to.toNat ++ (numB p.inc.toNat ++ (fb (hP p.kind) p.peer ++ (fb (hS p.kind) p.seq ++ tb (hB p.kind) p.body)))))

/-- A second error is not told. -/
def fail3 (c : Bool) (e : Int) : Int := if c = true then (if e = 0 then 3 else e) else e
/-- A text that is there, or not. -/
def rdB (h : Bool) (r : List Int) (e : Int) : List Int × Nat × Int := if h = true then ((rdT r e 32).1, (rdT r e 32).2.1, fail3 (decide ((rdT r e 32).1 = [])) (rdT r e 32).2.2) else ([], 0, e)

def readP (x : List Int) : Pk × List Int × Int :=
  let a := rdL x 0 4
  let r1 := x.drop a.2.1
  let f := rdN r1 a.2.2 71
  let r2 := r1.drop f.2.1
  let t := rdN r2 f.2.2 71
  let r3 := r2.drop t.2.1
  let i := rdL r3 (fail3 (decide (f.1 = t.1)) t.2.2) 72057594037927935
  let r4 := r3.drop i.2.1
  let p := rdH (hP a.1) true r4 i.2.2 72057594037927935
  let r5 := r4.drop p.2.1
  let s := rdH (hS a.1) true r5 p.2.2 72057594037927935
  let r6 := r5.drop s.2.1
  let b := rdB (hB a.1) r6 s.2.2
  (⟨a.1, f.1, t.1, i.1, p.1, s.1, b.1⟩, r6.drop b.2.1, b.2.2)
def noP : Pk := ⟨0, 0, 0, 0, 0, 0, []⟩
def parseP (x : List Int) : Pk × Int :=
  if endE (readP x).2.2 (readP x).2.1.length ≠ 0 then (noP, endE (readP x).2.2 (readP x).2.1.length) else ((readP x).1, 0)
/-- What is opened. -/
def openP (s : List Int) : Pk × Int :=
  if (cutP s).2.2 ≠ 0 then (noP, (cutP s).2.2) else if (cutP s).2.1 < s.length then (noP, 3) else parseP (cutP s).1

theorem rdB_put (h : Bool) (b rest : List Int) (hb : (decide (0 < b.length) == h) = true) (hl : b.length ≤ 32) : rdB h (tb h b ++ rest) 0 = (b, (tb h b).length, 0) := by
  unfold rdB tb
  cases h with
  | false =>
    simp at hb ⊢
    exact hb
  | true =>
    simp only [if_true]
    rw [rdT_text b rest 32 (by omega) (by omega)]
    simp at hb
    have : b ≠ [] := by rintro rfl; simp at hb
    simp [fail3, this]

theorem readP_bytes (p : Pk) (h : chkP p = true) : readP (bytesP p) = (p, [], 0) := by
  obtain ⟨k, f, t, i, pe, se, b⟩ := p
  simp only [chkP, Bool.and_eq_true, decide_eq_true_eq, Bool.not_eq_true', decide_eq_false_iff_not] at h
  obtain ⟨h1, h2, h3, h4, h5, h6, h7, h8, h9, h10, h11, h12⟩ := h
  have h8' : 1 ≤ i ∧ i ≤ 72057594037927935 := by simpa [inF] using h8
  have a := rdL_num k (numB f.toNat ++ (numB t.toNat ++ (numB i.toNat ++ (fb (hP k) pe ++ (fb (hS k) se ++ tb (hB k) b))))) 4 h1 h2 (by omega)
  have b1 := rdN_num f (numB t.toNat ++ (numB i.toNat ++ (fb (hP k) pe ++ (fb (hS k) se ++ tb (hB k) b)))) 71 h3 h4 (by omega)
  have b2 := rdN_num t (numB i.toNat ++ (fb (hP k) pe ++ (fb (hS k) se ++ tb (hB k) b))) 71 h5 h6 (by omega)
  have b3 := rdL_num i (fb (hP k) pe ++ (fb (hS k) se ++ tb (hB k) b)) 72057594037927935 h8'.1 h8'.2 (by omega)
  have b4 := rdH_put (hP k) true pe (fb (hS k) se ++ tb (hB k) b) 72057594037927935 1 rfl h9 (by omega)
  have b5 := rdH_put (hS k) true se (tb (hB k) b) 72057594037927935 1 rfl h10 (by omega)
  have b6 := rdB_put (hB k) b [] h12 h11
  rw [List.append_nil] at b6
  have hft : decide (f = t) = false := decide_eq_false h7
  unfold readP bytesP
  simp only [a, List.drop_left, b1, b2, hft, fail3, Bool.false_eq_true, if_false, b3, b4, b5, b6]
  rw [List.drop_length]

theorem rdT_back (r : List Int) (e m : Int) (hm : 0 ≤ m) (hr : ∀ a ∈ r, 0 ≤ a ∧ a ≤ 255) (h : (rdT r e m).2.2 = 0) : e = 0 ∧ r = textB (rdT r e m).1 ++ r.drop (rdT r e m).2.1 ∧ ((rdT r e m).1.length : Int) ≤ m := by
  have hN := rdN_back r e m hm hr
  have hok := nxt_ok r m hr
  unfold rdT rdN at *
  by_cases he : e = 0
  · subst he
    simp only [ne_eq, not_true_eq_false, if_false] at h hN ⊢
    by_cases h2 : (nxt r m).2.2 = 0
    · rw [if_neg (by simpa using h2)] at h hN ⊢
      obtain ⟨g1, g2, g3, g4⟩ := hok h2
      obtain ⟨_, n2, n3, n4⟩ := hN rfl
      simp only [] at n2 n3 n4
      by_cases h5 : (r.length : Int) - (nxt r m).2.1 < (nxt r m).1
      · rw [if_pos h5] at h; simp at h
      · rw [if_neg h5]
        simp only []
        have hl : ((r.drop (nxt r m).2.1).take (nxt r m).1.toNat).length = (nxt r m).1.toNat := by rw [List.length_take, List.length_drop]; omega
        refine ⟨trivial, ?_, by rw [hl]; omega⟩
        unfold textB
        rw [hl, List.append_assoc]
        conv => lhs; rw [n2]
        congr 1
        rw [← List.drop_drop, List.take_append_drop]
    · rw [if_pos h2] at h
      exact absurd h h2
  · rw [if_pos he] at h
    exact absurd h he

theorem rdB_back (h : Bool) (r : List Int) (e : Int) (hr : ∀ a ∈ r, 0 ≤ a ∧ a ≤ 255) (he : (rdB h r e).2.2 = 0) : e = 0 ∧ r = tb h (rdB h r e).1 ++ r.drop (rdB h r e).2.1 ∧ (rdB h r e).1.length ≤ 32 ∧ (decide (0 < (rdB h r e).1.length) == h) = true := by
  unfold rdB tb at *
  cases h with
  | false => simp at he ⊢; exact he
  | true =>
    simp only [if_true] at he ⊢
    unfold fail3 at he
    by_cases hn : (rdT r e 32).1 = []
    · rw [decide_eq_true hn, if_pos rfl] at he
      split at he
      · cases he
      · rename_i q; exact absurd he q
    · rw [decide_eq_false hn, if_neg (by simp)] at he
      obtain ⟨g1, g2, g3⟩ := rdT_back r e 32 (by omega) hr he
      have := List.length_pos_iff.2 hn
      exact ⟨g1, g2, by omega, by simp [this]⟩

theorem fail3_0 {c : Bool} {e : Int} (h : fail3 c e = 0) : c = false ∧ e = 0 := by
  unfold fail3 at h
  cases c with
  | false => simp at h; exact ⟨rfl, h⟩
  | true =>
    rw [if_pos rfl] at h
    split at h
    · cases h
    · rename_i q; exact absurd h q

theorem readP_back (x : List Int) (hx : ∀ a ∈ x, 0 ≤ a ∧ a ≤ 255) (h : (readP x).2.2 = 0) : chkP (readP x).1 = true ∧ x = bytesP (readP x).1 ++ (readP x).2.1 := by
  have hd : ∀ {r : List Int} (n : Nat), (∀ a ∈ r, 0 ≤ a ∧ a ≤ 255) → ∀ a ∈ r.drop n, 0 ≤ a ∧ a ≤ 255 := fun n h a ha => h a (List.mem_of_mem_drop ha)
  unfold readP at *
  simp only [] at h ⊢
  generalize ha : rdL x 0 4 = a at *
  generalize hr1 : x.drop a.2.1 = r1 at *
  have x1 : ∀ y ∈ r1, 0 ≤ y ∧ y ≤ 255 := by rw [← hr1]; exact hd _ hx
  generalize hf : rdN r1 a.2.2 71 = f at *
  generalize hr2 : r1.drop f.2.1 = r2 at *
  have x2 : ∀ y ∈ r2, 0 ≤ y ∧ y ≤ 255 := by rw [← hr2]; exact hd _ x1
  generalize ht : rdN r2 f.2.2 71 = t at *
  generalize hr3 : r2.drop t.2.1 = r3 at *
  have x3 : ∀ y ∈ r3, 0 ≤ y ∧ y ≤ 255 := by rw [← hr3]; exact hd _ x2
  generalize hi : rdL r3 (fail3 (decide (f.1 = t.1)) t.2.2) 72057594037927935 = i at *
  generalize hr4 : r3.drop i.2.1 = r4 at *
  have x4 : ∀ y ∈ r4, 0 ≤ y ∧ y ≤ 255 := by rw [← hr4]; exact hd _ x3
  generalize hp : rdH (hP a.1) true r4 i.2.2 72057594037927935 = p at *
  generalize hr5 : r4.drop p.2.1 = r5 at *
  have x5 : ∀ y ∈ r5, 0 ≤ y ∧ y ≤ 255 := by rw [← hr5]; exact hd _ x4
  generalize hs : rdH (hS a.1) true r5 p.2.2 72057594037927935 = s at *
  generalize hr6 : r5.drop s.2.1 = r6 at *
  have x6 : ∀ y ∈ r6, 0 ≤ y ∧ y ≤ 255 := by rw [← hr6]; exact hd _ x5
  obtain ⟨e6, g6, l6, c6⟩ := rdB_back (hB a.1) r6 s.2.2 x6 h
  have e5 := rdH_back (hS a.1) true r5 p.2.2 72057594037927935 1 rfl (by omega) x5 (by rw [hs]; exact e6)
  rw [hs] at e5
  obtain ⟨e5, g5, c5⟩ := e5
  have e4 := rdH_back (hP a.1) true r4 i.2.2 72057594037927935 1 rfl (by omega) x4 (by rw [hp]; exact e5)
  rw [hp] at e4
  obtain ⟨e4, g4, c4⟩ := e4
  have e3 := rdL_back r3 _ 72057594037927935 (by omega) x3 (by rw [hi]; exact e4)
  rw [hi] at e3
  obtain ⟨e3, g3, c3, c3'⟩ := e3
  obtain ⟨hft, e2⟩ := fail3_0 e3
  have e2 := rdN_back r2 f.2.2 71 (by omega) x2 (by rw [ht]; exact e2)
  rw [ht] at e2
  obtain ⟨e2, g2, c2, c2'⟩ := e2
  have e1 := rdN_back r1 a.2.2 71 (by omega) x1 (by rw [hf]; exact e2)
  rw [hf] at e1
  obtain ⟨e1, g1, c1, c1'⟩ := e1
  have e0 := rdL_back x 0 4 (by omega) hx (by rw [ha]; exact e1)
  rw [ha] at e0
  obtain ⟨_, g0, c0, c0'⟩ := e0
  refine ⟨?_, ?_⟩
  · simp only [chkP, Bool.and_eq_true, decide_eq_true_eq, Bool.not_eq_true']
    exact ⟨c0, c0', c1, c1', c2, c2', hft, by simp [inF]; omega, c4, c5, l6, c6⟩
  · unfold bytesP
    simp only [List.append_assoc]
    rw [hr1] at g0
    rw [hr2] at g1
    rw [hr3] at g2
    rw [hr4] at g3
    rw [hr5] at g4
    rw [hr6] at g5
    rw [← g6, ← g5, ← g4, ← g3, ← g2, ← g1, ← g0]

theorem parseP_bytes (p : Pk) (h : chkP p = true) : parseP (bytesP p) = (p, 0) := by
  unfold parseP
  rw [readP_bytes p h]
  simp [endE]

theorem parseP_back (x : List Int) (hx : ∀ a ∈ x, 0 ≤ a ∧ a ≤ 255) (h : (parseP x).2 = 0) : chkP (parseP x).1 = true ∧ bytesP (parseP x).1 = x := by
  unfold parseP at *
  by_cases he : endE (readP x).2.2 (readP x).2.1.length = 0
  · rw [if_neg (by simpa using he)]
    obtain ⟨h1, h2⟩ := endE_0.1 he
    obtain ⟨g1, g2⟩ := readP_back x hx h1
    refine ⟨g1, ?_⟩
    rw [List.length_eq_zero_iff.1 h2, List.append_nil] at g2
    exact g2.symm
  · rw [if_pos he] at h
    exact absurd h he

theorem fbP_len (b : Bool) (n : Int) (h : inF b n 1 72057594037927935 = true) : (fb b n).length ≤ 8 := by
  unfold inF at h
  cases b with
  | false => simp [fb]
  | true => simp at h; exact fb_len _ _ (by omega)
theorem fbP_range (b : Bool) (n : Int) (h : inF b n 1 72057594037927935 = true) : ∀ d ∈ fb b n, 0 ≤ d ∧ d ≤ 255 := by
  unfold inF at h
  cases b with
  | false => simp [fb]
  | true => simp at h; exact fb_range _ _ (by omega)

theorem small_len (n : Int) (h0 : 0 ≤ n) (h1 : n ≤ 71) : (numB n.toNat).length = 1 := by unfold numB; rw [if_pos (by omega)]; rfl

theorem bytesP_len (p : Pk) (h : chkP p = true) : (bytesP p).length ≤ 100 ∧ 4 ≤ (bytesP p).length := by
  obtain ⟨k, f, t, i, pe, se, b⟩ := p
  simp only [chkP, Bool.and_eq_true, decide_eq_true_eq, Bool.not_eq_true', decide_eq_false_iff_not] at h
  obtain ⟨h1, h2, h3, h4, h5, h6, h7, h8, h9, h10, h11, h12⟩ := h
  have h8' : 1 ≤ i ∧ i ≤ 72057594037927935 := by simpa [inF] using h8
  have g1 := small_len k (by omega) (by omega)
  have g2 := small_len f h3 h4
  have g3 := small_len t h5 h6
  have g4 := numB_len i.toNat (by omega)
  have g4' : 1 ≤ (numB i.toNat).length := by unfold numB; split <;> simp
  have g5 := fbP_len (hP k) pe h9
  have g6 := fbP_len (hS k) se h10
  have g7 : (tb (hB k) b).length ≤ 40 := by
    unfold tb
    split
    · have := textB_len b (by omega); omega
    · simp
  unfold bytesP
  simp only [List.length_append]
  omega

theorem bytesP_range (p : Pk) (h : chkP p = true) (hb : ∀ x ∈ p.body, 0 ≤ x ∧ x ≤ 255) : ∀ x ∈ bytesP p, 0 ≤ x ∧ x ≤ 255 := by
  obtain ⟨k, f, t, i, pe, se, b⟩ := p
  simp only [chkP, Bool.and_eq_true, decide_eq_true_eq, Bool.not_eq_true', decide_eq_false_iff_not] at h
  obtain ⟨h1, h2, h3, h4, h5, h6, h7, h8, h9, h10, h11, h12⟩ := h
  have h8' : 1 ≤ i ∧ i ≤ 72057594037927935 := by simpa [inF] using h8
  intro x hx
  unfold bytesP at hx
  simp only [List.mem_append] at hx
  rcases hx with hx | hx | hx | hx | hx | hx | hx
  · exact numB_range _ (by omega) x hx
  · exact numB_range _ (by omega) x hx
  · exact numB_range _ (by omega) x hx
  · exact numB_range _ (by omega) x hx
  · exact fbP_range _ _ h9 x hx
  · exact fbP_range _ _ h10 x hx
  · unfold tb at hx
    split at hx
    · exact textB_range b (by omega) hb x hx
    · simp at hx

/-- What is cut was put. -/
theorem cutP_back (b : List Int) (hb : ∀ a ∈ b, 0 ≤ a ∧ a ≤ 255) (h : (cutP b).2.2 = 0) : b = frameB (cutP b).1 ++ b.drop (cutP b).2.1 ∧ (cutP b).1.length ≤ 4096 ∧ ∀ a ∈ (cutP b).1, 0 ≤ a ∧ a ≤ 255 := by
  unfold cutP at *
  by_cases h1 : (rdT b 0 4096).2.2 = 0
  · obtain ⟨_, g2, g3⟩ := rdT_back b 0 4096 (by omega) hb h1
    rw [if_neg (by simpa using h1)] at h ⊢
    by_cases h2 : b.length < (rdT b 0 4096).2.1 + 4
    · rw [if_pos h2] at h; simp at h
    · rw [if_neg h2] at h ⊢
      by_cases h3 : sealed (b.take ((rdT b 0 4096).2.1 + 4)) = true
      · rw [if_pos h3]
        simp only []
        have h4 := (sealed_iff b _ (by omega)).1 h3
        have hk : (rdT b 0 4096).2.1 ≤ b.length := by omega
        have ht : b.take (rdT b 0 4096).2.1 = textB (rdT b 0 4096).1 := by
          have := congrArg List.length g2
          rw [List.length_append, List.length_drop] at this
          generalize (rdT b 0 4096).2.1 = k at *
          generalize (rdT b 0 4096).1 = z at *
          calc b.take k = (textB z ++ b.drop k).take k := by rw [← g2]
            _ = textB z := List.take_left' (by omega)
        rw [ht] at h4
        refine ⟨?_, by omega, ?_⟩
        · show b = frameB (rdT b 0 4096).1 ++ b.drop ((rdT b 0 4096).2.1 + 4)
          unfold frameB
          rw [h4, List.take_append_drop]
        · intro a ha
          refine hb a ?_
          rw [g2]
          exact List.mem_append_left _ (List.mem_append_right _ ha)
      · rw [if_neg h3] at h; simp at h
  · rw [if_pos h1] at h
    exact absurd h h1

theorem openP_bytes (p : Pk) (h : chkP p = true) : openP (frameB (bytesP p)) = (p, 0) := by
  have hl := (bytesP_len p h).1
  have hc := cutP_frame (bytesP p) [] (by omega)
  rw [List.append_nil] at hc
  unfold openP
  rw [hc]
  simp only [ne_eq, not_true_eq_false, if_false, Nat.lt_irrefl]
  exact parseP_bytes p h

theorem openP_back (s : List Int) (hs : ∀ a ∈ s, 0 ≤ a ∧ a ≤ 255) (h : (openP s).2 = 0) : chkP (openP s).1 = true ∧ frameB (bytesP (openP s).1) = s := by
  unfold openP at *
  by_cases h1 : (cutP s).2.2 = 0
  · rw [if_neg (by simpa using h1)] at h ⊢
    obtain ⟨g1, g2, g3⟩ := cutP_back s hs h1
    by_cases h2 : (cutP s).2.1 < s.length
    · rw [if_pos h2] at h; simp at h
    · rw [if_neg h2] at h ⊢
      obtain ⟨k1, k2⟩ := parseP_back _ g3 h
      refine ⟨k1, ?_⟩
      rw [k2]
      conv => rhs; rw [g1]
      rw [List.drop_of_length_le (by omega), List.append_nil]
  · rw [if_pos h1] at h
    exact absurd h h1

end Go.Proofs.Ytleeafkkgepblaa.Oct
