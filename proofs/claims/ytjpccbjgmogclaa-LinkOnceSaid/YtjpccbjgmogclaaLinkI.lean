/- Two ends that both stay: what stands behind any acts. -/
import Derived.Test.YtjpccbjgmogclaaLink6
set_option linter.all false
set_option linter.unusedSimpArgs false
set_option maxRecDepth 100000
set_option maxHeartbeats 2000000
namespace Go.Proofs.Ytjpccbjgmogclaa.Link
attribute [-simp] Go.Proofs.Ytjpccbjgmogclaa.Lift.unf1
open Go Go.RowKit Go.Proofs.Ytjpccbjgmogclaa.Lift Go.Proofs.Ytjpccbjgmogclaa.TLK Go.Proofs.Ytjpccbjgmogclaa.Base Go.Proofs.Ytjpccbjgmogclaa Go.Proofs.Ytjpccbjgmogclaa.Sent

/-! #### the texts -/

theorem dig_short : ∀ (g f n : Nat), n < 10 ^ f → (dig g n).length ≤ f
  | 0, f, n, h => by simp [dig]
  | g + 1, f, n, h => by
    unfold dig
    by_cases h0 : n = 0
    · rw [if_pos h0]; simp
    · rw [if_neg h0]
      cases f with
      | zero => simp at h; omega
      | succ f =>
        have := dig_short g f (n / 10) (by rw [Nat.pow_succ] at h; omega)
        simp; omega

theorem nm_short (n : Nat) (h : n < 1000) : 1 ≤ (nm n).size ∧ (nm n).size ≤ 32 := by
  rw [nm_size]
  have : (numL n).length ≤ 3 := by
    unfold numL
    split
    · simp
    · exact dig_short _ 3 n (by omega)
  omega

/-- The texts that wait. -/
def names (q p : Nat) : List ByteArray := (List.range' q (p - q)).map nm

theorem names_nil {q p : Nat} : names q p = [] ↔ p ≤ q := by
  unfold names
  rw [List.map_eq_nil_iff, List.range'_eq_nil_iff]
  omega
theorem names_cons {q p : Nat} (h : q < p) : names q p = nm q :: names (q + 1) p := by
  unfold names
  rw [show p - q = (p - (q + 1)) + 1 by omega, List.range'_succ]; rfl
theorem names_len (q p : Nat) : (names q p).length = p - q := by simp [names]
theorem names_snoc {q p : Nat} (h : q ≤ p) : names q p ++ [nm p] = names q (p + 1) := by
  unfold names
  rw [show p + 1 - q = (p - q) + 1 by omega, List.range'_concat, List.map_append]
  simp; congr 1; omega
theorem names_has (q p : Nat) : hasT (names q p) (nm p) = false := by
  rw [Bool.eq_false_iff]
  intro h
  rw [hasT_iff] at h
  unfold names at h
  obtain ⟨k, hk, he⟩ := List.mem_map.1 h
  have := nm_inj he
  rw [List.mem_range'_1] at hk
  omega

/-! #### an end -/

structure Side (e : Ed) (f t : Int) (q p la : Nat) : Prop where
  fr : e.fr = f
  to : e.to = t
  inc : e.inc = 1
  pe : e.o.pe = 1
  sq : e.o.sq = q + 1
  tx : e.o.tx = names q p
  me : e.me = 1
  ip : e.ip = 1
  la : e.la = la
  qp : q ≤ p
  sm : p ≤ 200

/-- Where both ends are. -/
def Two (f t : Int) : Prop := (f = 0 ∧ t = 8) ∨ (f = 8 ∧ t = 0)

def dta (f t : Int) (s : Nat) : Pt := ⟨1, f, t, 1, 1, s + 1, nm s⟩
def ack (f t : Int) (s : Nat) : Pt := ⟨2, f, t, 1, 1, s + 1, emp⟩

theorem chk_dta {f t : Int} (h : Two f t) (s : Nat) (hs : s < 1000) : chkT (dta f t s) = true := by
  have h1 := nm_short s hs
  unfold chkT Oct.chkP dta Oct.inF Oct.hP Oct.hS Oct.hB
  simp only [sb_length]
  have e1 : decide (1 ≤ (s : Int) + 1) = true := by simp; omega
  have e2 : decide ((s : Int) + 1 ≤ 72057594037927935) = true := by simp; omega
  have e3 : decide ((nm s).size ≤ 32) = true := by simp; omega
  have e4 : decide (0 < (nm s).size) = true := by simp; omega
  rw [e1, e2, e3, e4]
  rcases h with ⟨rfl, rfl⟩ | ⟨rfl, rfl⟩ <;> rfl

theorem chk_ack {f t : Int} (h : Two f t) (s : Nat) (hs : s < 1000) : chkT (ack f t s) = true := by
  unfold chkT Oct.chkP ack Oct.inF Oct.hP Oct.hS Oct.hB
  simp only [sb_length]
  have e1 : decide (1 ≤ (s : Int) + 1) = true := by simp; omega
  have e2 : decide ((s : Int) + 1 ≤ 72057594037927935) = true := by simp; omega
  rw [e1, e2]
  rcases h with ⟨rfl, rfl⟩ | ⟨rfl, rfl⟩ <;> rfl

theorem lrn_same {e : Ed} {f t : Int} {q p la : Nat} (S : Side e f t q p la) : lrnE e 1 = (e, []) := by
  unfold lrnE lrnO gLearn
  rw [if_pos (by rw [S.pe]; omega), if_neg (by rw [S.ip]; omega)]
  rfl

theorem no_guard {e : Ed} {f t : Int} {q p la : Nat} (S : Side e f t q p la) {x : Pt} (h1 : chkT x = true) (h2 : x.fr = t) (h3 : x.to = f) (h4 : x.inc = 1) : ¬ (chkT x = false ∨ x.fr ≠ e.to ∨ x.to ≠ e.fr ∨ x.inc < e.ip) := by
  rintro (h | h | h | h)
  · rw [h1] at h; cases h
  · exact h (by rw [h2, S.to])
  · exact h (by rw [h3, S.fr])
  · rw [h4, S.ip] at h; omega

theorem tak_dta {e : Ed} {f t : Int} {q p la : Nat} (S : Side e f t q p la) (h : Two t f) (s : Nat) (hs : s < 1000) (hla : la < 1000) :
    takE e (dta t f s) = if s < la then (e, emp, false, [ack f t s]) else if s = la then ({ e with la := (la + 1 : Nat) }, nm s, true, [ack f t s]) else (e, emp, false, []) := by
  unfold takE
  rw [if_neg (no_guard S (chk_dta h s hs) rfl rfl rfl), if_pos (show (dta t f s).kd = 1 from rfl)]
  unfold takD
  have hi : (dta t f s).inc = 1 := rfl
  rw [hi, lrn_same S]
  simp only [List.nil_append]
  have hg : gTake e.me e.ip e.la 1 (dta t f s).pe (dta t f s).sq = if s < la then ((1, 1, (la : Int)), 2) else if s = la then ((1, 1, (s : Int) + 1), 1) else ((1, 1, (la : Int)), 0) := by
    have w : IntKind.i64.wrap ((s : Int) + 1 - 1) = s := by rw [wrap_i64 _ (by omega) (by omega)]; omega
    have hgl : gLearn 1 1 (la : Int) 1 = (1, 1, (la : Int)) := by unfold gLearn; rw [if_neg (by omega)]
    rw [S.me, S.ip, S.la]
    unfold gTake
    rw [hgl, if_neg (by omega)]
    show (if (1 : Int) < 1 then _ else if (1 : Int) < 1 then _ else if 1 ≤ (s : Int) + 1 ∧ (s : Int) + 1 ≤ la then _ else if IntKind.i64.wrap ((s : Int) + 1 - 1) ≠ la ∨ ((s : Int) + 1 < 1 ∧ 0 ≤ (la : Int)) then _ else _) = _
    rw [if_neg (by omega), if_neg (by omega), w]
    by_cases h1 : s < la
    · rw [if_pos h1, if_pos (by omega)]
    · rw [if_neg h1, if_neg (by omega)]
      by_cases h2 : s = la
      · rw [if_pos h2, if_neg (by rintro (h | h); exact h (by omega); omega)]; rfl
      · rw [if_neg h2, if_pos (.inl (by omega))]
  rw [hg]
  have hsame : ∀ g : Int, e.gate (1, 1, g) = { e with la := g } := by
    intro g
    obtain ⟨x1, x2, x3, x4, x5, x6, x7⟩ := e
    have := S.me; have := S.ip
    simp only [] at *
    subst_vars
    rfl
  have hsame2 : e.gate (1, 1, (la : Int)) = e := by
    rw [hsame]
    obtain ⟨x1, x2, x3, x4, x5, x6, x7⟩ := e
    have := S.la
    simp only [] at *
    subst_vars
    rfl
  have hans : ans e 2 (dta t f s) (dta t f s).sq = ack f t s := by
    unfold ans ack dta
    rw [S.fr, S.to, S.inc]
  by_cases h1 : s < la
  · simp only [if_pos h1]
    rw [if_neg (by decide), if_pos trivial, hsame2, hans]
  · simp only [if_neg h1]
    by_cases h2 : s = la
    · simp only [if_pos h2]
      rw [if_pos trivial, hsame, hans]
      subst h2
      rfl
    · simp only [if_neg h2]
      rw [if_neg (by decide), if_neg (by decide), if_neg (by decide), hsame2]

theorem tak_ack' {e : Ed} {f t : Int} {q p la : Nat} (S : Side e f t q p la) (h : Two t f) (s : Nat) (hs : s < 1000) :
    (takE e (ack t f s) = (e, emp, false, [])) ∨ (q < p ∧ s = q ∧ ∃ e', Side e' f t (q + 1) p la ∧ takE e (ack t f s) = (e', emp, false, if q + 1 < p then [dta f t (q + 1)] else [])) := by
  unfold takE
  rw [if_neg (no_guard S (chk_ack h s hs) rfl rfl rfl), if_neg (show ¬ (ack t f s).kd = 1 from by show ¬ (2 : Int) = 1; decide), if_pos (show (ack t f s).kd = 2 from rfl)]
  unfold takA
  have hi : (ack t f s).inc = 1 := rfl
  have hp : (ack t f s).pe = 1 := rfl
  have hq : (ack t f s).sq = s + 1 := rfl
  rw [hi, hp, hq, lrn_same S, if_neg (by rw [S.inc]; simp)]
  simp only [List.nil_append]
  by_cases hc : e.o.tx = [] ∨ (1 : Int) ≠ e.o.pe ∨ (s : Int) + 1 ≠ e.o.sq
  · left
    have : ackO e.o 1 ((s : Int) + 1) = (e.o, false) := by unfold ackO; rw [if_pos hc]
    rw [this]
    rfl
  · right
    have h1 : ¬ p ≤ q := fun hle => hc (.inl (by rw [S.tx]; exact names_nil.2 hle))
    have h2 : s = q := by
      refine Decidable.byContradiction fun hne => hc (.inr (.inr ?_))
      rw [S.sq]; omega
    refine ⟨by omega, h2, ?_⟩
    have htl : e.o.tx.tail = names (q + 1) p := by rw [S.tx, names_cons (by omega)]; rfl
    have hw : IntKind.i64.wrap (e.o.sq + 1) = ((q + 1 : Nat) : Int) + 1 := by
      have := S.sm; have := S.qp
      rw [S.sq, wrap_i64 _ (by omega) (by omega)]; omega
    by_cases h3 : names (q + 1) p = []
    · have h4 : ¬ q + 1 < p := by have := names_nil.1 h3; omega
      have : ackO e.o 1 ((s : Int) + 1) = ({ e.o with sq := ((q + 1 : Nat) : Int) + 1, tx := [], wt := 1, lf := 0 }, false) := by unfold ackO; rw [if_neg hc, if_pos (by rw [htl]; exact h3), hw]
      rw [this, if_neg h4]
      exact ⟨{ e with o := { e.o with sq := ((q + 1 : Nat) : Int) + 1, tx := [], wt := 1, lf := 0 } }, ⟨S.fr, S.to, S.inc, S.pe, rfl, h3.symm, S.me, S.ip, S.la, by omega, S.sm⟩, rfl⟩
    · have h4 : q + 1 < p := Decidable.byContradiction fun h => h3 (names_nil.2 (by omega))
      have : ackO e.o 1 ((s : Int) + 1) = ({ e.o with sq := ((q + 1 : Nat) : Int) + 1, tx := names (q + 1) p, wt := 1, lf := 1 }, true) := by unfold ackO; rw [if_neg hc, if_neg (by rw [htl]; exact h3), hw, htl]
      rw [this, if_pos h4]
      refine ⟨{ e with o := { e.o with sq := ((q + 1 : Nat) : Int) + 1, tx := names (q + 1) p, wt := 1, lf := 1 } }, ⟨S.fr, S.to, S.inc, S.pe, rfl, rfl, S.me, S.ip, S.la, by omega, S.sm⟩, ?_⟩
      show (_, emp, false, [_]) = _
      unfold dat dta
      simp only []
      rw [S.fr, S.to, S.inc, S.pe, names_cons h4]
      rfl

end Go.Proofs.Ytjpccbjgmogclaa.Link
