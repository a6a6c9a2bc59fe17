/- Two ends that both stay: what stands behind any act. -/
import Derived.Test.YtjpccbjgmogclaaLinkI
set_option linter.all false
set_option linter.unusedSimpArgs false
set_option maxRecDepth 100000
set_option maxHeartbeats 2000000
namespace Go.Proofs.Ytjpccbjgmogclaa.Link
attribute [-simp] Go.Proofs.Ytjpccbjgmogclaa.Lift.unf1
open Go Go.RowKit Go.Proofs.Ytjpccbjgmogclaa.Lift Go.Proofs.Ytjpccbjgmogclaa.TLK Go.Proofs.Ytjpccbjgmogclaa.Base Go.Proofs.Ytjpccbjgmogclaa Go.Proofs.Ytjpccbjgmogclaa.Sent

theorem put_side {e : Ed} {f t : Int} {q p la : Nat} (S : Side e f t q p la) (hp : p < 200) :
    (putE e 16 (nm p)).2.2 ≠ 0 ∨ ∃ e' l, putE e 16 (nm p) = (e', l, 0) ∧ Side e' f t q (p + 1) la ∧ ∀ x ∈ l, x = dta f t q := by
  have h1 := nm_short p (by omega)
  have hqp := S.qp
  unfold putE
  rw [if_neg (by omega)]
  have hh : hasT e.o.tx (nm p) = false := by rw [S.tx]; exact names_has q p
  by_cases h2 : (16 : Int) ≤ e.o.tx.length
  · left
    have : putO e.o 16 (nm p) = (e.o, false, 7) := by unfold putO; rw [if_neg (by omega), if_neg (by rw [hh]; simp), if_pos h2]
    rw [this]
    simp
  · right
    by_cases h3 : e.o.tx = []
    · have hq : p = q := by
        rw [S.tx] at h3
        have := names_nil.1 h3
        omega
      have : putO e.o 16 (nm p) = ({ e.o with tx := [nm p], wt := 1, lf := 1 }, true, 0) := by unfold putO; rw [if_neg (by omega), if_neg (by rw [hh]; simp), if_neg h2, if_pos h3]
      rw [this]
      subst hq
      refine ⟨_, _, rfl, ⟨S.fr, S.to, S.inc, S.pe, S.sq, ?_, S.me, S.ip, S.la, by omega, by omega⟩, fun x hx => ?_⟩
      · show [nm p] = names p (p + 1)
        rw [names_cons (by omega)]
        congr 1
        exact (names_nil.2 (Nat.le_refl _)).symm
      · have hx' : x = dat { e with o := { e.o with tx := [nm p], wt := 1, lf := 1 } } := by simpa [datL] using hx
        rw [hx']
        unfold dat dta
        simp only []
        rw [S.fr, S.to, S.inc, S.pe, S.sq]
        rfl
    · have : putO e.o 16 (nm p) = ({ e.o with tx := e.o.tx ++ [nm p] }, false, 0) := by unfold putO; rw [if_neg (by omega), if_neg (by rw [hh]; simp), if_neg h2, if_neg h3]
      rw [this]
      refine ⟨_, _, rfl, ⟨S.fr, S.to, S.inc, S.pe, S.sq, ?_, S.me, S.ip, S.la, by omega, by omega⟩, fun x hx => by simp [datL] at hx⟩
      show e.o.tx ++ [nm p] = names q (p + 1)
      rw [S.tx, names_snoc hqp]

theorem tik_side {e : Ed} {f t : Int} {q p la : Nat} (S : Side e f t q p la) :
    ∃ e' l, tikE e = (e', l) ∧ Side e' f t q p la ∧ ∀ x ∈ l, x = dta f t q ∧ q < p := by
  refine ⟨_, _, rfl, ?_, fun x hx => ?_⟩
  · unfold tikO
    by_cases h : e.o.tx = []
    · rw [if_pos h]; exact S
    · rw [if_neg h]
      exact ⟨S.fr, S.to, S.inc, S.pe, S.sq, S.tx, S.me, S.ip, S.la, S.qp, S.sm⟩
  · by_cases h : e.o.tx = []
    · have : tikO e.o = (e.o, false) := by unfold tikO; rw [if_pos h]
      rw [this] at hx
      simp [datL] at hx
    · have hq : q < p := by
        rw [S.tx] at h
        exact Decidable.byContradiction fun hn => h (names_nil.2 (by omega))
      refine ⟨?_, hq⟩
      have hx' : x = dat { e with o := (tikO e.o).1 } := by
        unfold datL at hx
        split at hx
        · simpa using hx
        · simp at hx
      have e1 : (tikO e.o).1.pe = e.o.pe ∧ (tikO e.o).1.sq = e.o.sq ∧ (tikO e.o).1.tx = e.o.tx := by unfold tikO; rw [if_neg h]; exact ⟨rfl, rfl, rfl⟩
      rw [hx']
      unfold dat dta
      simp only []
      rw [e1.1, e1.2.1, e1.2.2, S.fr, S.to, S.inc, S.pe, S.sq, S.tx, names_cons hq]
      rfl

/-- A packet that may be under way. -/
def Okx (qa qb p0 p1 c0 c1 : Nat) (x : Pt) : Prop :=
  (∃ s, x = dta 0 8 s ∧ s ≤ qa ∧ s < p0) ∨ (∃ s, x = dta 8 0 s ∧ s ≤ qb ∧ s < p1) ∨ (∃ s, x = ack 8 0 s ∧ s < c0) ∨ (∃ s, x = ack 0 8 s ∧ s < c1)

theorem Okx.mono {qa qb p0 p1 c0 c1 qa' qb' p0' p1' c0' c1' : Nat} {x : Pt} (h : Okx qa qb p0 p1 c0 c1 x) (h1 : qa ≤ qa') (h2 : qb ≤ qb') (h3 : p0 ≤ p0') (h4 : p1 ≤ p1') (h5 : c0 ≤ c0') (h6 : c1 ≤ c1') : Okx qa' qb' p0' p1' c0' c1' x := by
  rcases h with ⟨s, a, b, c⟩ | ⟨s, a, b, c⟩ | ⟨s, a, b⟩ | ⟨s, a, b⟩
  · exact .inl ⟨s, a, by omega, by omega⟩
  · exact .inr (.inl ⟨s, a, by omega, by omega⟩)
  · exact .inr (.inr (.inl ⟨s, a, by omega⟩))
  · exact .inr (.inr (.inr ⟨s, a, by omega⟩))

structure Inv (P : Pr) (qa qb : Nat) : Prop where
  a : Side P.a 0 8 qa P.p0 P.c1
  b : Side P.b 8 0 qb P.p1 P.c0
  a1 : qa ≤ P.c0
  a2 : P.c0 ≤ qa + 1
  a3 : P.c0 ≤ P.p0
  b1 : qb ≤ P.c1
  b2 : P.c1 ≤ qb + 1
  b3 : P.c1 ≤ P.p1
  w : ∀ x ∈ P.way, Okx qa qb P.p0 P.p1 P.c0 P.c1 x

theorem two08 : Two 0 8 := .inl ⟨rfl, rfl⟩
theorem two80 : Two 8 0 := .inr ⟨rfl, rfl⟩

theorem Inv.due {P : Pr} {qa qb : Nat} (I : Inv P qa qb) : Due P := by
  have ha := I.a.sm; have hb := I.b.sm; have := I.a3; have := I.b3
  intro p hp
  rcases I.w p hp with ⟨s, rfl, h1, h2⟩ | ⟨s, rfl, h1, h2⟩ | ⟨s, rfl, h1⟩ | ⟨s, rfl, h1⟩
  · refine ⟨fun h => absurd h (show ¬ (8 : Int) = 0 from by decide), fun _ hg => ?_⟩
    rw [tak_dta I.b two08 s (by omega) (by omega)] at hg ⊢
    by_cases e1 : s < P.c0
    · rw [if_pos e1] at hg; cases hg
    · rw [if_neg e1] at hg ⊢
      by_cases e2 : s = P.c0
      · rw [if_pos e2]; subst e2; exact ⟨rfl, h2⟩
      · rw [if_neg e2] at hg; cases hg
  · refine ⟨fun _ hg => ?_, fun h => absurd rfl h⟩
    rw [tak_dta I.a two80 s (by omega) (by omega)] at hg ⊢
    by_cases e1 : s < P.c1
    · rw [if_pos e1] at hg; cases hg
    · rw [if_neg e1] at hg ⊢
      by_cases e2 : s = P.c1
      · rw [if_pos e2]; subst e2; exact ⟨rfl, h2⟩
      · rw [if_neg e2] at hg; cases hg
  · refine ⟨fun _ hg => ?_, fun h => absurd rfl h⟩
    rcases tak_ack' I.a two80 s (by omega) with h | ⟨_, _, e', _, h⟩ <;> (rw [h] at hg; cases hg)
  · refine ⟨fun h => absurd h (show ¬ (8 : Int) = 0 from by decide), fun _ hg => ?_⟩
    rcases tak_ack' I.b two08 s (by omega) with h | ⟨_, _, e', _, h⟩ <;> (rw [h] at hg; cases hg)

theorem Inv.cut {P : Pr} {qa qb : Nat} (I : Inv P qa qb) (i : Nat) : Inv (cut P i) qa qb :=
  ⟨I.a, I.b, I.a1, I.a2, I.a3, I.b1, I.b2, I.b3, fun x hx => I.w x (by
    have hx' : x ∈ P.way.take i ++ P.way.drop (i + 1) := hx
    rw [List.mem_append] at hx'
    exact hx'.elim List.mem_of_mem_take List.mem_of_mem_drop)⟩

/-- One more packet. -/
theorem way_app {P : List Pt} {ok ok' : Pt → Prop} {l : List Pt} (h : ∀ x ∈ P, ok x) (h1 : ∀ x, ok x → ok' x) (h2 : ∀ x ∈ l, ok' x) : ∀ x ∈ P ++ l, ok' x := by
  intro x hx
  rw [List.mem_append] at hx
  exact hx.elim (fun h' => h1 x (h x h')) (h2 x)

theorem Inv.come {Q : Pr} {qa qb : Nat} (I : Inv Q qa qb) (x : Pt) (hx : Okx qa qb Q.p0 Q.p1 Q.c0 Q.c1 x) : ∃ qa' qb', Inv (comesP Q x) qa' qb' := by
  have ha := I.a.sm; have hb := I.b.sm; have i1 := I.a1; have i2 := I.a2; have i3 := I.a3; have j1 := I.b1; have j2 := I.b2; have j3 := I.b3
  unfold comesP
  rcases hx with ⟨s, rfl, h1, h2⟩ | ⟨s, rfl, h1, h2⟩ | ⟨s, rfl, h1⟩ | ⟨s, rfl, h1⟩
  · rw [if_neg (show ¬ (dta 0 8 s).to = 0 from by show ¬ (8 : Int) = 0; decide)]
    unfold comesP1
    rw [tak_dta I.b two08 s (by omega) (by omega)]
    by_cases e1 : s < Q.c0
    · rw [if_pos e1]
      exact ⟨qa, qb, I.a, I.b, i1, i2, i3, j1, j2, j3, way_app I.w (fun _ h => h) fun x hx => by
        rw [List.mem_singleton] at hx; subst hx; exact .inr (.inr (.inl ⟨s, rfl, e1⟩))⟩
    · rw [if_neg e1]
      by_cases e2 : s = Q.c0
      · rw [if_pos e2]
        subst e2
        exact ⟨qa, qb, I.a, ⟨I.b.fr, I.b.to, I.b.inc, I.b.pe, I.b.sq, I.b.tx, I.b.me, I.b.ip, rfl, I.b.qp, I.b.sm⟩, by show qa ≤ Q.c0 + 1; omega, by show Q.c0 + 1 ≤ qa + 1; omega, by show Q.c0 + 1 ≤ Q.p0; omega, j1, j2, j3, way_app I.w (fun _ h => h.mono (Nat.le_refl _) (Nat.le_refl _) (Nat.le_refl _) (Nat.le_refl _) (Nat.le_succ _) (Nat.le_refl _)) fun x hx => by
          rw [List.mem_singleton] at hx; subst hx; exact .inr (.inr (.inl ⟨Q.c0, rfl, Nat.lt_succ_self _⟩))⟩
      · rw [if_neg e2]
        exact ⟨qa, qb, I.a, I.b, i1, i2, i3, j1, j2, j3, way_app I.w (fun _ h => h) fun x hx => by simp at hx⟩
  · rw [if_pos (show (dta 8 0 s).to = 0 from rfl)]
    unfold comesP0
    rw [tak_dta I.a two80 s (by omega) (by omega)]
    by_cases e1 : s < Q.c1
    · rw [if_pos e1]
      exact ⟨qa, qb, I.a, I.b, i1, i2, i3, j1, j2, j3, way_app I.w (fun _ h => h) fun x hx => by
        rw [List.mem_singleton] at hx; subst hx; exact .inr (.inr (.inr ⟨s, rfl, e1⟩))⟩
    · rw [if_neg e1]
      by_cases e2 : s = Q.c1
      · rw [if_pos e2]
        subst e2
        exact ⟨qa, qb, ⟨I.a.fr, I.a.to, I.a.inc, I.a.pe, I.a.sq, I.a.tx, I.a.me, I.a.ip, rfl, I.a.qp, I.a.sm⟩, I.b, i1, i2, i3, by show qb ≤ Q.c1 + 1; omega, by show Q.c1 + 1 ≤ qb + 1; omega, by show Q.c1 + 1 ≤ Q.p1; omega, way_app I.w (fun _ h => h.mono (Nat.le_refl _) (Nat.le_refl _) (Nat.le_refl _) (Nat.le_refl _) (Nat.le_refl _) (Nat.le_succ _)) fun x hx => by
          rw [List.mem_singleton] at hx; subst hx; exact .inr (.inr (.inr ⟨Q.c1, rfl, Nat.lt_succ_self _⟩))⟩
      · rw [if_neg e2]
        exact ⟨qa, qb, I.a, I.b, i1, i2, i3, j1, j2, j3, way_app I.w (fun _ h => h) fun x hx => by simp at hx⟩
  · rw [if_pos (show (ack 8 0 s).to = 0 from rfl)]
    unfold comesP0
    rcases tak_ack' I.a two80 s (by omega) with h | ⟨hq, hs, e', S', h⟩
    · rw [h]
      exact ⟨qa, qb, I.a, I.b, i1, i2, i3, j1, j2, j3, way_app I.w (fun _ h => h) fun x hx => by simp at hx⟩
    · rw [h]
      subst hs
      exact ⟨s + 1, qb, S', I.b, h1, by show Q.c0 ≤ s + 1 + 1; omega, i3, j1, j2, j3, way_app I.w (fun _ h => h.mono (Nat.le_succ _) (Nat.le_refl _) (Nat.le_refl _) (Nat.le_refl _) (Nat.le_refl _) (Nat.le_refl _)) fun x hx => by
        simp only [] at hx
        split at hx
        · rw [List.mem_singleton] at hx; subst hx
          exact .inl ⟨s + 1, rfl, Nat.le_refl _, by assumption⟩
        · simp at hx⟩
  · rw [if_neg (show ¬ (ack 0 8 s).to = 0 from by show ¬ (8 : Int) = 0; decide)]
    unfold comesP1
    rcases tak_ack' I.b two08 s (by omega) with h | ⟨hq, hs, e', S', h⟩
    · rw [h]
      exact ⟨qa, qb, I.a, I.b, i1, i2, i3, j1, j2, j3, way_app I.w (fun _ h => h) fun x hx => by simp at hx⟩
    · rw [h]
      subst hs
      exact ⟨qa, s + 1, I.a, S', i1, i2, i3, h1, by show Q.c1 ≤ s + 1 + 1; omega, j3, way_app I.w (fun _ h => h.mono (Nat.le_refl _) (Nat.le_succ _) (Nat.le_refl _) (Nat.le_refl _) (Nat.le_refl _) (Nat.le_refl _)) fun x hx => by
        simp only [] at hx
        split at hx
        · rw [List.mem_singleton] at hx; subst hx
          exact .inr (.inl ⟨s + 1, rfl, Nat.le_refl _, by assumption⟩)
        · simp at hx⟩

theorem Inv.does {P P' : Pr} {qa qb : Nat} (I : Inv P qa qb) (h0 : P.p0 < 200) (h1 : P.p1 < 200) (h : DoesR P P') : ∃ qa' qb', Inv P' qa' qb' := by
  have i1 := I.a1; have i2 := I.a2; have i3 := I.a3; have j1 := I.b1; have j2 := I.b2; have j3 := I.b3
  cases h with
  | p0 =>
    unfold putsP0
    rcases put_side I.a h0 with h | ⟨e', l, he, S', hl⟩
    · rw [if_neg h]; exact ⟨qa, qb, I⟩
    · rw [he, if_pos rfl]
      exact ⟨qa, qb, S', I.b, i1, i2, by show P.c0 ≤ P.p0 + 1; omega, j1, j2, j3, way_app I.w (fun _ h => h.mono (Nat.le_refl _) (Nat.le_refl _) (Nat.le_succ _) (Nat.le_refl _) (Nat.le_refl _) (Nat.le_refl _)) fun x hx => .inl ⟨qa, hl x hx, Nat.le_refl _, by show qa < P.p0 + 1; have := I.a.qp; omega⟩⟩
  | p1 =>
    unfold putsP1
    rcases put_side I.b h1 with h | ⟨e', l, he, S', hl⟩
    · rw [if_neg h]; exact ⟨qa, qb, I⟩
    · rw [he, if_pos rfl]
      exact ⟨qa, qb, I.a, S', i1, i2, i3, j1, j2, by show P.c1 ≤ P.p1 + 1; omega, way_app I.w (fun _ h => h.mono (Nat.le_refl _) (Nat.le_refl _) (Nat.le_refl _) (Nat.le_succ _) (Nat.le_refl _) (Nat.le_refl _)) fun x hx => .inr (.inl ⟨qb, hl x hx, Nat.le_refl _, by show qb < P.p1 + 1; have := I.b.qp; omega⟩)⟩
  | t0 =>
    unfold ticksP0
    obtain ⟨e', l, he, S', hl⟩ := tik_side I.a
    rw [he]
    exact ⟨qa, qb, S', I.b, i1, i2, i3, j1, j2, j3, way_app I.w (fun _ h => h) fun x hx => .inl ⟨qa, (hl x hx).1, Nat.le_refl _, (hl x hx).2⟩⟩
  | t1 =>
    unfold ticksP1
    obtain ⟨e', l, he, S', hl⟩ := tik_side I.b
    rw [he]
    exact ⟨qa, qb, I.a, S', i1, i2, i3, j1, j2, j3, way_app I.w (fun _ h => h) fun x hx => .inr (.inl ⟨qb, (hl x hx).1, Nat.le_refl _, (hl x hx).2⟩)⟩
  | no => exact ⟨qa, qb, I⟩
  | lost i h => exact ⟨qa, qb, I.cut i⟩
  | come p h => exact I.come p (I.w p h)
  | cutc i h => exact (I.cut i).come _ (I.w _ (List.getElem_mem h))

/-- What grows by an act. -/
theorem does_grow {P P' : Pr} (h : DoesR P P') : P'.way.length ≤ P.way.length + 2 ∧ P'.p0 ≤ P.p0 + 1 ∧ P'.p1 ≤ P.p1 + 1 := by
  have hc : ∀ (Q : Pr) (p : Pt), Q.way.length ≤ P.way.length → Q.p0 = P.p0 → Q.p1 = P.p1 → (comesP Q p).way.length ≤ P.way.length + 2 ∧ (comesP Q p).p0 ≤ P.p0 + 1 ∧ (comesP Q p).p1 ≤ P.p1 + 1 := by
    intro Q p h1 h2 h3
    unfold comesP
    split
    · have := takE_len Q.a p
      unfold comesP0
      simp only [List.length_append]
      omega
    · have := takE_len Q.b p
      unfold comesP1
      simp only [List.length_append]
      omega
  cases h with
  | p0 =>
    have := putE_len P.a 16 (nm P.p0)
    unfold putsP0
    split
    · simp only [List.length_append]; omega
    · omega
  | p1 =>
    have := putE_len P.b 16 (nm P.p1)
    unfold putsP1
    split
    · simp only [List.length_append]; omega
    · omega
  | t0 => have := tikE_len P.a; unfold ticksP0; simp only [List.length_append]; omega
  | t1 => have := tikE_len P.b; unfold ticksP1; simp only [List.length_append]; omega
  | no => omega
  | lost i h => unfold cut; simp only [List.length_append, List.length_take, List.length_drop]; omega
  | come p h => exact hc P p (Nat.le_refl _) rfl rfl
  | cutc i h => exact hc (cut P i) _ (by unfold cut; simp only [List.length_append, List.length_take, List.length_drop]; omega) rfl rfl

theorem Inv.sm {P : Pr} {qa qb : Nat} (I : Inv P qa qb) (hw : P.way.length ≤ 100000) : Sm P := by
  have := I.a.sm; have := I.b.sm; have := I.a3; have := I.b3
  exact ⟨by rw [I.a.tx, names_len]; omega, by rw [I.b.tx, names_len]; omega, hw, by omega, by omega, by omega, by omega⟩

end Go.Proofs.Ytjpccbjgmogclaa.Link
