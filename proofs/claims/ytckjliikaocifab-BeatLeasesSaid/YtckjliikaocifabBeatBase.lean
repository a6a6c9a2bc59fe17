/- What beat.Tick comes to, at any ages; no conditions but the list's length. -/
import Derived.Test.YtckjliikaocifabGBeatx2
namespace Go.Proofs.Ytckjliikaocifab.Beat
open Go.RowKit Go.Proofs.Ytckjliikaocifab.GBeat Go.Proofs.YtckjliikaocifabW.PrintWords Go.Proofs.YtckjliikaocifabW.PrintLast

theorem w64 {x : Int} (h : -9223372036854775808 ≤ x) (h' : x ≤ 9223372036854775807) : wrap64 x = x := by
  unfold wrap64
  omega
def isInt (x : Int) : Prop := -9223372036854775808 ≤ x ∧ x ≤ 9223372036854775807
/-- an age, a tick later -/
def bump (lease x : Int) : Int := if x < lease then x + 1 else x

theorem clone_f (l : List Int) (h : l.length ≤ 1000000) : slices_Clone_int_int.f l = some l := by
  unfold slices_Clone_int_int.f
  rw [if_pos (by omega)]

theorem rd_get {xs : List Int} {i : Int} (h : i.toNat < xs.length) : rd xs i = xs[i.toNat] := by unfold rd; simp [h]

theorem set_step (f : Int → Int) : ∀ (xs : List Int) (i : Nat) (h : i < xs.length), (xs.set i (f xs[i])).take (i + 1) ++ ((xs.set i (f xs[i])).drop (i + 1)).map f = xs.take i ++ (xs.drop i).map f
  | [], i, h => absurd h (Nat.not_lt_zero i)
  | x :: xs, 0, _ => rfl
  | x :: xs, i + 1, h => by
    have := set_step f xs i (by simpa using h)
    simp only [List.getElem_cons_succ, List.set_cons_succ, List.take_succ_cons, List.drop_succ_cons, List.cons_append, List.cons.injEq, true_and]
    exact this
theorem keep_step (f : Int → Int) (xs : List Int) (i : Nat) (h : i < xs.length) (hf : f xs[i] = xs[i]) : xs.take (i + 1) ++ (xs.drop (i + 1)).map f = xs.take i ++ (xs.drop i).map f := by
  have := set_step f xs i h
  rwa [hf, List.set_getElem_self] at this

theorem tick_loop (n : Int) (s L : Int) (hL : isInt L) : ∀ (d : Nat) (i : Int) (xs : List Int), 0 ≤ i → i + d = n → n = xs.length → xs.length ≤ 1000000 → (∀ x ∈ xs, isInt x) →
    Ev (fun k => beat_Tick.l0 k n i s L xs) (s, L, xs.take i.toNat ++ (xs.drop i.toNat).map (bump L)) := by
  intro d
  induction d with
  | zero =>
    intro i xs h0 hi hn hx _
    refine Ev.step (fun k => ?_) (Ev.now _)
    simp only [beat_Tick.l0]
    rw [if_neg (by omega), List.take_of_length_le (by omega), List.drop_of_length_le (by omega)]
    simp
  | succ d ih =>
    intro i xs h0 hi hn hx hb
    have hlt : i.toNat < xs.length := by omega
    have hw : wrap64 (i + 1) = i + 1 := w64 (by omega) (by omega)
    have hg := rd_get hlt
    have hxi := hb _ (List.getElem_mem hlt)
    have hnat : (i + 1).toNat = i.toNat + 1 := by omega
    by_cases c : xs[i.toNat] < L
    · have hv : wrap64 (xs[i.toNat] + 1) = xs[i.toNat] + 1 := w64 (by have := hxi.1; omega) (by have := hL.2; omega)
      have h := ih (i + 1) (xs.set i.toNat (xs[i.toNat] + 1)) (by omega) (by omega) (by rw [List.length_set]; omega) (by rw [List.length_set]; omega) (by
        intro x hm
        rcases List.mem_or_eq_of_mem_set hm with h | h
        · exact hb x h
        · subst h; exact ⟨by have := hxi.1; omega, by have := hL.2; omega⟩)
      have e : (xs.set i.toNat (xs[i.toNat] + 1)).take (i + 1).toNat ++ ((xs.set i.toNat (xs[i.toNat] + 1)).drop (i + 1).toNat).map (bump L) = xs.take i.toNat ++ (xs.drop i.toNat).map (bump L) := by
        have hbv : bump L xs[i.toNat] = xs[i.toNat] + 1 := by unfold bump; rw [if_pos c]
        rw [hnat, ← hbv]
        exact set_step (bump L) xs i.toNat hlt
      rw [e] at h
      refine Ev.step (fun k => ?_) h
      simp only [beat_Tick.l0]
      rw [if_pos (by omega), if_pos h0, if_pos (by omega), hg, if_pos c, hw, hv]
    · have h := ih (i + 1) xs (by omega) (by omega) hn hx hb
      have e : xs.take (i + 1).toNat ++ (xs.drop (i + 1).toNat).map (bump L) = xs.take i.toNat ++ (xs.drop i.toNat).map (bump L) := by
        rw [hnat]
        exact keep_step (bump L) xs i.toNat hlt (by unfold bump; rw [if_neg c])
      rw [e] at h
      refine Ev.step (fun k => ?_) h
      simp only [beat_Tick.l0]
      rw [if_pos (by omega), if_pos h0, if_pos (by omega), hg, if_neg c, hw]

theorem tick_ev (s L : Int) (xs : List Int) (hL : isInt L) (hx : xs.length ≤ 1000000) (hb : ∀ x ∈ xs, isInt x) : Ev (fun k => beat_Tick.f k s L xs) (s, L, xs.map (bump L)) := by
  have h := tick_loop (xs.length : Int) s L hL xs.length 0 xs (by omega) (by omega) rfl hx hb
  refine Ev.congr (fun k => ?_) h
  unfold beat_Tick.f
  rw [clone_f xs hx]
  rfl

theorem works_ev : Ev (fun k => siskinlaw37_works.f k) true := Ev.of siskinlaw37_works.mono (k := 10) (by decide +kernel)

theorem i64_of {x : Int} (h : (Lit.int .i64 x).wf = true) : isInt x := by
  simp [Lit.wf, IntKind.min, IntKind.max, IntKind.signed, IntKind.bits] at h
  exact h
theorem u8_of {x : Int} (h : (Lit.int .u8 x).wf = true) : 0 ≤ x ∧ x ≤ 255 := by
  simp [Lit.wf, IntKind.min, IntKind.max, IntKind.signed, IntKind.bits] at h
  omega

end Go.Proofs.Ytckjliikaocifab.Beat
