/- A reading of the program's code by values alone: what comes in, as it is handed in. -/
import Derived.Test.YtjpccbjgmogclaaLiftQ
import Derived.Deep.Slices
import Derived.ChangeArms
import Derived.OpenShut
import Derived.DataReads
import Derived.WideShapes
set_option linter.all false
set_option linter.unusedSimpArgs false
namespace Go.Proofs.Ytjpccbjgmogclaa.Lift
open Go Go.RowKit

/-- What reads as a value of a type has the cells of one of these. -/
def Opens {α : Type} (P : Program) (t : TypeId) (n : Nat) (en : α → List AV) (ok : α → Prop) : Prop :=
  ∀ (H : Type) (enc : TypeId × Value → H) (W : World) (base : Nat) (spare : Nat → Bool) (held : Bool) (fuel : Nat) (cs : List Value) (x : DataW H × List MemPlace),
    DataW.trod enc P W base spare held fuel t cs = some x → ∃ y, ok y ∧ (en y).length = n ∧ RepC W (fun _ => False) mu0 (en y) cs.toArray

section
variable {P : Program} {t e : TypeId} {W : World} {X : Nat → Prop} {μ : Mu}

theorem repC1 {a : AV} {v : Value} (h : Rep W X μ a v) (h1 : v.oneCell' = true) : RepC W X μ [a] [v].toArray := by
  refine ⟨rfl, fun j c hj => ?_⟩
  cases j with
  | zero => simp at hj; subst hj; exact ⟨v, rfl, h1, h⟩
  | succ j => simp at hj

def eInt (k : IntKind) (n : Int) : List AV := [.int k n]
def eBool (b : Bool) : List AV := [.bool b]
def eStr (s : ByteArray) : List AV := [.str s]
def eSl {α : Type} (n : Nat) (en : α → List AV) (l : List α) : List AV := [.ro n (l.map en) false]
def okInt (k : IntKind) (n : Int) : Prop := (Lit.int k n).wf = true
def okBool (b : Bool) : Prop := True
def okStr (s : ByteArray) : Prop := s.size ≤ maxLen
def okSl {α : Type} (ok : α → Prop) (l : List α) : Prop := l.length ≤ maxLen ∧ ∀ y ∈ l, ok y

theorem opens_int {k : IntKind} (ht : P.underlying t = some (.int k)) : Opens P t 1 (eInt k) (okInt k) := by
  intro H enc W base spare held fuel cs x h
  obtain ⟨n, rfl, _, hw⟩ := DataW.trod_int ht h
  exact ⟨n, hw, rfl, repC1 (.int k n) rfl⟩
theorem opens_bool (ht : P.underlying t = some .bool) : Opens P t 1 eBool okBool := by
  intro H enc W base spare held fuel cs x h
  obtain ⟨n, rfl, _⟩ := DataW.trod_bool ht h
  exact ⟨n, trivial, rfl, repC1 (.bool n) rfl⟩
theorem opens_str (ht : P.underlying t = some .string) : Opens P t 1 eStr okStr := by
  intro H enc W base spare held fuel cs x h
  obtain ⟨n, rfl, _, hw⟩ := DataW.trod_string ht h
  exact ⟨n, hw, rfl, repC1 (.str n) rfl⟩

theorem choose_list {α : Type} {Q : Nat → α → Prop} : ∀ n : Nat, (∀ i, i < n → ∃ y, Q i y) → ∃ ys : List α, ys.length = n ∧ ∀ j p, ys[j]? = some p → Q j p
  | 0, _ => ⟨[], rfl, fun j p h => by simp at h⟩
  | n + 1, h => by
    obtain ⟨ys, hl, hq⟩ := choose_list n (fun i hi => h i (by omega))
    obtain ⟨y, hy⟩ := h n (by omega)
    refine ⟨ys ++ [y], by simp [hl], fun j p hp => ?_⟩
    by_cases hj : j < n
    · rw [List.getElem?_append_left (by omega)] at hp
      exact hq j p hp
    · have hjl : j < (ys ++ [y]).length := (List.getElem?_eq_some_iff.1 hp).1
      have hjn : j = n := by simp [hl] at hjl; omega
      subst hjn
      rw [List.getElem?_append_right (by omega), hl] at hp
      simp at hp
      exact hp ▸ hy

theorem opens_sl {α : Type} {n : Nat} {en : α → List AV} {ok : α → Prop} (ht : P.underlying t = some (.slice e)) (hc : P.cellsOf e = n) (hn : 0 < n) (he : Opens P e n en ok) : Opens P t 1 (eSl n en) (okSl ok) := by
  intro H enc W base spare held fuel cs x h
  rcases Go.Deep.open_slice ht h with ⟨rfl, _⟩ | ⟨a, len, cap, m, n', D, Pl, rfl, hb, hl, hm, hmm, hx, hi⟩
  · exact ⟨[], ⟨Nat.zero_le _, fun y hy => by simp at hy⟩, rfl, repC1 (.roE (fun e => by cases e)) rfl⟩
  · have hlm : len ≤ m := by rw [hmm]; split <;> omega
    have each : ∀ i, i < len → ∃ y, ok y ∧ (en y).length = n ∧ ∀ j c, (en y)[j]? = some c → ∃ v, W.cell? (a.add (i * n + j)) = some v ∧ v.oneCell' = true ∧ Rep W (fun _ => False) mu0 c v := by
      intro i hil
      obtain ⟨c, hcs, htr⟩ := hi i (by omega)
      obtain ⟨y, hok, hyl, hR⟩ := he H enc W base spare held n' c _ htr
      obtain ⟨_, hcl, hat⟩ := World.cells?_some hcs
      rw [hc] at hcl hat
      refine ⟨y, hok, hyl, fun j q hj => ?_⟩
      obtain ⟨v, hv, h1, h2⟩ := hR.2 j q hj
      have hjl : j < n := by rw [← hyl]; exact (List.getElem?_eq_some_iff.1 hj).1
      refine ⟨v, ?_, h1, h2⟩
      rw [← Go.Deep.add_add, hat j hjl]
      simpa using hv
    obtain ⟨ys, hyl, hys⟩ := choose_list len each
    have hlen : ys.length ≤ maxLen := by omega
    refine ⟨ys, ⟨hlen, fun y hy => ?_⟩, rfl, repC1 ?_ rfl⟩
    · obtain ⟨j, hj⟩ := List.mem_iff_getElem?.1 hy
      exact (hys j y hj).1
    · by_cases h0 : len = 0
      · have : ys = [] := List.eq_nil_of_length_eq_zero (by omega)
        subst this; subst h0
        exact .roE (fun e => by cases e)
      · have key : ∀ (i : Nat) (x : List AV) (j : Nat) (c : AV), (ys.map en)[i]? = some x → x[j]? = some c → ∃ v, W.cell? (a.add (i * n + j)) = some v ∧ v.oneCell' = true ∧ Rep W (fun _ => False) mu0 c v := by
          intro i x j c hi hj
          rw [List.getElem?_map] at hi
          obtain ⟨y, hy, rfl⟩ := Option.map_eq_some_iff.1 hi
          exact (hys i y hy).2.2 j c hj
        have hgd : ∀ {q : Addr} {u : Value}, W.cell? q = some u → (W.cell? q).getD undef = u := fun h => by rw [h]; rfl
        refine .ro (fun i j => (W.cell? (a.add (i * n + j))).getD undef) (by simp [hyl]) (fun h => h) ?_ (by omega) (fun e => by cases e) (fun x hx => ?_) (fun i x j c hi hj => ?_) (fun i x j c hi hj => ?_) (fun i x j c hi hj => ?_)
        · obtain ⟨y, hy⟩ : ∃ y, ys[0]? = some y := ⟨_, List.getElem?_eq_getElem (by omega)⟩
          obtain ⟨_, h2, h3⟩ := hys 0 y hy
          obtain ⟨v, hv, _⟩ := h3 0 _ (List.getElem?_eq_getElem (by omega))
          have := World.block_lt_of_cell? W _ hv
          rwa [add_block] at this
        · obtain ⟨y, hy, rfl⟩ := List.mem_map.1 hx
          obtain ⟨j, hj⟩ := List.mem_iff_getElem?.1 hy
          exact (hys j y hj).2.1
        · obtain ⟨v, hv, _, _⟩ := key i x j c hi hj
          rw [hgd hv]; exact hv
        · obtain ⟨v, hv, h1, _⟩ := key i x j c hi hj
          simp only [hgd hv]; exact h1
        · obtain ⟨v, hv, _, h2⟩ := key i x j c hi hj
          simp only [hgd hv]; exact h2

theorem joinC {A B : List AV} {cs : List Value} {o s o' : Nat} (hA : RepC W X μ A ((cs.drop o).take s).toArray) (hs : A.length = s) (ho : o' = o + s) (hB : RepC W X μ B (cs.drop o').toArray) : RepC W X μ (A ++ B) (cs.drop o).toArray := by
  subst ho
  have h1 := hA.1
  have h2 := hB.1
  simp only [List.size_toArray, List.length_take, List.length_drop] at h1 h2
  refine ⟨by simp only [List.length_append, List.size_toArray, List.length_drop]; omega, fun j c hj => ?_⟩
  by_cases hlt : j < A.length
  · rw [List.getElem?_append_left hlt] at hj
    obtain ⟨v, hv, h3, h4⟩ := hA.2 j c hj
    refine ⟨v, ?_, h3, h4⟩
    simp only [List.getElem?_toArray] at hv ⊢
    rw [List.getElem?_take, if_pos (by omega)] at hv
    exact hv
  · rw [List.getElem?_append_right (by omega)] at hj
    obtain ⟨v, hv, h3, h4⟩ := hB.2 _ c hj
    refine ⟨v, ?_, h3, h4⟩
    simp only [List.getElem?_toArray, List.getElem?_drop] at hv ⊢
    rw [← hv]; congr 1; omega

theorem lastC {A : List AV} {cs : List Value} {o s n : Nat} (hA : RepC W X μ A ((cs.drop o).take s).toArray) (hl : cs.length = n) (hn : n = o + s) : RepC W X μ A (cs.drop o).toArray := by
  rwa [List.take_of_length_le (by rw [List.length_drop]; omega)] at hA

theorem okWide_arr {n : Nat} {w : World} {r : Reach} {base : Nat} {v : Value} (ht : P.underlying t = some (.array n e)) (h : Value.okWide P w r base t v) : ∃ cs, v = .agg cs ∧ cs.size = P.cellsOf t := by
  unfold Value.okWide at h
  rw [ht] at h
  obtain ⟨cs, h1, h2, _⟩ := h
  exact ⟨cs, h1, h2⟩

/-- A struct's or an array's value, by its cells. -/
theorem rep_agg {A : List AV} {vs : Array Value} (h : RepC W X μ A vs) : Rep W X μ (.agg A) (.agg vs) :=
  .agg h.1 fun j c v hc hv => by
    obtain ⟨u, hu, _, h3⟩ := h.2 j c hc
    rw [hu] at hv; cases hv; exact h3

theorem rep_cell {a : AV} {v : Value} (h : RepC W X μ [a] [v].toArray) : Rep W X μ a v := by
  obtain ⟨u, hu, _, h3⟩ := h.2 0 a rfl
  simp at hu; rw [hu]; exact h3
end

end Go.Proofs.Ytjpccbjgmogclaa.Lift
