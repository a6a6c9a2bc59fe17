/- What flock's List, Count and Nth come to, as values. -/
import Derived.Test.YtnobgooojbppbaaFlockIn
import Derived.Test.YtnobgooojbppbaaLiftS
set_option linter.all false
set_option linter.unusedSimpArgs false
namespace Go.Proofs.Ytnobgooojbppbaa.FlockIn
open Go Go.RowKit Go.Proofs.Ytnobgooojbppbaa.Lift

def inU (s : Int) : Prop := 0 ≤ s ∧ s < 18446744073709551616
def inI (k : Int) : Prop := -9223372036854775808 ≤ k ∧ k ≤ 9223372036854775807
instance (s : Int) : Decidable (inU s) := inferInstanceAs (Decidable (_ ∧ _))
instance (s : Int) : Decidable (inI s) := inferInstanceAs (Decidable (_ ∧ _))

def countR : List AV → List AObj → Option (AV × List AObj)
  | [.int .u64 s], [] => if inU s then some (.int .i64 (lst s 64).length, []) else none
  | _, _ => none
def nthR : List AV → List AObj → Option (AV × List AObj)
  | [.int .u64 s, .int .i64 k], [] => if inU s ∧ inI k then some (.int .i64 (nth s k), []) else none
  | _, _ => none
def listR : List AV → List AObj → Option (AV × List AObj)
  | [.int .u64 s], [] => if inU s then some (.own 0 0 (lst s 64).length, [⟨3, 1, false, enc (eInt .i64) (lst s 64), 0⟩]) else none
  | _, _ => none

variable {w : World} {X : Nat → Prop} {μ : Mu}

theorem args1 {vs : Array Value} {a : AV} (hl : [a].length = vs.size) (h : ∀ (j : Nat) (c : AV) (v : Value), [a][j]? = some c → vs[j]? = some v → Rep w X μ c v) : ∃ v, vs = #[v] ∧ Rep w X μ a v := by
  have h1 : vs.size = 1 := hl.symm
  have h0 : 0 < vs.size := by omega
  refine ⟨vs[0], ?_, h 0 a vs[0] rfl (Array.getElem?_eq_getElem h0)⟩
  apply Array.ext
  · simp [h1]
  · intro i h2 h3
    have : i = 0 := by omega
    subst this; rfl

theorem args2 {vs : Array Value} {a b : AV} (hl : [a, b].length = vs.size) (h : ∀ (j : Nat) (c : AV) (v : Value), [a, b][j]? = some c → vs[j]? = some v → Rep w X μ c v) : ∃ u v, vs = #[u, v] ∧ Rep w X μ a u ∧ Rep w X μ b v := by
  have h1 : vs.size = 2 := hl.symm
  refine ⟨vs[0], vs[1], ?_, h 0 a vs[0] rfl (Array.getElem?_eq_getElem (by omega)), h 1 b vs[1] rfl (Array.getElem?_eq_getElem (by omega))⟩
  apply Array.ext
  · simp [h1]
  · intro i h2 h3
    have : i = 0 ∨ i = 1 := by omega
    rcases this with rfl | rfl <;> rfl

theorem noMu (h : ∀ id m, μ id = some m → id < 0) : ∀ id, μ id = none := by
  intro id
  cases hq : μ id with
  | none => rfl
  | some m => exact absurd (h id m hq) (by omega)

theorem fr_below {w' : World} (hX : ∀ b, X b → b < w.heap.size) (hB : Below w.heap.size w w') (hn : ∀ id, μ id = none) : Fr w X μ w' X μ ∧ Holds w' X μ [] :=
  ⟨⟨hB.os, hB.tape, hB.output, hB.size, fun b hb _ => hB.block b hb, fun _ _ h => h, fun _ _ h => h, fun id m h => (by rw [hn id] at h; cases h), fun id m h => (by rw [hn id] at h; cases h)⟩,
   ⟨fun id m h => (by rw [hn id] at h; cases h), fun id m h => (by rw [hn id] at h; cases h), fun i j mi mj h => (by rw [hn i] at h; cases h), fun b h => Nat.lt_of_lt_of_le (hX b h) hB.size⟩⟩

theorem count_ok : PrimOk Try.prog 31 countR := by
  intro al Hs r Hs' h
  unfold countR at h
  split at h
  · rename_i s
    split at h
    · rename_i hs
      cases h
      refine ⟨⟨Try.f31, Try.func31, rfl, by decide⟩, fun w X μ vs hl hrep hH hlt => ?_⟩
      obtain ⟨v, rfl, hv⟩ := args1 hl hrep
      obtain rfl := rep_int hv rfl
      have hn := noMu hlt
      refine (callsIn_wide.1 (count_in Fence.wide 4 trivial trivial trivial trivial trivial rfl (by omega) s hs.1 hs.2 w)).mono ?_
      rintro e w' ⟨rfl, hB⟩
      obtain ⟨h1, h2⟩ := fr_below (μ := μ) hH.lt hB hn
      exact ⟨_, X, μ, rfl, .int _ _, h2, fun id m hm => (by rw [hn id] at hm; cases hm), h1⟩
    · cases h
  · cases h

theorem nth_ok : PrimOk Try.prog 32 nthR := by
  intro al Hs r Hs' h
  unfold nthR at h
  split at h
  · rename_i s k
    split at h
    · rename_i hs
      cases h
      refine ⟨⟨Try.f32, Try.func32, rfl, by decide⟩, fun w X μ vs hl hrep hH hlt => ?_⟩
      obtain ⟨u, v, rfl, hu, hv⟩ := args2 hl hrep
      obtain rfl := rep_int hu rfl
      obtain rfl := rep_int hv rfl
      have hn := noMu hlt
      refine (callsIn_wide.1 (nth_in Fence.wide 4 trivial trivial trivial trivial trivial rfl (by omega) s hs.1.1 hs.1.2 k hs.2.1 hs.2.2 w)).mono ?_
      rintro e w' ⟨rfl, hB⟩
      obtain ⟨h1, h2⟩ := fr_below (μ := μ) hH.lt hB hn
      exact ⟨_, X, μ, rfl, .int _ _, h2, fun id m hm => (by rw [hn id] at hm; cases hm), h1⟩
    · cases h
  · cases h

theorem list_ok : PrimOk Try.prog 30 listR := by
  intro al Hs r Hs' h
  unfold listR at h
  split at h
  · rename_i s
    split at h
    · rename_i hs
      cases h
      refine ⟨⟨Try.f30, Try.func30, rfl, by decide⟩, fun w X μ vs hl hrep hH hlt => ?_⟩
      obtain ⟨v, rfl, hv⟩ := args1 hl hrep
      obtain rfl := rep_int hv rfl
      have hn := noMu hlt
      refine (callsIn_wide.1 (list_in Fence.wide 4 trivial trivial trivial trivial trivial rfl (by omega) s hs.1 hs.2 w)).mono ?_
      rintro e w' ⟨v, rfl, ⟨hlen, hown⟩, hB⟩
      rcases hown with ⟨rfl, hn0⟩ | ⟨g, cap, cur, rfl, hg, hgb, hnc, hcm, hcs, hct⟩
      · obtain ⟨h1, h2⟩ := fr_below (μ := μ) hH.lt hB hn
        refine ⟨_, X, μ, rfl, by rw [hn0]; exact .own0, ⟨h2.x, fun id m hm => (by rw [hn id] at hm; cases hm), h2.inj, h2.lt⟩, fun id m hm => (by rw [hn id] at hm; cases hm), h1⟩
      · have hgl : g < w'.heap.size := (Array.getElem?_eq_some_iff.1 hgb).1
        let m : MI := ⟨g, 1, (lst s 64).length, cap, 3, false, 0, 0⟩
        have hmu : ∀ id m', addM μ 0 m id = some m' → id = 0 ∧ m' = m := by
          intro id m' h
          unfold addM at h
          split at h
          · cases h; exact ⟨by assumption, rfl⟩
          · rw [hn id] at h; cases h
        have hflat : FlatL w' (addX X g) (addM μ 0 m) 1 (enc (eInt .i64) (lst s 64)) ((lst s 64).map (Value.int .i64)) := by
          refine ⟨by simp, fun u hu => ?_, fun i x hi => ?_⟩
          · obtain ⟨y, _, rfl⟩ := List.mem_map.1 hu
            rfl
          · simp only [enc, List.getElem?_map] at hi
            obtain ⟨y, hy, rfl⟩ := Option.map_eq_some_iff.1 hi
            refine ⟨rfl, fun j c hj => ?_⟩
            cases j with
            | zero =>
              simp only [eInt, List.getElem?_cons_zero, Option.some.injEq] at hj
              subst hj
              exact ⟨.int .i64 y, by simp [hy], .int _ _⟩
            | succ j => simp [eInt] at hj
        refine ⟨_, addX X g, addM μ 0 m, rfl, .own (m := m) (addM_self _ _ _) rfl (by show 0 + _ ≤ (lst s 64).length; omega) (by show cap = cap - 0; omega) (.inl (by simp [m])), ⟨fun id m' h => ?_, fun id m' h => ?_, fun i j mi mj h1 h2 _ => ?_, fun b hb => ?_⟩, fun id m' h => ?_, ?_⟩
        · obtain ⟨_, rfl⟩ := hmu id m' h; exact .inr rfl
        · obtain ⟨rfl, rfl⟩ := hmu id m' h
          refine ⟨_, rfl, hflat.obj (m := m) (c := cur) hgb (by simp [m, hcs]) ?_ rfl (by simp [m]) hnc (by show cap + 0 ≤ maxLen; omega) rfl (by omega)⟩
          have e : ((lst s 64).map (Value.int .i64)).length = (lst s 64).length * 1 := by simp
          rw [e]
          simpa [m] using hct
        · rw [(hmu i mi h1).1, (hmu j mj h2).1]
        · exact hb.elim (fun h => Nat.lt_of_lt_of_le (hH.lt b h) hB.size) (fun e => by rw [e]; exact hgl)
        · rw [(hmu id m' h).1]; simp
        · exact ⟨hB.os, hB.tape, hB.output, hB.size, fun b hb _ => hB.block b hb, fun _ _ h => .inl h, fun b hb h => h.elim id (fun e => by omega), fun id m' h => (by rw [hn id] at h; cases h), fun id m' h => by
            obtain ⟨_, rfl⟩ := hmu id m' h
            exact .inl hg⟩
    · cases h
  · cases h

end Go.Proofs.Ytnobgooojbppbaa.FlockIn
