/- A few laws more on slices that are made and handed on, for the proofs of this claim; no conditions. -/
import Derived.Test.YtckjliikaocifabWWords
import Derived.Test.YtckjliikaocifabWLast
import Derived.Test.YtckjliikaocifabWMore
import Derived.Deep.Slices
import Derived.ChangeArms
import Derived.OpenShut
import Derived.DataReads
import Derived.WideShapes
namespace Go.Proofs.YtckjliikaocifabW.PrintWords
open Go.RowKit
/-- a store lets no cell go and makes none. -/
theorem isSome_setCell (w : World) (a b : Addr) (y : Value) : ((w.setCell b y).cell? a).isSome = (w.cell? a).isSome := by
  by_cases h : b = a
  · subst h
    simp only [World.setCell, World.cell?, Array.getElem?_modify, if_true]
    cases w.heap[b.block]? with
    | none => rfl
    | some x =>
      cases x <;> simp
      by_cases hs : b.spot.isSome = true
      · simp [hs]
      · simp [hs]
        rw [Bool.eq_iff_iff]
        simp
  · rw [World.cell?_setCell_other _ _ _ _ h]
attribute [go_sem] isSome_setCell

/-- what is not frozen stays so behind a draw. -/
theorem frozen_at {w w1 : World} {n : Nat} {a : Addr} {b : Bool} (hq : w.drewN n = w1) (h : w.frozen? a = b) : w1.frozen? a = b := by
  subst hq
  simpa using h

namespace Kd
theorem C_cast {α : Type} {d : Kd α} {w : World} {A : Option Addr} {a b : Nat} {xs : List α} (h : a = b) (k : d.C w A a xs) : d.C w A b xs := h ▸ k
section
variable {P : Program} {ops : Array Oper} {rest : List Oper} {o : Oper} {a : Act} {Q : Exit → Act → World → Prop} {α : Type}

/-- what 'make([]T, 0, n)' leaves: nothing, in a new block of n. -/
theorem R_made0 (d : Kd α) {W : World} (base e : Nat) (n : Nat) {z : Value} {z0 : α} {ok okp : Nat → Prop} (hz : z.cells.size = d.sz) (hs0 : 0 < d.sz) (hzero : d.M W base okp z0 z.cells.toList) (hok : ∀ k, okp k → ok k)
    (hfresh : ok W.heap.size) (hbase : base ≤ W.heap.size) (hm : n ≤ 9223372036854775807) :
    d.R e (W.alloc (.cells (madeCells z.cells (n * d.sz)) e)) base ok (.slice (some ⟨W.heap.size, 0, none⟩) 0 n) [] := by
  have hrep := reps_made (R := d.M W base okp) hz hs0 hzero n
  have h2 := World.ownsRow_lit (base := base) (e := e) (size := d.sz) W (madeCells z.cells (n * d.sz)) n hbase (by simpa [maxLen] using hm) (by simp [size_madeCells])
  have h1 : d.R e (W.alloc (.cells (madeCells z.cells (n * d.sz)) e)) base ok (.slice (some ⟨W.heap.size, 0, none⟩) n n) (List.replicate n z0) := by
    refine ⟨fun k hk => ?_, (madeCells z.cells (n * d.sz)).toList, by simpa using h2, ?_⟩
    · have : W.heap.size = k := by simpa [Value.ownBlock] using hk
      subst this
      exact hfresh
    · refine hrep.imp_ (fun p c hp => d.M_mono (fun k hk => ⟨hok k hk.1, fun he => ?_⟩) (M_below (d.M_bound hp) (below_alloc (Below.refl _ _) _)))
      have h3 : k = W.heap.size := by simpa [Value.ownBlock] using he
      have := hk.2.2.1
      omega
  simpa using R_take (m := 0) h1 (Nat.zero_le _)

theorem R_makecap (d : Kd α) {w0 W : World} (base e : Nat) (hgd : o.guard = none) {N : Tmp} (_hd : o.dst = some N) (t : TypeId) (x y : Operand) (ho : o.op = .makeSlice t x y) (n : Int) (hx : a.eval x = .int .i64 0) (hy : a.eval y = .int .i64 n)
    (ht : P.underlying t = some (.slice e)) (z : Value) (bytes : Nat) (hinfo : (P.info? e).map (fun i => (i.zero, i.size, i.bytes)) = some (some z, d.sz, bytes)) (hz : z.cells.size = d.sz) (hs0 : 0 < d.sz) (hb0 : 0 < bytes)
    (z0 : α) {ok okp : Nat → Prop} (hzero : d.M W base okp z0 z.cells.toList) (hok : ∀ k, okp k → ok k) (hfresh : ok W.heap.size) (h0 : 0 ≤ n) (hl : n.toNat * bytes ≤ 281474976710656) (HB : Below base w0 W) (hbase : base ≤ W.heap.size)
    (h : ∀ v1 w1, d.R e w1 base ok v1 ([] : List α) → Below base w0 w1 → W.grownBy w1 none → (∃ b, v1.ownBlock = some b ∧ W.heap.size ≤ b) → wpList P ops Q rest (a.put o.dst v1) w1) : wpList P ops Q (o :: rest) a W := by
  obtain ⟨m, rfl⟩ := Int.eq_ofNat_of_zero_le h0
  simp only [Int.toNat_natCast] at hl h
  obtain ⟨i0, hi, hzz⟩ := Option.map_eq_some_iff.1 hinfo
  simp only [Prod.mk.injEq] at hzz
  obtain ⟨hz0, hz1, hz2⟩ := hzz
  have hm : m ≤ 281474976710656 := Nat.le_trans (Nat.le_mul_of_pos_right _ hb0) hl
  have hr := run_make (P := P) W t e i0 z ht hi hz0 .i64 .i64 0 (m : Int) (by omega) (by omega)
    (by
      have h3 : ((i0.bytes * m : Nat) : Int) ≤ 281474976710656 := by rw [hz2, Nat.mul_comm]; omega
      rwa [Int.natCast_mul] at h3) (by omega)
  simp only [Int.toNat_natCast] at hr
  rw [hz1] at hr
  refine event_run (v := .slice (some ⟨W.heap.size, 0, none⟩) 0 m) (w1 := W.alloc (.cells (madeCells z.cells (m * d.sz)) e)) hgd (by simp [execOp, ho, hx, hy, hr])
    (h _ _ (R_made0 d base e m hz hs0 hzero hok hfresh hbase (by omega)) (HB.alloc hbase _) (World.grownBy_alloc W _ none) ⟨W.heap.size, by simp [Value.ownBlock], Nat.le_refl _⟩)
end
end Kd
/-! ### readings: what a type's cells read as is one of the kind's -/
section
variable {P : Program} {t e : TypeId}
def Opens {α : Type} (P : Program) (d : Kd α) (t : TypeId) (ok : α → Prop) : Prop :=
  ∀ (H : Type) (enc : TypeId × Value → H) (W : World) (base : Nat) (spare : Nat → Bool) (held : Bool) (fuel : Nat) (cs : List Value) (x : DataW H × List MemPlace),
    DataW.trod enc P W base spare held fuel t cs = some x → ∃ y, d.K W y cs ∧ ok y
theorem opens_int {k : IntKind} (ht : P.underlying t = some (.int k)) : Opens P (Kd.int k) t (fun n => (Lit.int k n).wf = true) := by
  intro H enc W base spare held fuel cs x h
  obtain ⟨n, rfl, _, hw⟩ := DataW.trod_int ht h
  exact ⟨n, rfl, hw⟩
theorem opens_bool (ht : P.underlying t = some .bool) : Opens P Kd.bool t (fun _ => True) := by
  intro H enc W base spare held fuel cs x h
  obtain ⟨n, rfl, _⟩ := DataW.trod_bool ht h
  exact ⟨n, rfl, trivial⟩
theorem opens_string (ht : P.underlying t = some .string) : Opens P Kd.string t (fun s => s.size ≤ maxLen) := by
  intro H enc W base spare held fuel cs x h
  obtain ⟨n, rfl, _, hw⟩ := DataW.trod_string ht h
  exact ⟨n, rfl, hw⟩
theorem choose_list {α : Type} {Q : Nat → α → Prop} : ∀ n : Nat, (∀ i, i < n → ∃ y, Q i y) → ∃ ys : List α, ys.length = n ∧ ∀ j p, ys[j]? = some p → Q j p
  | 0, _ => ⟨[], rfl, fun j p h => by simp at h⟩
  | n + 1, h => by
    obtain ⟨ys, hl, hq⟩ := choose_list n (fun i hi => h i (by omega))
    obtain ⟨y, hy⟩ := h n (by omega)
    refine ⟨ys ++ [y], by simp [hl], fun j p hp => ?_⟩
    by_cases hj : j < n
    · rw [List.getElem?_append_left (by omega)] at hp
      exact hq j p hp
    · have hjl : j < (ys ++ [y]).length := (List.getElem?_eq_some_iff.1 hp).1
      have hjn : j = n := by simp [hl] at hjl; omega
      subst hjn
      rw [List.getElem?_append_right (by omega), hl] at hp
      simp at hp
      exact hp ▸ hy
theorem opens_slice {α : Type} {d : Kd α} {ok : α → Prop} (ht : P.underlying t = some (.slice e)) (hc : P.cellsOf e = d.sz) (he : Opens P d e ok) :
    Opens P (Kd.slice e d) t (fun ys => ys.length ≤ maxLen ∧ ∀ y ∈ ys, ok y) := by
  intro H enc W base spare held fuel cs x h
  rcases Go.Deep.open_slice ht h with ⟨rfl, _⟩ | ⟨a, len, cap, m, n, D, Pl, rfl, hb, hl, hm, hmm, hx, hi⟩
  · exact ⟨[], ⟨none, 0, rfl, Nat.le_refl 0, Kd.C_nil d W⟩, Nat.zero_le _, fun y hy => by simp at hy⟩
  · have hlm : len ≤ m := by rw [hmm]; split <;> omega
    have each : ∀ i, i < len → ∃ y, (∃ c, c.length = d.sz ∧ d.K W y c ∧ ∀ j u, c[j]? = some u → W.cell? (a.add (i * d.sz + j)) = some u) ∧ ok y := by
      intro i hil
      obtain ⟨c, hcs, htr⟩ := hi i (by omega)
      obtain ⟨y, hK, hok⟩ := he H enc W base spare held n c _ htr
      obtain ⟨_, hcl, hat⟩ := World.cells?_some hcs
      rw [hc] at hcl hat
      refine ⟨y, ⟨c, hcl, hK, fun j u hj => ?_⟩, hok⟩
      have hjl : j < d.sz := by rw [← hcl]; exact (List.getElem?_eq_some_iff.1 hj).1
      rw [← Go.Deep.add_add, hat j hjl]
      exact hj
    obtain ⟨ys, hyl, hys⟩ := choose_list len each
    have hlen : ys.length ≤ maxLen := by omega
    refine ⟨ys, ⟨some a, cap, by rw [hyl], by omega, rfl, by simpa [maxLen] using hlen, fun _ => ⟨a, rfl, fun j p hp => (hys j p hp).1⟩⟩, hlen, fun y hy => ?_⟩
    obtain ⟨j, hj⟩ := List.mem_iff_getElem?.1 hy
    exact (hys j y hj).2
theorem opens_last {α : Type} {d : Kd α} {W : World} {cs : List Value} {o s n : Nat} {y : α} (h : d.K W y ((cs.drop o).take s)) (hl : cs.length = n) (hn : n = o + s) : d.K W y (cs.drop o) := by
  rwa [List.take_of_length_le (by rw [List.length_drop]; omega)] at h
theorem opens_pair {α β : Type} {a : Kd α} {b : Kd β} {W : World} {cs : List Value} {o s o' : Nat} {x : α} {y : β} (h : a.K W x ((cs.drop o).take s)) (ho : o' = o + s) (k : b.K W y (cs.drop o')) : (Kd.pair a b).K W (x, y) (cs.drop o) := by
  subst ho
  refine ⟨(cs.drop o).take s, cs.drop (o + s), ?_, h, k⟩
  rw [← List.drop_drop, List.take_append_drop]
theorem okWide_arr {n : Nat} {w : World} {r : Reach} {base : Nat} {v : Value} (ht : P.underlying t = some (.array n e)) (h : Value.okWide P w r base t v) : ∃ cs, v = .agg cs ∧ cs.size = P.cellsOf t := by
  unfold Value.okWide at h
  rw [ht] at h
  obtain ⟨cs, h1, h2, _⟩ := h
  exact ⟨cs, h1, h2⟩
end

end Go.Proofs.YtckjliikaocifabW.PrintWords
