/- A range over a set's numbers: what flock's List, Count and Nth come to, walked by the kit's laws. -/
import Derived.RangeFuncBox
import Derived.RangeFuncNested
import Derived.RangeFuncBound
import Derived.RangeFuncCalls
import Derived.RangeFuncLeaves
import Derived.Shelf.Abstract
import Derived.Shelf.RegionOpen
import Derived.WalkKit
import Derived.OwnWalkIn
import Derived.TacticsInMore
import Derived.LoopNIn
import Derived.LoopIn
import Derived.Maps.AppendAt
import Derived.Test.YtnobgooojbppbaaProg
set_option linter.all false
set_option linter.unusedSimpArgs false
namespace Go.Proofs.Ytnobgooojbppbaa.FlockIn
open Go Go.RowKit Go.Shelf Go.Proofs

attribute [local go_sem] Oper.semAt_some

theorem is_in (F : Fence) (n : Nat) (hF : F.fn 109) (hro : F.round = none) (k : Int) (w : World) :
    CallsIn F n Try.prog 109 #[.int .i64 k] w fun e w' => e = .returned (.bool (decide (0 ≤ k) && decide (k < 64))) ∧ w' = w := by
  refine callsIn_of_wp Try.func109 rfl hF ?_ hro
  simp only [Try.ntmps109, List.size_toArray, List.length_cons, List.length_nil, Nat.reduceAdd, Nat.reduceSub, Array.replicate_succ, Array.replicate_zero, List.push_toArray, List.append_toArray, List.nil_append, List.cons_append]
  gi_wp2
  · rename_i h
    refine bodyPost_ret (results_tmp rfl _ _ _) rfl ⟨?_, rfl⟩
    simp [h]
  · rename_i h
    have h' : ¬ 0 ≤ k := by omega
    refine bodyPost_ret (results_tmp rfl _ _ _) rfl ⟨?_, rfl⟩
    simp [h']

/-- Is a number in a set? -/
def has (s k : Int) : Bool := decide (0 ≤ k) && (decide (k < 64) && decide (s / 2 ^ k.toNat % 2 = 1))

theorem has_in (F : Fence) (n : Nat) (hF : F.fn 34) (hF2 : F.fn 109) (hro : F.round = none) (hn : 1 ≤ n) (s k : Int) (hs : 0 ≤ s) (hs2 : s < 18446744073709551616) (w : World) :
    CallsIn F n Try.prog 34 #[.int .u64 s, .int .i64 k] w fun e w' => e = .returned (.bool (has s k)) ∧ w' = w := by
  refine callsIn_of_wp Try.func34 rfl hF ?_ hro
  simp only [Try.ntmps34, List.size_toArray, List.length_cons, List.length_nil, Nat.reduceAdd, Nat.reduceSub, Array.replicate_succ, Array.replicate_zero, List.push_toArray, List.append_toArray, List.nil_append, List.cons_append]
  have hand : ∀ x : Int, 0 ≤ x → x < 18446744073709551616 → bits BinOp.and IntKind.u64 x 1 = x % 2 := by
    intro x h1 h2
    obtain ⟨m, rfl⟩ := Int.eq_ofNat_of_zero_le h1
    have e1 : (BitVec.ofInt IntKind.u64.bits (m : Int)).toNat = m := by
      show (BitVec.ofInt 64 (m : Int)).toNat = m
      rw [BitVec.toNat_ofInt]
      omega
    have e2 : (BitVec.ofInt IntKind.u64.bits 1).toNat = 1 := by decide
    simp only [bits]
    rw [BitVec.toNat_and, e1, e2, Nat.and_one_is_mod, IntWalk.u64_in _ (by omega)]
    omega
  gi_wp2_with (gi_at_call 109; refine (is_in F (n - 1) hF2 hro _ _).mono ?_; rintro e w' ⟨rfl, rfl⟩)
  · rename_i h
    have h0 : 0 ≤ s / 2 ^ k.toNat := Int.ediv_nonneg hs (by exact Int.le_of_lt (Int.pow_pos (by omega)))
    have h3 : s / 2 ^ k.toNat ≤ s := Int.ediv_le_self _ hs
    refine bodyPost_ret (results_tmp rfl _ _ _) rfl ⟨?_, rfl⟩
    rw [hand _ h0 (by omega)]
    simp [has, h.1, h.2]
    rfl
  · rename_i h
    refine bodyPost_ret (results_tmp rfl _ _ _) rfl ⟨?_, rfl⟩
    have : has s k = false := by
      unfold has
      by_cases h1 : 0 ≤ k
      · have h2 : ¬ k < 64 := fun h2 => h ⟨h1, h2⟩
        simp [h2]
      · simp [h1]
    rw [this]
    rfl

/-- The numbers of a set that are below one. -/
def lst (s : Int) (n : Nat) : List Int := (List.range n).filterMap fun (k : Nat) => if has s (k : Int) = true then some (k : Int) else none

theorem lst_succ (s : Int) (n : Nat) : lst s (n + 1) = lst s n ++ (if has s n = true then [(n : Int)] else []) := by
  unfold lst
  rw [List.range_succ, List.filterMap_append]
  congr 1
  by_cases h : has s n = true <;> simp [h]

theorem lst_len (s : Int) (n : Nat) : (lst s n).length ≤ n := by
  have := List.length_filterMap_le (fun (k : Nat) => if has s (k : Int) = true then some (k : Int) else none) (List.range n)
  simpa [lst] using this

theorem lst_prefix (s : Int) (n m : Nat) (h : n ≤ m) : lst s n <+: lst s m := by
  induction m with
  | zero => obtain rfl : n = 0 := by omega
            exact List.prefix_refl _
  | succ m ih =>
    rcases Nat.lt_or_ge m n with h1 | h1
    · obtain rfl : n = m + 1 := by omega
      exact List.prefix_refl _
    · rw [lst_succ]
      exact (ih h1).trans (List.prefix_append _ _)

/-- The set lies on. -/
def KpS (Bn : Nat) (s : Int) (W W' : World) : Prop := W.cell? ⟨Bn, 0, none⟩ = some (.int .u64 s) → W'.cell? ⟨Bn, 0, none⟩ = some (.int .u64 s)

theorem KpS.b {Bn : Nat} {s : Int} {w : World} (hB : Bn < w.heap.size) (W : World) (l : Nat) (o o' : Obj) (hl : w.heap.size ≤ l) (h : W.heap[l]? = some o) (h1 : o.isCells = false) (h2 : o.isWalk = false) : KpS Bn s W (W.putObj l o') :=
  fun hc => ((belowK_b (Nat.le_refl _) W l o o' hl h h1 h2).cell (p := ⟨Bn, 0, none⟩) hB).trans hc

/-- Each's closure, for every loop body that keeps the set. -/
theorem each1_in (F : Fence) (n : Nat) (h6 : F.fn 108) (hF : F.fn 34) (hF2 : F.fn 109) (hro : F.round = none) (hn : 2 ≤ n) (l Bn : Nat) (s : Int) (hs : 0 ≤ s) (hs2 : s < 18446744073709551616) (J Jx : List Int → World → Prop)
    (hY : ∀ pre x W, J pre W → pre.length < 64 → YieldAt F (n - 1) Try.prog l #[.int .i64 x] W fun e W' =>
      (e = .returned (.bool true) ∧ J (pre ++ [x]) W' ∧ KpS Bn s W W') ∨ (e = .returned (.bool false) ∧ Jx (pre ++ [x]) W'))
    (W : World) (hBn : W.cell? ⟨Bn, 0, none⟩ = some (.int .u64 s)) (h0 : J [] W) :
    CallsIn F n Try.prog 108 #[.func (.yield l) #[] #[], .pointer (some ⟨Bn, 0, none⟩)] W fun e W' => (∃ v, e = .returned v) ∧
      ((∃ ys, ys = lst s 64 ∧ J ys W') ∨ (∃ pre, pre <+: lst s 64 ∧ Jx pre W')) := by
  refine callsIn_of_wp Try.func108 rfl h6 ?_ hro
  simp only [Try.ntmps108, List.size_toArray, List.length_cons, List.length_nil, Nat.reduceAdd, Nat.reduceSub, Array.replicate_succ, Array.replicate_zero, List.push_toArray, List.append_toArray, List.nil_append, List.cons_append]
  gi_wp2
  gi_loopw [4] (fun p wr => ∃ (k : Nat), p = .int .i64 k ∧ k ≤ 64 ∧ wr.cell? ⟨Bn, 0, none⟩ = some (.int .u64 s) ∧ J (lst s k) wr)
    (fun p wr => 64 - (intOf p).toNat)
  case atStart =>
    exact ⟨0, rfl, by omega, hBn, h0⟩
  case round =>
    obtain ⟨k, rfl, hk, hc, hJ⟩ := hrel
    have hn1 : 1 ≤ n := by omega
    have hn2 : 1 ≤ n - 1 := by omega
    by_cases hk2 : k < 64
    · have hki : (k : Int) < 64 := by omega
      have hsc := lst_succ s k
      have hHas := has_in F (n - 1) hF hF2 hro (by omega) s k hs hs2 wr
      by_cases hh : has s k = true
      · rw [hh] at hHas
        rw [if_pos hh] at hsc
        obtain ⟨fn, tmps, assign, body, hy, hR⟩ := hY (lst s k) k wr hJ (by have := lst_len s k; omega)
        gi_wp2_with (gi_at_call 34; refine hHas.mono ?_; rintro e w' ⟨rfl, rfl⟩)
        · refine hR.mono ?_
          rintro e W3 (⟨rfl, hJ3, hk3⟩ | ⟨rfl, hJx3⟩)
          · have hc3 : W3.cell? ⟨Bn, 0, none⟩ = some (.int .u64 s) := hk3 hc
            gi_wp2
            go_roundw
            case rel => exact ⟨k + 1, by simp, by omega, hc3, by rw [hsc]; exact hJ3⟩
            case measure => simp [intOf]; omega
          · gi_wp2
            refine bodyPost_ret (results_none rfl _ _ _) rfl ?_
            exact ⟨⟨_, rfl⟩, .inr ⟨lst s k ++ [(k : Int)], by rw [← hsc]; exact lst_prefix s (k + 1) 64 (by omega), hJx3⟩⟩
      · have hh : has s k = false := by simpa using hh
        rw [hh] at hHas
        rw [hh, if_neg (by simp), List.append_nil] at hsc
        gi_wp2_with (gi_at_call 34; refine hHas.mono ?_; rintro e w' ⟨rfl, rfl⟩)
        refine ⟨fun _ h => (by cases h), ?_⟩
        gi_wp2
        go_roundw
        case rel => exact ⟨k + 1, by simp, by omega, hc, by rw [hsc]; exact hJ⟩
        case measure => simp [intOf]; omega
    · have hki : ¬ (k : Int) < 64 := by omega
      obtain rfl : k = 64 := by omega
      gi_wp2
      go_end0
      exact ⟨⟨_, rfl⟩, .inl hJ⟩

/-- Each(s): the set is boxed; the function value captures the box. -/
theorem each_in (F : Fence) (n : Nat) (h5 : F.fn 28) (hro : F.round = none) (s : Int) (w : World) :
    CallsIn F n Try.prog 28 #[.int .u64 s] w fun e w' => e = .returned (.func (.func 108) #[] #[.pointer (some ⟨w.heap.size, 0, none⟩)]) ∧ w' = w.alloc (.cells #[.int .u64 s] 41) := by
  refine callsIn_of_wp Try.func28 rfl h5 ?_ hro
  simp only [Try.ntmps28, List.size_toArray, List.length_cons, List.length_nil, Nat.reduceAdd, Nat.reduceSub, Array.replicate_succ, Array.replicate_zero, List.push_toArray, List.append_toArray, List.nil_append, List.cons_append]
  gi_wp2
  go_ret
  exact ⟨rfl, rfl⟩

theorem each_stops (F : Fence) (n : Nat) (h6 : F.fn 108) (hF : F.fn 34) (hF2 : F.fn 109) (hro : F.round = none) (hn : 2 ≤ n) (Bn : Nat) (s : Int) (hs : 0 ≤ s) (hs2 : s < 18446744073709551616) (w : World) (hBn : Bn < w.heap.size)
    (hc : w.cell? ⟨Bn, 0, none⟩ = some (.int .u64 s)) :
    SeqStopsK F n Try.prog 108 #[.pointer (some ⟨Bn, 0, none⟩)] (fun x : Int => #[Value.int .i64 x]) (KpS Bn s) (fun ys => ys = lst s 64) (fun pre => pre <+: lst s 64) 64 w := fun l J Jx W hW _ _ hY h0 =>
  each1_in F n h6 hF hF2 hro hn l Bn s hs hs2 J Jx hY W ((hW.cell (p := ⟨Bn, 0, none⟩) hBn).trans hc) h0

set_option maxHeartbeats 1000000 in
/-- Count. -/
theorem count_in (F : Fence) (n : Nat) (h3 : F.fn 31) (h4 : F.fn 28) (h5 : F.fn 108) (hF : F.fn 34) (hF2 : F.fn 109) (hro : F.round = none) (hn : 4 ≤ n) (s : Int) (hs : 0 ≤ s) (hs2 : s < 18446744073709551616) (w : World) :
    CallsIn F n Try.prog 31 #[.int .u64 s] w fun e W' => e = .returned (.int .i64 (lst s 64).length) ∧ Below w.heap.size w W' := by
  have h1 : 1 ≤ n := by omega
  refine callsIn_of_wp_marks Try.func31 rfl h3 ?_ hro
  simp only [Try.ntmps31, List.size_toArray, List.length_cons, List.length_nil, Nat.reduceAdd, Nat.reduceSub, Array.replicate_succ, Array.replicate_zero, List.push_toArray, List.append_toArray, List.nil_append, List.cons_append]
  gi_wp2_with (gi_at_call 28; refine (each_in F (n - 1) h4 hro _ _).mono ?_; rintro e w' ⟨rfl, rfl⟩)
  have bN := Boxed.new w 3 (.int .i64 0)
  have bS := Boxed.new (w.alloc (.cells #[.int .i64 0] 3)) 41 (.int .u64 s)
  rw [World.size_alloc] at bS
  have hB0 : Below w.heap.size w ((w.alloc (.cells #[.int .i64 0] 3)).alloc (.cells #[.int .u64 s] 41)) := ((Below.refl _ w).alloc (Nat.le_refl _) _).alloc (by simp) _
  have hll := lst_len s 64
  refine wpIn_rangeFunc_ownF hro h1 (gf := 108) (lb := #[.pointer (some ⟨w.heap.size + 1, 0, none⟩)]) rfl h5 (enters_of Try.func108 (by kernel_rfl) rfl)
    (each_stops F (n - 1) h5 hF hF2 hro (by omega) (w.heap.size + 1) s hs hs2 _ (by simp) bS.cell) (fun h k hc => k (h hc)) (fun W l o o' hl h h1 h2 => KpS.b (w := (w.alloc (.cells #[.int .i64 0] 3)).alloc (.cells #[.int .u64 s] 41)) (by simp) W l o o' hl h h1 h2) (Below.refl _ _) (fun _ => rfl)
    (fun pre W => (Boxed W w.heap.size 3 (.int .i64 pre.length) ∧ Boxed W (w.heap.size + 1) 41 (.int .u64 s)) ∧ Below w.heap.size w W)
    (fun _ _ _ => False)
    (OwnFrom.and (OwnFrom.and (Own.from (boxed_own _ _ fun pre : List Int => .int .i64 pre.length) _) (Own.from (boxed_own _ _ fun _ : List Int => .int .u64 s) _)) (ownFrom_below (Nat.le_refl _) (by simp; omega)))
    (fun _ _ _ _ _ hs _ _ => hs)
    ⟨⟨bN.alloc _, bS⟩, hB0⟩
    (fun x => { tmps := #[.int .u64 s, undef, .int .i64 0, .pointer (some ⟨w.heap.size, 0, none⟩), .int .u64 s, .func (.func 108) #[] #[.pointer (some ⟨w.heap.size + 1, 0, none⟩)], .int .i64 x, undef, undef, undef], defers := [] }) ?assign ?body ?done ?stop
  case assign =>
    intro l x W K hK
    gi_wp2
    exact (by simpa using hK)
  case body =>
    rintro l pre x W ⟨⟨bn, bs⟩, hB⟩ hlt
    have hc := bn.cell
    have hf := bn.frozen
    have hw : IntKind.i64.wrap ((pre.length : Int) + 1) = pre.length + 1 := IntWalk.i64_in _ (by omega)
    gi_wp2
    exact ⟨KeepsOthers.setCell _ _ _, fun _ => (bs.other (by omega) _).cell, ⟨by simpa using bn.set _, bs.other (by omega) _⟩, hB.setCell (p := ⟨w.heap.size, 0, none⟩) (Nat.le_refl _) _⟩
  case done =>
    rintro D ys W hD rfl ⟨⟨bn, bs⟩, hB⟩ hK
    have hc := bn.cell
    gi_wp2
    refine ⟨by simp, .inl ⟨_, _, rfl, run_takeDeferred hK, ?_⟩⟩
    exact ⟨_, results_tmp rfl _ _ _, rfl, hB.trans (belowK_b (w := w) (Nat.le_refl _) W D _ _ (by simp at hD; omega) hK rfl rfl)⟩
  case stop =>
    rintro D c pre W _ _ h _
    exact h.elim

theorem info3 : (Try.prog.info? 3).map (fun i => (i.zero, i.size, i.bytes)) = some (some (.int .i64 0), 1, 8) := by kernel_rfl

set_option maxRecDepth 100000 in
set_option maxHeartbeats 2000000 in
/-- List. -/
theorem list_in (F : Fence) (n : Nat) (h3 : F.fn 30) (h4 : F.fn 28) (h5 : F.fn 108) (hF : F.fn 34) (hF2 : F.fn 109) (hro : F.round = none) (hn : 4 ≤ n) (s : Int) (hs : 0 ≤ s) (hs2 : s < 18446744073709551616) (w : World) :
    CallsIn F n Try.prog 30 #[.int .u64 s] w fun e W' => ∃ v, e = .returned v ∧ W'.ownsRow w.heap.size 3 1 v (lst s 64).length ((lst s 64).map (Value.int .i64)) ∧ Below w.heap.size w W' := by
  have h1 : 1 ≤ n := by omega
  obtain ⟨i0, hi, hz0, hz1, hz2⟩ := info_parts info3
  refine callsIn_of_wp_marks Try.func30 rfl h3 ?_ hro
  simp only [Try.ntmps30, List.size_toArray, List.length_cons, List.length_nil, Nat.reduceAdd, Nat.reduceSub, Array.replicate_succ, Array.replicate_zero, List.push_toArray, List.append_toArray, List.nil_append, List.cons_append]
  gi_wp2_with (gi_at_call 28; refine (each_in F (n - 1) h4 hro _ _).mono ?_; rintro e w' ⟨rfl, rfl⟩)
  have bO := Boxed.new w 22 (.slice none 0 0)
  have bS := Boxed.new (w.alloc (.cells #[.slice none 0 0] 22)) 41 (.int .u64 s)
  rw [World.size_alloc] at bS
  have hB0 : Below w.heap.size w ((w.alloc (.cells #[.slice none 0 0] 22)).alloc (.cells #[.int .u64 s] 41)) := ((Below.refl _ w).alloc (Nat.le_refl _) _).alloc (by simp) _
  have hll := lst_len s 64
  refine wpIn_rangeFunc_ownG hro h1 (gf := 108) (lb := #[.pointer (some ⟨w.heap.size + 1, 0, none⟩)]) rfl h5 (enters_of Try.func108 (by kernel_rfl) rfl)
    (each_stops F (n - 1) h5 hF hF2 hro (by omega) (w.heap.size + 1) s hs hs2 _ (by simp) bS.cell) (fun h k hc => k (h hc)) (fun W l o o' hl h h1 h2 => KpS.b (w := (w.alloc (.cells #[.slice none 0 0] 22)).alloc (.cells #[.int .u64 s] 41)) (by simp) W l o o' hl h h1 h2) (Below.refl _ _) (fun _ => rfl)
    (fun pre W => ((∃ v, Boxed W w.heap.size 22 v ∧ W.ownsRow w.heap.size 3 1 v pre.length (pre.map (Value.int .i64)) ∧ True) ∧ Boxed W (w.heap.size + 1) 41 (.int .u64 s)) ∧ Below w.heap.size w W)
    (fun _ _ _ => False)
    (OwnFrom.and (OwnFrom.and (Own.from (holdsRow_own w.heap.size w.heap.size 22 3 1 (fun pre : List Int => pre.length) (fun pre => pre.map (Value.int .i64)) (fun _ _ => True)) _) (Own.from (boxed_own _ _ fun _ : List Int => .int .u64 s) _)) (ownFrom_below (Nat.le_refl _) (by simp; omega)))
    (fun _ _ _ _ _ hs _ _ => hs)
    ⟨⟨⟨_, bO.alloc _, World.ownsRow_nil _ _ _ _, trivial⟩, bS⟩, hB0⟩
    (fun x => { tmps := #[.int .u64 s, undef, .slice none 0 0, .pointer (some ⟨w.heap.size, 0, none⟩), .int .i64 x, .int .u64 s, .func (.func 108) #[] #[.pointer (some ⟨w.heap.size + 1, 0, none⟩)], .int .i64 x, undef, undef, undef, undef, undef], defers := [] }) ?assign ?body ?done ?stop
  case assign =>
    intro l x W K hK
    gi_wp2
    exact hK
  case body =>
    rintro l pre x W ⟨⟨⟨v, hv, hrow, _⟩, bs⟩, hB⟩ hlt
    have hc := hv.cell
    have hm : pre.length + 1 ≤ maxLen := by simp only [maxLen]; omega
    gi_wp2_with (gi_at_builtin; refine wpListIn_append_own _ rfl _ _ 22 rfl w.heap.size 3 i0 (.int .i64 0) 1 8 Try.underlying22 hi hz0 hz1 hz2 rfl (by decide) _ _ _ rfl (hrow.alloc _) ⟨W.heap.size, 0, none⟩ 1 1 [.int .i64 x] rfl rfl (cell_one_new _ _ _) (by simp [Value.oneCell']) (by omega) (by omega) (by have := hB.size; simp; omega) ?_; intro v' w1 hown' hgrow _; obtain ⟨g', cap', rfl⟩ := ownsRow_succ hown'; obtain ⟨hv1, hv2, hr2, hk2, hb2⟩ := hv.appended (by decide) hrow hB.size (Nat.le_refl _) hown' hgrow; have hc1 := hv1.cell; have hf1 := hv1.frozen; have bs1 := ((bs.alloc _).kept hgrow (bs.not_row (by decide) hrow)).other (B' := w.heap.size) (by omega) (.slice (some ⟨g', 0, none⟩) (pre.length + 1) cap'))
    exact ⟨hk2.from _, fun _ => bs1.cell, ⟨⟨_, hv2, by simpa using hr2, trivial⟩, bs1⟩, hB.trans hb2⟩
  case done =>
    rintro D ys W hD rfl ⟨⟨⟨v, hv, hrow, _⟩, bs⟩, hB⟩ hK
    have hc := hv.cell
    gi_wp2
    refine ⟨by simp, .inl ⟨_, _, rfl, run_takeDeferred hK, ?_⟩⟩
    exact ⟨_, results_tmp rfl _ _ _, v, rfl, ownsRow_putObj hrow _ hK rfl, hB.trans (belowK_b (w := w) (Nat.le_refl _) W D _ _ (by simp at hD; omega) hK rfl rfl)⟩
  case stop =>
    rintro D c pre W _ _ h _
    exact h.elim

/-- The k-th of a set's numbers. -/
def nth (s k : Int) : Int := if 0 ≤ k then (lst s 64).getD k.toNat (-1) else -1

theorem down (k : Int) (h1 : -9223372036854775808 ≤ k) (h2 : k ≤ 9223372036854775807) : ∃ f : Nat → Int, f 0 = k ∧ (∀ m, IntKind.i64.wrap (f m - 1) = f (m + 1)) ∧ ∀ m, m ≤ 64 → (f m = 0 ↔ k = m) := by
  refine ⟨fun m => IntKind.i64.wrap (k - m), ?_, fun m => ?_, fun m hm => ?_⟩
  · simp only [IntKind.wrap_i64]; omega
  · simp only [IntKind.wrap_i64]; omega
  · simp only [IntKind.wrap_i64]; omega

set_option maxRecDepth 100000 in
set_option maxHeartbeats 2000000 in
/-- Nth. -/
theorem nth_in (F : Fence) (n : Nat) (h3 : F.fn 32) (h4 : F.fn 28) (h5 : F.fn 108) (hF : F.fn 34) (hF2 : F.fn 109) (hro : F.round = none) (hn : 4 ≤ n) (s : Int) (hs : 0 ≤ s) (hs2 : s < 18446744073709551616)
    (k : Int) (hk1 : -9223372036854775808 ≤ k) (hk2 : k ≤ 9223372036854775807) (w : World) :
    CallsIn F n Try.prog 32 #[.int .u64 s, .int .i64 k] w fun e W' => e = .returned (.int .i64 (nth s k)) ∧ Below w.heap.size w W' := by
  have h1 : 1 ≤ n := by omega
  obtain ⟨f, hf0, hfs, hfz⟩ := down k hk1 hk2
  refine callsIn_of_wp_marks Try.func32 rfl h3 ?_ hro
  simp only [Try.ntmps32, List.size_toArray, List.length_cons, List.length_nil, Nat.reduceAdd, Nat.reduceSub, Array.replicate_succ, Array.replicate_zero, List.push_toArray, List.append_toArray, List.nil_append, List.cons_append]
  gi_wp2_with (gi_at_call 28; refine (each_in F (n - 1) h4 hro _ _).mono ?_; rintro e w' ⟨rfl, rfl⟩)
  have c0 := Boxed.new w 3 (.int .i64 k)
  have c1 := Boxed.new (w.alloc (.cells #[.int .i64 k] 3)) 3 (.int .i64 0)
  have c2 := Boxed.new ((w.alloc (.cells #[.int .i64 k] 3)).alloc (.cells #[.int .i64 0] 3)) 41 (.int .u64 s)
  simp only [World.size_alloc] at c1 c2
  have hB0 : Below w.heap.size w (((w.alloc (.cells #[.int .i64 k] 3)).alloc (.cells #[.int .i64 0] 3)).alloc (.cells #[.int .u64 s] 41)) := (((Below.refl _ w).alloc (Nat.le_refl _) _).alloc (by simp) _).alloc (by simp; omega) _
  have hll := lst_len s 64
  refine wpIn_rangeFunc_ownF hro h1 (gf := 108) (lb := #[.pointer (some ⟨w.heap.size + 1 + 1, 0, none⟩)]) rfl h5 (enters_of Try.func108 (by kernel_rfl) rfl)
    (each_stops F (n - 1) h5 hF hF2 hro (by omega) (w.heap.size + 1 + 1) s hs hs2 _ (by simp) c2.cell) (fun h k hc => k (h hc)) (fun W l o o' hl h h1 h2 => KpS.b (w := ((w.alloc (.cells #[.int .i64 k] 3)).alloc (.cells #[.int .i64 0] 3)).alloc (.cells #[.int .u64 s] 41)) (by simp) W l o o' hl h h1 h2) (Below.refl _ _) (fun _ => rfl)
    (fun pre W => ((∀ m : Nat, m < pre.length → k ≠ m) ∧ Boxed W w.heap.size 3 (.int .i64 (f pre.length)) ∧ Boxed W (w.heap.size + 1) 3 (.int .i64 0) ∧ Boxed W (w.heap.size + 1 + 1) 41 (.int .u64 s)) ∧ Below w.heap.size w W)
    (fun c pre W => (c = .ret ∧ ∃ q x, pre = q ++ [x] ∧ k = q.length ∧ Boxed W (w.heap.size + 1) 3 (.int .i64 x)) ∧ Below w.heap.size w W)
    (OwnFrom.and (fun s' A B row hs hg hr => ⟨hs.1, Own.from (boxed_own _ _ fun pre : List Int => .int .i64 (f pre.length)) _ s' A B row hs.2.1 hg hr, Own.from (boxed_own _ _ fun _ : List Int => .int .i64 0) _ s' A B row hs.2.2.1 hg hr, Own.from (boxed_own _ _ fun _ : List Int => .int .u64 s) _ s' A B row hs.2.2.2 hg hr⟩) (ownFrom_below (Nat.le_refl _) (by simp; omega)))
    (fun c => OwnFrom.and (fun s' A B row hs hg hr => by
      obtain ⟨hs1, q, x, hs2, hs3, hs4⟩ := hs
      exact ⟨hs1, q, x, hs2, hs3, Own.from (boxed_own _ _ fun _ : List Int => .int .i64 x) _ s' A B row hs4 hg hr⟩) (ownFrom_below (Nat.le_refl _) (by simp; omega)))
    ⟨⟨by simp, by simp only [List.length_nil, hf0]; exact (c0.alloc _).alloc _, c1.alloc _, c2⟩, hB0⟩
    (fun x => { tmps := #[.int .u64 s, .int .i64 k, undef, .pointer (some ⟨w.heap.size, 0, none⟩), .pointer (some ⟨w.heap.size + 1, 0, none⟩), .int .i64 x, .int .u64 s, .func (.func 108) #[] #[.pointer (some ⟨w.heap.size + 1 + 1, 0, none⟩)], .int .i64 x, undef, undef, undef, undef, undef], defers := [] }) ?assign ?body ?done ?stop
  case assign =>
    intro l x W K hK
    gi_wp2
    exact hK
  case body =>
    rintro l pre x W ⟨⟨hne, b0, b1, b2⟩, hB⟩ hlt
    have hc0 := b0.cell
    have hf0 := b0.frozen
    have hc1 := b1.cell
    have hf1 := b1.frozen
    have hfs' := hfs pre.length
    have hz := hfz pre.length (by omega)
    generalize f pre.length = fp at *
    gi_wp2
    · rename_i h
      exact ⟨KeepsOthers.setCell _ _ _, ⟨rfl, pre, x, rfl, hz.1 (by simpa using h), b1.set _⟩, hB.setCell (p := ⟨w.heap.size + 1, 0, none⟩) (by simp) _⟩
    · rename_i h
      have hk : k ≠ pre.length := fun e => by
        have := hz.2 e
        rw [this] at h
        simp at h
      refine ⟨KeepsOthers.setCell _ _ _, fun _ => (b2.other (by omega) _).cell, ⟨fun m hm => ?_, by rw [show (pre ++ [x]).length = pre.length + 1 by simp, ← hfs']; exact b0.set _, b1.other (by omega) _, b2.other (by omega) _⟩, hB.setCell (p := ⟨w.heap.size, 0, none⟩) (Nat.le_refl _) _⟩
      rcases Nat.lt_or_ge m pre.length with h1 | h1
      · exact hne m h1
      · have : m = pre.length := by simp at hm; omega
        rw [this]; exact hk
  case done =>
    rintro D ys W hD rfl ⟨⟨hne, b0, b1, b2⟩, hB⟩ hK
    have hc1 := b1.cell
    have hf1 := b1.frozen
    gi_wp2
    have hK' := (KeepsOthers.setCell W ⟨w.heap.size + 1, 0, none⟩ (.int .i64 (-1))).same D _ hK rfl
    refine ⟨by simp, .inl ⟨_, _, rfl, run_takeDeferred hK', ?_⟩⟩
    have hc5 := cell_kept (World.cell?_setCell_same' W ⟨w.heap.size + 1, 0, none⟩ (.int .i64 (-1)) (by rw [hc1]; rfl)) (grownBy_putObj' _ D (.deferred none)) (fun r e => by cases e; exact ⟨_, hK', rfl⟩)
    have hnth : nth s k = -1 := by
      unfold nth
      split
      · rename_i h
        rw [List.getD_eq_getElem?_getD, List.getElem?_eq_none]
        · rfl
        · rcases Nat.lt_or_ge k.toNat (lst s 64).length with h' | h'
          · exact absurd (by omega) (hne _ h')
          · exact h'
      · rfl
    refine ⟨.int .i64 (-1), ?_, by rw [hnth], (hB.setCell (p := ⟨w.heap.size + 1, 0, none⟩) (by simp) _).trans (belowK_b (w := w) (Nat.le_refl _) _ D _ _ (by simp at hD; omega) hK' rfl rfl)⟩
    simp [results, Try.f32, go_sem, hc5]
  case stop =>
    rintro D c pre W hD hpre ⟨⟨rfl, q, x, rfl, hkq, bx⟩, hB⟩ hK
    have hcr := bx.cell
    gi_wp2
    refine ⟨by simp, .inl ⟨_, _, rfl, run_takeDeferred hK, ?_⟩⟩
    have hc5 := cell_kept hcr (grownBy_putObj' _ D (.deferred none)) (fun r e => by cases e; exact ⟨_, hK, rfl⟩)
    have hnth : nth s k = x := by
      obtain ⟨r, hr⟩ := hpre
      unfold nth
      rw [if_pos (by omega), ← hr, hkq, List.getD_eq_getElem?_getD]
      simp
    refine ⟨.int .i64 x, ?_, by rw [hnth], hB.trans (belowK_b (w := w) (Nat.le_refl _) W D _ _ (by simp at hD; omega) hK rfl rfl)⟩
    simp [results, Try.f32, go_sem, hc5]

end Go.Proofs.Ytnobgooojbppbaa.FlockIn
