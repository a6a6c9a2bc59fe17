/- Values of several levels that lead to nothing. -/
import Derived.Test.YtnobgooojbppbabLiftS
set_option linter.all false
set_option linter.unusedSimpArgs false
namespace Go.Proofs.Ytnobgooojbppbab.Lift
open Go

/-- Nothing but numbers, truths, strings and nil, in so many levels. -/
def flatD : Nat → AV → Bool
  | 0, _ => false
  | n + 1, .agg cs => cs.all (flatD n)
  | n + 1, .ifc _ v => flatD n v
  | _ + 1, .bool _ => true
  | _ + 1, .int _ _ => true
  | _ + 1, .str _ => true
  | _ + 1, .nilP => true
  | _ + 1, .nilF => true
  | _ + 1, .nilI => true
  | _ + 1, _ => false

theorem flatD_ids : ∀ (n m : Nat) (c : AV), n ≤ m → flatD n c = true → ids m c = []
  | 0, _, _, _, h => by simp [flatD] at h
  | n + 1, 0, _, h, _ => by omega
  | n + 1, m + 1, c, hm, h => by
    cases c <;> simp only [flatD] at h <;> first | (cases h; done) | rfl | skip
    case agg cs =>
      rw [List.all_eq_true] at h
      simp only [ids, List.flatMap_eq_nil_iff]
      exact fun c hc => flatD_ids n m c (by omega) (h c hc)
    case ifc t v =>
      simp only [ids]
      exact flatD_ids n m v (by omega) h

theorem flatD_ro : ∀ (n m : Nat) (c : AV), n ≤ m → flatD n c = true → hasRO m c = false
  | 0, _, _, _, h => by simp [flatD] at h
  | n + 1, 0, _, h, _ => by omega
  | n + 1, m + 1, c, hm, h => by
    cases c <;> simp only [flatD] at h <;> first | (cases h; done) | rfl | skip
    case agg cs =>
      rw [List.all_eq_true] at h
      simp only [hasRO]
      rw [List.any_eq_false]
      intro c hc
      rw [flatD_ro n m c (by omega) (h c hc)]
      simp
    case ifc t v =>
      simp only [hasRO]
      exact flatD_ro n m v (by omega) h

theorem flatD_ren : ∀ (n : Nat) (c : AV) (f : Nat → Option Nat), flatD n c = true → c.ren f = c
  | 0, _, _, h => by simp [flatD] at h
  | n + 1, c, f, h => by
    cases c <;> simp only [flatD] at h <;> first | (cases h; done) | (simp only [AV.ren]; done) | skip
    case agg cs =>
      rw [List.all_eq_true] at h
      simp only [AV.ren, renL_eq]
      congr 1
      exact (List.map_congr_left fun c hc => flatD_ren n c f (h c hc)).trans (List.map_id _)
    case ifc t v =>
      simp only [AV.ren]
      rw [flatD_ren n v f h]

theorem flatD_clo : ∀ (n m : Nat) (c : AV) (G : List Nat) (H : Heap), n ≤ m → flatD n c = true → clo G m H c = c
  | 0, _, _, _, _, _, h => by simp [flatD] at h
  | n + 1, 0, _, _, _, h, _ => by omega
  | n + 1, m + 1, c, G, H, hm, h => by
    cases c <;> simp only [flatD] at h <;> first | (cases h; done) | (simp only [clo]; done) | skip
    case agg cs =>
      rw [List.all_eq_true] at h
      simp only [clo]
      congr 1
      exact (List.map_congr_left fun c hc => flatD_clo n m c G H (by omega) (h c hc)).trans (List.map_id _)
    case ifc t v =>
      simp only [clo]
      rw [flatD_clo n m v G H (by omega) h]

class DPlain {α : Type} (e : α → List AV) : Prop where
  all : ∀ a, (e a).all (flatD 450) = true

section
variable {α : Type} (e : α → List AV) (l : List α)
@[simp] theorem denc_ids3 [h : DPlain e] : (enc e l).flatMap (fun x => x.flatMap (ids 503)) = [] := by
  simp only [enc, List.flatMap_eq_nil_iff, List.mem_map]
  rintro x ⟨a, _, rfl⟩ c hc
  exact flatD_ids 450 503 c (by omega) (List.all_eq_true.1 (h.all a) c hc)
@[simp] theorem denc_ren [h : DPlain e] (f) : (enc e l).map (fun x => x.map (fun c => c.ren f)) = enc e l := by
  simp only [enc, List.map_map]
  refine List.map_congr_left fun a _ => ?_
  exact (List.map_congr_left fun c hc => flatD_ren 450 c f (List.all_eq_true.1 (h.all a) c hc)).trans (List.map_id _)
@[simp] theorem denc_clo3 [h : DPlain e] (G H) : (enc e l).map (fun x => x.map (clo G 503 H)) = enc e l := by
  simp only [enc, List.map_map]
  refine List.map_congr_left fun a _ => ?_
  exact (List.map_congr_left fun c hc => flatD_clo 450 503 c G H (by omega) (List.all_eq_true.1 (h.all a) c hc)).trans (List.map_id _)
@[simp] theorem denc_hasRO3 [h : DPlain e] : ((enc e l).any fun x => x.any (hasRO 503)) = false := by
  simp only [enc, List.any_map]
  rw [List.any_eq_false]
  intro a _
  simp only [Function.comp, Bool.not_eq_true]
  rw [List.any_eq_false]
  intro c hc
  rw [flatD_ro 450 503 c (by omega) (List.all_eq_true.1 (h.all a) c hc)]
  simp
end

end Go.Proofs.Ytnobgooojbppbab.Lift
