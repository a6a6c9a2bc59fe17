/- A reading of the program's code by values alone: strings and rows of bytes. -/
import Derived.Test.YtjpccbjgmogclaaLiftR
set_option linter.all false
set_option linter.unusedSimpArgs false
namespace Go.Proofs.Ytjpccbjgmogclaa.Lift
open Go Go.RowKit

theorem pushAll (l : List Int) : ∀ r : ByteArray, l.foldl (fun r n => r.push (UInt8.ofNat n.toNat)) r = r ++ l.foldl (fun r n => r.push (UInt8.ofNat n.toNat)) ByteArray.empty := by
  induction l with
  | nil => intro r; simp
  | cons a t ih =>
    intro r
    simp only [List.foldl_cons]
    rw [ih, ih (ByteArray.empty.push _)]
    rw [← ByteArray.append_assoc]
    congr 1
    apply ByteArray.ext
    simp [ByteArray.push]

theorem strOf_nil : strOf [] = ByteArray.empty := rfl

theorem strOf_append (a b : List (List AV)) : strOf (a ++ b) = strOf a ++ strOf b := by
  simp only [strOf, List.map_append, List.foldl_append]
  rw [pushAll]

theorem strOf_size (a : List (List AV)) : (strOf a).size = a.length := by
  induction a with
  | nil => rfl
  | cons x t ih =>
    rw [show x :: t = [x] ++ t from rfl, strOf_append, ByteArray.size_append, ih]
    simp [strOf]
    omega

theorem strOf_bytesRow (s : ByteArray) : strOf (bytesRow s) = s := by
  obtain ⟨⟨l⟩⟩ := s
  induction l with
  | nil => rfl
  | cons a t ih =>
    have h : bytesRow ⟨⟨a :: t⟩⟩ = [[.int .u8 a.toNat]] ++ bytesRow ⟨⟨t⟩⟩ := by simp [bytesRow]
    rw [h, strOf_append, ih]
    apply ByteArray.ext
    simp [strOf, byteOf, ByteArray.push]

theorem bytesRow_isByte (s : ByteArray) : (bytesRow s).all isByte = true := by
  rw [List.all_eq_true]
  intro x hx
  obtain ⟨b, _, rfl⟩ := List.mem_map.1 hx
  rfl

theorem all_isByte (l : List Int) : (l.map (eInt .u8)).all isByte = true := by
  simp [eInt, isByte]

theorem beq_refl_bytes (s : ByteArray) : (s.toList == s.toList) = true := by simp

@[simp] theorem range_0 : List.range 0 = [] := rfl
@[simp] theorem range_1 : List.range 1 = [0] := rfl
@[simp] theorem range_2 : List.range 2 = [0, 1] := rfl
@[simp] theorem range_3 : List.range 3 = [0, 1, 2] := rfl
@[simp] theorem range_4 : List.range 4 = [0, 1, 2, 3] := rfl
@[simp] theorem range_5 : List.range 5 = [0, 1, 2, 3, 4] := rfl
@[simp] theorem range_6 : List.range 6 = [0, 1, 2, 3, 4, 5] := rfl
attribute [simp] List.eraseDups_cons eInt eBool eStr

/-- The same, and nothing that is only read. -/
def flat : AV → Bool
  | .bool _ | .int _ _ | .str _ | .nilP | .nilF | .nilI => true
  | _ => false

theorem simple_ids (c : AV) (n : Nat) (h : simple c = true) : ids (n + 1) c = [] := by cases c <;> simp_all [simple, ids]
theorem simple_ren (c : AV) (f) (h : simple c = true) : c.ren f = c := by cases c <;> simp_all [simple]
theorem simple_clo (c : AV) (G n H) (h : simple c = true) : clo G (n + 1) H c = c := by cases c <;> simp_all [simple]
theorem flat_simple (c : AV) (h : flat c = true) : simple c = true := by cases c <;> simp_all [simple, flat]
theorem flat_hasRO (c : AV) (n) (h : flat c = true) : hasRO (n + 1) c = false := by cases c <;> simp_all [flat]

class Simple {α : Type} (e : α → List AV) : Prop where
  all : ∀ a, (e a).all simple = true
class Plain {α : Type} (e : α → List AV) : Prop where
  all : ∀ a, (e a).all flat = true
instance {α : Type} (e : α → List AV) [h : Plain e] : Simple e where
  all a := by
    rw [List.all_eq_true]
    intro c hc
    exact flat_simple c (List.all_eq_true.1 (h.all a) c hc)
instance (k : IntKind) : Plain (eInt k) := ⟨fun a => rfl⟩
instance : Plain eBool := ⟨fun a => rfl⟩
instance : Plain eStr := ⟨fun a => rfl⟩
instance {α : Type} (n : Nat) (en : α → List AV) : Simple (eSl n en) := ⟨fun a => rfl⟩

/-- The elements of a row. -/
def enc {α : Type} (e : α → List AV) (l : List α) : List (List AV) := l.map e

section
variable {α : Type} (e : α → List AV) (l m : List α)
@[simp] theorem enc_length : (enc e l).length = l.length := by simp [enc]
@[simp] theorem enc_nil : enc e [] = [] := rfl
@[simp] theorem enc_eq_nil : enc e l = [] ↔ l = [] := by simp [enc]
@[simp] theorem enc_isEmpty : (enc e l).isEmpty = l.isEmpty := by simp [enc]
@[simp] theorem enc_take (n : Nat) : (enc e l).take n = enc e (l.take n) := by simp [enc]
@[simp] theorem enc_drop (n : Nat) : (enc e l).drop n = enc e (l.drop n) := by simp [enc]
@[simp] theorem enc_append : enc e l ++ enc e m = enc e (l ++ m) := by simp [enc]
@[simp] theorem enc_get (i : Nat) (h : i < (enc e l).length) : (enc e l)[i]'h = e (l[i]'(by simpa using h)) := by simp [enc]
@[simp] theorem enc_get? (i : Nat) : (enc e l)[i]? = (l[i]?).map e := by simp [enc]
@[simp] theorem enc_set (i : Nat) (a : α) : (enc e l).set i (e a) = enc e (l.set i a) := by simp [enc, List.map_set]
@[simp] theorem enc_ids [h : Simple e] (n : Nat) : (enc e l).flatMap (fun x => x.flatMap (ids (n + 1))) = [] := by
  simp only [enc, List.flatMap_eq_nil_iff, List.mem_map]
  rintro x ⟨a, _, rfl⟩ c hc
  exact simple_ids c n (List.all_eq_true.1 (h.all a) c hc)
@[simp] theorem enc_ids3 [h : Simple e] : (enc e l).flatMap (fun x => x.flatMap (ids 503)) = [] := enc_ids e l 502
@[simp] theorem enc_ren [h : Simple e] (f) : (enc e l).map (fun x => x.map (fun c => c.ren f)) = enc e l := by
  simp only [enc, List.map_map]
  refine List.map_congr_left fun a _ => ?_
  exact (List.map_congr_left fun c hc => simple_ren c f (List.all_eq_true.1 (h.all a) c hc)).trans (List.map_id _)
@[simp] theorem enc_clo [h : Simple e] (G n H) : (enc e l).map (fun x => x.map (clo G (n + 1) H)) = enc e l := by
  simp only [enc, List.map_map]
  refine List.map_congr_left fun a _ => ?_
  exact (List.map_congr_left fun c hc => simple_clo c G n H (List.all_eq_true.1 (h.all a) c hc)).trans (List.map_id _)
@[simp] theorem enc_clo3 [h : Simple e] (G H) : (enc e l).map (fun x => x.map (clo G 503 H)) = enc e l := enc_clo e l G 502 H
@[simp] theorem enc_clo2 [h : Simple e] (G H) : (enc e l).map (fun x => x.map (clo G 502 H)) = enc e l := enc_clo e l G 501 H
@[simp] theorem enc_hasRO3 [h : Plain e] : ((enc e l).any fun x => x.any (hasRO 503)) = false := by
  simp only [enc, List.any_map]
  rw [List.any_eq_false]
  intro a _
  simp only [Function.comp, Bool.not_eq_true]
  rw [List.any_eq_false]
  intro c hc
  rw [flat_hasRO c 502 (List.all_eq_true.1 (h.all a) c hc)]
  simp
end
@[simp] theorem enc_simple {α : Type} (e : α → List AV) [h : Simple e] (l : List α) : (enc e l).all (fun x => x.all simple) = true := by
  simp only [enc, List.all_map, List.all_eq_true, Function.comp]
  exact fun a _ => List.all_eq_true.1 (h.all a)
theorem F_cloneE {T : Nat → Option SFun} {g : Nat} {fn : SFun} (hT : T g = some fn) {e sz b : Nat} {α : Type} {en : α → List AV} [Simple en] (hp : fn.prim = some (cloneR e sz b)) {s : Nat} {l : List α} {fl : Bool} (h1 : s = sz ∨ l = []) (h2 : l.length * b ≤ 140737488355328) (h3 : l.length ≤ 140737488355328) :
    F T g [.ro s (enc en l) fl] [] = some (.own 0 0 l.length, [⟨e, sz, false, enc en l, 0⟩]) := by
  have := F_clone hT hp (s := s) (xs := enc en l) (fl := fl) (by simpa using h1) (by simpa using h2) (by simpa using h3) (enc_simple en l)
  simpa using this
@[simp] theorem enc_isByte (l : List Int) : (enc (eInt .u8) l).all isByte = true := all_isByte l
@[simp] theorem enc_flatten (k : IntKind) (l : List Int) : (enc (eInt k) l).flatten = l.map (AV.int k) := by
  induction l with
  | nil => rfl
  | cons a t ih => show AV.int k a :: (enc (eInt k) t).flatten = _; rw [ih]; rfl
@[simp] theorem enc_lensum (k : IntKind) (l : List Int) : ((enc (eInt k) l).map List.length).sum = l.length := by
  induction l with
  | nil => rfl
  | cons a t ih => show 1 + ((enc (eInt k) t).map List.length).sum = _; rw [ih, List.length_cons]; omega
@[simp] theorem take_app {α : Type} (l m : List α) : (l ++ m).take (l.length + m.length) = l ++ m := List.take_of_length_le (by simp)
@[simp] theorem row_one (k : IntKind) (x : Int) : [[AV.int k x]] = enc (eInt k) [x] := rfl

/-- Bytes as a string. -/
def bs (l : List Int) : ByteArray := strOf (enc (eInt .u8) l)
theorem bs_append (l m : List Int) : bs (l ++ m) = bs l ++ bs m := by rw [bs, bs, bs, ← enc_append, strOf_append]
@[simp] theorem bs_size (l : List Int) : (bs l).size = l.length := by rw [bs, strOf_size, enc_length]
@[simp] theorem strOf_enc (l : List Int) : strOf (enc (eInt .u8) l) = bs l := rfl
theorem strOf_one (x : Int) : strOf [[.int .u8 x]] = bs [x] := rfl
theorem bs_nil : bs [] = ByteArray.empty := rfl

/-- The bytes of a string. -/
def sb (s : ByteArray) : List Int := s.data.toList.map fun b => (b.toNat : Int)
theorem bytesRow_eq (s : ByteArray) : bytesRow s = enc (eInt .u8) (sb s) := by simp [bytesRow, enc, sb, eInt]
@[simp] theorem bs_sb (s : ByteArray) : bs (sb s) = s := by rw [bs, ← bytesRow_eq, strOf_bytesRow]
@[simp] theorem sb_length (s : ByteArray) : (sb s).length = s.size := by show (List.map _ _).length = _; rw [List.length_map]; rfl

theorem toList_inj {s t : ByteArray} : s.toList = t.toList ↔ s = t := by
  rw [ByteArray.toList_eq, ByteArray.toList_eq]
  constructor
  · intro h
    exact ByteArray.ext (Array.ext' h)
  · rintro rfl
    rfl
@[simp] theorem toList_beq (s t : ByteArray) : (s.toList == t.toList) = decide (s = t) := by
  rw [Bool.eq_iff_iff]; simp [toList_inj]
@[simp] theorem toList_bne (s t : ByteArray) : (s.toList != t.toList) = !decide (s = t) := by
  rw [Bool.eq_iff_iff]; simp [toList_inj, bne]
theorem eq_empty (s : ByteArray) : s = ⟨⟨[]⟩⟩ ↔ s.size = 0 := by
  constructor
  · rintro rfl; rfl
  · intro h
    apply ByteArray.ext
    exact Array.ext' (List.length_eq_zero_iff.1 h)
@[simp] theorem toList_isEmpty (s : ByteArray) : s.toList.isEmpty = decide (s.size = 0) := by
  rw [ByteArray.toList_eq, Bool.eq_iff_iff, List.isEmpty_iff, decide_eq_true_iff]
  exact (List.length_eq_zero_iff (l := s.data.toList)).symm
@[simp] theorem toList_eq_nil (s : ByteArray) : s.toList = [] ↔ s.size = 0 := by
  rw [ByteArray.toList_eq]
  exact (List.length_eq_zero_iff (l := s.data.toList)).symm
@[simp] theorem bs_eq_empty (l : List Int) : bs l = ⟨⟨[]⟩⟩ ↔ l = [] := by rw [eq_empty, bs_size]; exact List.length_eq_zero_iff

theorem ok_int {k : IntKind} {a : Int} (h : okInt k a) : k.min ≤ a ∧ a ≤ k.max := by
  simp only [okInt, Lit.wf, Bool.and_eq_true, decide_eq_true_eq] at h
  exact h
theorem ok_u8 {l : List Int} (h : okSl (okInt .u8) l) : ∀ a ∈ l, 0 ≤ a ∧ a ≤ 255 := fun a ha => ok_int (h.2 a ha)
theorem ok_i64 {a : Int} (h : okInt .i64 a) : -9223372036854775808 ≤ a ∧ a ≤ 9223372036854775807 := ok_int h
theorem ok_u64 {a : Int} (h : okInt .u64 a) : 0 ≤ a ∧ a ≤ 18446744073709551615 := ok_int h
theorem wrap_i64 (n : Int) (h0 : -9223372036854775808 ≤ n) (h1 : n ≤ 9223372036854775807) : IntKind.i64.wrap n = n := by
  rw [IntKind.wrap_i64]; omega

theorem bs_data (r : List Int) : (bs r).data.toList = r.map fun n => UInt8.ofNat n.toNat := by
  induction r with
  | nil => rfl
  | cons a t ih =>
    rw [show a :: t = [a] ++ t from rfl, bs_append, ByteArray.data_append, Array.toList_append, ih]
    rfl
@[simp] theorem bs_get? (r : List Int) (i : Nat) : (bs r)[i]? = (r[i]?).map fun n => UInt8.ofNat n.toNat := by
  by_cases h : i < r.length
  · have h' : i < (bs r).size := by rw [bs_size]; exact h
    rw [getElem?_pos (bs r) i h', List.getElem?_eq_getElem h]
    show some ((bs r).data[i]) = _
    have := bs_data r
    rw [← Array.getElem_toList]
    simp [this]
  · rw [getElem?_neg (bs r) i (by rw [bs_size]; exact h), List.getElem?_eq_none (by omega)]
    rfl
@[simp] theorem bs_extract (r : List Int) (i j : Nat) : (bs r).extract i j = bs ((r.take j).drop i) := by
  apply ByteArray.ext
  apply Array.toList_inj.1
  rw [bs_data]
  simp [ByteArray.data_extract, bs_data, List.map_take, List.map_drop, List.drop_take]

end Go.Proofs.Ytjpccbjgmogclaa.Lift
