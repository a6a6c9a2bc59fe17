/- A reading of the program's code by values alone: what a value says of the memory. -/
import Derived.Test.YtjpccbjgmogclaaLiftB
set_option linter.unusedSimpArgs false
set_option linter.all false
namespace Go.Proofs.Ytjpccbjgmogclaa.Lift
open Go Go.RowKit

/-- Where an object lies: its block, the cells of an element, how many elements are known, how many there is room for. -/
structure MI where
  b : Nat
  sz : Nat
  n : Nat
  cap : Nat
  t : TypeId
  box : Bool
  ver : Nat
  o : Nat

abbrev Mu := Nat → Option MI
def mu0 : Mu := fun _ => none

inductive Rep (w : World) (X : Nat → Prop) : Mu → AV → Value → Prop
  | top {μ : Mu} (v : Value) : Rep w X μ .top v
  | bool {μ : Mu} (b : Bool) : Rep w X μ (.bool b) (.bool b)
  | int {μ : Mu} (k : IntKind) (n : Int) : Rep w X μ (.int k n) (.int k n)
  | str {μ : Mu} (s : ByteArray) : Rep w X μ (.str s) (.string s)
  | agg {μ : Mu} {cs : List AV} {vs : Array Value} (hl : cs.length = vs.size) (h : ∀ (j : Nat) (c : AV) (v : Value), cs[j]? = some c → vs[j]? = some v → Rep w X μ c v) : Rep w X μ (.agg cs) (.agg vs)
  | tup {μ : Mu} {cs : List AV} {vs : Array Value} (hl : cs.length = vs.size) (h : ∀ (j : Nat) (c : AV) (v : Value), cs[j]? = some c → vs[j]? = some v → Rep w X μ c v) : Rep w X μ (.tup cs) (.tuple vs)
  | nilP {μ : Mu} : Rep w X μ .nilP (.pointer none)
  | nilS {μ : Mu} {c : Nat} : Rep w X μ .nilS (.slice none 0 c)
  | emp {μ : Mu} {ad : Addr} {c : Nat} : Rep w X μ .emp (.slice (some ad) 0 c)
  | nilF {μ : Mu} : Rep w X μ .nilF .nilFunc
  | nilI {μ : Mu} : Rep w X μ .nilI .nilIface
  | ref {μ : Mu} {id : Nat} {m : MI} (h : μ id = some m) (idx off : Nat) : Rep w X μ (.ref id idx off) (.pointer (some ⟨m.b, (idx + m.o) * m.sz + off, none⟩))
  | rref {μ : Mu} {cs : List AV} {ad : Addr} (vs : Nat → Value) (hX : ¬ X ad.block) (hlt : ad.block < w.heap.size)
      (hv : ∀ (j : Nat) (c : AV), cs[j]? = some c → w.cell? (ad.add j) = some (vs j)) (ho : ∀ (j : Nat) (c : AV), cs[j]? = some c → (vs j).oneCell' = true)
      (hr : ∀ (j : Nat) (c : AV), cs[j]? = some c → Rep w X mu0 c (vs j)) : Rep w X μ (.rref cs) (.pointer (some ad))
  | roE {μ : Mu} {sz : Nat} {full : Bool} {A : Option Addr} {c : Nat} (h : full = true → c = 0) : Rep w X μ (.ro sz [] full) (.slice A 0 c)
  | ro {μ : Mu} {sz : Nat} {xs : List (List AV)} {full : Bool} {ad : Addr} {n cap : Nat} (vs : Nat → Nat → Value) (hn : n = xs.length) (hX : ¬ X ad.block) (hlt : ad.block < w.heap.size) (hc : n ≤ cap) (hf : full = true → cap = n)
      (hz : ∀ x ∈ xs, x.length = sz) (hv : ∀ (i : Nat) (x : List AV) (j : Nat) (c : AV), xs[i]? = some x → x[j]? = some c → w.cell? (ad.add (i * sz + j)) = some (vs i j))
      (ho : ∀ (i : Nat) (x : List AV) (j : Nat) (c : AV), xs[i]? = some x → x[j]? = some c → (vs i j).oneCell' = true)
      (hr : ∀ (i : Nat) (x : List AV) (j : Nat) (c : AV), xs[i]? = some x → x[j]? = some c → Rep w X mu0 c (vs i j)) : Rep w X μ (.ro sz xs full) (.slice (some ad) n cap)
  | own {μ : Mu} {id : Nat} {m : MI} {lo len off cap : Nat} (h : μ id = some m) (hb : m.box = false) (hn : lo + len ≤ m.n) (hc : cap = m.cap - lo) (ho : off = (lo + m.o) * m.sz ∨ cap = 0) : Rep w X μ (.own id lo len) (.slice (some ⟨m.b, off, none⟩) len cap)
  | own0 {μ : Mu} {id lo : Nat} {A : Option Addr} : Rep w X μ (.own id lo 0) (.slice A 0 0)
  | rl {μ : Mu} {id lo off cap : Nat} {m : MI} (h : μ id = some m) (hb : m.box = false) (hn : lo ≤ m.n) (hc : cap = m.cap - lo) (ho : off = (lo + m.o) * m.sz) : Rep w X μ (.rl id lo) (.slice (some ⟨m.b, off, none⟩) 0 cap)
  | fn {μ : Mu} {f : Fn} {as bs : List AV} {us vs : Array Value} (hl : as.length = us.size) (hm : bs.length = vs.size) (h : ∀ (j : Nat) (c : AV) (v : Value), as[j]? = some c → us[j]? = some v → Rep w X μ c v)
      (h' : ∀ (j : Nat) (c : AV) (v : Value), bs[j]? = some c → vs[j]? = some v → Rep w X μ c v) : Rep w X μ (.fn f as bs) (.func f us vs)
  | ifc {μ : Mu} {t : TypeId} {a : AV} {v : Value} (h : Rep w X μ a v) : Rep w X μ (.ifc t a) (.iface t v)

variable {w : World} {X : Nat → Prop} {μ : Mu}

theorem cell_keep {w w' : World} {a : Addr} {v : Value} (h : w.cell? a = some v) (hb : w'.heap[a.block]? = w.heap[a.block]?) : w'.cell? a = some v :=
  (World.cell?_of_block (w := w) hb).trans h

theorem add_block (a : Addr) (n : Nat) : (a.add n).block = a.block := by unfold Addr.add; split <;> rfl

theorem add_add (a : Addr) (m n : Nat) : (a.add m).add n = a.add (m + n) := by
  unfold Addr.add
  by_cases h1 : m = 0 <;> by_cases h2 : n = 0 <;> simp [h1, h2, Nat.add_assoc]

theorem add_none (b o n : Nat) : (⟨b, o, none⟩ : Addr).add n = ⟨b, o + n, none⟩ := by
  unfold Addr.add
  split
  · subst_vars; rfl
  · rfl

/-- What holds of a value holds in a world in which the memory that is only read stands as it did. -/
theorem Rep.move {a : AV} {v : Value} (h : Rep w X μ a v) : ∀ {w' : World} {X' : Nat → Prop} {μ' : Mu}, w.heap.size ≤ w'.heap.size → (∀ b, b < w.heap.size → ¬ X b → w'.heap[b]? = w.heap[b]?) →
    (∀ b, b < w.heap.size → X' b → X b) → (∀ id m, μ id = some m → μ' id = some m) → Rep w' X' μ' a v := by
  induction h with
  | top v => intros; exact .top v
  | bool b => intros; exact .bool b
  | int k n => intros; exact .int k n
  | str s => intros; exact .str s
  | agg hl h ih => intro w' X' μ' h1 h2 h3 h4; exact .agg hl fun j c v hc hv => ih j c v hc hv h1 h2 h3 h4
  | tup hl h ih => intro w' X' μ' h1 h2 h3 h4; exact .tup hl fun j c v hc hv => ih j c v hc hv h1 h2 h3 h4
  | nilP => intros; exact .nilP
  | nilS => intros; exact .nilS
  | emp => intros; exact .emp
  | nilF => intros; exact .nilF
  | nilI => intros; exact .nilI
  | ref h i o => intro w' X' μ' h1 h2 h3 h4; exact .ref (h4 _ _ h) i o
  | rref vs hX hlt hv ho hr ih =>
    intro w' X' μ' h1 h2 h3 h4
    exact .rref vs (fun hx => hX (h3 _ hlt hx)) (Nat.lt_of_lt_of_le hlt h1) (fun j c hc => cell_keep (hv j c hc) (by rw [add_block]; exact h2 _ hlt hX)) ho (fun j c hc => ih j c hc h1 h2 h3 (fun _ _ e => e))
  | roE h => intros; exact .roE h
  | ro vs hn hX hlt hc hf hz hv ho hr ih =>
    intro w' X' μ' h1 h2 h3 h4
    exact .ro vs hn (fun hx => hX (h3 _ hlt hx)) (Nat.lt_of_lt_of_le hlt h1) hc hf hz (fun i x j c hi hj => cell_keep (hv i x j c hi hj) (by rw [add_block]; exact h2 _ hlt hX)) ho (fun i x j c hi hj => ih i x j c hi hj h1 h2 h3 (fun _ _ e => e))
  | own h hb hn hc ho => intro w' X' μ' h1 h2 h3 h4; exact .own (h4 _ _ h) hb hn hc ho
  | own0 => intros; exact .own0
  | rl h hb hn hc ho => intro w' X' μ' h1 h2 h3 h4; exact .rl (h4 _ _ h) hb hn hc ho
  | fn hl hm h h' ih ih' => intro w' X' μ' h1 h2 h3 h4; exact .fn hl hm (fun j c v hc hv => ih j c v hc hv h1 h2 h3 h4) (fun j c v hc hv => ih' j c v hc hv h1 h2 h3 h4)
  | ifc h ih => intro w' X' μ' h1 h2 h3 h4; exact .ifc (ih h1 h2 h3 h4)

theorem Rep.ren {a : AV} {v : Value} (h : Rep w X μ a v) : ∀ {μ' : Mu} {f : Nat → Option Nat}, (∀ i j m, f i = some j → μ i = some m → μ' j = some m) → Rep w X μ' (a.ren f) v := by
  induction h with
  | top v => intros; simp only [AV.ren, renL_eq]; exact .top v
  | bool b => intros; simp only [AV.ren, renL_eq]; exact .bool b
  | int k n => intros; simp only [AV.ren, renL_eq]; exact .int k n
  | str s => intros; simp only [AV.ren, renL_eq]; exact .str s
  | agg hl h ih =>
    intro μ' f hf; simp only [AV.ren, renL_eq]
    refine .agg (by simpa using hl) fun j c v hc hv => ?_
    rw [List.getElem?_map] at hc
    obtain ⟨c0, hc0, rfl⟩ := Option.map_eq_some_iff.1 hc
    exact ih j c0 v hc0 hv hf
  | tup hl h ih =>
    intro μ' f hf; simp only [AV.ren, renL_eq]
    refine .tup (by simpa using hl) fun j c v hc hv => ?_
    rw [List.getElem?_map] at hc
    obtain ⟨c0, hc0, rfl⟩ := Option.map_eq_some_iff.1 hc
    exact ih j c0 v hc0 hv hf
  | nilP => intros; simp only [AV.ren, renL_eq]; exact .nilP
  | nilS => intros; simp only [AV.ren, renL_eq]; exact .nilS
  | emp => intros; simp only [AV.ren, renL_eq]; exact .emp
  | nilF => intros; simp only [AV.ren, renL_eq]; exact .nilF
  | nilI => intros; simp only [AV.ren, renL_eq]; exact .nilI
  | @ref μ id m h i o =>
    intro μ' f hf; simp only [AV.ren, renL_eq]
    cases hj : f id with
    | none => exact .top _
    | some j => exact .ref (hf _ _ _ hj h) i o
  | rref vs hX hlt hv ho hr ih => intros; simp only [AV.ren, renL_eq]; exact .rref vs hX hlt hv ho hr
  | roE h => intros; simp only [AV.ren, renL_eq]; exact .roE h
  | ro vs hn hX hlt hc hf hz hv ho hr ih => intros; simp only [AV.ren, renL_eq]; exact .ro vs hn hX hlt hc hf hz hv ho hr
  | @own μ id m lo len off cap h hb hn hc ho =>
    intro μ' f hf; simp only [AV.ren, renL_eq]
    cases hj : f id with
    | none => exact .top _
    | some j => exact .own (hf _ _ _ hj h) hb hn hc ho
  | @own0 μ id lo A =>
    intro μ' f hf; simp only [AV.ren, renL_eq]
    cases hj : f id with
    | none => exact .top _
    | some j => exact .own0
  | @rl μ id lo off cap m h hb hn hc ho =>
    intro μ' f hf; simp only [AV.ren, renL_eq]
    cases hj : f id with
    | none => exact .top _
    | some j => exact .rl (hf _ _ _ hj h) hb hn hc ho
  | fn hl hm h h' ih ih' =>
    intro μ' f hf; simp only [AV.ren, renL_eq]
    refine .fn (by simpa using hl) (by simpa using hm) (fun j c v hc hv => ?_) (fun j c v hc hv => ?_)
    · rw [List.getElem?_map] at hc
      obtain ⟨c0, hc0, rfl⟩ := Option.map_eq_some_iff.1 hc
      exact ih j c0 v hc0 hv hf
    · rw [List.getElem?_map] at hc
      obtain ⟨c0, hc0, rfl⟩ := Option.map_eq_some_iff.1 hc
      exact ih' j c0 v hc0 hv hf
  | ifc h ih => intro μ' f hf; simp only [AV.ren, renL_eq]; exact .ifc (ih hf)

theorem flatMap_nil {α β : Type} {l : List α} {f : α → List β} (h : l.flatMap f = []) {j : Nat} {c : α} (hc : l[j]? = some c) : f c = [] := by
  rw [List.flatMap_eq_nil_iff] at h
  exact h c (List.mem_of_getElem? hc)

/-- A value that leads to nothing of the call's own. -/
theorem Rep.noIds {a : AV} {v : Value} (h : Rep w X μ a v) : ∀ {μ' : Mu} {n : Nat}, ids n a = [] → Rep w X μ' a v := by
  induction h with
  | top v => intros; exact .top v
  | bool b => intros; exact .bool b
  | int k n => intros; exact .int k n
  | str s => intros; exact .str s
  | agg hl h ih =>
    intro μ' n hn
    cases n with
    | zero => simp [ids] at hn
    | succ n => simp only [ids] at hn; exact .agg hl fun j c v hc hv => ih j c v hc hv (flatMap_nil hn hc)
  | tup hl h ih =>
    intro μ' n hn
    cases n with
    | zero => simp [ids] at hn
    | succ n => simp only [ids] at hn; exact .tup hl fun j c v hc hv => ih j c v hc hv (flatMap_nil hn hc)
  | nilP => intros; exact .nilP
  | nilS => intros; exact .nilS
  | emp => intros; exact .emp
  | nilF => intros; exact .nilF
  | nilI => intros; exact .nilI
  | ref h i o => intro μ' n hn; cases n <;> simp [ids] at hn
  | rref vs hX hlt hv ho hr ih => intros; exact .rref vs hX hlt hv ho hr
  | roE h => intros; exact .roE h
  | ro vs hn hX hlt hc hf hz hv ho hr ih => intros; exact .ro vs hn hX hlt hc hf hz hv ho hr
  | own h hb hn hc ho => intro μ' n hn; cases n <;> simp [ids] at hn
  | own0 => intro μ' n hn; cases n <;> simp [ids] at hn
  | rl h hb hn hc ho => intro μ' n hn; cases n <;> simp [ids] at hn
  | fn hl hm h h' ih ih' =>
    intro μ' n hn
    cases n with
    | zero => simp [ids] at hn
    | succ n =>
      simp only [ids, List.append_eq_nil_iff] at hn
      exact .fn hl hm (fun j c v hc hv => ih j c v hc hv (flatMap_nil hn.1 hc)) (fun j c v hc hv => ih' j c v hc hv (flatMap_nil hn.2 hc))
  | ifc h ih =>
    intro μ' n hn
    cases n with
    | zero => simp [ids] at hn
    | succ n => simp only [ids] at hn; exact .ifc (ih hn)

theorem any_false {α : Type} {l : List α} {f : α → Bool} (h : l.any f = false) {j : Nat} {c : α} (hc : l[j]? = some c) : f c = false := by
  rw [List.any_eq_false] at h
  have := h c (List.mem_of_getElem? hc)
  simpa using this

/-- A value that leads to nothing that is only read. -/
theorem Rep.noRO {a : AV} {v : Value} (h : Rep w X μ a v) : ∀ {X' : Nat → Prop} {n : Nat}, hasRO n a = false → Rep w X' μ a v := by
  induction h with
  | top v => intros; exact .top v
  | bool b => intros; exact .bool b
  | int k n => intros; exact .int k n
  | str s => intros; exact .str s
  | agg hl h ih =>
    intro X' n hn
    cases n with
    | zero => simp [hasRO] at hn
    | succ n => simp only [hasRO] at hn; exact .agg hl fun j c v hc hv => ih j c v hc hv (any_false hn hc)
  | tup hl h ih =>
    intro X' n hn
    cases n with
    | zero => simp [hasRO] at hn
    | succ n => simp only [hasRO] at hn; exact .tup hl fun j c v hc hv => ih j c v hc hv (any_false hn hc)
  | nilP => intros; exact .nilP
  | nilS => intros; exact .nilS
  | emp => intros; exact .emp
  | nilF => intros; exact .nilF
  | nilI => intros; exact .nilI
  | ref h i o => intros; exact .ref h i o
  | rref vs hX hlt hv ho hr ih => intro X' n hn; cases n <;> simp [hasRO] at hn
  | roE h => intros; exact .roE h
  | @ro μ sz xs full ad n0 cap vs hn hX hlt hc hf hz hv ho hr ih =>
    intro X' n hh
    cases n with
    | zero => simp [hasRO] at hh
    | succ n =>
      simp only [hasRO, Bool.not_eq_eq_eq_not, Bool.not_false, List.isEmpty_iff] at hh
      subst hh
      subst hn
      exact .roE (fun h => hf h)
  | own h hb hn hc ho => intros; exact .own h hb hn hc ho
  | own0 => intros; exact .own0
  | rl h hb hn hc ho => intros; exact .rl h hb hn hc ho
  | fn hl hm h h' ih ih' =>
    intro X' n hn
    cases n with
    | zero => simp [hasRO] at hn
    | succ n =>
      simp only [hasRO, Bool.or_eq_false_iff] at hn
      exact .fn hl hm (fun j c v hc hv => ih j c v hc hv (any_false hn.1 hc)) (fun j c v hc hv => ih' j c v hc hv (any_false hn.2 hc))
  | ifc h ih =>
    intro X' n hn
    cases n with
    | zero => simp [hasRO] at hn
    | succ n => simp only [hasRO] at hn; exact .ifc (ih hn)

/-- A block of variables of which none is frozen. -/
def Blk (w : World) (b : Nat) (t : TypeId) (c : Array Value) : Prop := ∃ fr : Nat × Nat, w.heap[b]? = some (.cells c t fr) ∧ ∀ j, j < c.size → ¬ (fr.1 ≤ j ∧ j < fr.2)

theorem Blk.of {b : Nat} {t : TypeId} {c : Array Value} (h : w.heap[b]? = some (.cells c t)) : Blk w b t c := ⟨_, h, fun _ _ e => by have := e.2; simp at this⟩

theorem Blk.eq {w' : World} {b : Nat} {t : TypeId} {c : Array Value} (h : Blk w b t c) (e : w'.heap[b]? = w.heap[b]?) : Blk w' b t c := let ⟨fr, h1, h2⟩ := h; ⟨fr, e.trans h1, h2⟩

theorem Blk.lt {b : Nat} {t : TypeId} {c : Array Value} (h : Blk w b t c) : b < w.heap.size := let ⟨_, h1, _⟩ := h; (Array.getElem?_eq_some_iff.1 h1).1

theorem Blk.cell {b : Nat} {t : TypeId} {c : Array Value} (h : Blk w b t c) (j : Nat) : w.cell? ⟨b, j, none⟩ = c[j]? := let ⟨fr, h1, _⟩ := h; cell_of_row w b j c t fr h1

theorem Blk.uniq {b : Nat} {t t' : TypeId} {c c' : Array Value} (h : Blk w b t c) (h' : Blk w b t' c') : c = c' := by
  obtain ⟨_, h1, _⟩ := h
  obtain ⟨_, h2, _⟩ := h'
  rw [h1] at h2; cases h2; rfl

theorem Blk.set {b : Nat} {t : TypeId} {c cs : Array Value} (h : Blk w b t c) (hs : cs.size = c.size) : Blk (w.setRow b cs) b t cs := by
  obtain ⟨fr, h1, h2⟩ := h
  exact ⟨fr, setRow_heap w b c cs t fr h1, by rw [hs]; exact h2⟩

theorem seg_size {c : Array Value} {p : Nat} {us : List Value} (hf : p + us.length ≤ c.size) : (c.toList.take p ++ us ++ c.toList.drop (p + us.length)).toArray.size = c.size := by
  simp only [List.size_toArray, List.length_append, List.length_take, List.length_drop, Array.length_toList]; omega

theorem Blk.setSeg {b : Nat} {t : TypeId} {c : Array Value} (h : Blk w b t c) {p : Nat} {us : List Value} (hf : p + us.length ≤ c.size) :
    Blk (w.setRow b (c.toList.take p ++ us ++ c.toList.drop (p + us.length)).toArray) b t (c.toList.take p ++ us ++ c.toList.drop (p + us.length)).toArray := h.set (seg_size hf)

theorem Blk.self {b : Nat} {t : TypeId} {c : Array Value} (h : Blk w b t c) : w.setRow b c = w := let ⟨fr, h1, _⟩ := h; setRow_self w b c t fr h1

theorem Blk.wr (P : Program) {b : Nat} {t : TypeId} (o : Nat) : ∀ (vs : List Value) (i : Nat) (cur : Array Value) (w : World), Blk w b t cur → o + i + vs.length ≤ cur.size → (∀ v ∈ vs, v.oneCell' = true) →
    (storeCells ⟨b, o, none⟩ vs i).run P w = .ok () (w.setRow b (cur.toList.take (o + i) ++ vs ++ cur.toList.drop (o + i + vs.length)).toArray)
  | [], i, cur, w, hg, _, _ => by
    simp only [storeCells, List.append_nil, List.length_nil, Nat.add_zero, List.take_append_drop, Array.toArray_toList]
    rw [hg.self]
    rfl
  | v :: rest, i, cur, w, hg, hl, h1 => by
    have hi : o + i < cur.size := by simp at hl; omega
    have hadd : (⟨b, o, none⟩ : Addr).add i = ⟨b, o + i, none⟩ := by unfold Addr.add; split <;> simp_all
    obtain ⟨fr, hb, hfr⟩ := id hg
    have hcell : w.cell? ⟨b, o + i, none⟩ = some cur[o + i] := by simp [World.cell?, hb, hi]
    have hfro : w.frozen? ⟨b, o + i, none⟩ = false := by simp [World.frozen?, hb]; have := hfr _ hi; omega
    have hst : (store ((⟨b, o, none⟩ : Addr).add i) v).run P w = .ok () (w.setRow b (cur.setIfInBounds (o + i) v)) := by
      rw [hadd, run_store P w _ v _ (h1 v (by simp)), hcell]
      simp [hfro, setCell_eq_setRow w b (o + i) cur t fr v hb]
    have ih := Blk.wr P o rest (i + 1) (cur.setIfInBounds (o + i) v) (w.setRow b (cur.setIfInBounds (o + i) v)) (hg.set (by simp)) (by simp at hl ⊢; omega) (fun x hx => h1 x (by simp [hx]))
    simp only [storeCells, Sem.run_bind, hst, Result.andThen_ok, ih, setRow_setRow]
    congr 3
    have e := list_seg_step cur.toList (o + i) v rest (by simp at hl ⊢; omega)
    simpa [Array.toList_setIfInBounds, Nat.add_assoc] using e

/-- What is told of an object. -/
structure HObj (w : World) (X : Nat → Prop) (μ : Mu) (o : AObj) (m : MI) : Prop where
  t : o.t = m.t
  sz : o.sz = m.sz
  box : o.box = m.box
  ver : o.ver = m.ver
  n : o.elems.length = m.n
  nc : m.n ≤ m.cap
  cm : m.cap + m.o ≤ maxLen
  pos : m.box = false → 0 < m.sz
  c : ∃ c, Blk w m.b m.t c ∧ c.size = (m.cap + m.o) * m.sz ∧
    ∀ i x, o.elems[i]? = some x → x.length = m.sz ∧ ∀ j y, x[j]? = some y → ∃ v, c[(i + m.o) * m.sz + j]? = some v ∧ v.oneCell' = true ∧ Rep w X μ y v

theorem HObj.move {o : AObj} {m : MI} (h : HObj w X μ o m) {w' : World} {X' : Nat → Prop} {μ' : Mu} (h1 : w.heap.size ≤ w'.heap.size) (h2 : ∀ b, b < w.heap.size → ¬ X b → w'.heap[b]? = w.heap[b]?)
    (h3 : ∀ b, b < w.heap.size → X' b → X b) (h4 : ∀ id m, μ id = some m → μ' id = some m) (hb : w'.heap[m.b]? = w.heap[m.b]?) : HObj w' X' μ' o m := by
  obtain ⟨c, hc, hs, hx⟩ := h.c
  exact ⟨h.t, h.sz, h.box, h.ver, h.n, h.nc, h.cm, h.pos, c, hc.eq hb, hs, fun i x hi => ⟨(hx i x hi).1, fun j y hj => let ⟨v, a, b, r⟩ := (hx i x hi).2 j y hj; ⟨v, a, b, r.move h1 h2 h3 h4⟩⟩⟩

/-- An object's cells under other values. -/
theorem HObj.re {o : AObj} {m : MI} (h : HObj w X μ o m) {w' : World} {X' : Nat → Prop} {μ' : Mu} {g : AV → AV} (hg : ∀ y u, Rep w X μ y u → Rep w' X' μ' (g y) u) (hb : w'.heap[m.b]? = w.heap[m.b]?) :
    HObj w' X' μ' { o with elems := o.elems.map fun x => x.map g } m := by
  obtain ⟨c, hc, hs, hxx⟩ := h.c
  refine ⟨h.t, h.sz, h.box, h.ver, by simp only [List.length_map]; exact h.n, h.nc, h.cm, h.pos, c, hc.eq hb, hs, fun i x hi => ?_⟩
  simp only [] at hi
  rw [List.getElem?_map] at hi
  obtain ⟨x0, hx0, rfl⟩ := Option.map_eq_some_iff.1 hi
  obtain ⟨q1, q2⟩ := hxx i x0 hx0
  refine ⟨by simpa using q1, fun j y hy => ?_⟩
  rw [List.getElem?_map] at hy
  obtain ⟨y0, hy0, rfl⟩ := Option.map_eq_some_iff.1 hy
  obtain ⟨u, hu, q3, q4⟩ := q2 j y0 hy0
  exact ⟨u, hu, q3, hg y0 u q4⟩

/-- An object without its history. -/
theorem HObj.young {o : AObj} {m : MI} (h : HObj w X μ o m) : HObj w X μ { o with ver := 0 } { m with ver := 0 } := by
  obtain ⟨c, hc, hs, hxx⟩ := h.c
  exact ⟨h.t, h.sz, h.box, rfl, h.n, h.nc, h.cm, h.pos, c, hc, hs, hxx⟩

theorem HObj.lt {o : AObj} {m : MI} (h : HObj w X μ o m) : m.b < w.heap.size := by
  obtain ⟨c, hc, _⟩ := h.c
  exact hc.lt

/-- Where all objects lie. -/
structure Holds (w : World) (X : Nat → Prop) (μ : Mu) (H : Heap) : Prop where
  x : ∀ id m, μ id = some m → X m.b
  h : ∀ id m, μ id = some m → ∃ o, lk H id = some o ∧ HObj w X μ o m
  inj : ∀ i j mi mj, μ i = some mi → μ j = some mj → mi.b = mj.b → i = j
  lt : ∀ b, X b → b < w.heap.size

/-- A step that turns nothing that was there. -/
structure Ext (w : World) (X : Nat → Prop) (μ : Mu) (w' : World) (X' : Nat → Prop) (μ' : Mu) : Prop where
  os : w'.os = w.os
  tape : w'.tape = w.tape
  output : w'.output = w.output
  size : w.heap.size ≤ w'.heap.size
  heap : ∀ b, b < w.heap.size → w'.heap[b]? = w.heap[b]?
  x1 : ∀ b, X b → X' b
  x2 : ∀ b, b < w.heap.size → X' b → X b
  lt : ∀ b, X' b → X b ∨ b < w'.heap.size
  mu : ∀ id m, μ id = some m → μ' id = some m
  new : ∀ id m, μ' id = some m → μ id = some m ∨ w.heap.size ≤ m.b

theorem Ext.refl : Ext w X μ w X μ := ⟨rfl, rfl, rfl, Nat.le_refl _, fun _ _ => rfl, fun _ h => h, fun _ _ h => h, fun _ h => .inl h, fun _ _ h => h, fun _ _ h => .inl h⟩

theorem Ext.drew : Ext w X μ w.drew X μ := ⟨rfl, rfl, rfl, Nat.le_refl _, fun _ _ => rfl, fun _ h => h, fun _ _ h => h, fun _ h => .inl h, fun _ _ h => h, fun _ _ h => .inl h⟩

theorem Ext.rep {w' : World} {X' : Nat → Prop} {μ' : Mu} (e : Ext w X μ w' X' μ') {a : AV} {v : Value} (h : Rep w X μ a v) : Rep w' X' μ' a v :=
  h.move e.size (fun b hb _ => e.heap b hb) e.x2 e.mu

theorem Ext.obj {w' : World} {X' : Nat → Prop} {μ' : Mu} (e : Ext w X μ w' X' μ') {o : AObj} {m : MI} (h : HObj w X μ o m) : HObj w' X' μ' o m :=
  h.move e.size (fun b hb _ => e.heap b hb) e.x2 e.mu (e.heap _ h.lt)

/-- A call, or a stretch of one: only what came with it may have turned. -/
structure Fr (w : World) (X : Nat → Prop) (μ : Mu) (w' : World) (X' : Nat → Prop) (μ' : Mu) : Prop where
  os : w'.os = w.os
  tape : w'.tape = w.tape
  output : w'.output = w.output
  size : w.heap.size ≤ w'.heap.size
  heap : ∀ b, b < w.heap.size → (∀ id m, μ id = some m → m.b ≠ b) → w'.heap[b]? = w.heap[b]?
  x1 : ∀ b, b < w.heap.size → X b → X' b
  x2 : ∀ b, b < w.heap.size → X' b → X b
  pin : ∀ id m, μ id = some m → ∃ m', μ' id = some m' ∧ m.ver ≤ m'.ver ∧ (m'.ver = m.ver → m' = m)
  new : ∀ id m, μ' id = some m → w.heap.size ≤ m.b ∨ ∃ m0, μ id = some m0 ∧ m0.b = m.b

theorem Fr.refl : Fr w X μ w X μ := ⟨rfl, rfl, rfl, Nat.le_refl _, fun _ _ _ => rfl, fun _ _ h => h, fun _ _ h => h, fun _ m h => ⟨m, h, Nat.le_refl _, fun _ => rfl⟩, fun id m h => .inr ⟨m, h, rfl⟩⟩

theorem Fr.ext {w1 w2 : World} {X1 X2 : Nat → Prop} {μ1 μ2 : Mu} (h : Fr w X μ w1 X1 μ1) (e : Ext w1 X1 μ1 w2 X2 μ2) : Fr w X μ w2 X2 μ2 :=
  ⟨e.os.trans h.os, e.tape.trans h.tape, e.output.trans h.output, Nat.le_trans h.size e.size, fun b hb hn => (e.heap b (Nat.lt_of_lt_of_le hb h.size)).trans (h.heap b hb hn),
   fun b hb hx => e.x1 b (h.x1 b hb hx), fun b hb hx => h.x2 b hb (e.x2 b (Nat.lt_of_lt_of_le hb h.size) hx), fun id m hm => let ⟨m', h1, h2⟩ := h.pin id m hm; ⟨m', e.mu id m' h1, h2⟩,
   fun id m hm => (e.new id m hm).elim (h.new id m) (fun hs => .inl (Nat.le_trans h.size hs))⟩

/-- A stretch of a call over which nothing came with it but what stands in 'μ'. -/
theorem Fr.trans {w1 w2 : World} {X1 X2 : Nat → Prop} {μ1 μ2 : Mu} (h : Fr w X μ w1 X1 μ1) (e : Fr w1 X1 μ1 w2 X2 μ2) : Fr w X μ w2 X2 μ2 :=
  ⟨e.os.trans h.os, e.tape.trans h.tape, e.output.trans h.output, Nat.le_trans h.size e.size,
   fun b hb hn => (e.heap b (Nat.lt_of_lt_of_le hb h.size) (fun id m hm he => (h.new id m hm).elim (fun hs => by omega) (fun ⟨m0, h0, h1⟩ => hn id m0 h0 (h1.trans he)))).trans (h.heap b hb hn),
   fun b hb hx => e.x1 b (Nat.lt_of_lt_of_le hb h.size) (h.x1 b hb hx), fun b hb hx => h.x2 b hb (e.x2 b (Nat.lt_of_lt_of_le hb h.size) hx), fun id m hm => let ⟨m1, h1, h2, h3⟩ := h.pin id m hm; let ⟨m2, k1, k2, k3⟩ := e.pin id m1 h1; ⟨m2, k1, Nat.le_trans h2 k2, fun q => by
     have q1 : m1.ver = m.ver := by omega
     have q2 : m2.ver = m1.ver := by omega
     rw [k3 q2, h3 q1]⟩,
   fun id m hm => (e.new id m hm).elim (fun hs => .inl (Nat.le_trans h.size hs)) (fun ⟨m0, h0, h1⟩ => (h.new id m0 h0).elim (fun hs => .inl (h1 ▸ hs)) (fun ⟨m2, h2, h3⟩ => .inr ⟨m2, h2, h3.trans h1⟩))⟩

/-- What holds from the call's begin, holds further: for whatever came with the call (numbers below 'k'). -/
def FrK (k : Nat) (w : World) (X : Nat → Prop) (μ : Mu) (w' : World) (X' : Nat → Prop) (μ' : Mu) : Prop :=
  ∀ w0 X0 μ0, (∀ id, μ0 id ≠ none → id < k) → Fr w0 X0 μ0 w X μ → Fr w0 X0 μ0 w' X' μ'

theorem FrK.refl {k : Nat} : FrK k w X μ w X μ := fun _ _ _ _ h => h
theorem FrK.trans {k : Nat} {w1 w2 : World} {X1 X2 : Nat → Prop} {μ1 μ2 : Mu} (h : FrK k w X μ w1 X1 μ1) (e : FrK k w1 X1 μ1 w2 X2 μ2) : FrK k w X μ w2 X2 μ2 := fun w0 X0 μ0 hd hf => e w0 X0 μ0 hd (h w0 X0 μ0 hd hf)
theorem Fr.toK {k : Nat} {w1 : World} {X1 : Nat → Prop} {μ1 : Mu} (h : Fr w X μ w1 X1 μ1) : FrK k w X μ w1 X1 μ1 := fun _ _ _ _ hf => hf.trans h
theorem Ext.toK {k : Nat} {w1 : World} {X1 : Nat → Prop} {μ1 : Mu} (h : Ext w X μ w1 X1 μ1) : FrK k w X μ w1 X1 μ1 := fun _ _ _ _ hf => hf.ext h

end Go.Proofs.Ytjpccbjgmogclaa.Lift
