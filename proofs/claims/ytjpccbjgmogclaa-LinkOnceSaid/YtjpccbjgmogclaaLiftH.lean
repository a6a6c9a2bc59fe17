/- A reading of the program's code by values alone: rows that are made of others; cuts. -/
import Derived.Test.YtjpccbjgmogclaaLiftG
import Derived.Laws.Slices
set_option linter.all false
set_option linter.unusedSimpArgs false
namespace Go.Proofs.Ytjpccbjgmogclaa.Lift
open Go Go.RowKit

variable {P : Program} {w : World} {X : Nat → Prop} {μ : Mu} {o : Oper} {a : Act} {σ : List AV} {H : Heap} {base : Nat} {v : AV} {adds : List AObj}

theorem Flat.first {sz : Nat} {v : Value} {xs : List (List AV)} {us : List Value} {A : Option Addr} {c : Nat} (h : Flat w X μ sz v xs us A c) (w' : World) (hw : w'.heap = w.heap) : (Builtin.firstCells sz xs.length v).run P w' = .ok us.toArray w' := by
  rw [h.v]
  cases A with
  | none =>
    have := h.nil rfl
    subst this
    have hu : us = [] := List.eq_nil_of_length_eq_zero (by have := h.l.len; simpa using this)
    subst hu
    simp [Builtin.firstCells]
  | some ad => exact run_firstCells_some w' sz xs.length ad xs.length c us h.l.len (fun j u hj => (by
      have := h.cell ad rfl j u hj
      unfold World.cell? at this ⊢
      rw [hw]; exact this))

/-- An append that makes a new row. -/
theorem run_append_new {t u ty e : TypeId} {i : TypeInfo} {z : Value} (ht : P.underlying t = some (.slice e)) {du : TypeDesc} (hu : P.underlying u = some du) (hdu : (∃ q, du = .slice q) ∨ du = .string) (hi : P.info? e = some i) (hz : i.zero = some z)
    {A : Option Addr} {sLen sCap n : Nat} {x : Value} {olds news : List Value} (hlx : ∀ w', (Builtin.lenOf x).run P w' = .ok n w') (hfs : ∀ w', w'.heap = w.heap → (Builtin.firstCells i.size sLen (.slice A sLen sCap)).run P w' = .ok olds.toArray w')
    (hfx : ∀ w', w'.heap = w.heap → (Builtin.firstCells i.size n x).run P w' = .ok news.toArray w') (hg : sCap < sLen + n) (h63 : sLen + n ≤ 140737488355328) (hfit : (sLen + n) * i.bytes ≤ 140737488355328) :
    (Builtin.append_ #[t, u] ty #[.slice A sLen sCap, x]).run P w = .ok (.slice (some ⟨w.heap.size, 0, none⟩) (sLen + n) (grownCap w (sLen + n) sCap e))
      (w.drew.alloc (.cells (olds.toArray ++ news.toArray ++ Builtin.zeroCells z.cells (grownCap w (sLen + n) sCap e - (sLen + n))) e)) := by
  have hn : ¬ (sLen + n ≤ sCap) := by omega
  have h63' : ¬ (9223372036854775807 < ((sLen : Int) + (n : Int))) := by omega
  have h48' : ¬ (281474976710656 < Builtin.nextslicecap (sLen + n) sCap * i.bytes) := by have := growslice_fits (bytes := i.bytes) hg hfit; omega
  have h1 := hfs w.drew rfl
  have h2 := hfx w.drew rfl
  rcases hdu with ⟨q, rfl⟩ | rfl <;> simp [Builtin.append_, run_underlying ht, run_underlying hu, sizeOf, typeInfo, zeroValue, hi, hz, hlx, hn, h63', h48', Question.forced, h1, h2, newRow, grownCap] <;> (congr 2; apply Array.ext'; simp [List.append_assoc])

/-- An append that finds room. -/
theorem run_append_fits {t u ty e : TypeId} {i : TypeInfo} (ht : P.underlying t = some (.slice e)) {du : TypeDesc} (hu : P.underlying u = some du) (hdu : (∃ q, du = .slice q) ∨ du = .string) (hi : P.info? e = some i)
    {g off sLen sCap n : Nat} {x : Value} {news : List Value} {cur : Array Value} (hg : Blk w g e cur) (hlx : ∀ w', (Builtin.lenOf x).run P w' = .ok n w') (hfx : (Builtin.firstCells i.size n x).run P w = .ok news.toArray w)
    (h1 : ∀ u ∈ news, u.oneCell' = true) (hroom : sLen + n ≤ sCap) (hfit : off + sLen * i.size + news.length ≤ cur.size) :
    (Builtin.append_ #[t, u] ty #[.slice (some ⟨g, off, none⟩) sLen sCap, x]).run P w =
      .ok (.slice (some ⟨g, off, none⟩) (sLen + n) sCap) (w.setRow g (cur.toList.take (off + sLen * i.size) ++ news ++ cur.toList.drop (off + sLen * i.size + news.length)).toArray) := by
  have hst := Blk.wr P (off + sLen * i.size) news 0 cur w hg (by simpa using hfit) h1
  simp only [Nat.add_zero] at hst
  rcases hdu with ⟨q, rfl⟩ | rfl <;> simp [Builtin.append_, run_underlying ht, run_underlying hu, sizeOf, typeInfo, hi, hlx, hroom, hfx, add_none, hst]

/-- An append of nothing. -/
theorem run_append_none {t u ty e : TypeId} {i : TypeInfo} (ht : P.underlying t = some (.slice e)) {du : TypeDesc} (hu : P.underlying u = some du) (hdu : (∃ q, du = .slice q) ∨ du = .string) (hi : P.info? e = some i)
    {A : Option Addr} {sLen sCap : Nat} {x : Value} (hlx : ∀ w', (Builtin.lenOf x).run P w' = .ok 0 w') (hfx : (Builtin.firstCells i.size 0 x).run P w = .ok #[] w) (hroom : sLen ≤ sCap) :
    (Builtin.append_ #[t, u] ty #[.slice A sLen sCap, x]).run P w = .ok (.slice A sLen sCap) w := by
  rcases hdu with ⟨q, rfl⟩ | rfl <;> (cases A <;> simp [Builtin.append_, run_underlying ht, run_underlying hu, sizeOf, typeInfo, hi, hlx, hroom, hfx, storeCells])

theorem zero_size {z : Array Value} (n : Nat) : (Builtin.zeroCells z n).size = n * z.size := by simp [Builtin.zeroCells]

/-- The call of 'append', as an operation. -/
theorem run_append_op {c : Call} (ho : o.op = .call c) (hc : c.callee = .builtin .append) {s x : Operand} {t u : TypeId} (ha : c.args.toList = [s, x]) (hat : c.argTypes.toList = [t, u]) {v' : Value} {w' : World}
    (h : (Builtin.append_ #[t, u] o.type #[a.eval s, a.eval x]).run P w = .ok v' w') : (execOp a.eval o).run P w = .ok (.value v') w' := by
  have ha' : c.args = #[s, x] := by rw [← Array.toList_inj]; exact ha
  have hat' : c.argTypes = #[t, u] := by rw [← Array.toList_inj]; exact hat
  simp [execOp, ho, resolve, hc, ha', hat', invoke, builtin, h]

theorem rep_full {sz : Nat} {xs : List (List AV)} {u : Value} (h : Rep w X μ (.ro sz xs true) u) : ∃ A, u = .slice A xs.length xs.length := by
  cases h with
  | roE h => exact ⟨_, by rw [h rfl]; rfl⟩
  | ro vs hn hX hlt hc hf => exact ⟨_, by rw [hf rfl, hn]⟩

/-- What is appended: how long it is, and its cells. -/
theorem append_calm {c : Call} (ho : o.op = .call c) (hc : c.callee = .builtin .append) {s x : Operand} {t u e : TypeId} (ha : c.args.toList = [s, x]) (hat : c.argTypes.toList = [t, u]) (ht : P.underlying t = some (.slice e))
    {du : TypeDesc} (hu : P.underlying u = some du) (hdu : (∃ q, du = .slice q) ∨ du = .string) {i : TypeInfo} (hi : P.info? e = some i) (hsz : 0 < i.size) {zs : List AV} (hz : tzero P e = some zs) (hf : μ base = none)
    {xs ys : List (List AV)} {us vs : List Value} {A : Option Addr} (hs : Flat w X μ i.size (a.eval s) xs us A xs.length) (hlx : ∀ w', (Builtin.lenOf (a.eval x)).run P w' = .ok ys.length w')
    (hfx : ∀ w', w'.heap = w.heap → (Builtin.firstCells i.size ys.length (a.eval x)).run P w' = .ok vs.toArray w') (hl : FlatL w X μ i.size ys vs)
    (h63 : xs.length + ys.length ≤ 140737488355328) (hb : (xs.length + ys.length) * i.bytes ≤ 140737488355328) (hne : ys = [] → xs = []) : Does P o a w X μ base (.own base 0 (xs.length + ys.length)) [⟨e, i.size, false, xs ++ ys, 0⟩] := by
  intro K Q hk
  obtain ⟨i', z, hi', hz', hzs, hr⟩ := tzero_spec (w := w) (X := X) (μ := μ) hz
  rw [hi] at hi'; cases hi'
  by_cases hy : ys = []
  · have hx := hne hy
    subst hy; subst hx
    have hv := hs.v
    have hvs : vs = [] := List.eq_nil_of_length_eq_zero (by have := hl.len; simpa using this)
    subst hvs
    have hrun := run_append_op (P := P) (w := w) ho hc ha hat (by rw [hv]; exact run_append_none ht hu hdu hi hlx (hfx w rfl) (Nat.le_refl _))
    exact wp_value hrun (hk _ _ _ _ .refl .own0 .same)
  · have hpos : 0 < ys.length := List.length_pos_iff.2 hy
    have hge := grownCap_ge w (xs.length + ys.length) xs.length e
    have hcm := grownCap_le_maxLen w (xs.length + ys.length) xs.length e (by simp only [maxLen]; omega)
    have hfirst := fun w' hw => hs.first (P := P) w' hw
    rw [hs.v] at hfirst
    have hrun := run_append_op (P := P) (w := w) ho hc ha hat (by rw [hs.v]; exact run_append_new ht hu hdu hi hz' hlx hfirst hfx (by omega) h63 hb)
    have hflat := hs.l.append hl
    have := new_row (w := w) (w1 := w.drew) (base := base) (t := e) rfl rfl rfl rfl (cap := grownCap w (xs.length + ys.length) xs.length e)
      (c := us.toArray ++ vs.toArray ++ Builtin.zeroCells z.cells (grownCap w (xs.length + ys.length) xs.length e - (xs.length + ys.length))) hflat (by
        simp only [Array.size_append, List.size_toArray, zero_size, hzs, hs.l.len, hl.len, ← Nat.add_mul]
        congr 1; omega) (by simp only [Array.toList_append]; exact List.take_left) (by simpa using hge) hcm hsz hf (fun v' w' => K (a.put o.dst v') w')
    rw [List.length_append] at this
    exact wp_value hrun (this fun X' μ' h1 h2 h3 => hk _ _ _ _ h1 h2 h3)

theorem flat_full {sz : Nat} {u : Value} {xs : List (List AV)} {us : List Value} {A : Option Addr} {c s : Nat} (h : Flat w X μ sz u xs us A c) (hr : Rep w X μ (.ro s xs true) u) : Flat w X μ sz u xs us A xs.length := by
  obtain ⟨A', hA⟩ := rep_full hr
  have hv := h.v
  rw [hA] at hv
  injection hv with h1 h2 h3
  exact ⟨by rw [hA, h1], Nat.le_refl _, h.nil, h.cell, h.l⟩

theorem Flat.len {sz : Nat} {v : Value} {xs : List (List AV)} {us : List Value} {A : Option Addr} {c : Nat} (h : Flat w X μ sz v xs us A c) (w' : World) : (Builtin.lenOf v).run P w' = .ok xs.length w' := by
  rw [h.v]; rfl

theorem strFlat (s : ByteArray) : FlatL w X μ 1 (bytesRow s) (Lib.strCells s) := by
  refine ⟨by rw [Lib.strCells_length]; simp [bytesRow], Lib.strCells_oneCell s, fun i x hi => ?_⟩
  unfold bytesRow at hi
  rw [List.getElem?_map] at hi
  obtain ⟨b, hb, rfl⟩ := Option.map_eq_some_iff.1 hi
  refine ⟨rfl, fun j c hj => ?_⟩
  cases j with
  | zero =>
    obtain rfl : AV.int .u8 b.toNat = c := by simpa using hj
    refine ⟨.int .u8 b.toNat, ?_, .int _ _⟩
    unfold Lib.strCells
    rw [Nat.mul_one, Nat.add_zero, List.getElem?_map, hb]; rfl
  | succ j => simp at hj

theorem bytesRow_length (s : ByteArray) : (bytesRow s).length = s.size := by simp [bytesRow]

/-- Cuts. -/
def OI : Option Value → Option Int → Prop
  | none, none => True
  | some v, some n => ∃ k, v = .int k n
  | _, _ => False

theorem opt_rep (hσ : RelS w X μ a σ) {x : Option Operand} {s : Option SOpd} (h : copt x = some s) {r : Option Int} (hr : optI σ s = some r) : OI (x.map a.eval) r := by
  cases x with
  | none => simp [copt] at h; subst h; simp [optI] at hr; subst hr; trivial
  | some x =>
    simp only [copt] at h
    obtain ⟨s', hs, rfl⟩ := Option.map_eq_some_iff.1 h
    simp only [optI] at hr
    obtain ⟨n, hn, rfl⟩ := Option.map_eq_some_iff.1 hr
    unfold isInt at hn
    split at hn
    · rename_i k n' e
      cases hn
      exact ⟨k, rep_int (hσ.ev hs) e⟩
    · cases hn

theorem run_bound {v : Value} {k : IntKind} {n : Int} (h : v = .int k n) {y : Nat} {code : BoundsCode} (h0 : 0 ≤ n) (h1 : n ≤ y) : (Instr.sliceBound v y code).run P w = .ok n.toNat w := by
  subst h; exact run_sliceBound (P := P) (w := w) k n y code h0 h1

theorem run_bounds2 {b : Bool} {len cap : Nat} {lo hi : Option Value} {l h : Option Int} (hl : OI lo l) (hh : OI hi h) (h0 : 0 ≤ l.getD 0) (h1 : l.getD 0 ≤ h.getD len) (h2 : h.getD len ≤ cap) :
    (Instr.sliceBounds b len cap lo hi none).run P w = .ok ((l.getD 0).toNat, (h.getD len).toNat, cap) w := by
  unfold Instr.sliceBounds
  cases lo <;> cases l <;> simp only [OI] at hl <;> cases hi <;> cases h <;> simp only [OI] at hh <;> simp only [Option.getD_none, Option.getD_some] at h0 h1 h2 ⊢
  all_goals first
    | (obtain ⟨kl, hl⟩ := hl; obtain ⟨kh, hh⟩ := hh)
    | (obtain ⟨kl, hl⟩ := hl)
    | (obtain ⟨kh, hh⟩ := hh)
    | skip
  · simp
  · simp [run_bound (P := P) (w := w) hh (by omega) h2]
  · simp [run_bound (P := P) (w := w) (y := len) hl h0 h1]
  · rename_i l h
    simp [run_bound (P := P) (w := w) hh (show 0 ≤ h by omega) h2, run_bound (P := P) (w := w) (y := h.toNat) hl h0 (by omega)]

theorem run_bounds3 {b : Bool} {len cap : Nat} {lo hi mx : Option Value} {l : Option Int} {h m : Int} (hl : OI lo l) (hh : OI hi (some h)) (hm : OI mx (some m)) (h0 : 0 ≤ l.getD 0) (h1 : l.getD 0 ≤ h) (h2 : h ≤ m) (h3 : m ≤ cap) :
    (Instr.sliceBounds b len cap lo hi mx).run P w = .ok ((l.getD 0).toNat, h.toNat, m.toNat) w := by
  unfold Instr.sliceBounds
  cases hi with
  | none => simp [OI] at hh
  | some vh =>
    cases mx with
    | none => simp [OI] at hm
    | some vm =>
      obtain ⟨kh, hh⟩ := hh
      obtain ⟨km, hm⟩ := hm
      cases lo <;> cases l <;> simp only [OI] at hl <;> simp only [Option.getD_none, Option.getD_some] at h0 h1 ⊢
      · simp [run_bound (P := P) (w := w) hm (show 0 ≤ m by omega) h3, run_bound (P := P) (w := w) (y := m.toNat) hh (by omega) (by omega)]
      · obtain ⟨kl, hl⟩ := hl
        simp [run_bound (P := P) (w := w) hm (show 0 ≤ m by omega) h3, run_bound (P := P) (w := w) (y := m.toNat) hh (show 0 ≤ h by omega) (by omega), run_bound (P := P) (w := w) (y := h.toNat) hl h0 (by omega)]

theorem run_sliceOp {t e : TypeId} {x : Operand} {lo hi mx : Option Operand} (ho : o.op = .slice t x lo hi mx) (hu : P.underlying t = some (.slice e)) {sz : Nat} (hn : tsz P e = some sz) {A : Option Addr} {len cap l h m : Nat} (hx : a.eval x = .slice A len cap)
    (hb : (Instr.sliceBounds true len cap (lo.map a.eval) (hi.map a.eval) (mx.map a.eval)).run P w = .ok (l, h, m) w) : (execOp a.eval o).run P w = .ok (.value (.slice (if m = l then A else A.map (·.add (l * sz))) (h - l) (m - l))) w := by
  simp [execOp, ho, hx, Instr.sliceAt, Instr.slice, run_underlying hu, hb, run_tsz hn]

/-- A cut of what is only read. -/
theorem cut_ro {s : Nat} {xs : List (List AV)} {full full' : Bool} {A : Option Addr} {cap l h m : Nat} (hr : Rep w X μ (.ro s xs full) (.slice A xs.length cap)) {sz : Nat} (hs : s = sz ∨ xs = []) (hlh : l ≤ h) (hhx : h ≤ xs.length) (hhm : h ≤ m) (hmc : m ≤ cap) (hf : full' = true → m = h) :
    Rep w X μ (.ro s ((xs.take h).drop l) full') (.slice (if m = l then A else A.map (·.add (l * sz))) (h - l) (m - l)) := by
  by_cases hel : h - l = 0
  · have hx : (xs.take h).drop l = [] := List.drop_eq_nil_of_le (by simp; omega)
    rw [hx, hel]
    exact .roE (fun e => by have := hf e; omega)
  · have hxs : xs ≠ [] := fun e => by subst e; simp at hhx; omega
    have hs' : s = sz := hs.resolve_right hxs
    subst hs'
    rw [if_neg (by omega)]
    generalize hvv : Value.slice A xs.length cap = vv at hr
    cases hr with
    | roE h => exact absurd rfl hxs
    | ro vs hn hX hlt hc hff hz hv ho hrr =>
      injection hvv with e1 e2 e3
      subst e1
      have hat : ∀ (i : Nat) (x : List AV), ((xs.take h).drop l)[i]? = some x → xs[l + i]? = some x := by
        intro i x hi
        rw [List.getElem?_drop, List.getElem?_take] at hi
        split at hi
        · exact hi
        · cases hi
      refine .ro (fun i j => vs (l + i) j) (by simp; omega) (by rw [add_block]; exact hX) (by rw [add_block]; exact hlt) (by omega) (fun e => by have := hf e; omega) (fun x hx => ?_) (fun i x j c hi hj => ?_) (fun i x j c hi hj => ho _ x j c (hat i x hi) hj) (fun i x j c hi hj => hrr _ x j c (hat i x hi) hj)
      · exact hz x (List.mem_of_mem_take (List.mem_of_mem_drop hx))
      · have := hv _ x j c (hat i x hi) hj
        rw [add_add, show l * s + (i * s + j) = (l + i) * s + j by rw [Nat.add_mul]; omega]
        exact this

theorem d_sliceRo (hσ : RelS w X μ a σ) {t e : TypeId} {x : Operand} {lo hi mx : Option Operand} (ho : o.op = .slice t x lo hi mx) (hu : P.underlying t = some (.slice e)) {sz : Nat} (hn : tsz P e = some sz) {sx : SOpd} {sl sh sm : Option SOpd}
    (hx : copd x = some sx) (hlo : copt lo = some sl) (hhi : copt hi = some sh) (hmx : copt mx = some sm) {l h m : Option Int} (h1 : optI σ sl = some l) (h2 : optI σ sh = some h) (h3 : optI σ sm = some m) {s : Nat} {xs : List (List AV)} {full : Bool}
    (he : ev σ sx = .ro s xs full) (hs : s = sz ∨ xs = [])
    (hv : (m = none ∧ 0 ≤ l.getD 0 ∧ l.getD 0 ≤ h.getD xs.length ∧ h.getD xs.length ≤ xs.length ∧ v = .ro s ((xs.take (h.getD xs.length).toNat).drop (l.getD 0).toNat) (full && decide (h.getD xs.length = xs.length))) ∨
      ∃ m' h', m = some m' ∧ h = some h' ∧ 0 ≤ l.getD 0 ∧ l.getD 0 ≤ h' ∧ h' ≤ m' ∧ m' ≤ xs.length ∧ v = .ro s ((xs.take h'.toNat).drop (l.getD 0).toNat) (decide (h' = m'))) : Does P o a w X μ base v adds := by
  have hr := hσ.ev hx
  rw [he] at hr
  have o1 := opt_rep hσ hlo h1
  have o2 := opt_rep hσ hhi h2
  have o3 := opt_rep hσ hmx h3
  obtain ⟨A, cap, hxe, hcap, hfull⟩ : ∃ A cap, a.eval x = .slice A xs.length cap ∧ xs.length ≤ cap ∧ (full = true → cap = xs.length) := by
    generalize a.eval x = y at hr
    cases hr with
    | roE h => exact ⟨_, _, rfl, Nat.zero_le _, h⟩
    | ro vs hn' hX hlt hc hf => exact ⟨_, _, by rw [hn'], by omega, fun e => by rw [hf e, hn']⟩
  rw [hxe] at hr
  rcases hv with ⟨rfl, c1, c2, c3, rfl⟩ | ⟨m', h', rfl, rfl, c1, c2, c3, c4, rfl⟩
  · have hmx' : mx.map a.eval = none := by
      cases hq : mx.map a.eval with
      | none => rfl
      | some q => rw [hq] at o3; simp [OI] at o3
    have hb := run_bounds2 (P := P) (w := w) (b := true) (len := xs.length) (cap := cap) o1 o2 c1 c2 (by omega)
    refine does_value (run_sliceOp ho hu hn hxe (by rw [hmx']; exact hb)) (cut_ro hr hs (by omega) (by omega) (by omega) (Nat.le_refl _) (fun e => ?_))
    simp only [Bool.and_eq_true, decide_eq_true_eq] at e
    rw [hfull e.1]; omega
  · have hb := run_bounds3 (P := P) (w := w) (b := true) (len := xs.length) (cap := cap) o1 o2 o3 c1 c2 c3 (by omega)
    refine does_value (run_sliceOp ho hu hn hxe hb) (cut_ro hr hs (by omega) (by omega) (by omega) (by omega) (fun e => ?_))
    simp only [decide_eq_true_eq] at e
    omega

theorem d_sliceOwn (hO : Objs w X μ H) (hσ : RelS w X μ a σ) {t e : TypeId} {x : Operand} {lo hi : Option Operand} (ho : o.op = .slice t x lo hi none) (hu : P.underlying t = some (.slice e)) {sz : Nat} (hn : tsz P e = some sz) {sx : SOpd} {sl sh : Option SOpd}
    (hx : copd x = some sx) (hlo : copt lo = some sl) (hhi : copt hi = some sh) {l h : Option Int} (h1 : optI σ sl = some l) (h2 : optI σ sh = some h) {id q len : Nat} {ob : AObj}
    (he : ev σ sx = .own id q len) (hl : lk H id = some ob) (hs : ob.sz = sz) (c1 : 0 ≤ l.getD 0) (c2 : l.getD 0 ≤ h.getD len) (c3 : h.getD len ≤ len ∨ q + h.getD len ≤ ob.elems.length)
    (hc0 : h.getD len ≤ len ∨ 0 < len) : Does P o a w X μ base (.own id (q + (l.getD 0).toNat) ((h.getD len).toNat - (l.getD 0).toNat)) adds := by
  have hr := hσ.ev hx
  rw [he] at hr
  have o1 := opt_rep hσ hlo h1
  have o2 := opt_rep hσ hhi h2
  generalize hy : a.eval x = y at hr
  cases hr with
  | @own _ _ m _ _ off cap hm hb hn' hc ho' =>
    have hob := hO id ob m hl hm
    have hnc := hob.nc
    have helen := hob.n
    have hb2 := run_bounds2 (P := P) (w := w) (b := true) (len := len) (cap := cap) o1 o2 c1 c2 (by rcases c3 with c3 | c3 <;> omega)
    refine does_value (run_sliceOp ho hu hn hy hb2) ?_
    have hsz : m.sz = sz := by rw [← hob.sz, hs]
    by_cases hz : cap = (l.getD 0).toNat
    · rw [if_pos hz]
      have h0 : (h.getD len).toNat - (l.getD 0).toNat = 0 := by rcases c3 with c3 | c3 <;> omega
      rw [h0, show cap - (l.getD 0).toNat = 0 by omega]
      exact .own0
    · rw [if_neg hz]
      simp only [Option.map_some, add_none]
      have hle : (l.getD 0).toNat ≤ cap := by rcases c3 with c3 | c3 <;> omega
      refine .own hm hb (by rcases c3 with c3 | c3 <;> omega) (by omega) ?_
      rcases ho' with ho' | ho'
      · left; rw [ho', ← hsz, ← Nat.add_mul, Nat.add_right_comm]
      · omega
  | own0 =>
    have hb2 := run_bounds2 (P := P) (w := w) (b := true) (len := 0) (cap := 0) o1 o2 c1 c2 (by rcases hc0 with h | h <;> omega)
    refine does_value (run_sliceOp ho hu hn hy hb2) ?_
    have hz : (l.getD 0).toNat = 0 := by rcases hc0 with h | h <;> omega
    have hh : (h.getD ((0 : Nat) : Int)).toNat = 0 := by rcases hc0 with h | h <;> omega
    simp only [hz, hh, if_true, Nat.sub_self]
    exact .own0

/-- A cut of a row of the call's own, with a bound of its room: its bounds alone. -/
theorem d_slice3 (hσ : RelS w X μ a σ) (hO : Objs w X μ H) {t e : TypeId} {x : Operand} {lo hi mx : Option Operand} (ho : o.op = .slice t x lo hi mx) (hu : P.underlying t = some (.slice e)) {sz : Nat} (hn : tsz P e = some sz) {sx : SOpd} {sl sh sm : Option SOpd}
    (hx : copd x = some sx) (hlo : copt lo = some sl) (hhi : copt hi = some sh) (hmx : copt mx = some sm) {l : Option Int} {h m : Int} (h1 : optI σ sl = some l) (h2 : optI σ sh = some (some h)) (h3 : optI σ sm = some (some m)) {id q len : Nat} {ob : AObj}
    (he : ev σ sx = .own id q len) (c1 : 0 ≤ l.getD 0) (c2 : l.getD 0 ≤ h) (c3 : h ≤ m) (c4 : m ≤ len) (hcap : ∀ m0, μ id = some m0 → m0.n ≤ m0.cap) : Does P o a w X μ base .top adds := by
  have hr := hσ.ev hx
  rw [he] at hr
  have o1 := opt_rep hσ hlo h1
  have o2 := opt_rep hσ hhi h2
  have o3 := opt_rep hσ hmx h3
  obtain ⟨A, cap, hxe, hlc⟩ : ∃ A cap, a.eval x = .slice A len cap ∧ len ≤ cap := by
    generalize a.eval x = y at hr
    cases hr with
    | @own _ _ m0 _ _ off cap hm hb hn' hc ho' => exact ⟨_, _, rfl, by have := hcap m0 hm; omega⟩
    | own0 => exact ⟨_, _, rfl, Nat.le_refl _⟩
  have hb := run_bounds3 (P := P) (w := w) (b := true) (len := len) (cap := cap) o1 o2 o3 c1 c2 c3 (by omega)
  exact does_value (run_sliceOp ho hu hn hxe hb) (.top _)

theorem d_sliceR (hO : Objs w X μ H) (hσ : RelS w X μ a σ) {t e : TypeId} {x : Operand} {lo hi : Option Operand} (ho : o.op = .slice t x lo hi none) (hu : P.underlying t = some (.slice e)) {sz : Nat} (hn : tsz P e = some sz) {sx : SOpd} {sl sh : Option SOpd}
    (hx : copd x = some sx) (hlo : copt lo = some sl) (hhi : copt hi = some sh) {l h : Option Int} (h1 : optI σ sl = some l) (h2 : optI σ sh = some h) {id q len : Nat} {ob : AObj}
    (he : ev σ sx = .own id q len) (hl : lk H id = some ob) (hs : ob.sz = sz) (c1 : 0 ≤ l.getD 0) (c2 : l.getD 0 ≤ h.getD len) (c3 : h.getD len ≤ len ∨ q + h.getD len ≤ ob.elems.length) (h0 : 0 < len)
    (hv : v = if h.getD len = l.getD 0 then (if (l.getD 0).toNat < len then .rl id (q + (l.getD 0).toNat) else .ro sz [] false) else .own id (q + (l.getD 0).toNat) ((h.getD len).toNat - (l.getD 0).toNat)) : Does P o a w X μ base v adds := by
  have hr := hσ.ev hx
  rw [he] at hr
  have o1 := opt_rep hσ hlo h1
  have o2 := opt_rep hσ hhi h2
  generalize hy : a.eval x = y at hr
  cases hr with
  | @own _ _ m _ _ off cap hm hb hn' hc ho' =>
    have hob := hO id ob m hl hm
    have hnc := hob.nc
    have helen := hob.n
    have hb2 := run_bounds2 (P := P) (w := w) (b := true) (len := len) (cap := cap) o1 o2 c1 c2 (by rcases c3 with c3 | c3 <;> omega)
    refine does_value (run_sliceOp ho hu hn hy hb2) ?_
    have hsz : m.sz = sz := by rw [← hob.sz, hs]
    have hcap0 : cap ≠ 0 := by omega
    obtain rfl : off = (q + m.o) * m.sz := ho'.resolve_right hcap0
    subst hv
    split
    · rename_i heq
      split
      · rename_i hlt
        rw [if_neg (by omega), heq, Nat.sub_self]
        simp only [Option.map_some, add_none]
        exact .rl hm hb (by omega) (by omega) (by rw [← hsz, ← Nat.add_mul, Nat.add_right_comm])
      · rw [heq, Nat.sub_self]
        exact .roE (fun e => by cases e)
    · rename_i hne
      rw [if_neg (by rcases c3 with c3 | c3 <;> omega)]
      simp only [Option.map_some, add_none]
      exact .own hm hb (by rcases c3 with c3 | c3 <;> omega) (by omega) (.inl (by rw [← hsz, ← Nat.add_mul, Nat.add_right_comm]))
  | own0 => omega

theorem d_sliceR2 (hO : Objs w X μ H) (hσ : RelS w X μ a σ) {t e : TypeId} {x : Operand} {lo hi : Option Operand} (ho : o.op = .slice t x lo hi none) (hu : P.underlying t = some (.slice e)) {sz : Nat} (hn : tsz P e = some sz) {sx : SOpd} {sl sh : Option SOpd}
    (hx : copd x = some sx) (hlo : copt lo = some sl) (hhi : copt hi = some sh) {l h : Int} (h1 : optI σ sl = some (some l)) (h2 : optI σ sh = some (some h)) {id q : Nat} {ob : AObj}
    (he : ev σ sx = .rl id q) (hl : lk H id = some ob) (hs : ob.sz = sz) (c1 : 0 ≤ l) (c2 : l < h) (c3 : q + h ≤ ob.elems.length) : Does P o a w X μ base (.own id (q + l.toNat) (h.toNat - l.toNat)) adds := by
  have hr := hσ.ev hx
  rw [he] at hr
  have o1 := opt_rep hσ hlo h1
  have o2 := opt_rep hσ hhi h2
  generalize hy : a.eval x = y at hr
  cases hr with
  | @rl _ _ _ off cap m hm hb hn' hc ho' =>
    have hob := hO id ob m hl hm
    have hnc := hob.nc
    have helen := hob.n
    have hb2 := run_bounds2 (P := P) (w := w) (b := true) (len := 0) (cap := cap) o1 o2 c1 (by simp; omega) (by simp; omega)
    refine does_value (run_sliceOp ho hu hn hy hb2) ?_
    have hsz : m.sz = sz := by rw [← hob.sz, hs]
    subst ho'
    simp only [Option.getD_some]
    rw [if_neg (by omega)]
    simp only [Option.map_some, add_none]
    exact .own hm hb (by omega) (by omega) (.inl (by rw [← hsz, ← Nat.add_mul, Nat.add_right_comm]))

theorem d_sliceS (hσ : RelS w X μ a σ) {t : TypeId} {x : Operand} {lo hi : Option Operand} (ho : o.op = .slice t x lo hi none) (hu : P.underlying t = some .string) {sx : SOpd} {sl sh : Option SOpd}
    (hx : copd x = some sx) (hlo : copt lo = some sl) (hhi : copt hi = some sh) {l h : Option Int} (h1 : optI σ sl = some l) (h2 : optI σ sh = some h) {s : ByteArray} (he : ev σ sx = .str s)
    (c1 : 0 ≤ l.getD 0) (c2 : l.getD 0 ≤ h.getD s.size) (c3 : h.getD s.size ≤ s.size) : Does P o a w X μ base (.str (s.extract (l.getD 0).toNat (h.getD s.size).toNat)) adds := by
  have e1 := rep_str (hσ.ev hx) he
  have hb := run_bounds2 (P := P) (w := w) (b := false) (len := s.size) (cap := s.size) (opt_rep hσ hlo h1) (opt_rep hσ hhi h2) c1 c2 c3
  exact does_value (v' := .string (s.extract (l.getD 0).toNat (h.getD s.size).toNat)) (by simp [execOp, ho, e1, Instr.sliceAt, Instr.slice, run_underlying hu, hb]) (.str _)

theorem d_toBytes (hX : ∀ b, X b → b < w.heap.size) (hσ : RelS w X μ a σ) {src dst e : TypeId} {x : Operand} (ho : o.op = .convert src dst x) {s : SOpd} (hx : copd x = some s) (h1 : P.underlying src = some .string) (h2 : P.underlying dst = some (.slice e)) (h3 : P.underlying e = some (.int .u8)) {q : ByteArray} (he : ev σ s = .str q) :
    Does P o a w X μ base (.ro 1 (bytesRow q) false) adds := by
  intro K Q hk
  have e1 := rep_str (hσ.ev hx) he
  have hrun : (execOp a.eval o).run P w = .ok (.value (.slice (some ⟨w.heap.size, 0, none⟩) q.size (grownCap w q.size 0 e))) (Lib.bytesWorld w e q) := by
    simp [execOp, ho, e1, Lib.run_convert_string_bytes w src dst e q h1 h2 h3]
  have hext : Ext w X μ (Lib.bytesWorld w e q) X μ :=
    ⟨by simp only [Lib.bytesWorld, World.freeze]; rfl, by simp only [Lib.bytesWorld, World.freeze]; rfl, by simp only [Lib.bytesWorld, World.freeze]; rfl, by rw [Lib.bytesWorld_size]; omega, fun b hb => Lib.bytesWorld_at_old w e q b hb, fun _ h => h, fun _ _ h => h, fun _ h => .inl h, fun _ _ h => h, fun _ _ h => .inl h⟩
  refine wp_value hrun (hk _ _ _ _ hext ?_ .same)
  have hat : ∀ (i : Nat) (x : List AV) (j : Nat) (c : AV), (bytesRow q)[i]? = some x → x[j]? = some c → j = 0 ∧ i < q.size ∧ c = .int .u8 (q.data.toList.getD i 0).toNat := by
    intro i x j c hi hj
    unfold bytesRow at hi
    rw [List.getElem?_map] at hi
    obtain ⟨b, hb, rfl⟩ := Option.map_eq_some_iff.1 hi
    cases j with
    | zero =>
      refine ⟨rfl, ?_, ?_⟩
      · have := (List.getElem?_eq_some_iff.1 hb).1; simpa using this
      · simp only [List.getElem?_cons_zero, Option.some.injEq] at hj
        rw [← hj, List.getD, hb]; rfl
    | succ j => simp at hj
  refine .ro (fun i j => .int .u8 (q.data.toList.getD i 0).toNat) (bytesRow_length q).symm (fun h => by have := hX _ h; simp at this) (by rw [Lib.bytesWorld_size]; simp) (grownCap_ge w q.size 0 e) (fun h => by cases h) (fun x hx => ?_) (fun i x j c hi hj => ?_) (fun i x j c hi hj => rfl) (fun i x j c hi hj => ?_)
  · unfold bytesRow at hx
    obtain ⟨b, _, rfl⟩ := List.mem_map.1 hx
    rfl
  · obtain ⟨rfl, hlt, rfl⟩ := hat i x j c hi hj
    rw [add_none, Nat.mul_one, Nat.zero_add, Nat.add_zero]
    exact Lib.bytesWorld_cell w e q i hlt
  · obtain ⟨rfl, hlt, rfl⟩ := hat i x j c hi hj
    exact .int _ _

theorem d_ownBytes (hf : μ base = none) (hσ : RelS w X μ a σ) {src dst e : TypeId} {x : Operand} (ho : o.op = .convert src dst x) {s : SOpd} (hx : copd x = some s) (h1 : P.underlying src = some .string) (h2 : P.underlying dst = some (.slice e)) (h3 : P.underlying e = some (.int .u8)) {q : ByteArray} (he : ev σ s = .str q) (hq : q.size ≤ 140737488355328) :
    Does P o a w X μ base (.own base 0 q.size) [⟨e, 1, false, bytesRow q, 0⟩] := by
  intro K Q hk
  have e1 := rep_str (hσ.ev hx) he
  have hrun : (execOp a.eval o).run P w = .ok (.value (.slice (some ⟨w.heap.size, 0, none⟩) q.size (grownCap w q.size 0 e))) (Lib.bytesWorld w e q) := by
    simp [execOp, ho, e1, Lib.run_convert_string_bytes w src dst e q h1 h2 h3]
  have hge := grownCap_ge w q.size 0 e
  have hcm := grownCap_le_maxLen w q.size 0 e (by simp only [maxLen]; omega)
  have hblk : Blk (Lib.bytesWorld w e q) w.heap.size e (Lib.bytesCells w e q) := ⟨_, Lib.bytesWorld_at_new w e q, fun j hj e => by have := e.1; simp only at this; omega⟩
  have hext : Ext w X μ (Lib.bytesWorld w e q) (addX X w.heap.size) (addM μ base ⟨w.heap.size, 1, q.size, grownCap w q.size 0 e, e, false, 0, 0⟩) :=
    ext1 (by simp only [Lib.bytesWorld, World.freeze]; rfl) (by simp only [Lib.bytesWorld, World.freeze]; rfl) (by simp only [Lib.bytesWorld, World.freeze]; rfl) (Lib.bytesWorld_size w e q) (fun b hb => Lib.bytesWorld_at_old w e q b hb) rfl hf
  have hsz : (Lib.bytesCells w e q).size = grownCap w q.size 0 e := by
    unfold Lib.bytesCells
    simp only [Array.size_append, Array.size_map, Array.size_replicate]
    have : q.data.size = q.size := rfl
    omega
  refine wp_value hrun (hk _ _ _ _ hext ?_ (new1 rfl hf (((strFlat q).move fun c u hr => hext.rep hr).obj (m := ⟨w.heap.size, 1, q.size, grownCap w q.size 0 e, e, false, 0, 0⟩) hblk (by simpa using hsz) ?_ rfl (bytesRow_length q).symm hge hcm rfl Nat.one_pos)))
  · exact .own (addM_self μ base _) rfl (Nat.le_of_eq (Nat.zero_add _)) (by simp) (.inl (by simp))
  · simp only [Nat.zero_mul, List.drop_zero]
    unfold Lib.bytesCells Lib.strCells
    rw [Array.toList_append, Array.toList_map]
    exact List.take_left

theorem d_ofBytes (hO : Objs w X μ H) (hσ : RelS w X μ a σ) {src dst e : TypeId} {x : Operand} (ho : o.op = .convert src dst x) {s : SOpd} (hx : copd x = some s) (h1 : P.underlying src = some (.slice e)) (h2 : P.underlying dst = some .string) (h3 : P.underlying e = some (.int .u8))
    {xs : List (List AV)} (hc : content 1 H (ev σ s) = some xs) (hb : xs.all isByte = true) : Does P o a w X μ base (.str (strOf xs)) adds := by
  obtain ⟨us, A, c, hf⟩ := content_flat hO (hσ.ev hx) hc
  have hus : us = (xs.map byteOf).map (Value.int .u8) := by
    apply List.ext_getElem?
    intro k
    by_cases hk : k < xs.length
    · obtain ⟨hl, hat⟩ := hf.l.at_ k xs[k] (List.getElem?_eq_getElem hk)
      have hby := List.all_eq_true.1 hb xs[k] (List.getElem_mem hk)
      unfold isByte at hby
      split at hby
      · rename_i n heq
        obtain ⟨u, hu, hr⟩ := hat 0 (.int .u8 n) (by rw [heq]; rfl)
        have := rep_int hr rfl
        subst this
        rw [Nat.mul_one, Nat.add_zero] at hu
        rw [hu, List.getElem?_map, List.getElem?_map, List.getElem?_eq_getElem hk, heq]
        rfl
      · cases hby
    · rw [List.getElem?_eq_none (by rw [hf.l.len]; omega), List.getElem?_eq_none (by simp; omega)]
  have hrun : (execOp a.eval o).run P w = .ok (.value (.string (strOf xs))) w := by
    have hcv : (convert src dst (a.eval x)).run P w = .ok (.string (strOf xs)) w := by
      rw [hf.v, run_convert_bytes_string w src dst e A xs.length c h1 h3 h2]
      cases A with
      | none =>
        have := hf.nil rfl
        subst this
        rfl
      | some ad =>
        have := run_bytesToString (P := P) w ad xs.length c (xs.map byteOf) (by
          have h := run_loadCells_list (P := P) w ad us (hf.cell ad rfl)
          rw [hf.l.len, Nat.mul_one] at h
          rw [h, hus])
        exact this
    simp [execOp, ho, hcv]
  exact does_value hrun (.str _)

end Go.Proofs.Ytjpccbjgmogclaa.Lift
