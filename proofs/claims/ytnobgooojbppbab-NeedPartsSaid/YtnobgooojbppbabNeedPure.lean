/- What tasks need: lists of nodes and their trees. -/
set_option linter.all false
set_option linter.unusedSimpArgs false
namespace Go.Proofs.Ytnobgooojbppbab.NeedPure

abbrev Nd := Int × Int

inductive Tr where
  | leaf (n : Nd)
  | no (t : Tr)
  | two (b : Bool) (l r : Tr)

/-- How many parts a kind of nodes has. -/
def parts (op : Int) : Nat := if op = 3 then 1 else if op = 4 ∨ op = 5 then 2 else 0

/-- May a node be? -/
def may (n : Nd) : Bool := if n.1 = 2 then decide (0 ≤ n.2) && decide (n.2 < 16) else decide (1 ≤ n.1) && (decide (n.1 ≤ 5) && decide (n.2 = 0))

/-- The list of a tree. -/
def post : Tr → List Nd
  | .leaf n => [n]
  | .no t => post t ++ [(3, 0)]
  | .two b l r => post l ++ post r ++ [(if b then 5 else 4, 0)]

def postS : List Tr → List Nd
  | [] => []
  | t :: s => post t ++ postS s

theorem postS_append (a b : List Tr) : postS (a ++ b) = postS a ++ postS b := by
  induction a with
  | nil => rfl
  | cons t a ih => simp [postS, ih]

theorem postS_one (t : Tr) : postS [t] = post t := by simp [postS]

theorem post_pos (t : Tr) : 0 < (post t).length := by
  cases t <;> simp [post] <;> omega

def deep : Tr → Nat
  | .leaf _ => 1
  | .no t => deep t + 1
  | .two _ l r => max (deep l) (deep r) + 1

def good : Tr → Bool
  | .leaf n => may n && decide (parts n.1 = 0)
  | .no t => good t
  | .two _ l r => good l && good r

/-- A node behind a stack. -/
def pushN (s : List Tr) (n : Nd) : Option (List Tr) :=
  if may n = true ∧ parts n.1 ≤ s.length then
    (if n.1 = 3 then (match s[s.length - 1]? with
      | some t => some (s.take (s.length - 1) ++ [.no t])
      | none => none)
    else if n.1 = 4 ∨ n.1 = 5 then (match s[s.length - 2]?, s[s.length - 2 + 1]? with
      | some a, some b => some (s.take (s.length - 2) ++ [.two (decide (n.1 = 5)) a b])
      | _, _ => none)
    else some (s ++ [.leaf n])) else none

def run : List Tr → List Nd → Option (List Tr)
  | s, [] => some s
  | s, n :: l => match pushN s n with
    | some s' => run s' l
    | none => none

theorem run_append (s : List Tr) (a b : List Nd) : run s (a ++ b) = (match run s a with | some s' => run s' b | none => none) := by
  induction a generalizing s with
  | nil => rfl
  | cons n a ih =>
    simp only [List.cons_append, run]
    cases pushN s n with
    | none => rfl
    | some s' => exact ih s'

theorem may_op {n : Nd} (h : may n = true) : 1 ≤ n.1 ∧ n.1 ≤ 5 := by
  unfold may at h
  split at h
  · omega
  · simp at h; omega

theorem may_zero {n : Nd} (h : may n = true) (h2 : n.1 ≠ 2) : n.2 = 0 := by
  unfold may at h
  rw [if_neg h2] at h
  simp at h
  exact h.2.2

theorem parts_cases (op : Int) : (op = 3 ∧ parts op = 1) ∨ ((op = 4 ∨ op = 5) ∧ parts op = 2) ∨ (op ≠ 3 ∧ op ≠ 4 ∧ op ≠ 5 ∧ parts op = 0) := by
  unfold parts
  by_cases h1 : op = 3
  · exact .inl ⟨h1, by simp [h1]⟩
  · by_cases h2 : op = 4 ∨ op = 5
    · exact .inr (.inl ⟨h2, by rw [if_neg h1, if_pos h2]⟩)
    · exact .inr (.inr ⟨h1, fun e => h2 (.inl e), fun e => h2 (.inr e), by rw [if_neg h1, if_neg h2]⟩)

theorem split_last {s : List Tr} (h : 1 ≤ s.length) : ∃ s0 t, s = s0 ++ [t] := by
  refine ⟨s.dropLast, s.getLast (by intro e; rw [e] at h; simp at h), (List.dropLast_concat_getLast _).symm⟩

theorem split_last2 {s : List Tr} (h : 2 ≤ s.length) : ∃ s0 a b, s = s0 ++ [a, b] := by
  obtain ⟨s1, b, rfl⟩ := split_last (s := s) (by omega)
  obtain ⟨s0, a, rfl⟩ := split_last (s := s1) (by simp at h; omega)
  exact ⟨s0, a, b, by simp⟩

theorem step_leaf (s : List Tr) (n : Nd) (hm : may n = true) (hp : parts n.1 = 0) : pushN s n = some (s ++ [.leaf n]) := by
  unfold pushN
  rw [if_pos ⟨hm, by omega⟩]
  rcases parts_cases n.1 with ⟨_, h⟩ | ⟨_, h⟩ | ⟨h1, h2, h3, _⟩
  · omega
  · omega
  · rw [if_neg h1, if_neg (by rintro (h | h) <;> contradiction)]

theorem step_no (s : List Tr) (t : Tr) : pushN (s ++ [t]) (3, 0) = some (s ++ [.no t]) := by
  unfold pushN
  rw [if_pos ⟨by decide, by simp [parts]⟩]
  simp

theorem step_two (s : List Tr) (a b : Tr) (q : Bool) : pushN (s ++ [a, b]) (if q then 5 else 4, 0) = some (s ++ [.two q a b]) := by
  unfold pushN
  cases q
  · rw [if_pos ⟨by decide, by simp [parts]⟩]
    have h1 : (s ++ [a, b])[s.length]? = some a := by simp
    have h2 : (s ++ [a, b])[s.length + 1]? = some b := by simp
    simp [h1, h2]
  · rw [if_pos ⟨by decide, by simp [parts]⟩]
    have h1 : (s ++ [a, b])[s.length]? = some a := by simp
    have h2 : (s ++ [a, b])[s.length + 1]? = some b := by simp
    simp [h1, h2]

theorem step_post {s s' : List Tr} {n : Nd} (h : pushN s n = some s') (hg : ∀ t ∈ s, good t = true) : postS s' = postS s ++ [n] ∧ ∀ t ∈ s', good t = true := by
  have hc : may n = true ∧ parts n.1 ≤ s.length := by
    unfold pushN at h
    split at h
    · assumption
    · cases h
  obtain ⟨hm, hp⟩ := hc
  rcases parts_cases n.1 with ⟨h1, h2⟩ | ⟨h1, h2⟩ | ⟨h1, h2, h3, h4⟩
  · obtain ⟨s0, t, rfl⟩ := split_last (s := s) (by omega)
    have hz := may_zero hm (by omega)
    have hn : n = (3, 0) := Prod.ext h1 hz
    rw [hn, step_no] at h
    cases h
    refine ⟨by simp [postS_append, postS_one, postS, post, hn], fun u hu => ?_⟩
    rcases List.mem_append.1 hu with hu | hu
    · exact hg u (by simp [hu])
    · simp at hu; subst hu
      exact hg t (by simp)
  · obtain ⟨s0, a, b, rfl⟩ := split_last2 (s := s) (by omega)
    have hz := may_zero hm (by omega)
    have hn : n = (if decide (n.1 = 5) = true then 5 else 4, 0) := by
      apply Prod.ext
      · rcases h1 with h1 | h1 <;> simp [h1]
      · simpa using hz
    rw [hn, step_two] at h
    cases h
    refine ⟨?_, fun u hu => ?_⟩
    · rw [hn]
      simp [postS_append, postS_one, postS, post]
    · rcases List.mem_append.1 hu with hu | hu
      · exact hg u (by simp [hu])
      · simp at hu; subst hu
        simp [good, hg a (by simp), hg b (by simp)]
  · rw [step_leaf s n hm h4] at h
    cases h
    refine ⟨by simp [postS_append, postS_one, post], fun u hu => ?_⟩
    rcases List.mem_append.1 hu with hu | hu
    · exact hg u hu
    · simp at hu; subst hu
      simp [good, hm, h4]

theorem run_post : ∀ {l : List Nd} {s s' : List Tr}, run s l = some s' → (∀ t ∈ s, good t = true) → postS s' = postS s ++ l ∧ ∀ t ∈ s', good t = true
  | [], s, s', h, hg => by
    simp only [run, Option.some.injEq] at h
    subst h
    exact ⟨by simp, hg⟩
  | n :: l, s, s', h, hg => by
    simp only [run] at h
    cases hs : pushN s n with
    | none => rw [hs] at h; cases h
    | some s1 =>
      rw [hs] at h
      obtain ⟨h1, h2⟩ := step_post hs hg
      obtain ⟨h3, h4⟩ := run_post h h2
      exact ⟨by rw [h3, h1]; simp, h4⟩

theorem run_tree : ∀ (t : Tr) (s : List Tr), good t = true → run s (post t) = some (s ++ [t])
  | .leaf n, s, h => by
    simp [good] at h
    simp [post, run, step_leaf s n h.1 h.2]
  | .no t, s, h => by
    simp [good] at h
    simp [post, run_append, run_tree t s h, run, step_no]
  | .two b l r, s, h => by
    simp [good] at h
    have h2 : s ++ [l] ++ [r] = s ++ [l, r] := by simp
    simp only [post, run_append, run_tree l s h.1, run_tree r (s ++ [l]) h.2, h2, run, step_two]

theorem run_trees : ∀ (ts s : List Tr), (∀ t ∈ ts, good t = true) → run s (postS ts) = some (s ++ ts)
  | [], s, h => by simp [postS, run]
  | t :: ts, s, h => by
    simp only [postS, run_append, run_tree t s (h t (by simp)), run_trees ts (s ++ [t]) fun u hu => h u (by simp [hu])]
    simp

/-- From the end of a list backwards, till so many trees are there: how many nodes were met. -/
def scanB : List Nd → Nat → Nat → Option Nat
  | [], _, _ => none
  | n :: r, lack, c => if lack - 1 + parts n.1 = 0 then some (c + 1) else scanB r (lack - 1 + parts n.1) (c + 1)

theorem scan_tree : ∀ (t : Tr) (r : List Nd) (m c : Nat), good t = true → scanB ((post t).reverse ++ r) (m + 1) c = (if m = 0 then some (c + (post t).length) else scanB r m (c + (post t).length))
  | .leaf n, r, m, c, h => by
    simp [good] at h
    simp [post, scanB, h.2]
  | .no t, r, m, c, h => by
    simp [good] at h
    have hp : parts 3 = 1 := by decide
    simp only [post, List.reverse_append, List.reverse_cons, List.reverse_nil, List.nil_append, List.cons_append, scanB, hp, List.append_assoc]
    rw [if_neg (by omega), show m + 1 - 1 + 1 = m + 1 by omega, scan_tree t r m (c + 1) h]
    simp only [List.length_append, List.length_cons, List.length_nil]
    rw [show c + 1 + (post t).length = c + ((post t).length + (0 + 1)) by omega]
  | .two b l r', r, m, c, h => by
    simp [good] at h
    have hp : parts (if b = true then 5 else 4) = 2 := by cases b <;> decide
    simp only [post, List.reverse_append, List.reverse_cons, List.reverse_nil, List.nil_append, List.cons_append, scanB, hp, List.append_assoc]
    rw [if_neg (by omega), show m + 1 - 1 + 2 = (m + 1) + 1 by omega, scan_tree r' _ (m + 1) (c + 1) h.2, if_neg (by omega), scan_tree l r m _ h.1]
    simp only [List.length_append, List.length_cons, List.length_nil]
    rw [show c + 1 + (post r').length + (post l).length = c + ((post l).length + ((post r').length + (0 + 1))) by omega]

theorem scan_le : ∀ (l : List Nd) (m c k : Nat), scanB l m c = some k → k ≤ c + l.length
  | [], m, c, k, h => by cases h
  | n :: r, m, c, k, h => by
    simp only [scanB] at h
    split at h
    · cases h; simp
    · have := scan_le r _ _ k h
      simp; omega

/-- Where all nodes are met, they are as many trees. -/
theorem scan_all : ∀ (q : List Nd) (m c : Nat), (∀ n ∈ q, may n = true) → scanB q (m + 1) c = some (c + q.length) → ∃ ts : List Tr, ts.length = m + 1 ∧ (∀ t ∈ ts, good t = true) ∧ postS ts = q.reverse
  | [], m, c, _, h => by cases h
  | n :: r, m, c, hm, h => by
    have hmn := hm n (by simp)
    simp only [scanB, show m + 1 - 1 = m by omega] at h
    split at h
    · rename_i h0
      have hr : r = [] := by
        simp only [Option.some.injEq, List.length_cons] at h
        exact List.eq_nil_of_length_eq_zero (by omega)
      subst hr
      refine ⟨[.leaf n], by simp; omega, fun t ht => ?_, by simp [postS, post]⟩
      simp at ht; subst ht
      simp [good, hmn]; omega
    · rename_i h0
      obtain ⟨m', hm'⟩ : ∃ m', m + parts n.1 = m' + 1 := ⟨m + parts n.1 - 1, by omega⟩
      rw [hm'] at h
      obtain ⟨ts, h1, h2, h3⟩ := scan_all r m' (c + 1) (fun n hn => hm n (by simp [hn])) (by rw [h]; simp; omega)
      rcases parts_cases n.1 with ⟨e1, e2⟩ | ⟨e1, e2⟩ | ⟨e1, e2, e3, e4⟩
      · obtain ⟨s0, t, rfl⟩ := split_last (s := ts) (by omega)
        have hz := may_zero hmn (by omega)
        have hn : n = (3, 0) := Prod.ext e1 hz
        have h5 := step_post (step_no s0 t) h2
        exact ⟨s0 ++ [.no t], by simp at h1 ⊢; omega, h5.2, by rw [h5.1, h3, hn]; simp⟩
      · obtain ⟨s0, a, b, rfl⟩ := split_last2 (s := ts) (by omega)
        have hz := may_zero hmn (by omega)
        have hn : n = (if decide (n.1 = 5) = true then 5 else 4, 0) := by
          apply Prod.ext
          · rcases e1 with e1 | e1 <;> simp [e1]
          · simpa using hz
        have h5 := step_post (step_two s0 a b (decide (n.1 = 5))) h2
        exact ⟨s0 ++ [.two (decide (n.1 = 5)) a b], by simp at h1 ⊢; omega, h5.2, by rw [h5.1, h3, List.reverse_cons]; exact congrArg (fun x => r.reverse ++ [x]) hn.symm⟩
      · have h5 := step_post (step_leaf ts n hmn e4) h2
        exact ⟨ts ++ [.leaf n], by simp; omega, h5.2, by rw [h5.1, h3]; simp⟩

/-- The tree of a list, or none. -/
def made (l : List Nd) : Option Tr := match run [] l with
  | some [t] => some t
  | _ => none

theorem made_post {l : List Nd} {t : Tr} (h : made l = some t) : l = post t ∧ good t = true := by
  unfold made at h
  split at h
  · rename_i t' hr
    cases h
    obtain ⟨h1, h2⟩ := run_post hr (by simp)
    exact ⟨by rw [postS_one] at h1; exact (show post t = l from h1).symm, h2 t (by simp)⟩
  · cases h

theorem made_of {t : Tr} (h : good t = true) : made (post t) = some t := by
  unfold made
  rw [run_tree t [] h]
  rfl

/-- A list is a tree's just if all nodes may be and, backwards, they are met all. -/
theorem made_iff (l : List Nd) : (∃ t, made l = some t) ↔ (l.all may = true ∧ scanB l.reverse 1 0 = some l.length) := by
  constructor
  · rintro ⟨t, h⟩
    obtain ⟨rfl, hg⟩ := made_post h
    refine ⟨?_, ?_⟩
    · have : ∀ t : Tr, good t = true → (post t).all may = true := by
        intro t
        induction t with
        | leaf n => intro h; simp [good] at h; simp [post, h.1]
        | no t ih => intro h; simp [good] at h; rw [post, List.all_append, ih h]; decide
        | two b l r ihl ihr => intro h; simp [good] at h; rw [post, List.all_append, List.all_append, ihl h.1, ihr h.2]; cases b <;> decide
      exact this t hg
    · have := scan_tree t [] 0 0 hg
      simpa using this
  · rintro ⟨h1, h2⟩
    rw [List.all_eq_true] at h1
    obtain ⟨ts, k1, k2, k3⟩ := scan_all l.reverse 0 0 (fun n hn => h1 n (List.mem_reverse.1 hn)) (by rw [h2]; simp)
    match ts, k1, k2, k3 with
    | [t], _, k2, k3 =>
      rw [postS_one, List.reverse_reverse] at k3
      exact ⟨t, by rw [← k3]; exact made_of (k2 t (by simp))⟩

end Go.Proofs.Ytnobgooojbppbab.NeedPure
