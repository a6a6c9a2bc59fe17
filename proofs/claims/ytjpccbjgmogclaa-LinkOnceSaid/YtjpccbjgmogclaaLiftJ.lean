/- A reading of the program's code by values alone: every operation that turns nothing. -/
import Derived.Test.YtjpccbjgmogclaaLiftI
set_option linter.all false
set_option linter.unusedSimpArgs false
namespace Go.Proofs.Ytjpccbjgmogclaa.Lift
open Go Go.RowKit

variable {P : Program} {w : World} {X : Nat → Prop} {μ : Mu} {o : Oper} {a : Act} {σ : List AV} {H : Heap} {base : Nat} {v : AV} {adds : List AObj}

theorem isU8_spec {e : TypeId} (h : isU8 P e = true) : P.underlying e = some (.int .u8) := by
  unfold isU8 at h
  split at h
  · assumption
  · cases h

theorem telem_spec {t e : TypeId} (h : telem P t = some e) : P.underlying t = some (.slice e) := by
  unfold telem at h
  split at h
  · rename_i e' he; cases h; exact he
  · cases h

theorem nilRowOf_spec {gr : List Nat} {x : Operand} {t : TypeId} {r : Nat × Nat} (h : nilRowOf P gr x t = some r) : isNilRow x = true := by
  unfold nilRowOf at h
  split at h
  · rename_i h1; exact h1.1
  · cases h

theorem conv_int {C : FT} {k : IntKind} {x : SOpd} (h : calm C σ H base (.conv (.int k) x) = some (v, adds)) : ∃ k' n, ev σ x = .int k' n ∧ v = .int k (k.wrap n) ∧ adds = [] := by
  simp only [calm] at h
  generalize ev σ x = y at h
  cases y <;> simp at h
  exact ⟨_, _, rfl, h.1.symm, h.2⟩
theorem conv_same {C : FT} {x : SOpd} (h : calm C σ H base (.conv .same x) = some (v, adds)) : ∃ q, ev σ x = .str q ∧ v = .str q ∧ adds = [] := by
  simp only [calm] at h
  generalize ev σ x = y at h
  cases y <;> simp at h
  exact ⟨_, rfl, h.1.symm, h.2⟩
theorem conv_to {C : FT} {e : Nat} {x : SOpd} (h : calm C σ H base (.conv (.toBytes e) x) = some (v, adds)) : ∃ q, ev σ x = .str q ∧ v = .ro 1 (bytesRow q) false ∧ adds = [] := by
  simp only [calm] at h
  generalize ev σ x = y at h
  cases y <;> simp at h
  exact ⟨_, rfl, h.1.symm, h.2⟩
theorem conv_own {C : FT} {e : Nat} {x : SOpd} (h : calm C σ H base (.conv (.ownBytes e) x) = some (v, adds)) : ∃ q, ev σ x = .str q ∧ q.size ≤ 140737488355328 ∧ v = .own base 0 q.size ∧ adds = [⟨e, 1, false, bytesRow q, 0⟩] := by
  simp only [calm] at h
  generalize ev σ x = y at h
  cases y <;> simp at h
  exact ⟨_, rfl, h.1, h.2.1.symm, h.2.2.symm⟩
theorem conv_of {C : FT} {x : SOpd} (h : calm C σ H base (.conv .ofBytes x) = some (v, adds)) : ∃ xs, content 1 H (ev σ x) = some xs ∧ xs.all isByte = true ∧ v = .str (strOf xs) ∧ adds = [] := by
  have h' : (match content 1 H (ev σ x) with
      | some xs => if xs.all isByte then some (AV.str (strOf xs), ([] : List AObj)) else none
      | none => none) = some (v, adds) := by
    rw [← h]
    simp only [calm]
    generalize ev σ x = y
    cases y <;> rfl
  split at h'
  · rename_i xs hxs
    split at h'
    · rename_i hall
      simp only [Option.some.injEq, Prod.mk.injEq] at h'
      exact ⟨xs, hxs, hall, h'.1.symm, h'.2.symm⟩
    · cases h'
  · cases h'

set_option maxHeartbeats 4000000 in
theorem calm_sound {C : FT} (hC : CSound P C) {s : SOp} {gr : List Nat} (hs : comp P gr o = some s) (hO : Objs w X μ H) (hx' : ∀ id m, μ id = some m → X m.b) (hinj : ∀ i j mi mj, μ i = some mi → μ j = some mj → mi.b = mj.b → i = j) (hX : ∀ b, X b → b < w.heap.size) (hnc : ∀ id m, μ id = some m → m.n ≤ m.cap) (hσ : RelS w X μ a σ) (hc : calm C σ H base s = some (v, adds)) (hfr : ∀ k, k < adds.length → μ (base + k) = none) :
    Does P o a w X μ base v adds := by
  unfold comp at hs
  cases hop : o.op <;> simp only [hop] at hs
  case move x =>
    split at hs
    · rename_i e sz hnr
      cases hs
      simp only [calm, Option.some.injEq, Prod.mk.injEq] at hc
      obtain ⟨rfl, rfl⟩ := hc
      exact d_nilRow (.inl hop) (nilRowOf_spec hnr)
    split at hs
    · simp only [Option.bind_eq_bind, Option.bind_eq_some_iff, Option.some.injEq] at hs
      obtain ⟨s1, h1, rfl⟩ := hs
      simp only [calm] at hc
      split at hc
      · rename_i k he
        simp only [Option.some.injEq, Prod.mk.injEq] at hc
        obtain ⟨rfl, rfl⟩ := hc
        exact d_moveS hσ (.inl hop) h1 (.inl ⟨k, he, rfl, rfl⟩)
      · simp only [Option.some.injEq, Prod.mk.injEq] at hc
        obtain ⟨rfl, rfl⟩ := hc
        exact d_moveS (t := 0) (sz := 0) hσ (.inl hop) h1 (.inr rfl)
    simp only [Option.bind_eq_bind, Option.bind_eq_some_iff, Option.some.injEq] at hs
    obtain ⟨s1, h1, rfl⟩ := hs
    simp only [calm, Option.some.injEq, Prod.mk.injEq] at hc
    obtain ⟨rfl, rfl⟩ := hc
    exact d_move hσ (.inl hop) h1
  case assign x =>
    split at hs
    · rename_i e sz hnr
      cases hs
      simp only [calm, Option.some.injEq, Prod.mk.injEq] at hc
      obtain ⟨rfl, rfl⟩ := hc
      exact d_nilRow (.inr hop) (nilRowOf_spec hnr)
    split at hs
    · simp only [Option.bind_eq_bind, Option.bind_eq_some_iff, Option.some.injEq] at hs
      obtain ⟨s1, h1, rfl⟩ := hs
      simp only [calm] at hc
      split at hc
      · rename_i k he
        simp only [Option.some.injEq, Prod.mk.injEq] at hc
        obtain ⟨rfl, rfl⟩ := hc
        exact d_moveS hσ (.inr hop) h1 (.inl ⟨k, he, rfl, rfl⟩)
      · simp only [Option.some.injEq, Prod.mk.injEq] at hc
        obtain ⟨rfl, rfl⟩ := hc
        exact d_moveS (t := 0) (sz := 0) hσ (.inr hop) h1 (.inr rfl)
    simp only [Option.bind_eq_bind, Option.bind_eq_some_iff, Option.some.injEq] at hs
    obtain ⟨s1, h1, rfl⟩ := hs
    simp only [calm, Option.some.injEq, Prod.mk.injEq] at hc
    obtain ⟨rfl, rfl⟩ := hc
    exact d_move hσ (.inr hop) h1
  case pick x y z =>
    simp only [Option.bind_eq_bind, Option.bind_eq_some_iff, Option.some.injEq] at hs
    obtain ⟨s1, h1, s2, h2, s3, h3, rfl⟩ := hs
    simp only [calm] at hc
    split at hc
    · rename_i b hb
      simp only [Option.some.injEq, Prod.mk.injEq] at hc
      obtain ⟨rfl, rfl⟩ := hc
      exact d_pick hσ hop h1 h2 h3 hb
    · cases hc
  case alloc t =>
    simp only [Option.bind_eq_bind, Option.bind_eq_some_iff, Option.some.injEq] at hs
    obtain ⟨zs, h1, rfl⟩ := hs
    simp only [calm, Option.some.injEq, Prod.mk.injEq] at hc
    obtain ⟨rfl, rfl⟩ := hc
    exact d_alloc hop h1 (by simpa using hfr 0 (by simp))
  case box t x =>
    simp only [Option.bind_eq_bind, Option.bind_eq_some_iff, Option.some.injEq] at hs
    obtain ⟨s1, h1, rfl⟩ := hs
    simp only [calm] at hc
    split at hc
    · rename_i hall
      simp only [Option.some.injEq, Prod.mk.injEq] at hc
      obtain ⟨rfl, rfl⟩ := hc
      exact d_box hσ hop h1 hall (by simpa using hfr 0 (by simp))
    · cases hc
  case build t parts =>
    simp only [Option.bind_eq_bind, Option.bind_eq_some_iff] at hs
    obtain ⟨zs, hz, hs⟩ := hs
    split at hs
    · rename_i fs hu
      simp only [Option.bind_eq_some_iff, Option.some.injEq] at hs
      obtain ⟨places, hp, ps, hps, rfl⟩ := hs
      simp only [calm] at hc
      split at hc
      · rename_i cs hcs
        simp only [Option.some.injEq, Prod.mk.injEq] at hc
        obtain ⟨rfl, rfl⟩ := hc
        exact d_build_st (ft := fun i => (fs[i]?.map (·.type)).getD 0) hσ hop hz hu hp hps hcs
      · cases hc
    · rename_i len e hu
      simp only [Option.bind_eq_some_iff, Option.some.injEq] at hs
      obtain ⟨n, hn, ps, hps, rfl⟩ := hs
      simp only [calm] at hc
      split at hc
      · rename_i cs hcs
        simp only [Option.some.injEq, Prod.mk.injEq] at hc
        obtain ⟨rfl, rfl⟩ := hc
        exact d_build_arr hσ hop hz hu hn hps hcs
      · cases hc
    · cases hs
  case buildSlice t n parts =>
    simp only [Option.bind_eq_bind, Option.bind_eq_some_iff] at hs
    obtain ⟨e, he, sz, hn, zs, hz, ps, hps, hs⟩ := hs
    split at hs
    · rename_i hle
      split at hs
      · cases hs
        simp only [calm] at hc
        split at hc
        · rename_i cs hcs
          split at hc
          · rename_i hn0
            subst hn0
            simp only [Option.some.injEq, Prod.mk.injEq] at hc
            obtain ⟨rfl, rfl⟩ := hc
            exact d_buildSlice0 hop (telem_spec he) hn hσ hps hz hcs hle.2 hX
          split at hc
          · rename_i hsim
            simp only [Option.some.injEq, Prod.mk.injEq] at hc
            obtain ⟨rfl, rfl⟩ := hc
            exact d_buildRO hσ hop (telem_spec he) hn hz hle.1 hle.2 hps hcs hX hsim
          · cases hc
        · cases hc
      cases hs
      simp only [calm] at hc
      split at hc
      · rename_i cs hcs
        split at hc
        · rename_i hn0
          subst hn0
          simp only [Option.some.injEq, Prod.mk.injEq] at hc
          obtain ⟨rfl, rfl⟩ := hc
          exact d_buildSlice0 hop (telem_spec he) hn hσ hps hz hcs hle.2 hX
        simp only [Option.some.injEq, Prod.mk.injEq] at hc
        obtain ⟨rfl, rfl⟩ := hc
        exact d_buildSlice hσ hop (telem_spec he) hn hz hle.1 hle.2 hps hcs (by simpa using hfr 0 (by simp))
      · cases hc
    · cases hs
  case load t x =>
    simp only [Option.bind_eq_bind, Option.bind_eq_some_iff] at hs
    obtain ⟨agg, ht, n, hn, hs⟩ := hs
    split at hs
    · rename_i h1
      simp only [Option.bind_eq_some_iff, Option.some.injEq] at hs
      obtain ⟨s1, hx, rfl⟩ := hs
      simp only [calm] at hc
      split at hc
      · rename_i cs hat
        split at hc
        · rename_i hle
          split at hc
          · rename_i ha
            simp only [Option.some.injEq, Prod.mk.injEq] at hc
            obtain ⟨rfl, rfl⟩ := hc
            exact d_load hO hσ hop ht hn hx h1 hat hle (by rw [if_pos ha])
          · rename_i ha
            split at hc
            · rename_i c r
              simp only [Option.some.injEq, Prod.mk.injEq] at hc
              obtain ⟨rfl, rfl⟩ := hc
              exact d_load hO hσ hop ht hn hx h1 hat hle (by rw [if_neg ha]; rfl)
            · cases hc
        · cases hc
      · cases hc
    · cases hs
  case store t x y =>
    simp only [Option.bind_eq_bind, Option.bind_eq_some_iff, Option.some.injEq] at hs
    obtain ⟨s1, h1, s2, h2, s3, h3, rfl⟩ := hs
    simp [calm] at hc
  case nilCheck x =>
    simp only [Option.bind_eq_bind, Option.bind_eq_some_iff, Option.some.injEq] at hs
    obtain ⟨s1, h1, rfl⟩ := hs
    simp only [calm] at hc
    split at hc
    · rename_i i j k e
      simp only [Option.some.injEq, Prod.mk.injEq] at hc
      obtain ⟨rfl, rfl⟩ := hc
      rw [← e]
      exact d_nilCheck hσ hop h1 (.inl ⟨i, j, k, e⟩)
    · rename_i cs e
      simp only [Option.some.injEq, Prod.mk.injEq] at hc
      obtain ⟨rfl, rfl⟩ := hc
      rw [← e]
      exact d_nilCheck hσ hop h1 (.inr ⟨cs, e⟩)
    · cases hc
  case binOp op t x y ty =>
    split at hs
    · rename_i ne ks hseq
      simp only [Option.bind_eq_bind, Option.bind_eq_some_iff, Option.some.injEq] at hs
      obtain ⟨s1, h1, s2, h2, rfl⟩ := hs
      simp only [calm] at hc
      split at hc
      · rename_i cs ds e1 e2
        split at hc
        · rename_i b hb
          simp only [Option.some.injEq, Prod.mk.injEq] at hc
          obtain ⟨rfl, rfl⟩ := hc
          exact d_eqS hσ hop hseq h1 h2 e1 e2 hb
        · cases hc
      · cases hc
    simp only [Option.bind_eq_bind, Option.bind_eq_some_iff, Option.some.injEq] at hs
    obtain ⟨s1, h1, s2, h2, rfl⟩ := hs
    simp only [calm] at hc
    split at hc
    · rename_i r hr
      simp only [Option.some.injEq, Prod.mk.injEq] at hc
      obtain ⟨rfl, rfl⟩ := hc
      refine d_bin hσ hop ⟨fun ht => ?_, fun ht => ?_, fun ht => ?_, fun ht => ?_⟩ h1 h2 hr
      · split at ht <;> first | assumption | (cases ht; done) | (split at ht <;> cases ht)
      · split at ht <;> first | exact ⟨_, by assumption⟩ | (cases ht; done) | (split at ht <;> cases ht)
      · split at ht
        · cases ht
        · cases ht
        · rename_i ms hu
          refine ⟨⟨ms, hu⟩, ?_⟩
          split at ht
          · exact .inl ⟨_, rfl⟩
          · exact .inr ⟨_, rfl⟩
          · cases ht
        · split at ht <;> cases ht
        · cases ht
      · split at ht
        · cases ht
        · cases ht
        · split at ht <;> cases ht
        · rename_i el hu
          refine ⟨⟨el, hu⟩, ?_⟩
          split at ht
          · rfl
          · cases ht
        · cases ht
    · cases hc
  case unOp op t x =>
    simp only [Option.bind_eq_bind, Option.bind_eq_some_iff, Option.some.injEq] at hs
    obtain ⟨s1, h1, rfl⟩ := hs
    simp only [calm] at hc
    split at hc
    · rename_i k n e
      simp only [Option.some.injEq, Prod.mk.injEq] at hc
      obtain ⟨rfl, rfl⟩ := hc
      exact d_neg hσ hop h1 e
    · rename_i b e
      simp only [Option.some.injEq, Prod.mk.injEq] at hc
      obtain ⟨rfl, rfl⟩ := hc
      exact d_not hσ hop h1 e
    · rename_i k n e
      simp only [Option.some.injEq, Prod.mk.injEq] at hc
      obtain ⟨rfl, rfl⟩ := hc
      exact d_xor hσ hop h1 e
    · cases hc
  case convert src dst x =>
    simp only [Option.bind_eq_bind, Option.bind_eq_some_iff] at hs
    obtain ⟨s1, h1, hs⟩ := hs
    split at hs
    · rename_i k0 k hu1 hu2
      cases hs
      obtain ⟨k', n, e, rfl, rfl⟩ := conv_int hc
      exact d_convInt hσ hop h1 hu1 hu2 e
    · rename_i hu1 hu2
      cases hs
      obtain ⟨q, e, rfl, rfl⟩ := conv_same hc
      exact d_convStr hσ hop h1 hu1 hu2 e
    · rename_i e' hu1 hu2
      split at hs
      · rename_i h8
        split at hs
        · cases hs
          obtain ⟨q, e, hq, rfl, rfl⟩ := conv_own hc
          exact d_ownBytes (by simpa using hfr 0 (by simp)) hσ hop h1 hu1 hu2 (isU8_spec h8) e hq
        cases hs
        obtain ⟨q, e, rfl, rfl⟩ := conv_to hc
        exact d_toBytes hX hσ hop h1 hu1 hu2 (isU8_spec h8) e
      · cases hs
    · rename_i e' hu1 hu2
      split at hs
      · rename_i h8
        cases hs
        obtain ⟨xs, hxs, hall, rfl, rfl⟩ := conv_of hc
        exact d_ofBytes hO hσ hop h1 hu1 hu2 (isU8_spec h8) hxs hall
      · cases hs
    · cases hs
  case makeInterface t x =>
    split at hs
    · cases hs
    · rename_i d hd hu
      simp only [Option.bind_eq_bind, Option.bind_eq_some_iff, Option.some.injEq] at hs
      obtain ⟨s1, h1, rfl⟩ := hs
      simp only [calm, Option.some.injEq, Prod.mk.injEq] at hc
      obtain ⟨rfl, rfl⟩ := hc
      exact d_mkIfc hσ hop h1 hu (fun ms e => hd ms (by rw [e]))
    · cases hs
  case makeFunc f xs ys =>
    simp only [Option.bind_eq_bind, Option.bind_eq_some_iff, Option.some.injEq] at hs
    obtain ⟨s1, h1, s2, h2, rfl⟩ := hs
    simp only [calm, Option.some.injEq, Prod.mk.injEq] at hc
    obtain ⟨rfl, rfl⟩ := hc
    exact d_mkFn hσ hop h1 h2
  case makeSlice t x y =>
    simp only [Option.bind_eq_bind, Option.bind_eq_some_iff] at hs
    obtain ⟨e, he, i, hi, hs⟩ := hs
    split at hs
    · rename_i h0
      simp only [Option.bind_eq_some_iff, Option.some.injEq] at hs
      obtain ⟨zs, hz, s1, h1, s2, h2, rfl⟩ := hs
      simp only [calm] at hc
      split at hc
      · rename_i n m e1 e2
        split at hc
        · rename_i hcond
          simp only [Option.some.injEq, Prod.mk.injEq] at hc
          obtain ⟨rfl, rfl⟩ := hc
          exact d_makeSlice hσ hop (telem_spec he) hi h0 hz h1 h2 e1 e2 hcond.1 hcond.2.1 hcond.2.2.1 hcond.2.2.2 (by simpa using hfr 0 (by simp))
        · cases hc
      · cases hc
    · cases hs
  case slice t x lo hi mx =>
    split at hs
    · rename_i e hu
      split at hs
      · rename_i hmode
        have hmx0 : mx = none := by simpa using hmode.2
        subst hmx0
        simp only [Option.bind_eq_bind, Option.bind_eq_some_iff, Option.some.injEq] at hs
        obtain ⟨sz, hn, s1, h1, sl, hl, sh, hh, rfl⟩ := hs
        simp only [calm] at hc
        split at hc
        · rename_i l h e1 e2
          split at hc
          · rename_i id q len ex
            split at hc
            · rename_i ob hlk
              split at hc
              · rename_i hcond
                refine d_sliceR hO hσ hop hu hn h1 hl hh e1 e2 ex hlk hcond.1 hcond.2.1 hcond.2.2.1 hcond.2.2.2.1 hcond.2.2.2.2.1 ?_
                split at hc
                · rename_i heq
                  rw [if_pos heq]
                  split at hc
                  · rename_i hlt
                    rw [if_pos hlt]
                    simp only [Option.some.injEq, Prod.mk.injEq] at hc
                    exact hc.1.symm
                  · rename_i hlt
                    rw [if_neg hlt]
                    simp only [Option.some.injEq, Prod.mk.injEq] at hc
                    exact hc.1.symm
                · rename_i heq
                  rw [if_neg heq]
                  simp only [Option.some.injEq, Prod.mk.injEq] at hc
                  exact hc.1.symm
              · cases hc
            · cases hc
          · rename_i id q ex
            split at hc
            · rename_i l' h' 
              split at hc
              · rename_i ob hlk
                split at hc
                · rename_i hcond
                  simp only [Option.some.injEq, Prod.mk.injEq] at hc
                  obtain ⟨rfl, rfl⟩ := hc
                  exact d_sliceR2 hO hσ hop hu hn h1 hl hh e1 e2 ex hlk hcond.1 hcond.2.1 hcond.2.2.1 hcond.2.2.2
                · cases hc
              · cases hc
            · cases hc
          · cases hc
        · cases hc
      simp only [Option.bind_eq_bind, Option.bind_eq_some_iff, Option.some.injEq] at hs
      obtain ⟨sz, hn, s1, h1, sl, hl, sh, hh, sm, hm, rfl⟩ := hs
      simp only [calm] at hc
      split at hc
      · rename_i l h m e1 e2 e3
        split at hc
        · rename_i s' xs full ex
          split at hc
          · cases hc
          · rename_i hsz
            have hsz' := Classical.not_not.1 hsz
            split at hc
            · split at hc
              · rename_i hcond
                simp only [Option.some.injEq, Prod.mk.injEq] at hc
                obtain ⟨rfl, rfl⟩ := hc
                exact d_sliceRo hσ hop hu hn h1 hl hh hm e1 e2 e3 ex hsz' (.inl ⟨rfl, hcond.1, hcond.2.1, hcond.2.2, rfl⟩)
              · cases hc
            · rename_i m'
              split at hc
              · rename_i h'
                split at hc
                · rename_i hcond
                  simp only [Option.some.injEq, Prod.mk.injEq] at hc
                  obtain ⟨rfl, rfl⟩ := hc
                  exact d_sliceRo hσ hop hu hn h1 hl hh hm e1 e2 e3 ex hsz' (.inr ⟨m', h', rfl, rfl, hcond.1, hcond.2.1, hcond.2.2.1, hcond.2.2.2, rfl⟩)
                · cases hc
              · cases hc
        · rename_i id q len ex
          split at hc
          · split at hc
            · rename_i ob hlk
              split at hc
              · rename_i hcond
                simp only [Option.some.injEq, Prod.mk.injEq] at hc
                obtain ⟨rfl, rfl⟩ := hc
                cases mx with
                | none => exact d_sliceOwn hO hσ hop hu hn h1 hl hh e1 e2 ex hlk hcond.1 hcond.2.1 hcond.2.2.1 (hcond.2.2.2.imp (fun h => h) (fun h => h.2)) (hcond.2.2.2.imp (fun h => h) (fun h => h.1))
                | some mx =>
                  simp only [copt] at hm
                  obtain ⟨sm', _, rfl⟩ := Option.map_eq_some_iff.1 hm
                  simp only [optI] at e3
                  obtain ⟨_, _, h⟩ := Option.map_eq_some_iff.1 e3
                  cases h
              · cases hc
            · cases hc
          · rename_i m'
            split at hc
            · rename_i h'
              split at hc
              · rename_i hcond
                simp only [Option.some.injEq, Prod.mk.injEq] at hc
                obtain ⟨rfl, rfl⟩ := hc
                exact d_slice3 (ob := ⟨0, 0, false, [], 0⟩) hσ hO hop hu hn h1 hl hh hm e1 e2 e3 ex hcond.1 hcond.2.1 hcond.2.2.1 hcond.2.2.2 (hnc _)
              · cases hc
            · cases hc
        · cases hc
      · cases hc
    · rename_i hu
      split at hs
      · simp only [Option.bind_eq_bind, Option.bind_eq_some_iff, Option.some.injEq] at hs
        obtain ⟨s1, h1, sl, hl, sh, hh, rfl⟩ := hs
        simp only [calm] at hc
        split at hc
        · rename_i l h e1 e2
          split at hc
          · rename_i q ex
            split at hc
            · rename_i hcond
              simp only [Option.some.injEq, Prod.mk.injEq] at hc
              obtain ⟨rfl, rfl⟩ := hc
              exact d_sliceS hσ hop hu h1 hl hh e1 e2 ex hcond.1 hcond.2.1 hcond.2.2
            · cases hc
          · cases hc
        · cases hc
      · cases hs
    · cases hs
  case fieldAddr t x f =>
    split at hs
    · rename_i fs hu
      simp only [Option.bind_eq_bind, Option.bind_eq_some_iff] at hs
      obtain ⟨fl, hf, n, hn, hs⟩ := hs
      split at hs
      · rename_i h0
        simp only [Option.bind_eq_some_iff, Option.some.injEq] at hs
        obtain ⟨s1, h1, rfl⟩ := hs
        simp only [calm] at hc
        split at hc
        · rename_i i j k e
          simp only [Option.some.injEq, Prod.mk.injEq] at hc
          obtain ⟨rfl, rfl⟩ := hc
          exact d_fieldAddr hσ hop h1 hu hf hn h0 (.inl ⟨i, j, k, e, rfl⟩)
        · rename_i cs e
          split at hc
          · rename_i hle
            simp only [Option.some.injEq, Prod.mk.injEq] at hc
            obtain ⟨rfl, rfl⟩ := hc
            exact d_fieldAddr hσ hop h1 hu hf hn h0 (.inr ⟨cs, e, hle, rfl⟩)
          · cases hc
        · cases hc
      · cases hs
    · cases hs
  case field t x f =>
    split at hs
    · rename_i fs hu
      simp only [Option.bind_eq_bind, Option.bind_eq_some_iff] at hs
      obtain ⟨fl, hf, n, hn, agg, ht, hs⟩ := hs
      split at hs
      · rename_i h0
        simp only [Option.bind_eq_some_iff, Option.some.injEq] at hs
        obtain ⟨s1, h1, rfl⟩ := hs
        simp only [calm] at hc
        split at hc
        · rename_i cs e
          split at hc
          · rename_i hle
            split at hc
            · rename_i ha
              simp only [Option.some.injEq, Prod.mk.injEq] at hc
              obtain ⟨rfl, rfl⟩ := hc
              exact d_field hσ hop h1 hu hf hn ht h0 e hle (by rw [if_pos ha])
            · rename_i ha
              split at hc
              · rename_i c r hd
                simp only [Option.some.injEq, Prod.mk.injEq] at hc
                obtain ⟨rfl, rfl⟩ := hc
                exact d_field hσ hop h1 hu hf hn ht h0 e hle (by rw [if_neg ha, hd]; rfl)
              · cases hc
          · cases hc
        · cases hc
      · cases hs
    · cases hs
  case indexAddr t x i =>
    split at hs
    · rename_i e hu
      simp only [Option.bind_eq_bind, Option.bind_eq_some_iff, Option.some.injEq] at hs
      obtain ⟨sz, hn, s1, h1, s2, h2, rfl⟩ := hs
      simp only [calm] at hc
      split at hc
      · rename_i k j hj
        split at hc
        · rename_i s' xs full ex
          split at hc
          · rename_i hcond
            simp only [Option.some.injEq, Prod.mk.injEq] at hc
            obtain ⟨rfl, rfl⟩ := hc
            exact d_indexAddr hO hσ hop h1 h2 hu hn hj (.inl ⟨s', xs, full, ex, hcond.1, hcond.2.1, by omega, rfl⟩)
          · cases hc
        · rename_i id lo len ex
          split at hc
          · rename_i ob hlk
            split at hc
            · rename_i hcond
              simp only [Option.some.injEq, Prod.mk.injEq] at hc
              obtain ⟨rfl, rfl⟩ := hc
              exact d_indexAddr hO hσ hop h1 h2 hu hn hj (.inr ⟨id, lo, len, ob, ex, hlk, hcond.1, hcond.2.1, hcond.2.2, rfl⟩)
            · cases hc
          · cases hc
        · cases hc
      · cases hc
    · rename_i len e hu
      simp only [Option.bind_eq_bind, Option.bind_eq_some_iff, Option.some.injEq] at hs
      obtain ⟨sz, hn, s1, h1, s2, h2, rfl⟩ := hs
      simp only [calm] at hc
      split at hc
      · rename_i k j hj
        split at hc
        · rename_i hcond
          split at hc
          · rename_i id r q ex
            simp only [Option.some.injEq, Prod.mk.injEq] at hc
            obtain ⟨rfl, rfl⟩ := hc
            exact d_indexAddrA hσ hop h1 h2 hu hn hj hcond.1 hcond.2 (.inl ⟨id, r, q, ex, rfl⟩)
          · rename_i cs ex
            split at hc
            · simp only [Option.some.injEq, Prod.mk.injEq] at hc
              obtain ⟨rfl, rfl⟩ := hc
              exact d_indexAddrA hσ hop h1 h2 hu hn hj hcond.1 hcond.2 (.inr ⟨cs, ex, rfl⟩)
            · cases hc
          · cases hc
        · cases hc
      · cases hc
    · cases hs
  case index t x i =>
    split at hs
    · rename_i hu
      simp only [Option.bind_eq_bind, Option.bind_eq_some_iff, Option.some.injEq] at hs
      obtain ⟨s1, h1, s2, h2, rfl⟩ := hs
      simp only [calm] at hc
      split at hc
      · rename_i k j hj
        split at hc
        · rename_i q ex
          split at hc
          · rename_i h0
            split at hc
            · rename_i b hb
              simp only [Option.some.injEq, Prod.mk.injEq] at hc
              obtain ⟨rfl, rfl⟩ := hc
              exact d_indexS hσ hop h1 h2 hu hj h0 ex hb
            · cases hc
          · cases hc
        · cases hc
      · cases hc
    · rename_i len e hu
      simp only [Option.bind_eq_bind, Option.bind_eq_some_iff] at hs
      obtain ⟨sz, hn, agg, ht, hs⟩ := hs
      split at hs
      · rename_i h0
        simp only [Option.bind_eq_some_iff, Option.some.injEq] at hs
        obtain ⟨s1, h1, s2, h2, rfl⟩ := hs
        simp only [calm] at hc
        split at hc
        · rename_i k j hj
          split at hc
          · rename_i hcond
            split at hc
            · rename_i cs ex
              split at hc
              · rename_i hle
                split at hc
                · rename_i ha
                  simp only [Option.some.injEq, Prod.mk.injEq] at hc
                  obtain ⟨rfl, rfl⟩ := hc
                  exact d_indexA hσ hop h1 h2 hu hn ht h0 hj hcond.1 hcond.2 ex hle (by rw [if_pos ha])
                · rename_i ha
                  split at hc
                  · rename_i c r hd
                    simp only [Option.some.injEq, Prod.mk.injEq] at hc
                    obtain ⟨rfl, rfl⟩ := hc
                    exact d_indexA hσ hop h1 h2 hu hn ht h0 hj hcond.1 hcond.2 ex hle (by rw [if_neg ha, hd]; rfl)
                  · cases hc
              · cases hc
            · cases hc
          · cases hc
        · cases hc
      · cases hs
    · cases hs
  case typeAssert x xt t ok =>
    split at hs
    · cases hs
    · rename_i d hd hu
      simp only [Option.bind_eq_bind, Option.bind_eq_some_iff, Option.some.injEq] at hs
      obtain ⟨s1, h1, rfl⟩ := hs
      simp only [calm] at hc
      split at hc
      · rename_i t' v' ex
        split at hc
        · rename_i e
          subst e
          simp only [Option.some.injEq, Prod.mk.injEq] at hc
          obtain ⟨rfl, rfl⟩ := hc
          exact d_assert hσ hop h1 hu (fun ms e => hd ms (by rw [e])) ex
        · cases hc
      · cases hc
    · rename_i d hd hu
      simp only [Option.bind_eq_bind, Option.bind_eq_some_iff, Option.some.injEq] at hs
      obtain ⟨zero, hz, s1, h1, rfl⟩ := hs
      simp only [calm] at hc
      split at hc
      · rename_i t' v' ex
        split at hc
        · rename_i e
          simp only [Option.some.injEq, Prod.mk.injEq] at hc
          obtain ⟨rfl, rfl⟩ := hc
          exact d_assertOk hσ hop h1 hu (fun ms e => hd ms (by rw [e])) hz (.inl ⟨_, _, ex, by rw [if_pos e]⟩)
        · rename_i e
          simp only [Option.some.injEq, Prod.mk.injEq] at hc
          obtain ⟨rfl, rfl⟩ := hc
          exact d_assertOk hσ hop h1 hu (fun ms e => hd ms (by rw [e])) hz (.inl ⟨_, _, ex, by rw [if_neg e]⟩)
      · rename_i ex
        simp only [Option.some.injEq, Prod.mk.injEq] at hc
        obtain ⟨rfl, rfl⟩ := hc
        exact d_assertOk hσ hop h1 hu (fun ms e => hd ms (by rw [e])) hz (.inr ⟨ex, rfl⟩)
      · cases hc
    · cases hs
  case extract x i =>
    simp only [Option.bind_eq_bind, Option.bind_eq_some_iff, Option.some.injEq] at hs
    obtain ⟨s1, h1, rfl⟩ := hs
    simp only [calm] at hc
    split at hc
    · rename_i vs ex
      split at hc
      · rename_i v' hv
        simp only [Option.some.injEq, Prod.mk.injEq] at hc
        obtain ⟨rfl, rfl⟩ := hc
        exact d_extract hσ hop h1 ex hv
      · cases hc
    · cases hc
  case call c =>
    split at hs
    · rename_i f hcl
      split at hs
      · simp only [Option.bind_eq_bind, Option.bind_eq_some_iff, Option.some.injEq] at hs
        obtain ⟨sf, hf, ss, hss, rfl⟩ := hs
        simp only [calm] at hc
        split at hc
        · rename_i g as bs he
          split at hc
          · rename_i as' L hargs
            split at hc
            · rename_i hL
              split at hc
              · rename_i v0 hfv
                simp only [Option.some.injEq, Prod.mk.injEq] at hc
                obtain ⟨rfl, rfl⟩ := hc
                obtain ⟨⟨r, Hs⟩, hcall, rfl⟩ := Option.map_eq_some_iff.1 hfv
                exact d_callF hC hO hx' hinj hX hσ hop (by rw [hcl]; exact hf) hss he hargs hcall (.inl (List.isEmpty_iff.1 hL))
              · cases hc
            · split at hc
              · rename_i r Hs hcall
                split at hc
                · cases hc
                · rename_i hro
                  simp only [Option.some.injEq, Prod.mk.injEq] at hc
                  obtain ⟨rfl, rfl⟩ := hc
                  exact d_callF hC hO hx' hinj hX hσ hop (by rw [hcl]; exact hf) hss he hargs hcall (.inr (Bool.eq_false_iff.2 hro))
              · cases hc
          · cases hc
        · cases hc
      simp only [Option.bind_eq_bind, Option.bind_eq_some_iff, Option.some.injEq] at hs
      obtain ⟨sf, hf, ss, hss, rfl⟩ := hs
      simp only [calm] at hc
      split at hc
      · rename_i g as bs he
        split at hc
        · rename_i as' L hargs
          split at hc
          · rename_i r Hs hcall
            split at hc
            · cases hc
            · rename_i hro
              simp only [Option.some.injEq, Prod.mk.injEq] at hc
              obtain ⟨rfl, rfl⟩ := hc
              exact d_call hC hO hx' hinj hX hσ hop (by rw [hcl]; exact hf) hss he hargs (fun k hk => hfr k (by simpa using hk)) hcall (Bool.eq_false_iff.2 hro)
          · cases hc
        · cases hc
      · cases hc
    · rename_i x m hcl
      simp only [Option.bind_eq_bind, Option.bind_eq_some_iff, Option.some.injEq] at hs
      obtain ⟨sf, hf, ss, hss, rfl⟩ := hs
      simp only [calm] at hc
      split at hc
      · rename_i g as bs he
        split at hc
        · rename_i as' L hargs
          split at hc
          · rename_i r Hs hcall
            split at hc
            · cases hc
            · rename_i hro
              simp only [Option.some.injEq, Prod.mk.injEq] at hc
              obtain ⟨rfl, rfl⟩ := hc
              exact d_call hC hO hx' hinj hX hσ hop (by rw [hcl]; exact ⟨rfl, hf⟩) hss he hargs (fun k hk => hfr k (by simpa using hk)) hcall (Bool.eq_false_iff.2 hro)
          · cases hc
        · cases hc
      · cases hc
    · rename_i hcl
      split at hs
      · rename_i x t hx ht
        split at hs
        · rename_i e hu
          simp only [Option.bind_eq_bind, Option.bind_eq_some_iff, Option.some.injEq] at hs
          obtain ⟨s1, h1, rfl⟩ := hs
          simp only [calm] at hc
          split at hc
          · rename_i n hn
            simp only [Option.some.injEq, Prod.mk.injEq] at hc
            obtain ⟨rfl, rfl⟩ := hc
            exact d_len hσ hop hcl hx ht (str := false) (by simpa using ⟨e, hu⟩) h1 hn
          · cases hc
        · rename_i hu
          simp only [Option.bind_eq_bind, Option.bind_eq_some_iff, Option.some.injEq] at hs
          obtain ⟨s1, h1, rfl⟩ := hs
          simp only [calm] at hc
          split at hc
          · rename_i n hn
            simp only [Option.some.injEq, Prod.mk.injEq] at hc
            obtain ⟨rfl, rfl⟩ := hc
            exact d_len hσ hop hcl hx ht (str := true) (by simpa using hu) h1 hn
          · cases hc
        · cases hs
      · cases hs
    · rename_i hcl
      split at hs
      · rename_i s' x t u hx ht
        simp only [Option.bind_eq_bind, Option.bind_eq_some_iff] at hs
        obtain ⟨e, he, i, hi, z, hz, s1, h1, s2, h2, hs⟩ := hs
        split at hs
        · rename_i h0
          split at hs
          · rename_i q hu
            split at hs
            · rename_i htu
              subst htu
              cases hs
              simp only [calm] at hc
              split at hc
              · rename_i sz xs full ex
                split at hc
                · rename_i hcond
                  split at hc
                  · rename_i ys hys
                    split at hc
                    · cases hc
                    · rename_i hne
                      split at hc
                      · rename_i hb
                        simp only [Option.some.injEq, Prod.mk.injEq] at hc
                        obtain ⟨rfl, rfl⟩ := hc
                        have hr := hσ.ev h1
                        rw [ex] at hr
                        rw [hcond.1] at hr
                        obtain ⟨us, A, cc, hflat⟩ := content_flat hO hr (sz := i.size) (xs := xs) (by
                          simp only [content]; rw [if_pos hcond.2])
                        obtain ⟨vs, B, cc', hflat'⟩ := content_flat hO (hσ.ev h2) hys
                        exact append_calm hop hcl hx ht (telem_spec he) hu (.inl ⟨_, rfl⟩) hi h0.1 hz (by simpa using hfr 0 (by simp)) (flat_full hflat hr) hflat'.len (fun w' hw => hflat'.first w' hw) hflat'.l hb.2 hb.1
                          (fun e => Classical.byContradiction fun hx => hne ⟨hx, e⟩)
                      · cases hc
                  · cases hc
                · cases hc
              · cases hc
            · cases hs
          · rename_i hu
            split at hs
            · rename_i h8
              cases hs
              simp only [calm] at hc
              split at hc
              · rename_i sz xs full ex
                split at hc
                · rename_i hfull
                  split at hc
                  · rename_i ys hys
                    split at hc
                    · cases hc
                    · rename_i hne
                      have hxs : xs = [] := Classical.not_not.1 hne
                      subst hxs
                      split at hc
                      · rename_i hb
                        simp only [Option.some.injEq, Prod.mk.injEq] at hc
                        obtain ⟨rfl, rfl⟩ := hc
                        have hr := hσ.ev h1
                        rw [ex, hfull] at hr
                        obtain ⟨us, A, cc, hflat⟩ := content_flat hO hr (sz := i.size) (xs := []) (by simp [content])
                        have hx2 := rep_str (hσ.ev h2) hys
                        have := append_calm (ys := bytesRow ys) (vs := Lib.strCells ys) hop hcl hx ht (telem_spec he) hu (.inr rfl) hi h0.1 hz (by simpa using hfr 0 (by simp)) (flat_full hflat hr) (fun w' => by rw [hx2, bytesRow_length]; rfl)
                          (fun w' hw => by rw [hx2, bytesRow_length]; exact Lib.run_firstCells_string w' i.size ys) (by rw [h8.2]; exact strFlat ys) (by rw [bytesRow_length]; simpa using hb.2) (by rw [bytesRow_length]; simpa using hb.1) (fun _ => rfl)
                        rw [bytesRow_length, h8.2] at this
                        simpa using this
                      · cases hc
                  · cases hc
                · cases hc
              · cases hc
            · cases hs
          · cases hs
        · cases hs
      · cases hs
    · rename_i hcl
      split at hs
      · simp only [Option.bind_eq_bind, Option.bind_eq_some_iff] at hs
        obtain ⟨e, he, sz, hn, hs⟩ := hs
        split at hs
        · simp only [Option.bind_eq_some_iff, Option.some.injEq] at hs
          obtain ⟨z, hz, s1, h1, rfl⟩ := hs
          simp [calm] at hc
        · cases hs
      · cases hs
    · rename_i hcl
      simp only [Option.bind_eq_bind, Option.bind_eq_some_iff, Option.some.injEq] at hs
      obtain ⟨ss, hss, rfl⟩ := hs
      simp only [calm] at hc
      split at hc
      · rename_i k x k' y he
        split at hc
        · rename_i hk
          subst hk
          simp only [Option.some.injEq, Prod.mk.injEq] at hc
          obtain ⟨rfl, rfl⟩ := hc
          exact d_min hσ hop (mx := false) (by simpa using hcl) hss he
        · cases hc
      · cases hc
    · rename_i hcl
      simp only [Option.bind_eq_bind, Option.bind_eq_some_iff, Option.some.injEq] at hs
      obtain ⟨ss, hss, rfl⟩ := hs
      simp only [calm] at hc
      split at hc
      · rename_i k x k' y he
        split at hc
        · rename_i hk
          subst hk
          simp only [Option.some.injEq, Prod.mk.injEq] at hc
          obtain ⟨rfl, rfl⟩ := hc
          exact d_min hσ hop (mx := true) (by simpa using hcl) hss he
        · cases hc
      · cases hc
    · cases hs
  all_goals cases hs

end Go.Proofs.Ytjpccbjgmogclaa.Lift
