/- For all pairs of sets, Next of package bitset returns what the reference returns. -/
import Derived.Test.YtmopcjebjbdapaaPr10
import Derived.Test.YtmopcjebjbdapaaLives
import Derived.Test.YtmopcjebjbdapaaMins
namespace Go.Proofs.Ytmopcjebjbdapaa.Pure
open Go.RowKit Go.Proofs.Ytmopcjebjbdapaa.Pr Go.Proofs.Ytmopcjebjbdapaa.Bits Go.Proofs.Ytmopcjebjbdapaa.Sets Go.Proofs.Ytmopcjebjbdapaa.Mins Go.Proofs.Ytmopcjebjbdapaa.Refs Go.Proofs.YtmopcjebjbdapaaW.PrintWords Go.Proofs.YtmopcjebjbdapaaW.PrintLast Go.Proofs.YtmopcjebjbdapaaW.PrintMore
set_option linter.unusedVariables false
set_option linter.unusedSimpArgs false

/-- s without the first i elements of o. -/
def Rem (s o : BitVec 64) (i : Nat) (out : BitVec 64) : Prop := ∀ j, j < 64 → out.getLsbD j = (s.getLsbD j && !decide (j ∈ (els o 64).take i))
theorem next_l0 {s o : BitVec 64} (h : subS s o = true) (hne : s ≠ o) : ∀ (d i : Nat) (out : BitVec 64), i ≤ (els o 64).length → (els o 64).length - i = d → Rem s o i out → (∀ x ∈ (els o 64).take i, s.getLsbD x = true) →
    Ev (fun k => petrinetref06_Next.l0 k (U s) ((els o 64).map Int.ofNat) (U out) (i : Int)) (U ((s - o) &&& o), true) := by
  have hl := els_len o 64
  intro d
  induction d with
  | zero =>
    intro i out hi hd hR hA
    exfalso
    apply hne
    apply ext_bit
    intro j hj
    cases ho : o.getLsbD j with
    | true =>
      have : j ∈ (els o 64).take i := by rw [List.take_of_length_le (by omega)]; exact mem_els.2 ⟨hj, ho⟩
      exact hA j this
    | false =>
      cases hs : s.getLsbD j with
      | false => rfl
      | true => rw [subS_iff.1 h j hs] at ho; cases ho
  | succ d ih =>
    intro i out hi hd hR hA
    have hlt : i < (els o 64).length := by omega
    have hrd : rd ((els o 64).map Int.ofNat) (i : Int) = (((els o 64)[i] : Nat) : Int) := by simp [rd, hlt]
    obtain ⟨m, hm⟩ : ∃ m, m = (els o 64)[i] := ⟨_, rfl⟩
    have hmo := mem_els.1 (show (els o 64)[i] ∈ els o 64 from List.getElem_mem hlt)
    rw [← hm] at hrd hmo
    have hsort := els_sorted o 64
    have htake : (els o 64).take (i + 1) = (els o 64).take i ++ [m] := by rw [List.take_succ_eq_append_getElem hlt, hm]
    have hless : ∀ x ∈ (els o 64).take i, x < m := by
      intro x hx
      obtain ⟨q, hq, rfl⟩ := List.mem_iff_getElem.1 hx
      simp at hq
      rw [List.getElem_take, hm]
      exact List.pairwise_iff_getElem.1 hsort q i (by omega) hlt (by omega)
    have hbelow : ∀ j, j < m → o.getLsbD j = true → j ∈ (els o 64).take i := by
      intro j hj ho
      have hj64 := BitVec.lt_of_getLsbD ho
      obtain ⟨q, hq, hqj⟩ := List.mem_iff_getElem.1 (mem_els.2 ⟨hj64, ho⟩)
      have hqi : q < i := by
        rcases Nat.lt_or_ge q i with h9 | h9
        · exact h9
        · exfalso
          rcases Nat.lt_or_eq_of_le h9 with h8 | h8
          · have := List.pairwise_iff_getElem.1 hsort i q hlt hq h8
            omega
          · subst h8; omega
      rw [← hqj]
      exact List.mem_iff_getElem.2 ⟨q, by simp; omega, by rw [List.getElem_take]⟩
    have hnot : m ∉ (els o 64).take i := fun hx => by have := hless m hx; omega
    have c1 : (i : Int) < ((els o 64).length : Int) := by omega
    have c2 : (0 : Int) ≤ (i : Int) := by omega
    refine Ev.succ ?_
    simp only [petrinetref06_Next.l0, List.length_map, c1, c2, if_true, hrd]
    refine Ev.bind (rhas s _) ?_
    cases hs : s.getLsbD m with
    | true =>
      simp only [Int.toNat_natCast, hs, Int.natCast_nonneg, decide_true, Bool.true_and, if_true]
      refine Ev.bind (rbit hmo.1) ?_
      have hob : out.getLsbD m = true := by rw [hR m hmo.1, hs]; simp [hnot]
      rw [wrap_sub, sub_tp hob, wrap_succ (by omega)]
      refine ih (i + 1) _ (by omega) (by omega) ?_ ?_
      · intro j hj
        rw [BitVec.getLsbD_and, BitVec.getLsbD_not, tp_bit, hR j hj, htake]
        by_cases e : m = j
        · subst e; simp [hmo.1]
        · have e' : ¬ j = m := fun h => e h.symm
          simp [e, e', hj]
      · intro x hx
        rw [htake, List.mem_append, List.mem_singleton] at hx
        rcases hx with hx | rfl
        · exact hA x hx
        · exact hs
    | false =>
      simp only [Int.toNat_natCast, hs, Bool.and_false, if_neg (show ¬ (false = true) by decide)]
      refine Ev.bind (rbit hmo.1) ?_
      have hob : out.getLsbD m = false := by rw [hR m hmo.1, hs]; rfl
      rw [wrap_add, add_tp hob]
      have hlk : Lacks s o m := ⟨hmo.2, hs, fun j hj ho => hA j (hbelow j hj ho)⟩
      have e : out ||| tp m = (s - o) &&& o := by
        apply ext_bit
        intro j hj
        rw [next_bit h hlk j hj, BitVec.getLsbD_or, tp_bit, hR j hj]
        by_cases c3 : j < m
        · rw [if_pos c3]
          have e1 : ¬ m = j := by omega
          cases hsj : s.getLsbD j with
          | false => simp [e1]
          | true => simp [e1, hbelow j c3 (subS_iff.1 h j hsj)]
        · rw [if_neg c3]
          by_cases c4 : j = m
          · subst c4; simp [hj]
          · have e1 : ¬ m = j := fun h => c4 h.symm
            have e2 : j ∉ (els o 64).take i := fun hx => by have := hless j hx; omega
            rw [if_neg c4]; simp [e1, e2]
      rw [e]
      exact Ev.now _

theorem rnext (s o : BitVec 64) : Ev (fun k => petrinetref06_Next.f k (U s) (U o)) (U (nextB s o).1, (nextB s o).2) := by
  unfold petrinetref06_Next.f
  refine Ev.bind (rsubset s o) ?_
  unfold nextB
  by_cases h : subS s o = true
  · have h' : s &&& ~~~o = 0#64 := by unfold subS at h; simpa using h
    simp only [h, h', if_true]
    refine Ev.succ ?_
    simp only [petrinetref06_Next.j0]
    by_cases e : s = o
    · subst e
      simp
      exact Ev.now _
    · have e' : (U s == U o) = false := by simp [U_inj, e]
      simp only [e', if_neg (show ¬ (false = true) by decide), if_neg e]
      refine Ev.bind (rlist o) ?_
      exact next_l0 h e _ 0 s (by omega) rfl (fun j hj => by simp) (by simp)
  · have h' : ¬ s &&& ~~~o = 0#64 := by unfold subS at h; simpa using h
    simp only [h, h', if_false]
    refine Ev.succ ?_
    simp only [petrinetref06_Next.j0]
    exact Ev.now _

theorem BitsetNexts : petrinetlaw06_BitsetNexts.Pure := by
  intro a0 a1 h0 h1
  obtain ⟨s, rfl⟩ := U_of h0
  obtain ⟨o, rfl⟩ := U_of h1
  apply Ev.rounds
  unfold petrinetlaw06_BitsetNexts.f
  simp only [next_U, Option.bind_some]
  refine Ev.bind (rnext s o) ?_
  simp only [beq_self_eq_true, if_true]
  exact lives'

end Go.Proofs.Ytmopcjebjbdapaa.Pure
