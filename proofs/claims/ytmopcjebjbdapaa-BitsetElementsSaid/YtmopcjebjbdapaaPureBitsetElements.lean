/- For all sets and numbers, Of, List, Has, With and Without of package bitset return what the reference returns. -/
import Derived.Test.YtmopcjebjbdapaaPr9
import Derived.Test.YtmopcjebjbdapaaLives
namespace Go.Proofs.Ytmopcjebjbdapaa.Pure
open Go.RowKit Go.Proofs.Ytmopcjebjbdapaa.Pr Go.Proofs.Ytmopcjebjbdapaa.Bits Go.Proofs.Ytmopcjebjbdapaa.Sets Go.Proofs.Ytmopcjebjbdapaa.Refs Go.Proofs.YtmopcjebjbdapaaW.PrintWords Go.Proofs.YtmopcjebjbdapaaW.PrintLast Go.Proofs.YtmopcjebjbdapaaW.PrintMore
set_option linter.unusedVariables false
set_option linter.unusedSimpArgs false

theorem BitsetElements : petrinetlaw06_BitsetElements.Pure := by
  intro a0 i l h0 hi hl1 hl2 hw
  obtain ⟨a, rfl⟩ := U_of h0
  apply Ev.rounds
  unfold petrinetlaw06_BitsetElements.f
  by_cases hl : (l.length : Int) > 200
  · simp only [hl, if_true]
    exact lives'
  · simp only [hl, if_false]
    refine Ev.bind (of_U l (by omega)) ?_
    refine Ev.bind (rof l (by omega)) ?_
    simp only [if_true, list_U, Option.bind_some]
    refine Ev.bind (rlist a) ?_
    refine Ev.bind (rints _ (by have := els_len a 64; simp; omega)) ?_
    refine Ev.succ ?_
    simp only [petrinetlaw06_BitsetElements.j0, Bool.not_true, has_U, with_U, without_U, Option.bind_some]
    simp only [if_neg (show ¬ (false = true) by decide)]
    refine Ev.bind (rhas a i) ?_
    simp only [beq_self_eq_true, if_true]
    refine Ev.bind (rwith a i) ?_
    simp only [if_true]
    refine Ev.bind (rwithout a i) ?_
    simp only [if_true]
    exact lives'

end Go.Proofs.Ytmopcjebjbdapaa.Pure
