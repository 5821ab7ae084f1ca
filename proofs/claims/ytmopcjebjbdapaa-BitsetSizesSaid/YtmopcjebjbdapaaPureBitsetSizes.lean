/- For all sets and numbers, Len, Least, Subset and All of package bitset return what the reference returns. -/
import Derived.Test.YtmopcjebjbdapaaPr10
import Derived.Test.YtmopcjebjbdapaaLives
namespace Go.Proofs.Ytmopcjebjbdapaa.Pure
open Go.RowKit Go.Proofs.Ytmopcjebjbdapaa.Pr Go.Proofs.Ytmopcjebjbdapaa.Bits Go.Proofs.Ytmopcjebjbdapaa.Sets Go.Proofs.Ytmopcjebjbdapaa.Refs Go.Proofs.YtmopcjebjbdapaaW.PrintWords Go.Proofs.YtmopcjebjbdapaaW.PrintLast Go.Proofs.YtmopcjebjbdapaaW.PrintMore
set_option linter.unusedVariables false
set_option linter.unusedSimpArgs false

theorem BitsetSizes : petrinetlaw06_BitsetSizes.Pure := by
  intro a0 a1 n h0 h1 hn
  obtain ⟨a, rfl⟩ := U_of h0
  obtain ⟨b, rfl⟩ := U_of h1
  apply Ev.rounds
  unfold petrinetlaw06_BitsetSizes.f
  simp only [len_U, least_U, subset_U, Option.bind_some]
  refine Ev.bind (rlen a) ?_
  simp only [if_true]
  refine Ev.bind (rleast a) ?_
  simp only [if_true]
  refine Ev.bind (rsubset a b) ?_
  refine Ev.succ ?_
  simp only [petrinetlaw06_BitsetSizes.j0, bne_self_eq_false, subset_U, Option.bind_some]
  have e : subS a a = true := subS_iff.2 (fun _ h => h)
  simp only [if_neg (show ¬ (false = true) by decide), e, if_true]
  refine Ev.bind (all_U n) ?_
  refine Ev.bind (rall n) ?_
  simp only [if_true]
  exact lives'

end Go.Proofs.Ytmopcjebjbdapaa.Pure
