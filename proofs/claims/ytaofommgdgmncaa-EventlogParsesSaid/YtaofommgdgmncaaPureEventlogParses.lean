/- For all texts, Parse of package eventlog returns what the reference returns. -/
import Derived.Test.YtaofommgdgmncaaPr14
import Derived.Test.YtaofommgdgmncaaLogs
import Derived.Test.YtaofommgdgmncaaAlive
namespace Go.Proofs.Ytaofommgdgmncaa.Pure
open Go.RowKit Go.Proofs.Ytaofommgdgmncaa.Pr Go.Proofs.Ytaofommgdgmncaa.Evs Go.Proofs.Ytaofommgdgmncaa.Logs Go.Proofs.YtaofommgdgmncaaW.PrintWords Go.Proofs.YtaofommgdgmncaaW.PrintLast Go.Proofs.YtaofommgdgmncaaW.PrintMore
set_option linter.unusedVariables false
set_option linter.unusedSimpArgs false

theorem EventlogParses : petrinetlaw48_EventlogParses.Pure := by
  intro s hs
  apply Ev.rounds
  unfold petrinetlaw48_EventlogParses.f
  by_cases h : (s.size : Int) > 4000
  · exact Ev.pos h alive'
  · obtain ⟨r, hr, hp⟩ := rparse s
    have hsm := parse_small hr
    refine Ev.neg h ?_
    simp only [hr, Option.bind_some]
    refine Ev.bind hp ?_
    refine Ev.bind (requal r.1 r.1 (by omega) (fun t ht => by have := hsm.2 t ht; omega)) ?_
    exact Ev.pos (by simp) (Ev.pos (by simp) alive')

end Go.Proofs.Ytaofommgdgmncaa.Pure
