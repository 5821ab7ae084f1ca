/- For all logs and strings, Text, Check and Name of package eventlog return what the reference returns. -/
import Derived.Test.YtaofommgdgmncaaPr29
import Derived.Test.YtaofommgdgmncaaTexts
import Derived.Test.YtaofommgdgmncaaAlive
namespace Go.Proofs.Ytaofommgdgmncaa.Pure
open Go.RowKit Go.Proofs.Ytaofommgdgmncaa.Pr Go.Proofs.Ytaofommgdgmncaa.Evs Go.Proofs.Ytaofommgdgmncaa.Logs Go.Proofs.Ytaofommgdgmncaa.Names Go.Proofs.YtaofommgdgmncaaW.PrintWords Go.Proofs.YtaofommgdgmncaaW.PrintLast Go.Proofs.YtaofommgdgmncaaW.PrintMore
set_option linter.unusedVariables false
set_option linter.unusedSimpArgs false

theorem EventlogChecks (l : List (List ByteArray)) (a : ByteArray) (hl : LogOk l) (ha : a.size ≤ 140737488351232) : ∃ k, petrinetlaw48_EventlogChecks.f k l a = some true := by
  apply Ev.rounds
  unfold petrinetlaw48_EventlogChecks.f
  obtain ⟨bb, hbb, hF⟩ := few l hl.1
  refine Ev.bind hbb ?_
  have hyes : Ev (fun k => petrinetlaw48_EventlogChecks.j0 k l a true) true := by
    refine Ev.succ ?_
    simp only [petrinetlaw48_EventlogChecks.j0]
    exact Ev.pos trivial alive'
  cases bb with
  | false => exact Ev.neg (by decide) hyes
  | true =>
    have hf := hF rfl
    refine Ev.pos rfl ?_
    by_cases h2 : (a.size : Int) > 100
    · rw [decide_eq_true h2]; exact hyes
    · rw [decide_eq_false h2]
      refine Ev.succ ?_
      simp only [petrinetlaw48_EventlogChecks.j0, eventlog_Name.f, Option.bind_some]
      refine Ev.neg (by decide) ?_
      refine Ev.bind (eText hf) (Ev.bind (rText hf) (Ev.bind (rname a (by omega)) (Ev.pos (by simp) ?_)))
      exact Ev.bind (echeck hf) (Ev.bind (rcheck hf) (Ev.pos (by simp) (Ev.pos rfl (Ev.pos (by simp) alive'))))

end Go.Proofs.Ytaofommgdgmncaa.Pure
