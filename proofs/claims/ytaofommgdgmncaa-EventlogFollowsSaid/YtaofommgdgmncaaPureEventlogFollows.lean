/- For all logs and names, Follows and Relation of package eventlog return what the reference returns. -/
import Derived.Test.YtaofommgdgmncaaPr14
import Derived.Test.YtaofommgdgmncaaFollows
import Derived.Test.YtaofommgdgmncaaAlive
namespace Go.Proofs.Ytaofommgdgmncaa.Pure
open Go.RowKit Go.Proofs.Ytaofommgdgmncaa.Pr Go.Proofs.Ytaofommgdgmncaa.Evs Go.Proofs.Ytaofommgdgmncaa.Logs Go.Proofs.YtaofommgdgmncaaW.PrintWords Go.Proofs.YtaofommgdgmncaaW.PrintLast Go.Proofs.YtaofommgdgmncaaW.PrintMore
set_option linter.unusedVariables false
set_option linter.unusedSimpArgs false

theorem EventlogFollows (l : List (List ByteArray)) (a b : ByteArray) (hl : LogOk l) (ha : a.size ≤ 140737488351232) (hb : b.size ≤ 140737488351232) : ∃ k, petrinetlaw48_EventlogFollows.f k l a b = some true := by
  apply Ev.rounds
  unfold petrinetlaw48_EventlogFollows.f
  obtain ⟨bb, hbb, hF⟩ := few l hl.1
  refine Ev.bind hbb ?_
  have hyes : Ev (fun k => petrinetlaw48_EventlogFollows.j0 k l a b true) true := by
    refine Ev.succ ?_
    simp only [petrinetlaw48_EventlogFollows.j0]
    exact Ev.pos trivial alive'
  cases bb with
  | false => exact Ev.neg (by decide) hyes
  | true =>
    have hf := hF rfl
    refine Ev.pos rfl ?_
    by_cases h1 : (a.size : Int) > 100
    · exact Ev.pos h1 hyes
    · refine Ev.neg h1 ?_
      by_cases h2 : (b.size : Int) > 100
      · rw [decide_eq_true h2]; exact hyes
      · rw [decide_eq_false h2]
        refine Ev.succ ?_
        simp only [petrinetlaw48_EventlogFollows.j0]
        refine Ev.neg (by decide) ?_
        exact Ev.bind (efollows hf a b) (Ev.bind (rfollows hf a b) (Ev.pos rfl (Ev.bind (erelation hf a b) (Ev.bind (rrelation hf a b) (Ev.pos rfl alive')))))

end Go.Proofs.Ytaofommgdgmncaa.Pure
