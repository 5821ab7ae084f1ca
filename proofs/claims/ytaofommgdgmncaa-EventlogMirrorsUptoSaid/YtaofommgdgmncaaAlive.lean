/- The example that every statement on eventlog checks holds. -/
import Derived.Test.YtaofommgdgmncaaPr9
import Derived.Test.YtaofommgdgmncaaEv
namespace Go.Proofs.Ytaofommgdgmncaa.Logs
set_option linter.unusedVariables false
set_option linter.unusedSimpArgs false
open Go.RowKit Go.Proofs.Ytaofommgdgmncaa.Pr Go.Proofs.Ytaofommgdgmncaa.Evs Go.Proofs.YtaofommgdgmncaaW.PrintWords Go.Proofs.YtaofommgdgmncaaW.PrintLast Go.Proofs.YtaofommgdgmncaaW.PrintMore
theorem alive_now : petrinetlaw48_alive.f 100 = some true := by decide +kernel
theorem alive : Ev (fun k => petrinetlaw48_alive.f k) true := Ev.of petrinetlaw48_alive.mono alive_now
theorem alive' : Ev (fun k => (petrinetlaw48_alive.f k).bind fun t => some t) true := Ev.bind alive (Ev.now _)
end Go.Proofs.Ytaofommgdgmncaa.Logs
