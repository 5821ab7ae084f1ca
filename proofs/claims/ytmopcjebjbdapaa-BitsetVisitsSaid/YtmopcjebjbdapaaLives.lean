/- The example that every statement on bitset checks holds. -/
import Derived.Test.YtmopcjebjbdapaaPr8
import Derived.Test.YtmopcjebjbdapaaRefs
namespace Go.Proofs.Ytmopcjebjbdapaa.Refs
set_option linter.unusedVariables false
set_option linter.unusedSimpArgs false
open Go.RowKit Go.Proofs.Ytmopcjebjbdapaa.Pr Go.Proofs.Ytmopcjebjbdapaa.Bits Go.Proofs.Ytmopcjebjbdapaa.Sets Go.Proofs.YtmopcjebjbdapaaW.PrintWords Go.Proofs.YtmopcjebjbdapaaW.PrintLast Go.Proofs.YtmopcjebjbdapaaW.PrintMore
theorem lives_now : petrinetlaw06_lives.f 100 = some true := by decide +kernel
theorem lives : Ev (fun k => petrinetlaw06_lives.f k) true := Ev.of petrinetlaw06_lives.mono lives_now
theorem lives' : Ev (fun k => (petrinetlaw06_lives.f k).bind fun t => some t) true := Ev.bind lives (Ev.now _)
end Go.Proofs.Ytmopcjebjbdapaa.Refs
