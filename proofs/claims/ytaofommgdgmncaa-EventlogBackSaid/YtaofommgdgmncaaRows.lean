/-
  No cell of these rows narrows 'for every input' (looked for: loops, veiled, ifaces, maps, wideKeys, modest, calm, conditions, laid).
  DERIVED. THE GIVEN ROWS OF THIS SEAT. 6 by the template 'for every input the law returns true; each argument reads behind the call as it read before'; 0 by the template 'total and deterministic' (their statements: YtaofommgdgmncaaTotals.lean).
  GIVEN WITH THE SEED: the statements are not yours to turn. If you find one false, say at which input.
  Laid BY PROGRAM, IN A SANDBOX (cutbox-rows.mjs): the forced cells as the released guide's own fill.sh prints them over the translation cadb2f2df71de621… (all of the seat's roots in one cut). By AI agents, Wed Nov 11 2026. No macro, syntax, notation, axiom, sorry.
-/
import Derived.Test.YtaofommgdgmncaaChecked
import GoSem.Claim
import GoSem.ClaimJoined
import GoSem.ClaimMapViews
import Derived.JoinedTies
import Derived.KernelRfl
namespace Go.Proofs.Ytaofommgdgmncaa
/- THE CELL 'sum', in the pinned program and in every row, IS THE sha256 OF THE DUMP (.gsa) THAT YtaofommgdgmncaaProg.lean LOADS. Nothing in Lean hashes anything: it is a label: what it is worth is what the hold of that sum in a sandbox is worth. -/
noncomputable def Try.pinned : Pinned := { name := "ytaofommgdgmncaa", sum := "cadb2f2df71de6210cf0cf31a0ee8dbcb9019ef8e6ffcc01f8f3dfad9fa8a113", checked := Try.checked }
namespace Rows
def none {H : Type} : Left H := { results := [], args := [] }

/-- 'petrinetlaw48.EventlogParses': WHATEVER THE INPUT: true; the input reads as it did. -/
def eventlogParsesSpec : ChangeSpec := { name := "eventlogParses", fn := fun _ => fun
  | [d] => { results := [.lit (.bool true)], args := [d] }
  | _ => none }
def eventlogParsesRow : OpenClaim := { program := "ytaofommgdgmncaa", sum := "cadb2f2df71de6210cf0cf31a0ee8dbcb9019ef8e6ffcc01f8f3dfad9fa8a113", func := "petrinet/petrinetlaw48.EventlogParses", spec := "eventlogParses", unfollowed := true, recurses := true, apart := false }
def EventlogParsesSaid : Prop := eventlogParsesRow.holds Try.pinned (OpenSpec.ofChange eventlogParsesSpec)

/-- ITS FALSE NEIGHBOUR: 'it returns false'. Refute it at one input. -/
def eventlogParsesWrong : ChangeSpec := { name := "eventlogParses", fn := fun _ => fun
  | [d] => { results := [.lit (.bool false)], args := [d] }
  | _ => none }
def EventlogParsesWrongFalsely : Prop := eventlogParsesRow.holds Try.pinned (OpenSpec.ofChange eventlogParsesWrong)

/-- 'petrinetlaw48.EventlogFollows': WHATEVER THE INPUT: true; the input reads as it did. -/
def eventlogFollowsSpec : ChangeSpec := { name := "eventlogFollows", fn := fun _ => fun
  | [d1, d2, d3] => { results := [.lit (.bool true)], args := [d1, d2, d3] }
  | _ => none }
def eventlogFollowsRow : OpenClaim := { program := "ytaofommgdgmncaa", sum := "cadb2f2df71de6210cf0cf31a0ee8dbcb9019ef8e6ffcc01f8f3dfad9fa8a113", func := "petrinet/petrinetlaw48.EventlogFollows", spec := "eventlogFollows", unfollowed := true, recurses := true, apart := false }
def EventlogFollowsSaid : Prop := eventlogFollowsRow.holds Try.pinned (OpenSpec.ofChange eventlogFollowsSpec)

/-- ITS FALSE NEIGHBOUR: 'it returns false'. Refute it at one input. -/
def eventlogFollowsWrong : ChangeSpec := { name := "eventlogFollows", fn := fun _ => fun
  | [d1, d2, d3] => { results := [.lit (.bool false)], args := [d1, d2, d3] }
  | _ => none }
def EventlogFollowsWrongFalsely : Prop := eventlogFollowsRow.holds Try.pinned (OpenSpec.ofChange eventlogFollowsWrong)

/-- 'petrinetlaw48.EventlogMirrors': WHATEVER THE INPUT: true; the input reads as it did. -/
def eventlogMirrorsSpec : ChangeSpec := { name := "eventlogMirrors", fn := fun _ => fun
  | [d] => { results := [.lit (.bool true)], args := [d] }
  | _ => none }
def eventlogMirrorsRow : OpenClaim := { program := "ytaofommgdgmncaa", sum := "cadb2f2df71de6210cf0cf31a0ee8dbcb9019ef8e6ffcc01f8f3dfad9fa8a113", func := "petrinet/petrinetlaw48.EventlogMirrors", spec := "eventlogMirrors", unfollowed := true, recurses := true, apart := false }
def EventlogMirrorsSaid : Prop := eventlogMirrorsRow.holds Try.pinned (OpenSpec.ofChange eventlogMirrorsSpec)

/-- ITS FALSE NEIGHBOUR: 'it returns false'. Refute it at one input. -/
def eventlogMirrorsWrong : ChangeSpec := { name := "eventlogMirrors", fn := fun _ => fun
  | [d] => { results := [.lit (.bool false)], args := [d] }
  | _ => none }
def EventlogMirrorsWrongFalsely : Prop := eventlogMirrorsRow.holds Try.pinned (OpenSpec.ofChange eventlogMirrorsWrong)

/-- 'petrinetlaw48.EventlogChecks': WHATEVER THE INPUT: true; the input reads as it did. -/
def eventlogChecksSpec : ChangeSpec := { name := "eventlogChecks", fn := fun _ => fun
  | [d1, d2] => { results := [.lit (.bool true)], args := [d1, d2] }
  | _ => none }
def eventlogChecksRow : OpenClaim := { program := "ytaofommgdgmncaa", sum := "cadb2f2df71de6210cf0cf31a0ee8dbcb9019ef8e6ffcc01f8f3dfad9fa8a113", func := "petrinet/petrinetlaw48.EventlogChecks", spec := "eventlogChecks", unfollowed := true, recurses := true, apart := false }
def EventlogChecksSaid : Prop := eventlogChecksRow.holds Try.pinned (OpenSpec.ofChange eventlogChecksSpec)

/-- ITS FALSE NEIGHBOUR: 'it returns false'. Refute it at one input. -/
def eventlogChecksWrong : ChangeSpec := { name := "eventlogChecks", fn := fun _ => fun
  | [d1, d2] => { results := [.lit (.bool false)], args := [d1, d2] }
  | _ => none }
def EventlogChecksWrongFalsely : Prop := eventlogChecksRow.holds Try.pinned (OpenSpec.ofChange eventlogChecksWrong)

/-- 'petrinetlaw48.EventlogBack': WHATEVER THE INPUT: true; the input reads as it did. -/
def eventlogBackSpec : ChangeSpec := { name := "eventlogBack", fn := fun _ => fun
  | [d1, d2] => { results := [.lit (.bool true)], args := [d1, d2] }
  | _ => none }
def eventlogBackRow : OpenClaim := { program := "ytaofommgdgmncaa", sum := "cadb2f2df71de6210cf0cf31a0ee8dbcb9019ef8e6ffcc01f8f3dfad9fa8a113", func := "petrinet/petrinetlaw48.EventlogBack", spec := "eventlogBack", unfollowed := true, recurses := true, apart := false }
def EventlogBackSaid : Prop := eventlogBackRow.holds Try.pinned (OpenSpec.ofChange eventlogBackSpec)

/-- ITS FALSE NEIGHBOUR: 'it returns false'. Refute it at one input. -/
def eventlogBackWrong : ChangeSpec := { name := "eventlogBack", fn := fun _ => fun
  | [d1, d2] => { results := [.lit (.bool false)], args := [d1, d2] }
  | _ => none }
def EventlogBackWrongFalsely : Prop := eventlogBackRow.holds Try.pinned (OpenSpec.ofChange eventlogBackWrong)

/-- 'petrinetlaw48.EventlogCounts': WHATEVER THE INPUT: true; the input reads as it did. -/
def eventlogCountsSpec : ChangeSpec := { name := "eventlogCounts", fn := fun _ => fun
  | [d] => { results := [.lit (.bool true)], args := [d] }
  | _ => none }
def eventlogCountsRow : OpenClaim := { program := "ytaofommgdgmncaa", sum := "cadb2f2df71de6210cf0cf31a0ee8dbcb9019ef8e6ffcc01f8f3dfad9fa8a113", func := "petrinet/petrinetlaw48.EventlogCounts", spec := "eventlogCounts", unfollowed := true, recurses := true, apart := false }
def EventlogCountsSaid : Prop := eventlogCountsRow.holds Try.pinned (OpenSpec.ofChange eventlogCountsSpec)

/-- ITS FALSE NEIGHBOUR: 'it returns false'. Refute it at one input. -/
def eventlogCountsWrong : ChangeSpec := { name := "eventlogCounts", fn := fun _ => fun
  | [d] => { results := [.lit (.bool false)], args := [d] }
  | _ => none }
def EventlogCountsWrongFalsely : Prop := eventlogCountsRow.holds Try.pinned (OpenSpec.ofChange eventlogCountsWrong)

/- THE SECOND FORM. 'bulk': how many values and letters a reading holds, each counted each time it is reached (what is shared counts as often as it is met; a slice's spare places count too). A statement '..UptoSaid' is the law's where the arguments, and the package variables that the reading takes, are together of bulk at most 1048576: NARROWER than '..Said'. Prove '..Said' where nothing that the law and all that it calls make is longer than what came in: it says more and counts as full. Else prove '..UptoSaid'. A law counts once. -/
mutual
def uptoBulk {H : Type} : DataW H → Nat
  | .lit (.string bytes) => bytes.length + 1
  | .lit _ => 1
  | .nil => 1
  | .ptr d => uptoBulk d + 1
  | .slice elems spare => uptoBulkAll elems + uptoBulkAll spare + 1
  | .agg parts => uptoBulkAll parts + 1
  | .iface _ d => uptoBulk d + 1
  | .map entries => uptoBulkEntries entries + 1
  | .held _ => 1
def uptoBulkAll {H : Type} : List (DataW H) → Nat
  | [] => 0
  | d :: r => uptoBulk d + uptoBulkAll r
def uptoBulkEntries {H : Type} : List (Lit × DataW H) → Nat
  | [] => 0
  | x :: r => uptoBulkEntry x + uptoBulkEntries r
def uptoBulkEntry {H : Type} : Lit × DataW H → Nat
  | (.string bytes, d) => bytes.length + uptoBulk d + 1
  | (_, d) => uptoBulk d + 1
 end
def uptoSmall : (H : Type) → List (DataW H) → Bool := fun _ ds => decide (uptoBulkAll ds ≤ 1048576)
def OpenSpec.upto (s : _root_.Go.ChangeSpec) : _root_.Go.OpenSpec := { _root_.Go.OpenSpec.ofChange s with cond := some uptoSmall }

/-- 'petrinetlaw48.EventlogParses', WHERE WHAT IT READS IS OF BULK AT MOST 1048576: true; the input reads as it did. -/
def eventlogParsesUptoRow : OpenClaim := { program := "ytaofommgdgmncaa", sum := "cadb2f2df71de6210cf0cf31a0ee8dbcb9019ef8e6ffcc01f8f3dfad9fa8a113", func := "petrinet/petrinetlaw48.EventlogParses", spec := "eventlogParses", unfollowed := true, recurses := true, apart := false, narrowed := true }
def EventlogParsesUptoSaid : Prop := eventlogParsesUptoRow.holds Try.pinned (OpenSpec.upto eventlogParsesSpec)

/-- 'petrinetlaw48.EventlogFollows', WHERE WHAT IT READS IS OF BULK AT MOST 1048576: true; the input reads as it did. -/
def eventlogFollowsUptoRow : OpenClaim := { program := "ytaofommgdgmncaa", sum := "cadb2f2df71de6210cf0cf31a0ee8dbcb9019ef8e6ffcc01f8f3dfad9fa8a113", func := "petrinet/petrinetlaw48.EventlogFollows", spec := "eventlogFollows", unfollowed := true, recurses := true, apart := false, narrowed := true }
def EventlogFollowsUptoSaid : Prop := eventlogFollowsUptoRow.holds Try.pinned (OpenSpec.upto eventlogFollowsSpec)

/-- 'petrinetlaw48.EventlogMirrors', WHERE WHAT IT READS IS OF BULK AT MOST 1048576: true; the input reads as it did. -/
def eventlogMirrorsUptoRow : OpenClaim := { program := "ytaofommgdgmncaa", sum := "cadb2f2df71de6210cf0cf31a0ee8dbcb9019ef8e6ffcc01f8f3dfad9fa8a113", func := "petrinet/petrinetlaw48.EventlogMirrors", spec := "eventlogMirrors", unfollowed := true, recurses := true, apart := false, narrowed := true }
def EventlogMirrorsUptoSaid : Prop := eventlogMirrorsUptoRow.holds Try.pinned (OpenSpec.upto eventlogMirrorsSpec)

/-- 'petrinetlaw48.EventlogChecks', WHERE WHAT IT READS IS OF BULK AT MOST 1048576: true; the input reads as it did. -/
def eventlogChecksUptoRow : OpenClaim := { program := "ytaofommgdgmncaa", sum := "cadb2f2df71de6210cf0cf31a0ee8dbcb9019ef8e6ffcc01f8f3dfad9fa8a113", func := "petrinet/petrinetlaw48.EventlogChecks", spec := "eventlogChecks", unfollowed := true, recurses := true, apart := false, narrowed := true }
def EventlogChecksUptoSaid : Prop := eventlogChecksUptoRow.holds Try.pinned (OpenSpec.upto eventlogChecksSpec)

/-- 'petrinetlaw48.EventlogBack', WHERE WHAT IT READS IS OF BULK AT MOST 1048576: true; the input reads as it did. -/
def eventlogBackUptoRow : OpenClaim := { program := "ytaofommgdgmncaa", sum := "cadb2f2df71de6210cf0cf31a0ee8dbcb9019ef8e6ffcc01f8f3dfad9fa8a113", func := "petrinet/petrinetlaw48.EventlogBack", spec := "eventlogBack", unfollowed := true, recurses := true, apart := false, narrowed := true }
def EventlogBackUptoSaid : Prop := eventlogBackUptoRow.holds Try.pinned (OpenSpec.upto eventlogBackSpec)

/-- 'petrinetlaw48.EventlogCounts', WHERE WHAT IT READS IS OF BULK AT MOST 1048576: true; the input reads as it did. -/
def eventlogCountsUptoRow : OpenClaim := { program := "ytaofommgdgmncaa", sum := "cadb2f2df71de6210cf0cf31a0ee8dbcb9019ef8e6ffcc01f8f3dfad9fa8a113", func := "petrinet/petrinetlaw48.EventlogCounts", spec := "eventlogCounts", unfollowed := true, recurses := true, apart := false, narrowed := true }
def EventlogCountsUptoSaid : Prop := eventlogCountsUptoRow.holds Try.pinned (OpenSpec.upto eventlogCountsSpec)

end Rows
end Go.Proofs.Ytaofommgdgmncaa
