/-
  No cell of these rows narrows 'for every input' (looked for: loops, veiled, ifaces, maps, wideKeys, modest, calm, conditions, laid).
  DERIVED. THE GIVEN ROWS OF THIS SEAT. 7 by the template 'for every input the law returns true; each argument reads behind the call as it read before'; 0 by the template 'total and deterministic' (their statements: YtihjbomgbbfifaaTotals.lean).
  GIVEN WITH THE SEED: the statements are not yours to turn. If you find one false, say at which input.
  Laid BY PROGRAM, IN A SANDBOX (cutbox-rows.mjs): the forced cells as the released guide's own fill.sh prints them over the translation 88e19c7ef2292273… (all of the seat's roots in one cut). By AI agents, Wed Nov 11 2026. No macro, syntax, notation, axiom, sorry.
-/
import Derived.Test.YtihjbomgbbfifaaChecked
import GoSem.Claim
import GoSem.ClaimJoined
import GoSem.ClaimMapViews
import Derived.JoinedTies
import Derived.KernelRfl
namespace Go.Proofs.Ytihjbomgbbfifaa
/- THE CELL 'sum', in the pinned program and in every row, IS THE sha256 OF THE DUMP (.gsa) THAT YtihjbomgbbfifaaProg.lean LOADS. Nothing in Lean hashes anything: it is a label: what it is worth is what the hold of that sum in a sandbox is worth. -/
noncomputable def Try.pinned : Pinned := { name := "ytihjbomgbbfifaa", sum := "88e19c7ef2292273999f61dbc8623109a4014fa9c103bb1c90bf0dde6f78e599", checked := Try.checked }
namespace Rows
def none {H : Type} : Left H := { results := [], args := [] }

/-- 'petrinetlaw46.RegionSigns': WHATEVER THE INPUT: true; the input reads as it did. -/
def regionSignsSpec : ChangeSpec := { name := "regionSigns", fn := fun _ => fun
  | [d1, d2, d3] => { results := [.lit (.bool true)], args := [d1, d2, d3] }
  | _ => none }
def regionSignsRow : OpenClaim := { program := "ytihjbomgbbfifaa", sum := "88e19c7ef2292273999f61dbc8623109a4014fa9c103bb1c90bf0dde6f78e599", func := "petrinet/petrinetlaw46.RegionSigns", spec := "regionSigns", unfollowed := true, recurses := true, apart := false }
def RegionSignsSaid : Prop := regionSignsRow.holds Try.pinned (OpenSpec.ofChange regionSignsSpec)

/-- ITS FALSE NEIGHBOUR: 'it returns false'. Refute it at one input. -/
def regionSignsWrong : ChangeSpec := { name := "regionSigns", fn := fun _ => fun
  | [d1, d2, d3] => { results := [.lit (.bool false)], args := [d1, d2, d3] }
  | _ => none }
def RegionSignsWrongFalsely : Prop := regionSignsRow.holds Try.pinned (OpenSpec.ofChange regionSignsWrong)

/-- 'petrinetlaw46.RegionLists': WHATEVER THE INPUT: true; the input reads as it did. -/
def regionListsSpec : ChangeSpec := { name := "regionLists", fn := fun _ => fun
  | [d] => { results := [.lit (.bool true)], args := [d] }
  | _ => none }
def regionListsRow : OpenClaim := { program := "ytihjbomgbbfifaa", sum := "88e19c7ef2292273999f61dbc8623109a4014fa9c103bb1c90bf0dde6f78e599", func := "petrinet/petrinetlaw46.RegionLists", spec := "regionLists", unfollowed := true, recurses := true, apart := false }
def RegionListsSaid : Prop := regionListsRow.holds Try.pinned (OpenSpec.ofChange regionListsSpec)

/-- ITS FALSE NEIGHBOUR: 'it returns false'. Refute it at one input. -/
def regionListsWrong : ChangeSpec := { name := "regionLists", fn := fun _ => fun
  | [d] => { results := [.lit (.bool false)], args := [d] }
  | _ => none }
def RegionListsWrongFalsely : Prop := regionListsRow.holds Try.pinned (OpenSpec.ofChange regionListsWrong)

/-- 'petrinetlaw46.RegionUnions': WHATEVER THE INPUT: true; the input reads as it did. -/
def regionUnionsSpec : ChangeSpec := { name := "regionUnions", fn := fun _ => fun
  | [d1, d2, d3] => { results := [.lit (.bool true)], args := [d1, d2, d3] }
  | _ => none }
def regionUnionsRow : OpenClaim := { program := "ytihjbomgbbfifaa", sum := "88e19c7ef2292273999f61dbc8623109a4014fa9c103bb1c90bf0dde6f78e599", func := "petrinet/petrinetlaw46.RegionUnions", spec := "regionUnions", unfollowed := true, recurses := true, apart := false }
def RegionUnionsSaid : Prop := regionUnionsRow.holds Try.pinned (OpenSpec.ofChange regionUnionsSpec)

/-- ITS FALSE NEIGHBOUR: 'it returns false'. Refute it at one input. -/
def regionUnionsWrong : ChangeSpec := { name := "regionUnions", fn := fun _ => fun
  | [d1, d2, d3] => { results := [.lit (.bool false)], args := [d1, d2, d3] }
  | _ => none }
def RegionUnionsWrongFalsely : Prop := regionUnionsRow.holds Try.pinned (OpenSpec.ofChange regionUnionsWrong)

/-- 'petrinetlaw46.RegionKnows': WHATEVER THE INPUT: true; the input reads as it did. -/
def regionKnowsSpec : ChangeSpec := { name := "regionKnows", fn := fun _ => fun
  | [d1, d2] => { results := [.lit (.bool true)], args := [d1, d2] }
  | _ => none }
def regionKnowsRow : OpenClaim := { program := "ytihjbomgbbfifaa", sum := "88e19c7ef2292273999f61dbc8623109a4014fa9c103bb1c90bf0dde6f78e599", func := "petrinet/petrinetlaw46.RegionKnows", spec := "regionKnows", unfollowed := true, recurses := true, apart := false }
def RegionKnowsSaid : Prop := regionKnowsRow.holds Try.pinned (OpenSpec.ofChange regionKnowsSpec)

/-- ITS FALSE NEIGHBOUR: 'it returns false'. Refute it at one input. -/
def regionKnowsWrong : ChangeSpec := { name := "regionKnows", fn := fun _ => fun
  | [d1, d2] => { results := [.lit (.bool false)], args := [d1, d2] }
  | _ => none }
def RegionKnowsWrongFalsely : Prop := regionKnowsRow.holds Try.pinned (OpenSpec.ofChange regionKnowsWrong)

/-- 'petrinetlaw46.RegionComplements': WHATEVER THE INPUT: true; the input reads as it did. -/
def regionComplementsSpec : ChangeSpec := { name := "regionComplements", fn := fun _ => fun
  | [d1, d2] => { results := [.lit (.bool true)], args := [d1, d2] }
  | _ => none }
def regionComplementsRow : OpenClaim := { program := "ytihjbomgbbfifaa", sum := "88e19c7ef2292273999f61dbc8623109a4014fa9c103bb1c90bf0dde6f78e599", func := "petrinet/petrinetlaw46.RegionComplements", spec := "regionComplements", unfollowed := true, recurses := true, apart := false }
def RegionComplementsSaid : Prop := regionComplementsRow.holds Try.pinned (OpenSpec.ofChange regionComplementsSpec)

/-- ITS FALSE NEIGHBOUR: 'it returns false'. Refute it at one input. -/
def regionComplementsWrong : ChangeSpec := { name := "regionComplements", fn := fun _ => fun
  | [d1, d2] => { results := [.lit (.bool false)], args := [d1, d2] }
  | _ => none }
def RegionComplementsWrongFalsely : Prop := regionComplementsRow.holds Try.pinned (OpenSpec.ofChange regionComplementsWrong)

/-- 'petrinetlaw46.RegionMinimals': WHATEVER THE INPUT: true; the input reads as it did. -/
def regionMinimalsSpec : ChangeSpec := { name := "regionMinimals", fn := fun _ => fun
  | [d] => { results := [.lit (.bool true)], args := [d] }
  | _ => none }
def regionMinimalsRow : OpenClaim := { program := "ytihjbomgbbfifaa", sum := "88e19c7ef2292273999f61dbc8623109a4014fa9c103bb1c90bf0dde6f78e599", func := "petrinet/petrinetlaw46.RegionMinimals", spec := "regionMinimals", unfollowed := true, recurses := true, apart := false }
def RegionMinimalsSaid : Prop := regionMinimalsRow.holds Try.pinned (OpenSpec.ofChange regionMinimalsSpec)

/-- ITS FALSE NEIGHBOUR: 'it returns false'. Refute it at one input. -/
def regionMinimalsWrong : ChangeSpec := { name := "regionMinimals", fn := fun _ => fun
  | [d] => { results := [.lit (.bool false)], args := [d] }
  | _ => none }
def RegionMinimalsWrongFalsely : Prop := regionMinimalsRow.holds Try.pinned (OpenSpec.ofChange regionMinimalsWrong)

/-- 'petrinetlaw46.RegionParts': WHATEVER THE INPUT: true; the input reads as it did. -/
def regionPartsSpec : ChangeSpec := { name := "regionParts", fn := fun _ => fun
  | [d1, d2] => { results := [.lit (.bool true)], args := [d1, d2] }
  | _ => none }
def regionPartsRow : OpenClaim := { program := "ytihjbomgbbfifaa", sum := "88e19c7ef2292273999f61dbc8623109a4014fa9c103bb1c90bf0dde6f78e599", func := "petrinet/petrinetlaw46.RegionParts", spec := "regionParts", unfollowed := true, recurses := true, apart := false }
def RegionPartsSaid : Prop := regionPartsRow.holds Try.pinned (OpenSpec.ofChange regionPartsSpec)

/-- ITS FALSE NEIGHBOUR: 'it returns false'. Refute it at one input. -/
def regionPartsWrong : ChangeSpec := { name := "regionParts", fn := fun _ => fun
  | [d1, d2] => { results := [.lit (.bool false)], args := [d1, d2] }
  | _ => none }
def RegionPartsWrongFalsely : Prop := regionPartsRow.holds Try.pinned (OpenSpec.ofChange regionPartsWrong)

/- THE SECOND FORM. 'bulk': how many values and letters a reading holds, each counted each time it is reached (what is shared counts as often as it is met; a slice's spare places count too). A statement '..UptoSaid' is the law's where the arguments, and the package variables that the reading takes, are together of bulk at most 1048576: NARROWER than '..Said'. Prove '..Said' where nothing that the law and all that it calls make is longer than what came in: it says more and counts as full. Else prove '..UptoSaid'. A law counts once. -/
mutual
def uptoBulk {H : Type} : DataW H → Nat
  | .lit (.string bytes) => bytes.length + 1
  | .lit _ => 1
  | .nil => 1
  | .ptr d => uptoBulk d + 1
  | .slice elems spare => uptoBulkAll elems + uptoBulkAll spare + 1
  | .agg parts => uptoBulkAll parts + 1
  | .iface _ d => uptoBulk d + 1
  | .map entries => uptoBulkEntries entries + 1
  | .held _ => 1
def uptoBulkAll {H : Type} : List (DataW H) → Nat
  | [] => 0
  | d :: r => uptoBulk d + uptoBulkAll r
def uptoBulkEntries {H : Type} : List (Lit × DataW H) → Nat
  | [] => 0
  | x :: r => uptoBulkEntry x + uptoBulkEntries r
def uptoBulkEntry {H : Type} : Lit × DataW H → Nat
  | (.string bytes, d) => bytes.length + uptoBulk d + 1
  | (_, d) => uptoBulk d + 1
 end
def uptoSmall : (H : Type) → List (DataW H) → Bool := fun _ ds => decide (uptoBulkAll ds ≤ 1048576)
def OpenSpec.upto (s : _root_.Go.ChangeSpec) : _root_.Go.OpenSpec := { _root_.Go.OpenSpec.ofChange s with cond := some uptoSmall }

/-- 'petrinetlaw46.RegionSigns', WHERE WHAT IT READS IS OF BULK AT MOST 1048576: true; the input reads as it did. -/
def regionSignsUptoRow : OpenClaim := { program := "ytihjbomgbbfifaa", sum := "88e19c7ef2292273999f61dbc8623109a4014fa9c103bb1c90bf0dde6f78e599", func := "petrinet/petrinetlaw46.RegionSigns", spec := "regionSigns", unfollowed := true, recurses := true, apart := false, narrowed := true }
def RegionSignsUptoSaid : Prop := regionSignsUptoRow.holds Try.pinned (OpenSpec.upto regionSignsSpec)

/-- 'petrinetlaw46.RegionLists', WHERE WHAT IT READS IS OF BULK AT MOST 1048576: true; the input reads as it did. -/
def regionListsUptoRow : OpenClaim := { program := "ytihjbomgbbfifaa", sum := "88e19c7ef2292273999f61dbc8623109a4014fa9c103bb1c90bf0dde6f78e599", func := "petrinet/petrinetlaw46.RegionLists", spec := "regionLists", unfollowed := true, recurses := true, apart := false, narrowed := true }
def RegionListsUptoSaid : Prop := regionListsUptoRow.holds Try.pinned (OpenSpec.upto regionListsSpec)

/-- 'petrinetlaw46.RegionUnions', WHERE WHAT IT READS IS OF BULK AT MOST 1048576: true; the input reads as it did. -/
def regionUnionsUptoRow : OpenClaim := { program := "ytihjbomgbbfifaa", sum := "88e19c7ef2292273999f61dbc8623109a4014fa9c103bb1c90bf0dde6f78e599", func := "petrinet/petrinetlaw46.RegionUnions", spec := "regionUnions", unfollowed := true, recurses := true, apart := false, narrowed := true }
def RegionUnionsUptoSaid : Prop := regionUnionsUptoRow.holds Try.pinned (OpenSpec.upto regionUnionsSpec)

/-- 'petrinetlaw46.RegionKnows', WHERE WHAT IT READS IS OF BULK AT MOST 1048576: true; the input reads as it did. -/
def regionKnowsUptoRow : OpenClaim := { program := "ytihjbomgbbfifaa", sum := "88e19c7ef2292273999f61dbc8623109a4014fa9c103bb1c90bf0dde6f78e599", func := "petrinet/petrinetlaw46.RegionKnows", spec := "regionKnows", unfollowed := true, recurses := true, apart := false, narrowed := true }
def RegionKnowsUptoSaid : Prop := regionKnowsUptoRow.holds Try.pinned (OpenSpec.upto regionKnowsSpec)

/-- 'petrinetlaw46.RegionComplements', WHERE WHAT IT READS IS OF BULK AT MOST 1048576: true; the input reads as it did. -/
def regionComplementsUptoRow : OpenClaim := { program := "ytihjbomgbbfifaa", sum := "88e19c7ef2292273999f61dbc8623109a4014fa9c103bb1c90bf0dde6f78e599", func := "petrinet/petrinetlaw46.RegionComplements", spec := "regionComplements", unfollowed := true, recurses := true, apart := false, narrowed := true }
def RegionComplementsUptoSaid : Prop := regionComplementsUptoRow.holds Try.pinned (OpenSpec.upto regionComplementsSpec)

/-- 'petrinetlaw46.RegionMinimals', WHERE WHAT IT READS IS OF BULK AT MOST 1048576: true; the input reads as it did. -/
def regionMinimalsUptoRow : OpenClaim := { program := "ytihjbomgbbfifaa", sum := "88e19c7ef2292273999f61dbc8623109a4014fa9c103bb1c90bf0dde6f78e599", func := "petrinet/petrinetlaw46.RegionMinimals", spec := "regionMinimals", unfollowed := true, recurses := true, apart := false, narrowed := true }
def RegionMinimalsUptoSaid : Prop := regionMinimalsUptoRow.holds Try.pinned (OpenSpec.upto regionMinimalsSpec)

/-- 'petrinetlaw46.RegionParts', WHERE WHAT IT READS IS OF BULK AT MOST 1048576: true; the input reads as it did. -/
def regionPartsUptoRow : OpenClaim := { program := "ytihjbomgbbfifaa", sum := "88e19c7ef2292273999f61dbc8623109a4014fa9c103bb1c90bf0dde6f78e599", func := "petrinet/petrinetlaw46.RegionParts", spec := "regionParts", unfollowed := true, recurses := true, apart := false, narrowed := true }
def RegionPartsUptoSaid : Prop := regionPartsUptoRow.holds Try.pinned (OpenSpec.upto regionPartsSpec)

end Rows
end Go.Proofs.Ytihjbomgbbfifaa
