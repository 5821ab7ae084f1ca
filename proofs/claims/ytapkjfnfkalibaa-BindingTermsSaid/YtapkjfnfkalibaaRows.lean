/-
  No cell of these rows narrows 'for every input' (looked for: loops, veiled, ifaces, maps, wideKeys, modest, calm, conditions, laid).
  DERIVED. THE GIVEN ROWS OF THIS SEAT. 6 by the template 'for every input the law returns true; each argument reads behind the call as it read before'; 0 by the template 'total and deterministic' (their statements: YtapkjfnfkalibaaTotals.lean).
  GIVEN WITH THE SEED: the statements are not yours to turn. If you find one false, say at which input.
  Laid BY PROGRAM, IN A SANDBOX (cutbox-rows.mjs): the forced cells as the released guide's own fill.sh prints them over the translation d725d175010b5bbd… (all of the seat's roots in one cut). By AI agents, Wed Nov 11 2026. No macro, syntax, notation, axiom, sorry.
-/
import Derived.Test.YtapkjfnfkalibaaChecked
import GoSem.Claim
import GoSem.ClaimJoined
import GoSem.ClaimMapViews
import Derived.JoinedTies
import Derived.KernelRfl
namespace Go.Proofs.Ytapkjfnfkalibaa
/- THE CELL 'sum', in the pinned program and in every row, IS THE sha256 OF THE DUMP (.gsa) THAT YtapkjfnfkalibaaProg.lean LOADS. Nothing in Lean hashes anything: it is a label: what it is worth is what the hold of that sum in a sandbox is worth. -/
noncomputable def Try.pinned : Pinned := { name := "ytapkjfnfkalibaa", sum := "d725d175010b5bbda297d5c9f766c088cb514f7910ad095967b404c6a82c2b48", checked := Try.checked }
namespace Rows
def none {H : Type} : Left H := { results := [], args := [] }

/-- 'petrinetlaw40.BindingChecks': WHATEVER THE INPUT: true; the input reads as it did. -/
def bindingChecksSpec : ChangeSpec := { name := "bindingChecks", fn := fun _ => fun
  | [d1, d2, d3] => { results := [.lit (.bool true)], args := [d1, d2, d3] }
  | _ => none }
def bindingChecksRow : OpenClaim := { program := "ytapkjfnfkalibaa", sum := "d725d175010b5bbda297d5c9f766c088cb514f7910ad095967b404c6a82c2b48", func := "petrinet/petrinetlaw40.BindingChecks", spec := "bindingChecks", inPlace := ["internal/abi.NoEscape", "internal/bytealg.MakeNoZero"], unfollowed := true, recurses := true, apart := false }
def BindingChecksSaid : Prop := bindingChecksRow.holds Try.pinned (OpenSpec.ofChange bindingChecksSpec)

/-- ITS FALSE NEIGHBOUR: 'it returns false'. Refute it at one input. -/
def bindingChecksWrong : ChangeSpec := { name := "bindingChecks", fn := fun _ => fun
  | [d1, d2, d3] => { results := [.lit (.bool false)], args := [d1, d2, d3] }
  | _ => none }
def BindingChecksWrongFalsely : Prop := bindingChecksRow.holds Try.pinned (OpenSpec.ofChange bindingChecksWrong)

/-- 'petrinetlaw40.BindingEvals': WHATEVER THE INPUT: true; the input reads as it did. -/
def bindingEvalsSpec : ChangeSpec := { name := "bindingEvals", fn := fun _ => fun
  | [d1, d2, d3] => { results := [.lit (.bool true)], args := [d1, d2, d3] }
  | _ => none }
def bindingEvalsRow : OpenClaim := { program := "ytapkjfnfkalibaa", sum := "d725d175010b5bbda297d5c9f766c088cb514f7910ad095967b404c6a82c2b48", func := "petrinet/petrinetlaw40.BindingEvals", spec := "bindingEvals", inPlace := ["internal/abi.NoEscape", "internal/bytealg.MakeNoZero"], unfollowed := true, recurses := true, apart := false }
def BindingEvalsSaid : Prop := bindingEvalsRow.holds Try.pinned (OpenSpec.ofChange bindingEvalsSpec)

/-- ITS FALSE NEIGHBOUR: 'it returns false'. Refute it at one input. -/
def bindingEvalsWrong : ChangeSpec := { name := "bindingEvals", fn := fun _ => fun
  | [d1, d2, d3] => { results := [.lit (.bool false)], args := [d1, d2, d3] }
  | _ => none }
def BindingEvalsWrongFalsely : Prop := bindingEvalsRow.holds Try.pinned (OpenSpec.ofChange bindingEvalsWrong)

/-- 'petrinetlaw40.BindingLists': WHATEVER THE INPUT: true; the input reads as it did. -/
def bindingListsSpec : ChangeSpec := { name := "bindingLists", fn := fun _ => fun
  | [d1, d2] => { results := [.lit (.bool true)], args := [d1, d2] }
  | _ => none }
def bindingListsRow : OpenClaim := { program := "ytapkjfnfkalibaa", sum := "d725d175010b5bbda297d5c9f766c088cb514f7910ad095967b404c6a82c2b48", func := "petrinet/petrinetlaw40.BindingLists", spec := "bindingLists", inPlace := ["internal/abi.NoEscape", "internal/bytealg.MakeNoZero"], unfollowed := true, recurses := true, apart := false }
def BindingListsSaid : Prop := bindingListsRow.holds Try.pinned (OpenSpec.ofChange bindingListsSpec)

/-- ITS FALSE NEIGHBOUR: 'it returns false'. Refute it at one input. -/
def bindingListsWrong : ChangeSpec := { name := "bindingLists", fn := fun _ => fun
  | [d1, d2] => { results := [.lit (.bool false)], args := [d1, d2] }
  | _ => none }
def BindingListsWrongFalsely : Prop := bindingListsRow.holds Try.pinned (OpenSpec.ofChange bindingListsWrong)

/-- 'petrinetlaw40.BindingCounts': WHATEVER THE INPUT: true; the input reads as it did. -/
def bindingCountsSpec : ChangeSpec := { name := "bindingCounts", fn := fun _ => fun
  | [d1, d2] => { results := [.lit (.bool true)], args := [d1, d2] }
  | _ => none }
def bindingCountsRow : OpenClaim := { program := "ytapkjfnfkalibaa", sum := "d725d175010b5bbda297d5c9f766c088cb514f7910ad095967b404c6a82c2b48", func := "petrinet/petrinetlaw40.BindingCounts", spec := "bindingCounts", inPlace := ["internal/abi.NoEscape", "internal/bytealg.MakeNoZero"], unfollowed := true, recurses := true, apart := false }
def BindingCountsSaid : Prop := bindingCountsRow.holds Try.pinned (OpenSpec.ofChange bindingCountsSpec)

/-- ITS FALSE NEIGHBOUR: 'it returns false'. Refute it at one input. -/
def bindingCountsWrong : ChangeSpec := { name := "bindingCounts", fn := fun _ => fun
  | [d1, d2] => { results := [.lit (.bool false)], args := [d1, d2] }
  | _ => none }
def BindingCountsWrongFalsely : Prop := bindingCountsRow.holds Try.pinned (OpenSpec.ofChange bindingCountsWrong)

/-- 'petrinetlaw40.BindingAdds': WHATEVER THE INPUT: true; the input reads as it did. -/
def bindingAddsSpec : ChangeSpec := { name := "bindingAdds", fn := fun _ => fun
  | [d1, d2, d3] => { results := [.lit (.bool true)], args := [d1, d2, d3] }
  | _ => none }
def bindingAddsRow : OpenClaim := { program := "ytapkjfnfkalibaa", sum := "d725d175010b5bbda297d5c9f766c088cb514f7910ad095967b404c6a82c2b48", func := "petrinet/petrinetlaw40.BindingAdds", spec := "bindingAdds", inPlace := ["internal/abi.NoEscape", "internal/bytealg.MakeNoZero"], unfollowed := true, recurses := true, apart := false }
def BindingAddsSaid : Prop := bindingAddsRow.holds Try.pinned (OpenSpec.ofChange bindingAddsSpec)

/-- ITS FALSE NEIGHBOUR: 'it returns false'. Refute it at one input. -/
def bindingAddsWrong : ChangeSpec := { name := "bindingAdds", fn := fun _ => fun
  | [d1, d2, d3] => { results := [.lit (.bool false)], args := [d1, d2, d3] }
  | _ => none }
def BindingAddsWrongFalsely : Prop := bindingAddsRow.holds Try.pinned (OpenSpec.ofChange bindingAddsWrong)

/-- 'petrinetlaw40.BindingTerms': WHATEVER THE INPUT: true; the input reads as it did. -/
def bindingTermsSpec : ChangeSpec := { name := "bindingTerms", fn := fun _ => fun
  | [d1, d2, d3] => { results := [.lit (.bool true)], args := [d1, d2, d3] }
  | _ => none }
def bindingTermsRow : OpenClaim := { program := "ytapkjfnfkalibaa", sum := "d725d175010b5bbda297d5c9f766c088cb514f7910ad095967b404c6a82c2b48", func := "petrinet/petrinetlaw40.BindingTerms", spec := "bindingTerms", inPlace := ["internal/abi.NoEscape", "internal/bytealg.MakeNoZero"], unfollowed := true, recurses := true, apart := false }
def BindingTermsSaid : Prop := bindingTermsRow.holds Try.pinned (OpenSpec.ofChange bindingTermsSpec)

/-- ITS FALSE NEIGHBOUR: 'it returns false'. Refute it at one input. -/
def bindingTermsWrong : ChangeSpec := { name := "bindingTerms", fn := fun _ => fun
  | [d1, d2, d3] => { results := [.lit (.bool false)], args := [d1, d2, d3] }
  | _ => none }
def BindingTermsWrongFalsely : Prop := bindingTermsRow.holds Try.pinned (OpenSpec.ofChange bindingTermsWrong)

/- THE SECOND FORM. 'bulk': how many values and letters a reading holds, each counted each time it is reached (what is shared counts as often as it is met; a slice's spare places count too). A statement '..UptoSaid' is the law's where the arguments, and the package variables that the reading takes, are together of bulk at most 1048576: NARROWER than '..Said'. Prove '..Said' where nothing that the law and all that it calls make is longer than what came in: it says more and counts as full. Else prove '..UptoSaid'. A law counts once. -/
mutual
def uptoBulk {H : Type} : DataW H → Nat
  | .lit (.string bytes) => bytes.length + 1
  | .lit _ => 1
  | .nil => 1
  | .ptr d => uptoBulk d + 1
  | .slice elems spare => uptoBulkAll elems + uptoBulkAll spare + 1
  | .agg parts => uptoBulkAll parts + 1
  | .iface _ d => uptoBulk d + 1
  | .map entries => uptoBulkEntries entries + 1
  | .held _ => 1
def uptoBulkAll {H : Type} : List (DataW H) → Nat
  | [] => 0
  | d :: r => uptoBulk d + uptoBulkAll r
def uptoBulkEntries {H : Type} : List (Lit × DataW H) → Nat
  | [] => 0
  | x :: r => uptoBulkEntry x + uptoBulkEntries r
def uptoBulkEntry {H : Type} : Lit × DataW H → Nat
  | (.string bytes, d) => bytes.length + uptoBulk d + 1
  | (_, d) => uptoBulk d + 1
 end
def uptoSmall : (H : Type) → List (DataW H) → Bool := fun _ ds => decide (uptoBulkAll ds ≤ 1048576)
def OpenSpec.upto (s : _root_.Go.ChangeSpec) : _root_.Go.OpenSpec := { _root_.Go.OpenSpec.ofChange s with cond := some uptoSmall }

/-- 'petrinetlaw40.BindingChecks', WHERE WHAT IT READS IS OF BULK AT MOST 1048576: true; the input reads as it did. -/
def bindingChecksUptoRow : OpenClaim := { program := "ytapkjfnfkalibaa", sum := "d725d175010b5bbda297d5c9f766c088cb514f7910ad095967b404c6a82c2b48", func := "petrinet/petrinetlaw40.BindingChecks", spec := "bindingChecks", inPlace := ["internal/abi.NoEscape", "internal/bytealg.MakeNoZero"], unfollowed := true, recurses := true, apart := false, narrowed := true }
def BindingChecksUptoSaid : Prop := bindingChecksUptoRow.holds Try.pinned (OpenSpec.upto bindingChecksSpec)

/-- 'petrinetlaw40.BindingEvals', WHERE WHAT IT READS IS OF BULK AT MOST 1048576: true; the input reads as it did. -/
def bindingEvalsUptoRow : OpenClaim := { program := "ytapkjfnfkalibaa", sum := "d725d175010b5bbda297d5c9f766c088cb514f7910ad095967b404c6a82c2b48", func := "petrinet/petrinetlaw40.BindingEvals", spec := "bindingEvals", inPlace := ["internal/abi.NoEscape", "internal/bytealg.MakeNoZero"], unfollowed := true, recurses := true, apart := false, narrowed := true }
def BindingEvalsUptoSaid : Prop := bindingEvalsUptoRow.holds Try.pinned (OpenSpec.upto bindingEvalsSpec)

/-- 'petrinetlaw40.BindingLists', WHERE WHAT IT READS IS OF BULK AT MOST 1048576: true; the input reads as it did. -/
def bindingListsUptoRow : OpenClaim := { program := "ytapkjfnfkalibaa", sum := "d725d175010b5bbda297d5c9f766c088cb514f7910ad095967b404c6a82c2b48", func := "petrinet/petrinetlaw40.BindingLists", spec := "bindingLists", inPlace := ["internal/abi.NoEscape", "internal/bytealg.MakeNoZero"], unfollowed := true, recurses := true, apart := false, narrowed := true }
def BindingListsUptoSaid : Prop := bindingListsUptoRow.holds Try.pinned (OpenSpec.upto bindingListsSpec)

/-- 'petrinetlaw40.BindingCounts', WHERE WHAT IT READS IS OF BULK AT MOST 1048576: true; the input reads as it did. -/
def bindingCountsUptoRow : OpenClaim := { program := "ytapkjfnfkalibaa", sum := "d725d175010b5bbda297d5c9f766c088cb514f7910ad095967b404c6a82c2b48", func := "petrinet/petrinetlaw40.BindingCounts", spec := "bindingCounts", inPlace := ["internal/abi.NoEscape", "internal/bytealg.MakeNoZero"], unfollowed := true, recurses := true, apart := false, narrowed := true }
def BindingCountsUptoSaid : Prop := bindingCountsUptoRow.holds Try.pinned (OpenSpec.upto bindingCountsSpec)

/-- 'petrinetlaw40.BindingAdds', WHERE WHAT IT READS IS OF BULK AT MOST 1048576: true; the input reads as it did. -/
def bindingAddsUptoRow : OpenClaim := { program := "ytapkjfnfkalibaa", sum := "d725d175010b5bbda297d5c9f766c088cb514f7910ad095967b404c6a82c2b48", func := "petrinet/petrinetlaw40.BindingAdds", spec := "bindingAdds", inPlace := ["internal/abi.NoEscape", "internal/bytealg.MakeNoZero"], unfollowed := true, recurses := true, apart := false, narrowed := true }
def BindingAddsUptoSaid : Prop := bindingAddsUptoRow.holds Try.pinned (OpenSpec.upto bindingAddsSpec)

/-- 'petrinetlaw40.BindingTerms', WHERE WHAT IT READS IS OF BULK AT MOST 1048576: true; the input reads as it did. -/
def bindingTermsUptoRow : OpenClaim := { program := "ytapkjfnfkalibaa", sum := "d725d175010b5bbda297d5c9f766c088cb514f7910ad095967b404c6a82c2b48", func := "petrinet/petrinetlaw40.BindingTerms", spec := "bindingTerms", inPlace := ["internal/abi.NoEscape", "internal/bytealg.MakeNoZero"], unfollowed := true, recurses := true, apart := false, narrowed := true }
def BindingTermsUptoSaid : Prop := bindingTermsUptoRow.holds Try.pinned (OpenSpec.upto bindingTermsSpec)

end Rows
end Go.Proofs.Ytapkjfnfkalibaa
