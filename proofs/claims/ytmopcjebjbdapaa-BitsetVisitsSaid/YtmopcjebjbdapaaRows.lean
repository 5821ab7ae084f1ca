/-
  No cell of these rows narrows 'for every input' (looked for: loops, veiled, ifaces, maps, wideKeys, modest, calm, conditions, laid).
  DERIVED. THE GIVEN ROWS OF THIS SEAT. 8 by the template 'for every input the law returns true; each argument reads behind the call as it read before'; 0 by the template 'total and deterministic' (their statements: YtmopcjebjbdapaaTotals.lean).
  GIVEN WITH THE SEED: the statements are not yours to turn. If you find one false, say at which input.
  Laid BY PROGRAM, IN A SANDBOX (cutbox-rows.mjs): the forced cells as the released guide's own fill.sh prints them over the translation d2828e6b59ec41aa… (all of the seat's roots in one cut). By AI agents, Wed Nov 11 2026. No macro, syntax, notation, axiom, sorry.
-/
import Derived.Test.YtmopcjebjbdapaaChecked
import GoSem.Claim
import GoSem.ClaimJoined
import GoSem.ClaimMapViews
import Derived.JoinedTies
import Derived.KernelRfl
namespace Go.Proofs.Ytmopcjebjbdapaa
/- THE CELL 'sum', in the pinned program and in every row, IS THE sha256 OF THE DUMP (.gsa) THAT YtmopcjebjbdapaaProg.lean LOADS. Nothing in Lean hashes anything: it is a label: what it is worth is what the hold of that sum in a sandbox is worth. -/
noncomputable def Try.pinned : Pinned := { name := "ytmopcjebjbdapaa", sum := "d2828e6b59ec41aaa46898fa9214cfb144415d44653f9975fe6b9eaefb948ec2", checked := Try.checked }
namespace Rows
def none {H : Type} : Left H := { results := [], args := [] }

/-- 'petrinetlaw06.BitsetElements': WHATEVER THE INPUT: true; the input reads as it did. -/
def bitsetElementsSpec : ChangeSpec := { name := "bitsetElements", fn := fun _ => fun
  | [d1, d2, d3] => { results := [.lit (.bool true)], args := [d1, d2, d3] }
  | _ => none }
def bitsetElementsRow : OpenClaim := { program := "ytmopcjebjbdapaa", sum := "d2828e6b59ec41aaa46898fa9214cfb144415d44653f9975fe6b9eaefb948ec2", func := "petrinet/petrinetlaw06.BitsetElements", spec := "bitsetElements", unfollowed := true, recurses := true, apart := false }
def BitsetElementsSaid : Prop := bitsetElementsRow.holds Try.pinned (OpenSpec.ofChange bitsetElementsSpec)

/-- ITS FALSE NEIGHBOUR: 'it returns false'. Refute it at one input. -/
def bitsetElementsWrong : ChangeSpec := { name := "bitsetElements", fn := fun _ => fun
  | [d1, d2, d3] => { results := [.lit (.bool false)], args := [d1, d2, d3] }
  | _ => none }
def BitsetElementsWrongFalsely : Prop := bitsetElementsRow.holds Try.pinned (OpenSpec.ofChange bitsetElementsWrong)

/-- 'petrinetlaw06.BitsetSizes': WHATEVER THE INPUT: true; the input reads as it did. -/
def bitsetSizesSpec : ChangeSpec := { name := "bitsetSizes", fn := fun _ => fun
  | [d1, d2, d3] => { results := [.lit (.bool true)], args := [d1, d2, d3] }
  | _ => none }
def bitsetSizesRow : OpenClaim := { program := "ytmopcjebjbdapaa", sum := "d2828e6b59ec41aaa46898fa9214cfb144415d44653f9975fe6b9eaefb948ec2", func := "petrinet/petrinetlaw06.BitsetSizes", spec := "bitsetSizes", unfollowed := true, recurses := true, apart := false }
def BitsetSizesSaid : Prop := bitsetSizesRow.holds Try.pinned (OpenSpec.ofChange bitsetSizesSpec)

/-- ITS FALSE NEIGHBOUR: 'it returns false'. Refute it at one input. -/
def bitsetSizesWrong : ChangeSpec := { name := "bitsetSizes", fn := fun _ => fun
  | [d1, d2, d3] => { results := [.lit (.bool false)], args := [d1, d2, d3] }
  | _ => none }
def BitsetSizesWrongFalsely : Prop := bitsetSizesRow.holds Try.pinned (OpenSpec.ofChange bitsetSizesWrong)

/-- 'petrinetlaw06.BitsetNexts': WHATEVER THE INPUT: true; the input reads as it did. -/
def bitsetNextsSpec : ChangeSpec := { name := "bitsetNexts", fn := fun _ => fun
  | [d1, d2] => { results := [.lit (.bool true)], args := [d1, d2] }
  | _ => none }
def bitsetNextsRow : OpenClaim := { program := "ytmopcjebjbdapaa", sum := "d2828e6b59ec41aaa46898fa9214cfb144415d44653f9975fe6b9eaefb948ec2", func := "petrinet/petrinetlaw06.BitsetNexts", spec := "bitsetNexts", unfollowed := true, recurses := true, apart := false }
def BitsetNextsSaid : Prop := bitsetNextsRow.holds Try.pinned (OpenSpec.ofChange bitsetNextsSpec)

/-- ITS FALSE NEIGHBOUR: 'it returns false'. Refute it at one input. -/
def bitsetNextsWrong : ChangeSpec := { name := "bitsetNexts", fn := fun _ => fun
  | [d1, d2] => { results := [.lit (.bool false)], args := [d1, d2] }
  | _ => none }
def BitsetNextsWrongFalsely : Prop := bitsetNextsRow.holds Try.pinned (OpenSpec.ofChange bitsetNextsWrong)

/-- 'petrinetlaw06.BitsetMinimals': WHATEVER THE INPUT: true; the input reads as it did. -/
def bitsetMinimalsSpec : ChangeSpec := { name := "bitsetMinimals", fn := fun _ => fun
  | [d] => { results := [.lit (.bool true)], args := [d] }
  | _ => none }
def bitsetMinimalsRow : OpenClaim := { program := "ytmopcjebjbdapaa", sum := "d2828e6b59ec41aaa46898fa9214cfb144415d44653f9975fe6b9eaefb948ec2", func := "petrinet/petrinetlaw06.BitsetMinimals", spec := "bitsetMinimals", unfollowed := true, recurses := true, apart := false }
def BitsetMinimalsSaid : Prop := bitsetMinimalsRow.holds Try.pinned (OpenSpec.ofChange bitsetMinimalsSpec)

/-- ITS FALSE NEIGHBOUR: 'it returns false'. Refute it at one input. -/
def bitsetMinimalsWrong : ChangeSpec := { name := "bitsetMinimals", fn := fun _ => fun
  | [d] => { results := [.lit (.bool false)], args := [d] }
  | _ => none }
def BitsetMinimalsWrongFalsely : Prop := bitsetMinimalsRow.holds Try.pinned (OpenSpec.ofChange bitsetMinimalsWrong)

/-- 'petrinetlaw06.BitsetReturns': WHATEVER THE INPUT: true; the input reads as it did. -/
def bitsetReturnsSpec : ChangeSpec := { name := "bitsetReturns", fn := fun _ => fun
  | [d1, d2] => { results := [.lit (.bool true)], args := [d1, d2] }
  | _ => none }
def bitsetReturnsRow : OpenClaim := { program := "ytmopcjebjbdapaa", sum := "d2828e6b59ec41aaa46898fa9214cfb144415d44653f9975fe6b9eaefb948ec2", func := "petrinet/petrinetlaw06.BitsetReturns", spec := "bitsetReturns", unfollowed := true, recurses := true, apart := false }
def BitsetReturnsSaid : Prop := bitsetReturnsRow.holds Try.pinned (OpenSpec.ofChange bitsetReturnsSpec)

/-- ITS FALSE NEIGHBOUR: 'it returns false'. Refute it at one input. -/
def bitsetReturnsWrong : ChangeSpec := { name := "bitsetReturns", fn := fun _ => fun
  | [d1, d2] => { results := [.lit (.bool false)], args := [d1, d2] }
  | _ => none }
def BitsetReturnsWrongFalsely : Prop := bitsetReturnsRow.holds Try.pinned (OpenSpec.ofChange bitsetReturnsWrong)

/-- 'petrinetlaw06.BitsetVisits': WHATEVER THE INPUT: true; the input reads as it did. -/
def bitsetVisitsSpec : ChangeSpec := { name := "bitsetVisits", fn := fun _ => fun
  | [d] => { results := [.lit (.bool true)], args := [d] }
  | _ => none }
def bitsetVisitsRow : OpenClaim := { program := "ytmopcjebjbdapaa", sum := "d2828e6b59ec41aaa46898fa9214cfb144415d44653f9975fe6b9eaefb948ec2", func := "petrinet/petrinetlaw06.BitsetVisits", spec := "bitsetVisits", unfollowed := true, recurses := true, apart := false }
def BitsetVisitsSaid : Prop := bitsetVisitsRow.holds Try.pinned (OpenSpec.ofChange bitsetVisitsSpec)

/-- ITS FALSE NEIGHBOUR: 'it returns false'. Refute it at one input. -/
def bitsetVisitsWrong : ChangeSpec := { name := "bitsetVisits", fn := fun _ => fun
  | [d] => { results := [.lit (.bool false)], args := [d] }
  | _ => none }
def BitsetVisitsWrongFalsely : Prop := bitsetVisitsRow.holds Try.pinned (OpenSpec.ofChange bitsetVisitsWrong)

/-- 'petrinetlaw06.BitsetCovers': WHATEVER THE INPUT: true; the input reads as it did. -/
def bitsetCoversSpec : ChangeSpec := { name := "bitsetCovers", fn := fun _ => fun
  | [d] => { results := [.lit (.bool true)], args := [d] }
  | _ => none }
def bitsetCoversRow : OpenClaim := { program := "ytmopcjebjbdapaa", sum := "d2828e6b59ec41aaa46898fa9214cfb144415d44653f9975fe6b9eaefb948ec2", func := "petrinet/petrinetlaw06.BitsetCovers", spec := "bitsetCovers", unfollowed := true, recurses := true, apart := false }
def BitsetCoversSaid : Prop := bitsetCoversRow.holds Try.pinned (OpenSpec.ofChange bitsetCoversSpec)

/-- ITS FALSE NEIGHBOUR: 'it returns false'. Refute it at one input. -/
def bitsetCoversWrong : ChangeSpec := { name := "bitsetCovers", fn := fun _ => fun
  | [d] => { results := [.lit (.bool false)], args := [d] }
  | _ => none }
def BitsetCoversWrongFalsely : Prop := bitsetCoversRow.holds Try.pinned (OpenSpec.ofChange bitsetCoversWrong)

/-- 'petrinetlaw06.BitsetOrders': WHATEVER THE INPUT: true; the input reads as it did. -/
def bitsetOrdersSpec : ChangeSpec := { name := "bitsetOrders", fn := fun _ => fun
  | [d1, d2] => { results := [.lit (.bool true)], args := [d1, d2] }
  | _ => none }
def bitsetOrdersRow : OpenClaim := { program := "ytmopcjebjbdapaa", sum := "d2828e6b59ec41aaa46898fa9214cfb144415d44653f9975fe6b9eaefb948ec2", func := "petrinet/petrinetlaw06.BitsetOrders", spec := "bitsetOrders", unfollowed := true, recurses := true, apart := false }
def BitsetOrdersSaid : Prop := bitsetOrdersRow.holds Try.pinned (OpenSpec.ofChange bitsetOrdersSpec)

/-- ITS FALSE NEIGHBOUR: 'it returns false'. Refute it at one input. -/
def bitsetOrdersWrong : ChangeSpec := { name := "bitsetOrders", fn := fun _ => fun
  | [d1, d2] => { results := [.lit (.bool false)], args := [d1, d2] }
  | _ => none }
def BitsetOrdersWrongFalsely : Prop := bitsetOrdersRow.holds Try.pinned (OpenSpec.ofChange bitsetOrdersWrong)

/- THE SECOND FORM. 'bulk': how many values and letters a reading holds, each counted each time it is reached (what is shared counts as often as it is met; a slice's spare places count too). A statement '..UptoSaid' is the law's where the arguments, and the package variables that the reading takes, are together of bulk at most 1048576: NARROWER than '..Said'. Prove '..Said' where nothing that the law and all that it calls make is longer than what came in: it says more and counts as full. Else prove '..UptoSaid'. A law counts once. -/
mutual
def uptoBulk {H : Type} : DataW H → Nat
  | .lit (.string bytes) => bytes.length + 1
  | .lit _ => 1
  | .nil => 1
  | .ptr d => uptoBulk d + 1
  | .slice elems spare => uptoBulkAll elems + uptoBulkAll spare + 1
  | .agg parts => uptoBulkAll parts + 1
  | .iface _ d => uptoBulk d + 1
  | .map entries => uptoBulkEntries entries + 1
  | .held _ => 1
def uptoBulkAll {H : Type} : List (DataW H) → Nat
  | [] => 0
  | d :: r => uptoBulk d + uptoBulkAll r
def uptoBulkEntries {H : Type} : List (Lit × DataW H) → Nat
  | [] => 0
  | x :: r => uptoBulkEntry x + uptoBulkEntries r
def uptoBulkEntry {H : Type} : Lit × DataW H → Nat
  | (.string bytes, d) => bytes.length + uptoBulk d + 1
  | (_, d) => uptoBulk d + 1
 end
def uptoSmall : (H : Type) → List (DataW H) → Bool := fun _ ds => decide (uptoBulkAll ds ≤ 1048576)
def OpenSpec.upto (s : _root_.Go.ChangeSpec) : _root_.Go.OpenSpec := { _root_.Go.OpenSpec.ofChange s with cond := some uptoSmall }

/-- 'petrinetlaw06.BitsetElements', WHERE WHAT IT READS IS OF BULK AT MOST 1048576: true; the input reads as it did. -/
def bitsetElementsUptoRow : OpenClaim := { program := "ytmopcjebjbdapaa", sum := "d2828e6b59ec41aaa46898fa9214cfb144415d44653f9975fe6b9eaefb948ec2", func := "petrinet/petrinetlaw06.BitsetElements", spec := "bitsetElements", unfollowed := true, recurses := true, apart := false, narrowed := true }
def BitsetElementsUptoSaid : Prop := bitsetElementsUptoRow.holds Try.pinned (OpenSpec.upto bitsetElementsSpec)

/-- 'petrinetlaw06.BitsetSizes', WHERE WHAT IT READS IS OF BULK AT MOST 1048576: true; the input reads as it did. -/
def bitsetSizesUptoRow : OpenClaim := { program := "ytmopcjebjbdapaa", sum := "d2828e6b59ec41aaa46898fa9214cfb144415d44653f9975fe6b9eaefb948ec2", func := "petrinet/petrinetlaw06.BitsetSizes", spec := "bitsetSizes", unfollowed := true, recurses := true, apart := false, narrowed := true }
def BitsetSizesUptoSaid : Prop := bitsetSizesUptoRow.holds Try.pinned (OpenSpec.upto bitsetSizesSpec)

/-- 'petrinetlaw06.BitsetNexts', WHERE WHAT IT READS IS OF BULK AT MOST 1048576: true; the input reads as it did. -/
def bitsetNextsUptoRow : OpenClaim := { program := "ytmopcjebjbdapaa", sum := "d2828e6b59ec41aaa46898fa9214cfb144415d44653f9975fe6b9eaefb948ec2", func := "petrinet/petrinetlaw06.BitsetNexts", spec := "bitsetNexts", unfollowed := true, recurses := true, apart := false, narrowed := true }
def BitsetNextsUptoSaid : Prop := bitsetNextsUptoRow.holds Try.pinned (OpenSpec.upto bitsetNextsSpec)

/-- 'petrinetlaw06.BitsetMinimals', WHERE WHAT IT READS IS OF BULK AT MOST 1048576: true; the input reads as it did. -/
def bitsetMinimalsUptoRow : OpenClaim := { program := "ytmopcjebjbdapaa", sum := "d2828e6b59ec41aaa46898fa9214cfb144415d44653f9975fe6b9eaefb948ec2", func := "petrinet/petrinetlaw06.BitsetMinimals", spec := "bitsetMinimals", unfollowed := true, recurses := true, apart := false, narrowed := true }
def BitsetMinimalsUptoSaid : Prop := bitsetMinimalsUptoRow.holds Try.pinned (OpenSpec.upto bitsetMinimalsSpec)

/-- 'petrinetlaw06.BitsetReturns', WHERE WHAT IT READS IS OF BULK AT MOST 1048576: true; the input reads as it did. -/
def bitsetReturnsUptoRow : OpenClaim := { program := "ytmopcjebjbdapaa", sum := "d2828e6b59ec41aaa46898fa9214cfb144415d44653f9975fe6b9eaefb948ec2", func := "petrinet/petrinetlaw06.BitsetReturns", spec := "bitsetReturns", unfollowed := true, recurses := true, apart := false, narrowed := true }
def BitsetReturnsUptoSaid : Prop := bitsetReturnsUptoRow.holds Try.pinned (OpenSpec.upto bitsetReturnsSpec)

/-- 'petrinetlaw06.BitsetVisits', WHERE WHAT IT READS IS OF BULK AT MOST 1048576: true; the input reads as it did. -/
def bitsetVisitsUptoRow : OpenClaim := { program := "ytmopcjebjbdapaa", sum := "d2828e6b59ec41aaa46898fa9214cfb144415d44653f9975fe6b9eaefb948ec2", func := "petrinet/petrinetlaw06.BitsetVisits", spec := "bitsetVisits", unfollowed := true, recurses := true, apart := false, narrowed := true }
def BitsetVisitsUptoSaid : Prop := bitsetVisitsUptoRow.holds Try.pinned (OpenSpec.upto bitsetVisitsSpec)

/-- 'petrinetlaw06.BitsetCovers', WHERE WHAT IT READS IS OF BULK AT MOST 1048576: true; the input reads as it did. -/
def bitsetCoversUptoRow : OpenClaim := { program := "ytmopcjebjbdapaa", sum := "d2828e6b59ec41aaa46898fa9214cfb144415d44653f9975fe6b9eaefb948ec2", func := "petrinet/petrinetlaw06.BitsetCovers", spec := "bitsetCovers", unfollowed := true, recurses := true, apart := false, narrowed := true }
def BitsetCoversUptoSaid : Prop := bitsetCoversUptoRow.holds Try.pinned (OpenSpec.upto bitsetCoversSpec)

/-- 'petrinetlaw06.BitsetOrders', WHERE WHAT IT READS IS OF BULK AT MOST 1048576: true; the input reads as it did. -/
def bitsetOrdersUptoRow : OpenClaim := { program := "ytmopcjebjbdapaa", sum := "d2828e6b59ec41aaa46898fa9214cfb144415d44653f9975fe6b9eaefb948ec2", func := "petrinet/petrinetlaw06.BitsetOrders", spec := "bitsetOrders", unfollowed := true, recurses := true, apart := false, narrowed := true }
def BitsetOrdersUptoSaid : Prop := bitsetOrdersUptoRow.holds Try.pinned (OpenSpec.upto bitsetOrdersSpec)

end Rows
end Go.Proofs.Ytmopcjebjbdapaa
