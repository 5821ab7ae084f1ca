/-
  No cell of these rows narrows 'for every input' (looked for: loops, veiled, ifaces, maps, wideKeys, modest, calm, conditions, laid).
  DERIVED. THE GIVEN ROWS OF THIS SEAT. 7 by the template 'for every input the law returns true; each argument reads behind the call as it read before'; 0 by the template 'total and deterministic' (their statements: YtaphehdbjbogaaaTotals.lean).
  GIVEN WITH THE SEED: the statements are not yours to turn. If you find one false, say at which input.
  Laid BY PROGRAM, IN A SANDBOX (cutbox-rows.mjs): the forced cells as the released guide's own fill.sh prints them over the translation 1eabc2e9a8d6dc74… (all of the seat's roots in one cut). By AI agents, Wed Nov 11 2026. No macro, syntax, notation, axiom, sorry.
-/
import Derived.Test.YtaphehdbjbogaaaChecked
import GoSem.Claim
import GoSem.ClaimJoined
import GoSem.ClaimMapViews
import Derived.JoinedTies
import Derived.KernelRfl
namespace Go.Proofs.Ytaphehdbjbogaaa
/- THE CELL 'sum', in the pinned program and in every row, IS THE sha256 OF THE DUMP (.gsa) THAT YtaphehdbjbogaaaProg.lean LOADS. Nothing in Lean hashes anything: it is a label: what it is worth is what the hold of that sum in a sandbox is worth. -/
noncomputable def Try.pinned : Pinned := { name := "ytaphehdbjbogaaa", sum := "1eabc2e9a8d6dc74308738284778fd3b392796e0ef1157be0c4f4d600ca7135b", checked := Try.checked }
namespace Rows
def none {H : Type} : Left H := { results := [], args := [] }

/-- 'petrinetlaw33.SiphonKnows': WHATEVER THE INPUT: true; the input reads as it did. -/
def siphonKnowsSpec : ChangeSpec := { name := "siphonKnows", fn := fun _ => fun
  | [d1, d2] => { results := [.lit (.bool true)], args := [d1, d2] }
  | _ => none }
def siphonKnowsRow : OpenClaim := { program := "ytaphehdbjbogaaa", sum := "1eabc2e9a8d6dc74308738284778fd3b392796e0ef1157be0c4f4d600ca7135b", func := "petrinet/petrinetlaw33.SiphonKnows", spec := "siphonKnows", unfollowed := true, recurses := true, apart := false }
def SiphonKnowsSaid : Prop := siphonKnowsRow.holds Try.pinned (OpenSpec.ofChange siphonKnowsSpec)

/-- ITS FALSE NEIGHBOUR: 'it returns false'. Refute it at one input. -/
def siphonKnowsWrong : ChangeSpec := { name := "siphonKnows", fn := fun _ => fun
  | [d1, d2] => { results := [.lit (.bool false)], args := [d1, d2] }
  | _ => none }
def SiphonKnowsWrongFalsely : Prop := siphonKnowsRow.holds Try.pinned (OpenSpec.ofChange siphonKnowsWrong)

/-- 'petrinetlaw33.SiphonMarks': WHATEVER THE INPUT: true; the input reads as it did. -/
def siphonMarksSpec : ChangeSpec := { name := "siphonMarks", fn := fun _ => fun
  | [d1, d2] => { results := [.lit (.bool true)], args := [d1, d2] }
  | _ => none }
def siphonMarksRow : OpenClaim := { program := "ytaphehdbjbogaaa", sum := "1eabc2e9a8d6dc74308738284778fd3b392796e0ef1157be0c4f4d600ca7135b", func := "petrinet/petrinetlaw33.SiphonMarks", spec := "siphonMarks", unfollowed := true, recurses := true, apart := false }
def SiphonMarksSaid : Prop := siphonMarksRow.holds Try.pinned (OpenSpec.ofChange siphonMarksSpec)

/-- ITS FALSE NEIGHBOUR: 'it returns false'. Refute it at one input. -/
def siphonMarksWrong : ChangeSpec := { name := "siphonMarks", fn := fun _ => fun
  | [d1, d2] => { results := [.lit (.bool false)], args := [d1, d2] }
  | _ => none }
def SiphonMarksWrongFalsely : Prop := siphonMarksRow.holds Try.pinned (OpenSpec.ofChange siphonMarksWrong)

/-- 'petrinetlaw33.SiphonGreatest': WHATEVER THE INPUT: true; the input reads as it did. -/
def siphonGreatestSpec : ChangeSpec := { name := "siphonGreatest", fn := fun _ => fun
  | [d1, d2] => { results := [.lit (.bool true)], args := [d1, d2] }
  | _ => none }
def siphonGreatestRow : OpenClaim := { program := "ytaphehdbjbogaaa", sum := "1eabc2e9a8d6dc74308738284778fd3b392796e0ef1157be0c4f4d600ca7135b", func := "petrinet/petrinetlaw33.SiphonGreatest", spec := "siphonGreatest", unfollowed := true, recurses := true, apart := false }
def SiphonGreatestSaid : Prop := siphonGreatestRow.holds Try.pinned (OpenSpec.ofChange siphonGreatestSpec)

/-- ITS FALSE NEIGHBOUR: 'it returns false'. Refute it at one input. -/
def siphonGreatestWrong : ChangeSpec := { name := "siphonGreatest", fn := fun _ => fun
  | [d1, d2] => { results := [.lit (.bool false)], args := [d1, d2] }
  | _ => none }
def SiphonGreatestWrongFalsely : Prop := siphonGreatestRow.holds Try.pinned (OpenSpec.ofChange siphonGreatestWrong)

/-- 'petrinetlaw33.SiphonDeadlocks': WHATEVER THE INPUT: true; the input reads as it did. -/
def siphonDeadlocksSpec : ChangeSpec := { name := "siphonDeadlocks", fn := fun _ => fun
  | [d1, d2] => { results := [.lit (.bool true)], args := [d1, d2] }
  | _ => none }
def siphonDeadlocksRow : OpenClaim := { program := "ytaphehdbjbogaaa", sum := "1eabc2e9a8d6dc74308738284778fd3b392796e0ef1157be0c4f4d600ca7135b", func := "petrinet/petrinetlaw33.SiphonDeadlocks", spec := "siphonDeadlocks", unfollowed := true, recurses := true, apart := false }
def SiphonDeadlocksSaid : Prop := siphonDeadlocksRow.holds Try.pinned (OpenSpec.ofChange siphonDeadlocksSpec)

/-- ITS FALSE NEIGHBOUR: 'it returns false'. Refute it at one input. -/
def siphonDeadlocksWrong : ChangeSpec := { name := "siphonDeadlocks", fn := fun _ => fun
  | [d1, d2] => { results := [.lit (.bool false)], args := [d1, d2] }
  | _ => none }
def SiphonDeadlocksWrongFalsely : Prop := siphonDeadlocksRow.holds Try.pinned (OpenSpec.ofChange siphonDeadlocksWrong)

/-- 'petrinetlaw33.SiphonUnions': WHATEVER THE INPUT: true; the input reads as it did. -/
def siphonUnionsSpec : ChangeSpec := { name := "siphonUnions", fn := fun _ => fun
  | [d1, d2, d3] => { results := [.lit (.bool true)], args := [d1, d2, d3] }
  | _ => none }
def siphonUnionsRow : OpenClaim := { program := "ytaphehdbjbogaaa", sum := "1eabc2e9a8d6dc74308738284778fd3b392796e0ef1157be0c4f4d600ca7135b", func := "petrinet/petrinetlaw33.SiphonUnions", spec := "siphonUnions", unfollowed := true, recurses := true, apart := false }
def SiphonUnionsSaid : Prop := siphonUnionsRow.holds Try.pinned (OpenSpec.ofChange siphonUnionsSpec)

/-- ITS FALSE NEIGHBOUR: 'it returns false'. Refute it at one input. -/
def siphonUnionsWrong : ChangeSpec := { name := "siphonUnions", fn := fun _ => fun
  | [d1, d2, d3] => { results := [.lit (.bool false)], args := [d1, d2, d3] }
  | _ => none }
def SiphonUnionsWrongFalsely : Prop := siphonUnionsRow.holds Try.pinned (OpenSpec.ofChange siphonUnionsWrong)

/-- 'petrinetlaw33.SiphonStays': WHATEVER THE INPUT: true; the input reads as it did. -/
def siphonStaysSpec : ChangeSpec := { name := "siphonStays", fn := fun _ => fun
  | [d1, d2, d3] => { results := [.lit (.bool true)], args := [d1, d2, d3] }
  | _ => none }
def siphonStaysRow : OpenClaim := { program := "ytaphehdbjbogaaa", sum := "1eabc2e9a8d6dc74308738284778fd3b392796e0ef1157be0c4f4d600ca7135b", func := "petrinet/petrinetlaw33.SiphonStays", spec := "siphonStays", unfollowed := true, recurses := true, apart := false }
def SiphonStaysSaid : Prop := siphonStaysRow.holds Try.pinned (OpenSpec.ofChange siphonStaysSpec)

/-- ITS FALSE NEIGHBOUR: 'it returns false'. Refute it at one input. -/
def siphonStaysWrong : ChangeSpec := { name := "siphonStays", fn := fun _ => fun
  | [d1, d2, d3] => { results := [.lit (.bool false)], args := [d1, d2, d3] }
  | _ => none }
def SiphonStaysWrongFalsely : Prop := siphonStaysRow.holds Try.pinned (OpenSpec.ofChange siphonStaysWrong)

/-- 'petrinetlaw33.SiphonLists': WHATEVER THE INPUT: true; the input reads as it did. -/
def siphonListsSpec : ChangeSpec := { name := "siphonLists", fn := fun _ => fun
  | [d] => { results := [.lit (.bool true)], args := [d] }
  | _ => none }
def siphonListsRow : OpenClaim := { program := "ytaphehdbjbogaaa", sum := "1eabc2e9a8d6dc74308738284778fd3b392796e0ef1157be0c4f4d600ca7135b", func := "petrinet/petrinetlaw33.SiphonLists", spec := "siphonLists", unfollowed := true, recurses := true, apart := false }
def SiphonListsSaid : Prop := siphonListsRow.holds Try.pinned (OpenSpec.ofChange siphonListsSpec)

/-- ITS FALSE NEIGHBOUR: 'it returns false'. Refute it at one input. -/
def siphonListsWrong : ChangeSpec := { name := "siphonLists", fn := fun _ => fun
  | [d] => { results := [.lit (.bool false)], args := [d] }
  | _ => none }
def SiphonListsWrongFalsely : Prop := siphonListsRow.holds Try.pinned (OpenSpec.ofChange siphonListsWrong)

/- THE SECOND FORM. 'bulk': how many values and letters a reading holds, each counted each time it is reached (what is shared counts as often as it is met; a slice's spare places count too). A statement '..UptoSaid' is the law's where the arguments, and the package variables that the reading takes, are together of bulk at most 1048576: NARROWER than '..Said'. Prove '..Said' where nothing that the law and all that it calls make is longer than what came in: it says more and counts as full. Else prove '..UptoSaid'. A law counts once. -/
mutual
def uptoBulk {H : Type} : DataW H → Nat
  | .lit (.string bytes) => bytes.length + 1
  | .lit _ => 1
  | .nil => 1
  | .ptr d => uptoBulk d + 1
  | .slice elems spare => uptoBulkAll elems + uptoBulkAll spare + 1
  | .agg parts => uptoBulkAll parts + 1
  | .iface _ d => uptoBulk d + 1
  | .map entries => uptoBulkEntries entries + 1
  | .held _ => 1
def uptoBulkAll {H : Type} : List (DataW H) → Nat
  | [] => 0
  | d :: r => uptoBulk d + uptoBulkAll r
def uptoBulkEntries {H : Type} : List (Lit × DataW H) → Nat
  | [] => 0
  | x :: r => uptoBulkEntry x + uptoBulkEntries r
def uptoBulkEntry {H : Type} : Lit × DataW H → Nat
  | (.string bytes, d) => bytes.length + uptoBulk d + 1
  | (_, d) => uptoBulk d + 1
 end
def uptoSmall : (H : Type) → List (DataW H) → Bool := fun _ ds => decide (uptoBulkAll ds ≤ 1048576)
def OpenSpec.upto (s : _root_.Go.ChangeSpec) : _root_.Go.OpenSpec := { _root_.Go.OpenSpec.ofChange s with cond := some uptoSmall }

/-- 'petrinetlaw33.SiphonKnows', WHERE WHAT IT READS IS OF BULK AT MOST 1048576: true; the input reads as it did. -/
def siphonKnowsUptoRow : OpenClaim := { program := "ytaphehdbjbogaaa", sum := "1eabc2e9a8d6dc74308738284778fd3b392796e0ef1157be0c4f4d600ca7135b", func := "petrinet/petrinetlaw33.SiphonKnows", spec := "siphonKnows", unfollowed := true, recurses := true, apart := false, narrowed := true }
def SiphonKnowsUptoSaid : Prop := siphonKnowsUptoRow.holds Try.pinned (OpenSpec.upto siphonKnowsSpec)

/-- 'petrinetlaw33.SiphonMarks', WHERE WHAT IT READS IS OF BULK AT MOST 1048576: true; the input reads as it did. -/
def siphonMarksUptoRow : OpenClaim := { program := "ytaphehdbjbogaaa", sum := "1eabc2e9a8d6dc74308738284778fd3b392796e0ef1157be0c4f4d600ca7135b", func := "petrinet/petrinetlaw33.SiphonMarks", spec := "siphonMarks", unfollowed := true, recurses := true, apart := false, narrowed := true }
def SiphonMarksUptoSaid : Prop := siphonMarksUptoRow.holds Try.pinned (OpenSpec.upto siphonMarksSpec)

/-- 'petrinetlaw33.SiphonGreatest', WHERE WHAT IT READS IS OF BULK AT MOST 1048576: true; the input reads as it did. -/
def siphonGreatestUptoRow : OpenClaim := { program := "ytaphehdbjbogaaa", sum := "1eabc2e9a8d6dc74308738284778fd3b392796e0ef1157be0c4f4d600ca7135b", func := "petrinet/petrinetlaw33.SiphonGreatest", spec := "siphonGreatest", unfollowed := true, recurses := true, apart := false, narrowed := true }
def SiphonGreatestUptoSaid : Prop := siphonGreatestUptoRow.holds Try.pinned (OpenSpec.upto siphonGreatestSpec)

/-- 'petrinetlaw33.SiphonDeadlocks', WHERE WHAT IT READS IS OF BULK AT MOST 1048576: true; the input reads as it did. -/
def siphonDeadlocksUptoRow : OpenClaim := { program := "ytaphehdbjbogaaa", sum := "1eabc2e9a8d6dc74308738284778fd3b392796e0ef1157be0c4f4d600ca7135b", func := "petrinet/petrinetlaw33.SiphonDeadlocks", spec := "siphonDeadlocks", unfollowed := true, recurses := true, apart := false, narrowed := true }
def SiphonDeadlocksUptoSaid : Prop := siphonDeadlocksUptoRow.holds Try.pinned (OpenSpec.upto siphonDeadlocksSpec)

/-- 'petrinetlaw33.SiphonUnions', WHERE WHAT IT READS IS OF BULK AT MOST 1048576: true; the input reads as it did. -/
def siphonUnionsUptoRow : OpenClaim := { program := "ytaphehdbjbogaaa", sum := "1eabc2e9a8d6dc74308738284778fd3b392796e0ef1157be0c4f4d600ca7135b", func := "petrinet/petrinetlaw33.SiphonUnions", spec := "siphonUnions", unfollowed := true, recurses := true, apart := false, narrowed := true }
def SiphonUnionsUptoSaid : Prop := siphonUnionsUptoRow.holds Try.pinned (OpenSpec.upto siphonUnionsSpec)

/-- 'petrinetlaw33.SiphonStays', WHERE WHAT IT READS IS OF BULK AT MOST 1048576: true; the input reads as it did. -/
def siphonStaysUptoRow : OpenClaim := { program := "ytaphehdbjbogaaa", sum := "1eabc2e9a8d6dc74308738284778fd3b392796e0ef1157be0c4f4d600ca7135b", func := "petrinet/petrinetlaw33.SiphonStays", spec := "siphonStays", unfollowed := true, recurses := true, apart := false, narrowed := true }
def SiphonStaysUptoSaid : Prop := siphonStaysUptoRow.holds Try.pinned (OpenSpec.upto siphonStaysSpec)

/-- 'petrinetlaw33.SiphonLists', WHERE WHAT IT READS IS OF BULK AT MOST 1048576: true; the input reads as it did. -/
def siphonListsUptoRow : OpenClaim := { program := "ytaphehdbjbogaaa", sum := "1eabc2e9a8d6dc74308738284778fd3b392796e0ef1157be0c4f4d600ca7135b", func := "petrinet/petrinetlaw33.SiphonLists", spec := "siphonLists", unfollowed := true, recurses := true, apart := false, narrowed := true }
def SiphonListsUptoSaid : Prop := siphonListsUptoRow.holds Try.pinned (OpenSpec.upto siphonListsSpec)

end Rows
end Go.Proofs.Ytaphehdbjbogaaa
