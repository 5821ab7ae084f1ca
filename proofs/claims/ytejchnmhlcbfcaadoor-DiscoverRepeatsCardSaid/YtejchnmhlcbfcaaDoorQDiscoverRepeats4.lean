/- Functions that the statement reaches: what each answers, and that the program answers it (written by a program of this work). -/
import Derived.Test.YtejchnmhlcbfcaaDoorProg
import Derived.Below
import Derived.Deep.Draws
import Derived.Deep.AppendLies
import Derived.Maps.AppendAt
import Derived.OwnWalk
import Derived.Laws.BytesArg
import Derived.Laws.MakeOwn
import Derived.Laws.OwnMore
import Derived.Deep.OwnRows
import Derived.Tactics
import Derived.Lib.ConvBytes
import Derived.Laws.Slices
import Derived.WalkKit
import Derived.KernelRfl
import Derived.RowKit3
import Derived.Deep.LoopGhost
import Derived.Deep.QuietTactic
import Derived.BigQuiet
import Derived.WideLaws
import Derived.Deep.DeepCutAuto
import Derived.Deep.CutBlock
import Derived.Deep.RegionHeld3
import Derived.Laws.Rows
import Derived.Lib.AppendStr
import Derived.ArgAppend
import Derived.Laws.IdiomCopy
import Derived.OrdersHeld
import Derived.Laws.BitsLemmas
import Derived.RowKit
import Derived.WalkMore
import Derived.ChangeKeysEq
import Derived.Test.YtejchnmhlcbfcaaDoorVDiscoverRepeats
import Derived.Test.YtejchnmhlcbfcaaDoorQDiscoverRepeats0
namespace Go.Proofs.YtejchnmhlcbfcaaDoor.Pr
open Go.RowKit Go.Proofs.YtejchnmhlcbfcaaDoorW.PrintWords Go.Proofs.YtejchnmhlcbfcaaDoorW.PrintLast Go.Proofs.YtejchnmhlcbfcaaDoorW.PrintMore
attribute [local go_sem] Instr.field asAgg
attribute [local go_sem] max2_int min2_int max_two min_two max_three min_three max_four min_four   -- for this text's walks alone
set_option linter.unusedVariables false
set_option linter.unusedSimpArgs false


/-! ### r48_Name: function 73 -/
def r48_Name.l0 : Nat → ByteArray → Int → Option (Bool)
 | 0, _, _ => none
 | k + 1, x0, x3 => if x3 < (x0.size : Int) then (if 0 ≤ x3 then (if (bt x0 x3) ≥ 97 then (if (bt x0 x3) ≤ 122 then (r48_Name.l0 k x0 (wrap64 (x3 + 1))) else (if ((bt x0 x3) = 95) then (r48_Name.l0 k x0 (wrap64 (x3 + 1))) else (if x3 = 0 then (some false) else (if (bt x0 x3) = 46 then (r48_Name.l0 k x0 (wrap64 (x3 + 1))) else (if (bt x0 x3) < 48 then (some false) else (if (bt x0 x3) > 57 then (some false) else (r48_Name.l0 k x0 (wrap64 (x3 + 1))))))))) else (if ((bt x0 x3) = 95) then (r48_Name.l0 k x0 (wrap64 (x3 + 1))) else (if x3 = 0 then (some false) else (if (bt x0 x3) = 46 then (r48_Name.l0 k x0 (wrap64 (x3 + 1))) else (if (bt x0 x3) < 48 then (some false) else (if (bt x0 x3) > 57 then (some false) else (r48_Name.l0 k x0 (wrap64 (x3 + 1))))))))) else (none)) else (if (x0.size : Int) ≥ 1 then (some (decide ((x0.size : Int) ≤ 16))) else (some false))
def r48_Name.f (k : Nat) (a0 : ByteArray) : Option (Bool) := r48_Name.l0 k a0 0
theorem r48_Name.mono_l : ∀ k, (∀ y0 y1, LeO (r48_Name.l0 k y0 y1) (r48_Name.l0 (k + 1) y0 y1))
 | 0 => fun _ _ r h => by simp [r48_Name.l0] at h
 | k + 1 => by
  have ih0 := r48_Name.mono_l k
  ·
   intro y0 y1
   unfold r48_Name.l0
   repeat' first
   | (with_reducible first | exact ih0 _ _ | exact LeO.refl _ | exact LeO.none _ | refine LeO.ite ?_ ?_ | refine LeO.bind ?_ (fun _ => ?_))
   | exact LeO.none _
   | refine LeO.ite ?_ ?_
   | refine LeO.bind ?_ (fun _ => ?_)
theorem r48_Name.mono : ∀ a0 k, LeO (r48_Name.f k a0) (r48_Name.f (k + 1) a0) := by
 intro a0 k
 have ih0 := r48_Name.mono_l k
 unfold r48_Name.f
 repeat' first
   | (with_reducible first | exact ih0 _ _ | exact LeO.refl _ | exact LeO.none _ | refine LeO.ite ?_ ?_ | refine LeO.bind ?_ (fun _ => ?_))
   | exact LeO.none _
   | refine LeO.ite ?_ ?_
   | refine LeO.bind ?_ (fun _ => ?_)

/-! ### r48_Check: function 65 -/
mutual
def r48_Check.l0 : Nat → List (List ByteArray) → Int → Option (Int × Int)
 | 0, _, _ => none
 | k + 1, x0, x3 => if x3 < (x0.length : Int) then (if 0 ≤ x3 then (if ((rd_L1 x0 x3).length : Int) > 64 then (some (2, x3)) else (r48_Check.l1 k x0 x3 0)) else (none)) else (some (0, 0))
def r48_Check.l1 : Nat → List (List ByteArray) → Int → Int → Option (Int × Int)
 | 0, _, _, _ => none
 | k + 1, x0, x3, x4 => if 0 ≤ x3 then (if x3 < (x0.length : Int) then (if x4 < ((rd_L1 x0 x3).length : Int) then (if 0 ≤ x4 then ((r48_Name.f k (rdOf ByteArray.empty (rd_L1 x0 x3) x4)).bind fun t273 => (if t273 = true then (r48_Check.l1 k x0 x3 (wrap64 (x4 + 1))) else (some (5, x3)))) else (none)) else (r48_Check.l0 k x0 (wrap64 (x3 + 1)))) else (none)) else (none)
end
def r48_Check.f (k : Nat) (l0 : List (List ByteArray)) : Option (Int × Int) := if (l0.length : Int) > 64 then (some (2, 0)) else (r48_Check.l0 k l0 0)
theorem r48_Check.mono_l : ∀ k, (∀ y0 y1, LeO (r48_Check.l0 k y0 y1) (r48_Check.l0 (k + 1) y0 y1)) ∧ (∀ y0 y1 y2, LeO (r48_Check.l1 k y0 y1 y2) (r48_Check.l1 (k + 1) y0 y1 y2))
 | 0 => ⟨fun _ _ r h => by simp [r48_Check.l0] at h, fun _ _ _ r h => by simp [r48_Check.l1] at h⟩
 | k + 1 => by
  obtain ⟨ih0, ih1⟩ := r48_Check.mono_l k
  refine ⟨?_, ?_⟩
  ·
   intro y0 y1
   unfold r48_Check.l0
   repeat' first
   | (with_reducible first | exact ih0 _ _ | exact ih1 _ _ _ | exact r48_Name.mono _ _ | exact LeO.refl _ | exact LeO.none _ | refine LeO.ite ?_ ?_ | refine LeO.bind ?_ (fun _ => ?_))
   | exact LeO.none _
   | refine LeO.ite ?_ ?_
   | refine LeO.bind ?_ (fun _ => ?_)
  ·
   intro y0 y1 y2
   unfold r48_Check.l1
   repeat' first
   | (with_reducible first | exact ih0 _ _ | exact ih1 _ _ _ | exact r48_Name.mono _ _ | exact LeO.refl _ | exact LeO.none _ | refine LeO.ite ?_ ?_ | refine LeO.bind ?_ (fun _ => ?_))
   | exact LeO.none _
   | refine LeO.ite ?_ ?_
   | refine LeO.bind ?_ (fun _ => ?_)
theorem r48_Check.mono : ∀ a0 k, LeO (r48_Check.f k a0) (r48_Check.f (k + 1) a0) := by
 intro a0 k
 obtain ⟨ih0, ih1⟩ := r48_Check.mono_l k
 unfold r48_Check.f
 repeat' first
   | (with_reducible first | exact ih0 _ _ | exact ih1 _ _ _ | exact r48_Name.mono _ _ | exact LeO.refl _ | exact LeO.none _ | refine LeO.ite ?_ ?_ | refine LeO.bind ?_ (fun _ => ?_))
   | exact LeO.none _
   | refine LeO.ite ?_ ?_
   | refine LeO.bind ?_ (fun _ => ?_)



/-! ### r48_Follows: function 74 -/
mutual
def r48_Follows.l0 : Nat → List (List ByteArray) → ByteArray → ByteArray → Int → Int → Option (Int)
 | 0, _, _, _, _, _ => none
 | k + 1, x0, x1, x2, x7, x8 => if x8 < (x0.length : Int) then (r48_Follows.l1 k x0 x1 x2 x7 x8 1) else (some x7)
def r48_Follows.l1 : Nat → List (List ByteArray) → ByteArray → ByteArray → Int → Int → Int → Option (Int)
 | 0, _, _, _, _, _, _ => none
 | k + 1, x0, x1, x2, x7, x8, x9 => if 0 ≤ x8 then (if x8 < (x0.length : Int) then (if x9 < ((rd_L1 x0 x8).length : Int) then (if 0 ≤ (wrap64 (x9 - 1)) then (if (wrap64 (x9 - 1)) < ((rd_L1 x0 x8).length : Int) then (if (rdOf ByteArray.empty (rd_L1 x0 x8) (wrap64 (x9 - 1))).toList = x1.toList then (if 0 ≤ x9 then (if (rdOf ByteArray.empty (rd_L1 x0 x8) x9).toList = x2.toList then (r48_Follows.l1 k x0 x1 x2 (wrap64 (x7 + 1)) x8 (wrap64 (x9 + 1))) else (r48_Follows.l1 k x0 x1 x2 x7 x8 (wrap64 (x9 + 1)))) else (none)) else (r48_Follows.l1 k x0 x1 x2 x7 x8 (wrap64 (x9 + 1)))) else (none)) else (none)) else (r48_Follows.l0 k x0 x1 x2 x7 (wrap64 (x8 + 1)))) else (none)) else (none)
end
def r48_Follows.f (k : Nat) (l0 : List (List ByteArray)) (a1 : ByteArray) (a2 : ByteArray) : Option (Int) := r48_Follows.l0 k l0 a1 a2 0 0
theorem r48_Follows.mono_l : ∀ k, (∀ y0 y1 y2 y3 y4, LeO (r48_Follows.l0 k y0 y1 y2 y3 y4) (r48_Follows.l0 (k + 1) y0 y1 y2 y3 y4)) ∧ (∀ y0 y1 y2 y3 y4 y5, LeO (r48_Follows.l1 k y0 y1 y2 y3 y4 y5) (r48_Follows.l1 (k + 1) y0 y1 y2 y3 y4 y5))
 | 0 => ⟨fun _ _ _ _ _ r h => by simp [r48_Follows.l0] at h, fun _ _ _ _ _ _ r h => by simp [r48_Follows.l1] at h⟩
 | k + 1 => by
  obtain ⟨ih0, ih1⟩ := r48_Follows.mono_l k
  refine ⟨?_, ?_⟩
  ·
   intro y0 y1 y2 y3 y4
   unfold r48_Follows.l0
   repeat' first
   | (with_reducible first | exact ih0 _ _ _ _ _ | exact ih1 _ _ _ _ _ _ | exact LeO.refl _ | exact LeO.none _ | refine LeO.ite ?_ ?_ | refine LeO.bind ?_ (fun _ => ?_))
   | exact LeO.none _
   | refine LeO.ite ?_ ?_
   | refine LeO.bind ?_ (fun _ => ?_)
  ·
   intro y0 y1 y2 y3 y4 y5
   unfold r48_Follows.l1
   repeat' first
   | (with_reducible first | exact ih0 _ _ _ _ _ | exact ih1 _ _ _ _ _ _ | exact LeO.refl _ | exact LeO.none _ | refine LeO.ite ?_ ?_ | refine LeO.bind ?_ (fun _ => ?_))
   | exact LeO.none _
   | refine LeO.ite ?_ ?_
   | refine LeO.bind ?_ (fun _ => ?_)
theorem r48_Follows.mono : ∀ a0 a1 a2 k, LeO (r48_Follows.f k a0 a1 a2) (r48_Follows.f (k + 1) a0 a1 a2) := by
 intro a0 a1 a2 k
 obtain ⟨ih0, ih1⟩ := r48_Follows.mono_l k
 unfold r48_Follows.f
 repeat' first
   | (with_reducible first | exact ih0 _ _ _ _ _ | exact ih1 _ _ _ _ _ _ | exact LeO.refl _ | exact LeO.none _ | refine LeO.ite ?_ ?_ | refine LeO.bind ?_ (fun _ => ?_))
   | exact LeO.none _
   | refine LeO.ite ?_ ?_
   | refine LeO.bind ?_ (fun _ => ?_)



section
-- STUBBED 66
/-! ### r48_Relation: function 66: by hand -/

def rrelOf (x y : Int) : Int := if x > 0 then (if y > 0 then 3 else 1) else (if y > 0 then 2 else 0)
def r48_Relation.f (k : Nat) (l0 : List (List ByteArray)) (a1 : ByteArray) (a2 : ByteArray) : Option (Int) := (r48_Follows.f k l0 a1 a2).bind fun t107 => ((r48_Follows.f k l0 a2 a1).bind fun t108 => some (rrelOf t107 t108))
theorem r48_Relation.mono (a0 : List (List ByteArray)) (a1 a2 : ByteArray) (k : Nat) : LeO (r48_Relation.f k a0 a1 a2) (r48_Relation.f (k + 1) a0 a1 a2) :=
 LeO.bind (r48_Follows.mono _ _ _ _) fun _ => LeO.bind (r48_Follows.mono _ _ _ _) fun _ => LeO.refl _

end



/-! ### r49_Footprint: function 49 -/
mutual
def r49_Footprint.l0 : Nat → List (List ByteArray) → List ByteArray → List (List Int) → Int → Option ((List (List Int)) × Int)
 | 0, _, _, _, _ => none
 | k + 1, x0, x5, x6, x7 => if x7 < (x5.length : Int) then (r49_Footprint.l1 k x0 x5 x6 x7 ([] : List Int) 0) else (some (x6, 0))
def r49_Footprint.l1 : Nat → List (List ByteArray) → List ByteArray → List (List Int) → Int → List Int → Int → Option ((List (List Int)) × Int)
 | 0, _, _, _, _, _, _ => none
 | k + 1, x0, x5, x6, x7, x8, x9 => if x9 < (x5.length : Int) then (if 0 ≤ x7 then (if x7 < (x5.length : Int) then (if 0 ≤ x9 then ((r48_Relation.f k x0 (rdOf ByteArray.empty x5 x7) (rdOf ByteArray.empty x5 x9)).bind fun t287 => (if x8.length < 17592186044416 then (r49_Footprint.l1 k x0 x5 x6 x7 (x8 ++ [t287]) (wrap64 (x9 + 1))) else (none))) else (none)) else (none)) else (none)) else (if x6.length < 5864062014805 then (r49_Footprint.l0 k x0 x5 (x6 ++ [x8]) (wrap64 (x7 + 1))) else (none))
end
def r49_Footprint.f (k : Nat) (l0 : List (List ByteArray)) : Option ((List (List Int)) × Int) := (r48_Check.f k l0).bind fun bt279 => (if bt279.1 = 0 then ((r48_Activities.f k l0).bind fun t282 => (if (t282.length : Int) = 0 then (some (([] : List (List Int)), 19)) else (if (t282.length : Int) > 12 then (some (([] : List (List Int)), 2)) else (r49_Footprint.l0 k l0 t282 ([] : List (List Int)) 0)))) else (some (([] : List (List Int)), bt279.1)))
theorem r49_Footprint.mono_l : ∀ k, (∀ y0 y1 y2 y3, LeO (r49_Footprint.l0 k y0 y1 y2 y3) (r49_Footprint.l0 (k + 1) y0 y1 y2 y3)) ∧ (∀ y0 y1 y2 y3 y4 y5, LeO (r49_Footprint.l1 k y0 y1 y2 y3 y4 y5) (r49_Footprint.l1 (k + 1) y0 y1 y2 y3 y4 y5))
 | 0 => ⟨fun _ _ _ _ r h => by simp [r49_Footprint.l0] at h, fun _ _ _ _ _ _ r h => by simp [r49_Footprint.l1] at h⟩
 | k + 1 => by
  obtain ⟨ih0, ih1⟩ := r49_Footprint.mono_l k
  refine ⟨?_, ?_⟩
  ·
   intro y0 y1 y2 y3
   unfold r49_Footprint.l0
   repeat' first
   | (with_reducible first | exact ih0 _ _ _ _ | exact ih1 _ _ _ _ _ _ | exact r48_Activities.mono _ _ | exact r48_Check.mono _ _ | exact r48_Relation.mono _ _ _ _ | exact LeO.refl _ | exact LeO.none _ | refine LeO.ite ?_ ?_ | refine LeO.bind ?_ (fun _ => ?_))
   | exact LeO.none _
   | refine LeO.ite ?_ ?_
   | refine LeO.bind ?_ (fun _ => ?_)
  ·
   intro y0 y1 y2 y3 y4 y5
   unfold r49_Footprint.l1
   repeat' first
   | (with_reducible first | exact ih0 _ _ _ _ | exact ih1 _ _ _ _ _ _ | exact r48_Activities.mono _ _ | exact r48_Check.mono _ _ | exact r48_Relation.mono _ _ _ _ | exact LeO.refl _ | exact LeO.none _ | refine LeO.ite ?_ ?_ | refine LeO.bind ?_ (fun _ => ?_))
   | exact LeO.none _
   | refine LeO.ite ?_ ?_
   | refine LeO.bind ?_ (fun _ => ?_)
theorem r49_Footprint.mono : ∀ a0 k, LeO (r49_Footprint.f k a0) (r49_Footprint.f (k + 1) a0) := by
 intro a0 k
 obtain ⟨ih0, ih1⟩ := r49_Footprint.mono_l k
 unfold r49_Footprint.f
 repeat' first
   | (with_reducible first | exact ih0 _ _ _ _ | exact ih1 _ _ _ _ _ _ | exact r48_Activities.mono _ _ | exact r48_Check.mono _ _ | exact r48_Relation.mono _ _ _ _ | exact LeO.refl _ | exact LeO.none _ | refine LeO.ite ?_ ?_ | refine LeO.bind ?_ (fun _ => ?_))
   | exact LeO.none _
   | refine LeO.ite ?_ ?_
   | refine LeO.bind ?_ (fun _ => ?_)

/-! ### r06_bit: function 53 -/
def r06_bit.l0 : Nat → Int → Int → Int → Option (Int)
 | 0, _, _, _ => none
 | k + 1, x0, x3, x4 => if x4 < x0 then (r06_bit.l0 k x0 (IntKind.u64.wrap (x3 * 2)) (wrap64 (x4 + 1))) else (some x3)
def r06_bit.f (k : Nat) (a0 : Int) : Option (Int) := r06_bit.l0 k a0 1 0
theorem r06_bit.mono_l : ∀ k, (∀ y0 y1 y2, LeO (r06_bit.l0 k y0 y1 y2) (r06_bit.l0 (k + 1) y0 y1 y2))
 | 0 => fun _ _ _ r h => by simp [r06_bit.l0] at h
 | k + 1 => by
  have ih0 := r06_bit.mono_l k
  ·
   intro y0 y1 y2
   unfold r06_bit.l0
   repeat' first
   | (with_reducible first | exact ih0 _ _ _ | exact LeO.refl _ | exact LeO.none _ | refine LeO.ite ?_ ?_ | refine LeO.bind ?_ (fun _ => ?_))
   | exact LeO.none _
   | refine LeO.ite ?_ ?_
   | refine LeO.bind ?_ (fun _ => ?_)
theorem r06_bit.mono : ∀ a0 k, LeO (r06_bit.f k a0) (r06_bit.f (k + 1) a0) := by
 intro a0 k
 have ih0 := r06_bit.mono_l k
 unfold r06_bit.f
 repeat' first
   | (with_reducible first | exact ih0 _ _ _ | exact LeO.refl _ | exact LeO.none _ | refine LeO.ite ?_ ?_ | refine LeO.bind ?_ (fun _ => ?_))
   | exact LeO.none _
   | refine LeO.ite ?_ ?_
   | refine LeO.bind ?_ (fun _ => ?_)

/-! ### r06_All: function 50 -/
def r06_All.l0 : Nat → Int → Int → Int → Option (Int)
 | 0, _, _, _ => none
 | k + 1, x0, x3, x4 => if x4 < 64 then (if x4 < x0 then ((r06_bit.f k x4).bind fun t294 => (r06_All.l0 k x0 (IntKind.u64.wrap (x3 + t294)) (wrap64 (x4 + 1)))) else (some x3)) else (some x3)
def r06_All.f (k : Nat) (a0 : Int) : Option (Int) := r06_All.l0 k a0 0 0
theorem r06_All.mono_l : ∀ k, (∀ y0 y1 y2, LeO (r06_All.l0 k y0 y1 y2) (r06_All.l0 (k + 1) y0 y1 y2))
 | 0 => fun _ _ _ r h => by simp [r06_All.l0] at h
 | k + 1 => by
  have ih0 := r06_All.mono_l k
  ·
   intro y0 y1 y2
   unfold r06_All.l0
   repeat' first
   | (with_reducible first | exact ih0 _ _ _ | exact r06_bit.mono _ _ | exact LeO.refl _ | exact LeO.none _ | refine LeO.ite ?_ ?_ | refine LeO.bind ?_ (fun _ => ?_))
   | exact LeO.none _
   | refine LeO.ite ?_ ?_
   | refine LeO.bind ?_ (fun _ => ?_)
theorem r06_All.mono : ∀ a0 k, LeO (r06_All.f k a0) (r06_All.f (k + 1) a0) := by
 intro a0 k
 have ih0 := r06_All.mono_l k
 unfold r06_All.f
 repeat' first
   | (with_reducible first | exact ih0 _ _ _ | exact r06_bit.mono _ _ | exact LeO.refl _ | exact LeO.none _ | refine LeO.ite ?_ ?_ | refine LeO.bind ?_ (fun _ => ?_))
   | exact LeO.none _
   | refine LeO.ite ?_ ?_
   | refine LeO.bind ?_ (fun _ => ?_)

/-! ### r06_Has: function 34 -/
def r06_Has.f (k : Nat) (a0 : Int) (a1 : Int) : Option (Bool) := if a1 ≥ 0 then (if a1 < 64 then ((r06_bit.f k a1).bind fun t295 => (if t295 = 0 then (none) else (some ((Int.tmod (IntKind.u64.wrap (Int.tdiv a0 t295)) 2) == 1)))) else (some false)) else (some false)
theorem r06_Has.mono : ∀ a0 a1 k, LeO (r06_Has.f k a0 a1) (r06_Has.f (k + 1) a0 a1) := by
 intro a0 a1 k
 unfold r06_Has.f
 repeat' first
   | (with_reducible first | exact r06_bit.mono _ _ | exact LeO.refl _ | exact LeO.none _ | refine LeO.ite ?_ ?_ | refine LeO.bind ?_ (fun _ => ?_))
   | exact LeO.none _
   | refine LeO.ite ?_ ?_
   | refine LeO.bind ?_ (fun _ => ?_)








attribute [local go_sem high] eqA62

/-! ### r09_SameArcs: function 35 -/
def r09_SameArcs.l0 : Nat → List (S62) → List (S62) → Int → Option (Bool)
 | 0, _, _, _ => none
 | k + 1, x0, x1, x5 => if x5 < (x0.length : Int) then (if 0 ≤ x5 then (if x5 < (x1.length : Int) then (if (!(((rd_T62 x0 x5).f0) == ((rd_T62 x1 x5).f0)) || (!(((rd_T62 x0 x5).f1) == ((rd_T62 x1 x5).f1)))) = true then (some false) else (r09_SameArcs.l0 k x0 x1 (wrap64 (x5 + 1)))) else (none)) else (none)) else (some true)
def r09_SameArcs.f (k : Nat) (l0 : List (S62)) (l1 : List (S62)) : Option (Bool) := if (l0.length : Int) = (l1.length : Int) then (r09_SameArcs.l0 k l0 l1 0) else (some false)
theorem r09_SameArcs.mono_l : ∀ k, (∀ y0 y1 y2, LeO (r09_SameArcs.l0 k y0 y1 y2) (r09_SameArcs.l0 (k + 1) y0 y1 y2))
 | 0 => fun _ _ _ r h => by simp [r09_SameArcs.l0] at h
 | k + 1 => by
  have ih0 := r09_SameArcs.mono_l k
  ·
   intro y0 y1 y2
   unfold r09_SameArcs.l0
   repeat' first
   | (with_reducible first | exact ih0 _ _ _ | exact LeO.refl _ | exact LeO.none _ | refine LeO.ite ?_ ?_ | refine LeO.bind ?_ (fun _ => ?_))
   | exact LeO.none _
   | refine LeO.ite ?_ ?_
   | refine LeO.bind ?_ (fun _ => ?_)
theorem r09_SameArcs.mono : ∀ a0 a1 k, LeO (r09_SameArcs.f k a0 a1) (r09_SameArcs.f (k + 1) a0 a1) := by
 intro a0 a1 k
 have ih0 := r09_SameArcs.mono_l k
 unfold r09_SameArcs.f
 repeat' first
   | (with_reducible first | exact ih0 _ _ _ | exact LeO.refl _ | exact LeO.none _ | refine LeO.ite ?_ ?_ | refine LeO.bind ?_ (fun _ => ?_))
   | exact LeO.none _
   | refine LeO.ite ?_ ?_
   | refine LeO.bind ?_ (fun _ => ?_)
set_option maxHeartbeats 8000000 in
set_option maxRecDepth 100000 in
theorem r09_SameArcs.calls (k : Nat) (A0 : Option Addr) (c0 : Nat) (l0 : List (S62)) (A1 : Option Addr) (c1 : Nat) (l1 : List (S62)) (r : Bool) (w : World) (hr0 : Kd.C k62 w A0 l0.length l0) (hc0 : l0.length ≤ c0) (hr1 : Kd.C k62 w A1 l1.length l1) (hc1 : l1.length ≤ c1) (h : r09_SameArcs.f k l0 l1 = some r) :
  Calls Tryd.prog 35 #[.slice A0 l0.length c0, .slice A1 l1.length c1] w fun e w' => e = .returned (.bool r) ∧ Drawn0 w w' := by
 have hu62 := Tryd.underlying62; have hu3 := Tryd.underlying3; have HR0 := aM hr0; have HC0 := aM hc0; clear hr0 hc0; have HR1 := aM hr1; have HC1 := aM hc1; clear hr1 hc1; have H : (if (l0.length : Int) = (l1.length : Int) then (r09_SameArcs.l0 k l0 l1 0) else (some false)) = some r := h; clear h
 by_cases c3 : (l0.length : Int) = (l1.length : Int)
 ·
  rw [if_pos c3] at H
  have c3b0 : ((l0.length : Int) == (l1.length : Int)) = true := beq_iff_eq.mpr c3; have c3b1 : ((l0.length : Int) != (l1.length : Int)) = false := bne_eq_false_iff_eq.mpr c3
  have c3b2 : (l0.length == l1.length) = true := by first | simpa using c3 | (simp at c3 ⊢; omega)
  clear c3
  have H' := aM H
  clear H
  go_enter Tryd.func35, Tryd.ntmps35
  go_wp2
  repeat (go_quiet (fail); try go_wp2)
  go_loopg [5] k (fun kq v5 w' => ∃ (x5_1 : Int), v5 = .int .i64 x5_1 ∧ Aside0 (r09_SameArcs.l0 kq l0 l1 x5_1 = some r) ∧ Aside0 (kq ≤ k) ∧ Drawn0 w w')
  case atStart => exact ⟨(0), eT, H', ⟨Nat.le_refl _⟩, by repeat (first | exact Drawn0.refl _ | apply Drawn0.step)⟩
  case round =>
   clear H'
   obtain ⟨x5_1, rfl, HA, HK1, ⟨m1, rfl⟩⟩ := hrel
   cases gk with
   | zero => exact absurd HA.out (by simp [r09_SameArcs.l0])
   | succ k1 =>
    have H := HA.out; clear HA
    simp only [r09_SameArcs.l0] at H
    by_cases c4 : x5_1 < (l0.length : Int)
    ·
     rw [if_pos c4] at H
     have c4b0 : decide (x5_1 < (l0.length : Int)) = true := decide_eq_true c4; clear c4
     by_cases c5 : 0 ≤ x5_1
     ·
      rw [if_pos c5] at H
      have c5b0 : decide (0 ≤ x5_1) = true := decide_eq_true c5; clear c5
      by_cases c6 : x5_1 < (l1.length : Int)
      ·
       rw [if_pos c6] at H
       have c6b0 : decide (x5_1 < (l1.length : Int)) = true := decide_eq_true c6; clear c6
       by_cases c7 : (!(((rd_T62 l0 x5_1).f0) == ((rd_T62 l1 x5_1).f0)) || (!(((rd_T62 l0 x5_1).f1) == ((rd_T62 l1 x5_1).f1)))) = true
       ·
        rw [if_pos c7] at H
        have c7b0 : (!(((rd_T62 l0 x5_1).f0) == ((rd_T62 l1 x5_1).f0)) || (!(((rd_T62 l0 x5_1).f1) == ((rd_T62 l1 x5_1).f1)))) = true := c7; clear c7
        obtain rfl := Option.some.inj H
        have p388 : 0 ≤ (x5_1 : Int) := dT; have q388 : x5_1 < (l0.length : Int) := dT; obtain ⟨ad388, e388, hx388_0, hx388_1⟩ := at_T62 HR0.out x5_1 p388 q388; cases e388; replace p388 := eq_true p388; replace q388 := eq_true q388; have p389 : 0 ≤ (x5_1 : Int) := dT; have q389 : x5_1 < (l1.length : Int) := dT; obtain ⟨ad389, e389, hx389_0, hx389_1⟩ := at_T62 HR1.out x5_1 p389 q389; cases e389; replace p389 := eq_true p389; replace q389 := eq_true q389
        go_wp2
        repeat (go_quiet (fail); try go_wp2)
        go_ret
        exact ⟨by first | rfl | (simp; done) | (simp [*]; done), by repeat (first | exact Drawn0.refl _ | apply Drawn0.step)⟩
       ·
        rw [if_neg c7] at H
        have c7b0 : (!(((rd_T62 l0 x5_1).f0) == ((rd_T62 l1 x5_1).f0)) || (!(((rd_T62 l0 x5_1).f1) == ((rd_T62 l1 x5_1).f1)))) = false := by simpa using c7
        clear c7
        have H' := aM H
        clear H; have p388 : 0 ≤ (x5_1 : Int) := dT; have q388 : x5_1 < (l0.length : Int) := dT; obtain ⟨ad388, e388, hx388_0, hx388_1⟩ := at_T62 HR0.out x5_1 p388 q388; cases e388; replace p388 := eq_true p388; replace q388 := eq_true q388; have p389 : 0 ≤ (x5_1 : Int) := dT; have q389 : x5_1 < (l1.length : Int) := dT; obtain ⟨ad389, e389, hx389_0, hx389_1⟩ := at_T62 HR1.out x5_1 p389 q389; cases e389; replace p389 := eq_true p389; replace q389 := eq_true q389
        go_wp2
        repeat (go_quiet (fail); try go_wp2)
        go_roundg k1
        case measure => have := HK1.out; omega
        case rel => exact ⟨(wrap64 (x5_1 + 1)), eT, H', ⟨by have := HK1.out; omega⟩, by repeat (first | exact Drawn0.refl _ | apply Drawn0.step)⟩
      ·
       rw [if_neg c6] at H
       exact absurd H (by simp)
     ·
      rw [if_neg c5] at H
      exact absurd H (by simp)
    ·
     rw [if_neg c4] at H
     have c4b0 : decide (x5_1 < (l0.length : Int)) = false := decide_eq_false c4; clear c4
     obtain rfl := Option.some.inj H
     go_wp2
     repeat (go_quiet (fail); try go_wp2)
     go_ret
     exact ⟨by first | rfl | (simp; done) | (simp [*]; done), by repeat (first | exact Drawn0.refl _ | apply Drawn0.step)⟩
 ·
  rw [if_neg c3] at H
  have c3b0 : ((l0.length : Int) == (l1.length : Int)) = false := beq_eq_false_iff_ne.mpr c3; have c3b1 : ((l0.length : Int) != (l1.length : Int)) = true := bne_iff_ne.mpr c3
  have c3b2 : (l0.length == l1.length) = false := by first | simpa using c3 | (simp at c3 ⊢; omega)
  obtain rfl := Option.some.inj H
  go_enter Tryd.func35, Tryd.ntmps35
  go_wp2
  repeat (go_quiet (fail); try go_wp2)
  go_ret
  exact ⟨by first | rfl | (simp; done) | (simp [*]; done), by repeat (first | exact Drawn0.refl _ | apply Drawn0.step)⟩



attribute [local go_sem high] eqA59

/-! ### r09_Equal: function 11 -/
mutual
def r09_Equal.j0 : Nat → Bool → ByteArray → List (S59) → List (S41) → ByteArray → List (S59) → List (S41) → Option (Bool)
 | 0, _, _, _, _, _, _, _ => none
 | k + 1, x31, x391000, x391001, x391002, x392000, x392001, x392002 => if x31 = true then (none) else (r09_Equal.l0 k 0 x391000 x391001 x391002 x392000 x392001 x392002)
def r09_Equal.l0 : Nat → Int → ByteArray → List (S59) → List (S41) → ByteArray → List (S59) → List (S41) → Option (Bool)
 | 0, _, _, _, _, _, _, _ => none
 | k + 1, x5, x391000, x391001, x391002, x392000, x392001, x392002 => if x5 < (x391001.length : Int) then (if 0 ≤ x5 then (if x5 < (x392001.length : Int) then (if (!((((rd_T59 x391001 x5).f0).toList) == (((rd_T59 x392001 x5).f0).toList)) || (!(((rd_T59 x391001 x5).f1) == ((rd_T59 x392001 x5).f1)) || (!(((rd_T59 x391001 x5).f2) == ((rd_T59 x392001 x5).f2))))) = true then (none) else (r09_Equal.l0 k (wrap64 (x5 + 1)) x391000 x391001 x391002 x392000 x392001 x392002)) else (none)) else (none)) else (r09_Equal.l1 k 0 x391000 x391001 x391002 x392000 x392001 x392002)
def r09_Equal.l1 : Nat → Int → ByteArray → List (S59) → List (S41) → ByteArray → List (S59) → List (S41) → Option (Bool)
 | 0, _, _, _, _, _, _, _ => none
 | k + 1, x6, x391000, x391001, x391002, x392000, x392001, x392002 => if x6 < (x391002.length : Int) then (if 0 ≤ x6 then (if x6 < (x392002.length : Int) then (if ((rd_T41 x391002 x6).f0).toList = ((rd_T41 x392002 x6).f0).toList then (if ((rd_T41 x391002 x6).f4) = ((rd_T41 x392002 x6).f4) then ((r09_SameArcs.f k ((rd_T41 x391002 x6).f1) ((rd_T41 x392002 x6).f1)).bind fun t398 => (if t398 = true then ((r09_SameArcs.f k ((rd_T41 x391002 x6).f2) ((rd_T41 x392002 x6).f2)).bind fun t399 => (if t399 = true then ((r09_SameArcs.f k ((rd_T41 x391002 x6).f3) ((rd_T41 x392002 x6).f3)).bind fun t400 => (if t400 = true then (r09_Equal.l1 k (wrap64 (x6 + 1)) x391000 x391001 x391002 x392000 x392001 x392002) else (none))) else (none))) else (none))) else (none)) else (none)) else (none)) else (none)) else (some true)
end
def r09_Equal.f (k : Nat) (a0_0 : ByteArray) (l0_1 : List (S59)) (l0_2 : List (S41)) (a1_0 : ByteArray) (l1_1 : List (S59)) (l1_2 : List (S41)) : Option (Bool) := if a0_0.toList = a1_0.toList then (if (l0_1.length : Int) = (l1_1.length : Int) then (r09_Equal.j0 k ((l0_2.length : Int) != (l1_2.length : Int)) a0_0 l0_1 l0_2 a1_0 l1_1 l1_2) else (r09_Equal.j0 k true a0_0 l0_1 l0_2 a1_0 l1_1 l1_2)) else (r09_Equal.j0 k true a0_0 l0_1 l0_2 a1_0 l1_1 l1_2)
theorem r09_Equal.mono_l : ∀ k, (∀ y0 y1 y2 y3 y4 y5 y6, LeO (r09_Equal.j0 k y0 y1 y2 y3 y4 y5 y6) (r09_Equal.j0 (k + 1) y0 y1 y2 y3 y4 y5 y6)) ∧ (∀ y0 y1 y2 y3 y4 y5 y6, LeO (r09_Equal.l0 k y0 y1 y2 y3 y4 y5 y6) (r09_Equal.l0 (k + 1) y0 y1 y2 y3 y4 y5 y6)) ∧ (∀ y0 y1 y2 y3 y4 y5 y6, LeO (r09_Equal.l1 k y0 y1 y2 y3 y4 y5 y6) (r09_Equal.l1 (k + 1) y0 y1 y2 y3 y4 y5 y6))
 | 0 => ⟨fun _ _ _ _ _ _ _ r h => by simp [r09_Equal.j0] at h, fun _ _ _ _ _ _ _ r h => by simp [r09_Equal.l0] at h, fun _ _ _ _ _ _ _ r h => by simp [r09_Equal.l1] at h⟩
 | k + 1 => by
  obtain ⟨ih0, ih1, ih2⟩ := r09_Equal.mono_l k
  refine ⟨?_, ?_, ?_⟩
  ·
   intro y0 y1 y2 y3 y4 y5 y6
   unfold r09_Equal.j0
   repeat' first
   | (with_reducible first | exact ih0 _ _ _ _ _ _ _ | exact ih1 _ _ _ _ _ _ _ | exact ih2 _ _ _ _ _ _ _ | exact r09_SameArcs.mono _ _ _ | exact LeO.refl _ | exact LeO.none _ | refine LeO.ite ?_ ?_ | refine LeO.bind ?_ (fun _ => ?_))
   | exact LeO.none _
   | refine LeO.ite ?_ ?_
   | refine LeO.bind ?_ (fun _ => ?_)
  ·
   intro y0 y1 y2 y3 y4 y5 y6
   unfold r09_Equal.l0
   repeat' first
   | (with_reducible first | exact ih0 _ _ _ _ _ _ _ | exact ih1 _ _ _ _ _ _ _ | exact ih2 _ _ _ _ _ _ _ | exact r09_SameArcs.mono _ _ _ | exact LeO.refl _ | exact LeO.none _ | refine LeO.ite ?_ ?_ | refine LeO.bind ?_ (fun _ => ?_))
   | exact LeO.none _
   | refine LeO.ite ?_ ?_
   | refine LeO.bind ?_ (fun _ => ?_)
  ·
   intro y0 y1 y2 y3 y4 y5 y6
   unfold r09_Equal.l1
   repeat' first
   | (with_reducible first | exact ih0 _ _ _ _ _ _ _ | exact ih1 _ _ _ _ _ _ _ | exact ih2 _ _ _ _ _ _ _ | exact r09_SameArcs.mono _ _ _ | exact LeO.refl _ | exact LeO.none _ | refine LeO.ite ?_ ?_ | refine LeO.bind ?_ (fun _ => ?_))
   | exact LeO.none _
   | refine LeO.ite ?_ ?_
   | refine LeO.bind ?_ (fun _ => ?_)
theorem r09_Equal.mono : ∀ a0 a1 a2 a3 a4 a5 k, LeO (r09_Equal.f k a0 a1 a2 a3 a4 a5) (r09_Equal.f (k + 1) a0 a1 a2 a3 a4 a5) := by
 intro a0 a1 a2 a3 a4 a5 k
 obtain ⟨ih0, ih1, ih2⟩ := r09_Equal.mono_l k
 unfold r09_Equal.f
 repeat' first
   | (with_reducible first | exact ih0 _ _ _ _ _ _ _ | exact ih1 _ _ _ _ _ _ _ | exact ih2 _ _ _ _ _ _ _ | exact r09_SameArcs.mono _ _ _ | exact LeO.refl _ | exact LeO.none _ | refine LeO.ite ?_ ?_ | refine LeO.bind ?_ (fun _ => ?_))
   | exact LeO.none _
   | refine LeO.ite ?_ ?_
   | refine LeO.bind ?_ (fun _ => ?_)
def r09_Equal.T6 : Bool × List (List Nat × List Nat) := (true, [([], []), ([0], [0]), ([], []), ([1, 2], [1, 2]), ([3], [3]), ([], []), ([5], [5]), ([], []), ([6, 7], [6, 7]), ([8], [8]), ([4, 9], [4, 9])])
def r09_Equal.B6 : List Nat := [0, 1, 0, 7, 15, 0, 32, 0, 224, 480, 1023]
theorem r09_Equal.tab6 : rtab .any (opsOf Tryd.f11 6) = r09_Equal.T6 := by kernel_rfl
theorem r09_Equal.bits6 : waitsOk r09_Equal.T6.2 r09_Equal.B6 = true := by kernel_rfl
def r09_Equal.T11 : Bool × List (List Nat × List Nat) := (true, [([], []), ([0], [0]), ([], []), ([1, 2], [1, 2]), ([3], [3]), ([], []), ([5], [5]), ([], []), ([6, 7], [6, 7]), ([8], [8]), ([], []), ([], []), ([10, 4, 0, 1, 2, 3, 4, 10, 11], [4, 10]), ([11, 9, 12, 0, 1, 2, 3, 4, 5, 6, 7, 8, 9, 10, 11, 12], [9, 11])])
def r09_Equal.B11 : List Nat := [0, 1, 0, 7, 15, 0, 32, 0, 224, 480, 0, 0, 3103, 8191]
theorem r09_Equal.tab11 : rtab .any (opsOf Tryd.f11 11) = r09_Equal.T11 := by kernel_rfl
theorem r09_Equal.bits11 : waitsOk r09_Equal.T11.2 r09_Equal.B11 = true := by kernel_rfl
set_option maxHeartbeats 8000000 in
set_option maxRecDepth 100000 in
theorem r09_Equal.calls (k : Nat) (a0_0 : ByteArray) (A0_1 : Option Addr) (c0_1 : Nat) (l0_1 : List (S59)) (A0_2 : Option Addr) (c0_2 : Nat) (l0_2 : List (S41)) (a1_0 : ByteArray) (A1_1 : Option Addr) (c1_1 : Nat) (l1_1 : List (S59)) (A1_2 : Option Addr) (c1_2 : Nat) (l1_2 : List (S41)) (r : Bool) (w : World) (hr0_1 : Kd.C k59 w A0_1 l0_1.length l0_1) (hc0_1 : l0_1.length ≤ c0_1) (hr0_2 : Kd.C k41 w A0_2 l0_2.length l0_2) (hc0_2 : l0_2.length ≤ c0_2) (hr1_1 : Kd.C k59 w A1_1 l1_1.length l1_1) (hc1_1 : l1_1.length ≤ c1_1) (hr1_2 : Kd.C k41 w A1_2 l1_2.length l1_2) (hc1_2 : l1_2.length ≤ c1_2) (h : r09_Equal.f k a0_0 l0_1 l0_2 a1_0 l1_1 l1_2 = some r) :
  Calls Tryd.prog 11 #[.agg #[.string a0_0, .slice A0_1 l0_1.length c0_1, .slice A0_2 l0_2.length c0_2], .agg #[.string a1_0, .slice A1_1 l1_1.length c1_1, .slice A1_2 l1_2.length c1_2]] w fun e w' => e = .returned (.bool r) ∧ Below w.heap.size w w' := by
 have hu28 := Tryd.underlying28; have hu9 := Tryd.underlying9; have hu25 := Tryd.underlying25; have hu26 := Tryd.underlying26; have hu59 := Tryd.underlying59; have hu3 := Tryd.underlying3; have hu9 := Tryd.underlying9; have hu41 := Tryd.underlying41; have hu3 := Tryd.underlying3; have hu9 := Tryd.underlying9; have hu39 := Tryd.underlying39; have HR0_1 := aM hr0_1; have HC0_1 := aM hc0_1; clear hr0_1 hc0_1; have HR0_2 := aM hr0_2; have HC0_2 := aM hc0_2; clear hr0_2 hc0_2; have HR1_1 := aM hr1_1; have HC1_1 := aM hc1_1; clear hr1_1 hc1_1; have HR1_2 := aM hr1_2; have HC1_2 := aM hc1_2; clear hr1_2 hc1_2; have HB := aM (Below.refl w.heap.size w); have H : (if a0_0.toList = a1_0.toList then (if (l0_1.length : Int) = (l1_1.length : Int) then (r09_Equal.j0 k ((l0_2.length : Int) != (l1_2.length : Int)) a0_0 l0_1 l0_2 a1_0 l1_1 l1_2) else (r09_Equal.j0 k true a0_0 l0_1 l0_2 a1_0 l1_1 l1_2)) else (r09_Equal.j0 k true a0_0 l0_1 l0_2 a1_0 l1_1 l1_2)) = some r := h; clear h; have HC3 := aM H; clear H
 go_enter Tryd.func11, Tryd.ntmps11
 go_upto_region 1 with (first | ((with_reducible refine gate_dst (N := 2) rfl ?_); (try (refine gate_guard (by rfl) ?_; dsimp only)); refine box_event ?hg (N := 2) ?hd (cs := #[.string a0_0, .slice A0_1 l0_1.length c0_1, .slice A0_2 l0_2.length c0_2]) (t := 28) ?hr ?_; (case hd => rfl); (case hg => rfl); (case hr => first | (go_simp; done) | (go_simp; rfl)); intro gb390 hg w4 hbox hb; have n0_ := aM (below_step (bB HB.out) hb); have n1_ := aM (hbox); have n2_ := aM ((by rw [hg]; exact (below_size (bB HB.out)) : w.heap.size ≤ gb390)); have n3_ := aM ((by rw [hg]; exact (below_size (bB HB.out)) : w.heap.size ≤ gb390)); clear HB; have HB := n0_; have BK390 := n1_; have GW390 := n2_; have GE390 := n3_; clear n0_ n1_ n2_ n3_; clear hb hbox hg) | ((with_reducible refine gate_dst (N := 3) rfl ?_); (try (refine gate_guard (by rfl) ?_; dsimp only)); refine box_event ?hg (N := 3) ?hd (cs := #[.string a1_0, .slice A1_1 l1_1.length c1_1, .slice A1_2 l1_2.length c1_2]) (t := 28) ?hr ?_; (case hd => rfl); (case hg => rfl); (case hr => first | (go_simp; done) | (go_simp; rfl)); intro gb391 hg w5 hbox hb; have n0_ := aM (kW BK390.out hb); have n1_ := aM (below_step (bB1 HB.out GE390.out) hb); have n2_ := aM (hbox); have n3_ := aM ((by rw [hg]; exact (below_size (bB1 HB.out GE390.out)) : w.heap.size ≤ gb391)); have n4_ := aM ((by rw [hg]; exact (below_size (bB1 HB.out GE390.out)) : w.heap.size ≤ gb391)); have n5_ := aM ((by rw [hg]; exact Nat.ne_of_lt (kL BK390.out) : gb390 ≠ gb391)); have n6_ := aM ((by rw [hg]; exact Nat.ne_of_gt (kL BK390.out) : gb391 ≠ gb390)); clear BK390; clear HB; have BK390 := n0_; have HB := n1_; have BK391 := n2_; have GW391 := n3_; have GE391 := n4_; have NB390_391 := n5_; have NB391_390 := n6_; clear n0_ n1_ n2_ n3_ n4_ n5_ n6_; clear hb hbox hg))
 (try simp only [Act.put, List.setIfInBounds_toArray, List.set_cons_zero, List.set_cons_succ])
 go_cut [31] (fun v31 wc => ∃ (kq : Nat) (x31_2 : Bool), v31 = .bool x31_2 ∧ Aside0 (r09_Equal.j0 kq x31_2 a0_0 l0_1 l0_2 a1_0 l1_1 l1_2 = some r) ∧ Aside0 (kq ≤ k) ∧ Aside0 (wc.heap[gb390]? = some (.cells #[.string a0_0, (.slice A0_1 l0_1.length c0_1), (.slice A0_2 l0_2.length c0_2)] 28 (0, 0))) ∧ Aside0 (wc.heap[gb391]? = some (.cells #[.string a1_0, (.slice A1_1 l1_1.length c1_1), (.slice A1_2 l1_2.length c1_2)] 28 (0, 0))) ∧ Aside0 (Below w.heap.size w wc))
 case first =>
  have H := HC3.out; clear HC3
  by_cases c6 : a0_0.toList = a1_0.toList
  ·
   rw [if_pos c6] at H
   have c6b0 : (a0_0.toList == a1_0.toList) = true := beq_iff_eq.mpr c6; have c6b1 : (a0_0.toList != a1_0.toList) = false := bne_eq_false_iff_eq.mpr c6; clear c6
   (first | rw [c6b0] | (simp only [i64_w, i32_w]; rw [c6b0]) | skip)
   by_cases c7 : (l0_1.length : Int) = (l1_1.length : Int)
   ·
    rw [if_pos c7] at H
    have c7b0 : ((l0_1.length : Int) == (l1_1.length : Int)) = true := beq_iff_eq.mpr c7; have c7b1 : ((l0_1.length : Int) != (l1_1.length : Int)) = false := bne_eq_false_iff_eq.mpr c7
    have c7b2 : (l0_1.length == l1_1.length) = true := by first | simpa using c7 | (simp at c7 ⊢; omega)
    clear c7
    have H' := aM H
    clear H; have hnb8 := NB390_391.out; have hnc8 := NB391_390.out
    have hcz9_0 : w5.cell? ⟨gb390, 0, none⟩ = some (.string a0_0) := (blk_cell BK390.out 0).trans rfl
    have hcz9_1 : w5.cell? ⟨gb390, 1, none⟩ = some (.slice A0_1 l0_1.length c0_1) := (blk_cell BK390.out 1).trans rfl
    have hcz9_2 : w5.cell? ⟨gb390, 2, none⟩ = some (.slice A0_2 l0_2.length c0_2) := (blk_cell BK390.out 2).trans rfl
    have hfz9_0 := blk_frozen BK390.out 0; have hfz9_1 := blk_frozen BK390.out 1; have hfz9_2 := blk_frozen BK390.out 2
    have hcz10_0 : w5.cell? ⟨gb391, 0, none⟩ = some (.string a1_0) := (blk_cell BK391.out 0).trans rfl
    have hcz10_1 : w5.cell? ⟨gb391, 1, none⟩ = some (.slice A1_1 l1_1.length c1_1) := (blk_cell BK391.out 1).trans rfl
    have hcz10_2 : w5.cell? ⟨gb391, 2, none⟩ = some (.slice A1_2 l1_2.length c1_2) := (blk_cell BK391.out 2).trans rfl
    have hfz10_0 := blk_frozen BK391.out 0; have hfz10_1 := blk_frozen BK391.out 1; have hfz10_2 := blk_frozen BK391.out 2
    go_wp2
    go_meet
    case rel => exact ⟨_, (((l0_2.length : Int) != (l1_2.length : Int))), eT, H', ⟨by first | omega | exact Nat.le_refl _⟩, ⟨kB BK390.out⟩, ⟨kB BK391.out⟩, ⟨bB2 HB.out GE390.out GE391.out⟩⟩
   ·
    rw [if_neg c7] at H
    have c7b0 : ((l0_1.length : Int) == (l1_1.length : Int)) = false := beq_eq_false_iff_ne.mpr c7; have c7b1 : ((l0_1.length : Int) != (l1_1.length : Int)) = true := bne_iff_ne.mpr c7
    have c7b2 : (l0_1.length == l1_1.length) = false := by first | simpa using c7 | (simp at c7 ⊢; omega)
    have H' := aM H
    clear H; have hnb11 := NB390_391.out; have hnc11 := NB391_390.out
    have hcz12_0 : w5.cell? ⟨gb390, 0, none⟩ = some (.string a0_0) := (blk_cell BK390.out 0).trans rfl
    have hcz12_1 : w5.cell? ⟨gb390, 1, none⟩ = some (.slice A0_1 l0_1.length c0_1) := (blk_cell BK390.out 1).trans rfl
    have hcz12_2 : w5.cell? ⟨gb390, 2, none⟩ = some (.slice A0_2 l0_2.length c0_2) := (blk_cell BK390.out 2).trans rfl
    have hfz12_0 := blk_frozen BK390.out 0; have hfz12_1 := blk_frozen BK390.out 1; have hfz12_2 := blk_frozen BK390.out 2
    have hcz13_0 : w5.cell? ⟨gb391, 0, none⟩ = some (.string a1_0) := (blk_cell BK391.out 0).trans rfl
    have hcz13_1 : w5.cell? ⟨gb391, 1, none⟩ = some (.slice A1_1 l1_1.length c1_1) := (blk_cell BK391.out 1).trans rfl
    have hcz13_2 : w5.cell? ⟨gb391, 2, none⟩ = some (.slice A1_2 l1_2.length c1_2) := (blk_cell BK391.out 2).trans rfl
    have hfz13_0 := blk_frozen BK391.out 0; have hfz13_1 := blk_frozen BK391.out 1; have hfz13_2 := blk_frozen BK391.out 2
    go_wp2
    go_meet
    case rel => exact ⟨_, (true), eT, H', ⟨by first | omega | exact Nat.le_refl _⟩, ⟨kB BK390.out⟩, ⟨kB BK391.out⟩, ⟨bB2 HB.out GE390.out GE391.out⟩⟩
  ·
   rw [if_neg c6] at H
   have c6b0 : (a0_0.toList == a1_0.toList) = false := beq_eq_false_iff_ne.mpr c6; have c6b1 : (a0_0.toList != a1_0.toList) = true := bne_iff_ne.mpr c6
   (first | rw [c6b0] | (simp only [i64_w, i32_w]; rw [c6b0]) | skip)
   have H' := aM H
   clear H; have hnb14 := NB390_391.out; have hnc14 := NB391_390.out
   have hcz15_0 : w5.cell? ⟨gb390, 0, none⟩ = some (.string a0_0) := (blk_cell BK390.out 0).trans rfl
   have hcz15_1 : w5.cell? ⟨gb390, 1, none⟩ = some (.slice A0_1 l0_1.length c0_1) := (blk_cell BK390.out 1).trans rfl
   have hcz15_2 : w5.cell? ⟨gb390, 2, none⟩ = some (.slice A0_2 l0_2.length c0_2) := (blk_cell BK390.out 2).trans rfl
   have hfz15_0 := blk_frozen BK390.out 0; have hfz15_1 := blk_frozen BK390.out 1; have hfz15_2 := blk_frozen BK390.out 2
   have hcz16_0 : w5.cell? ⟨gb391, 0, none⟩ = some (.string a1_0) := (blk_cell BK391.out 0).trans rfl
   have hcz16_1 : w5.cell? ⟨gb391, 1, none⟩ = some (.slice A1_1 l1_1.length c1_1) := (blk_cell BK391.out 1).trans rfl
   have hcz16_2 : w5.cell? ⟨gb391, 2, none⟩ = some (.slice A1_2 l1_2.length c1_2) := (blk_cell BK391.out 2).trans rfl
   have hfz16_0 := blk_frozen BK391.out 0; have hfz16_1 := blk_frozen BK391.out 1; have hfz16_2 := blk_frozen BK391.out 2
   go_wp2
   go_meet
   case rel => exact ⟨_, (true), eT, H', ⟨by first | omega | exact Nat.le_refl _⟩, ⟨kB BK390.out⟩, ⟨kB BK391.out⟩, ⟨bB2 HB.out GE390.out GE391.out⟩⟩
 case rest =>
  clear HC3; obtain ⟨kq, x31_2, rfl, HA, HJ2, BK390, BK391, HB⟩ := hcut
  cases kq with
  | zero => exact absurd HA.out (by simp [r09_Equal.j0])
  | succ kj2 =>
   have H := HA.out; clear HA
   simp only [r09_Equal.j0] at H
   by_cases c17 : x31_2 = true
   ·
    subst c17
    have H1 : (none) = some r := by rw [if_pos rfl] at H; exact H
    clear H; have H := H1; clear H1
    exact absurd H (by simp)
   ·
    replace c17 := Bool.eq_false_iff.mpr c17
    subst c17
    have H1 : (r09_Equal.l0 kj2 0 a0_0 l0_1 l0_2 a1_0 l1_1 l1_2) = some r := by rw [if_neg (show ¬ (false = true) by decide)] at H; exact H
    clear H; have H := H1; clear H1
    have H' := aM H
    clear H
    go_wp2
    go_loopg [5] kj2 (fun kq v5 w' => ∃ (x5_2 : Int), v5 = .int .i64 x5_2 ∧ Aside0 (r09_Equal.l0 kq x5_2 a0_0 l0_1 l0_2 a1_0 l1_1 l1_2 = some r) ∧ Aside0 (kq ≤ kj2) ∧ Aside0 (w'.heap[gb390]? = some (.cells #[.string a0_0, (.slice A0_1 l0_1.length c0_1), (.slice A0_2 l0_2.length c0_2)] 28 (0, 0))) ∧ Aside0 (w'.heap[gb391]? = some (.cells #[.string a1_0, (.slice A1_1 l1_1.length c1_1), (.slice A1_2 l1_2.length c1_2)] 28 (0, 0))) ∧ Aside0 (Below w.heap.size w w'))
    case atStart => exact ⟨(0), eT, H', ⟨Nat.le_refl _⟩, ⟨kB BK390.out⟩, ⟨kB BK391.out⟩, ⟨bB2 HB.out GE390.out GE391.out⟩⟩
    case round =>
     clear H'; obtain ⟨x5_2, rfl, HA, HK2, BK390, BK391, HB⟩ := hrel
     cases gk with
     | zero => exact absurd HA.out (by simp [r09_Equal.l0])
     | succ k2 =>
      have H := HA.out; clear HA
      simp only [r09_Equal.l0] at H
      by_cases c18 : x5_2 < (l0_1.length : Int)
      ·
       rw [if_pos c18] at H
       have c18b0 : decide (x5_2 < (l0_1.length : Int)) = true := decide_eq_true c18; clear c18
       by_cases c19 : 0 ≤ x5_2
       ·
        rw [if_pos c19] at H
        have c19b0 : decide (0 ≤ x5_2) = true := decide_eq_true c19; clear c19
        by_cases c20 : x5_2 < (l1_1.length : Int)
        ·
         rw [if_pos c20] at H
         have c20b0 : decide (x5_2 < (l1_1.length : Int)) = true := decide_eq_true c20; clear c20
         by_cases c21 : (!((((rd_T59 l0_1 x5_2).f0).toList) == (((rd_T59 l1_1 x5_2).f0).toList)) || (!(((rd_T59 l0_1 x5_2).f1) == ((rd_T59 l1_1 x5_2).f1)) || (!(((rd_T59 l0_1 x5_2).f2) == ((rd_T59 l1_1 x5_2).f2))))) = true
         ·
          rw [if_pos c21] at H
          exact absurd H (by simp)
         ·
          rw [if_neg c21] at H
          have c21b0 : (!((((rd_T59 l0_1 x5_2).f0).toList) == (((rd_T59 l1_1 x5_2).f0).toList)) || (!(((rd_T59 l0_1 x5_2).f1) == ((rd_T59 l1_1 x5_2).f1)) || (!(((rd_T59 l0_1 x5_2).f2) == ((rd_T59 l1_1 x5_2).f2))))) = false := by simpa using c21
          clear c21
          have H' := aM H
          clear H; have hnb22 := NB390_391.out; have hnc22 := NB391_390.out
          have hcz23_0 : wr.cell? ⟨gb390, 0, none⟩ = some (.string a0_0) := (blk_cell BK390.out 0).trans rfl
          have hcz23_1 : wr.cell? ⟨gb390, 1, none⟩ = some (.slice A0_1 l0_1.length c0_1) := (blk_cell BK390.out 1).trans rfl
          have hcz23_2 : wr.cell? ⟨gb390, 2, none⟩ = some (.slice A0_2 l0_2.length c0_2) := (blk_cell BK390.out 2).trans rfl
          have hfz23_0 := blk_frozen BK390.out 0; have hfz23_1 := blk_frozen BK390.out 1; have hfz23_2 := blk_frozen BK390.out 2
          try go_wp2
          have n0_ := aM (blk_drew BK390.out); have n1_ := aM (blk_drew BK391.out); have n2_ := aM (below_drew1 HB.out); clear BK390; clear BK391; clear HB; have BK390 := n0_; have BK391 := n1_; have HB := n2_; clear n0_ n1_ n2_; have p392 : 0 ≤ (x5_2 : Int) := dT; have q392 : x5_2 < (l0_1.length : Int) := dT; obtain ⟨ad392, e392, hx392_0, hx392_1, hx392_2⟩ := at_T59 HR0_1.out x5_2 p392 q392; have hw392_2 := hx392_2; have hw392_1 := hx392_1; have hw392_0 := hx392_0; cases e392
          try replace hx392_0 := (HB.out.cell (World.block_lt_of_cell? w _ hx392_0)).trans hx392_0
          try replace hx392_1 := (HB.out.cell (World.block_lt_of_cell? w _ hx392_1)).trans hx392_1
          try replace hx392_2 := (HB.out.cell (World.block_lt_of_cell? w _ hx392_2)).trans hx392_2
          replace p392 := eq_true p392; replace q392 := eq_true q392; have p393 : 0 ≤ (x5_2 : Int) := dT; have q393 : x5_2 < (l1_1.length : Int) := dT; obtain ⟨ad393, e393, hx393_0, hx393_1, hx393_2⟩ := at_T59 HR1_1.out x5_2 p393 q393; have hw393_2 := hx393_2; have hw393_1 := hx393_1; have hw393_0 := hx393_0; cases e393
          try replace hx393_0 := (HB.out.cell (World.block_lt_of_cell? w _ hx393_0)).trans hx393_0
          try replace hx393_1 := (HB.out.cell (World.block_lt_of_cell? w _ hx393_1)).trans hx393_1
          try replace hx393_2 := (HB.out.cell (World.block_lt_of_cell? w _ hx393_2)).trans hx393_2
          replace p393 := eq_true p393; replace q393 := eq_true q393
          refine start_ (n := 11) (S := fun w' => w'.cell? ⟨gb390, 0, none⟩ = some (.string a0_0) ∧ w'.cell? ⟨gb390, 1, none⟩ = some (.slice (some ad392) l0_1.length c0_1) ∧ w'.cell? ⟨gb390, 2, none⟩ = some (.slice A0_2 l0_2.length c0_2) ∧ w'.cell? ⟨gb391, 0, none⟩ = some (.string a1_0) ∧ w'.cell? ⟨gb391, 1, none⟩ = some (.slice (some ad393) l1_1.length c1_1) ∧ w'.cell? ⟨gb391, 2, none⟩ = some (.slice A1_2 l1_2.length c1_2) ∧ w'.cell? (ad392.add ((x5_2).toNat * 3)) = some (.string ((rd_T59 l0_1 x5_2).f0)) ∧ w'.cell? ⟨(ad392.add ((x5_2).toNat * 3)).block, (ad392.add ((x5_2).toNat * 3)).off + 1, none⟩ = some (.int .i64 ((rd_T59 l0_1 x5_2).f1)) ∧ w'.cell? ⟨(ad392.add ((x5_2).toNat * 3)).block, (ad392.add ((x5_2).toNat * 3)).off + 2, none⟩ = some (.int .i64 ((rd_T59 l0_1 x5_2).f2)) ∧ w'.cell? (ad393.add ((x5_2).toNat * 3)) = some (.string ((rd_T59 l1_1 x5_2).f0)) ∧ w'.cell? ⟨(ad393.add ((x5_2).toNat * 3)).block, (ad393.add ((x5_2).toNat * 3)).off + 1, none⟩ = some (.int .i64 ((rd_T59 l1_1 x5_2).f1)) ∧ w'.cell? ⟨(ad393.add ((x5_2).toNat * 3)).block, (ad393.add ((x5_2).toNat * 3)).off + 2, none⟩ = some (.int .i64 ((rd_T59 l1_1 x5_2).f2))) (ds := []) #[false, false, false, false, false, false, false, false, false, false, false] (by kernel_rfl) rfl rfl ⟨(blk_cell BK390.out 0).trans rfl, (blk_cell BK390.out 1).trans rfl, (blk_cell BK390.out 2).trans rfl, (blk_cell BK391.out 0).trans rfl, (blk_cell BK391.out 1).trans rfl, (blk_cell BK391.out 2).trans rfl, ((HB.out.cell (World.block_lt_of_cell? w _ hw392_0)).trans hw392_0), ((HB.out.cell (World.block_lt_of_cell? w _ hw392_1)).trans hw392_1), ((HB.out.cell (World.block_lt_of_cell? w _ hw392_2)).trans hw392_2), ((HB.out.cell (World.block_lt_of_cell? w _ hw393_0)).trans hw393_0), ((HB.out.cell (World.block_lt_of_cell? w _ hw393_1)).trans hw393_1), ((HB.out.cell (World.block_lt_of_cell? w _ hw393_2)).trans hw393_2)⟩ (fun hHeld => ?_); refine with_tabW r09_Equal.tab6 r09_Equal.bits6 (fun HT_ HW_ => ?_)
          generalize wr.drew = w24 at BK390 BK391 HB hx392_0 hx392_1 hx392_2 hx393_0 hx393_1 hx393_2 hHeld ⊢
          refine pure_ (i := 0) (N := some 39) (v := ?_) (a' := ?_) #[true, false, false, false, false, false, false, false, false, false, false] rfl rfl (any_of HT_.out (by kernel_rfl)) (fun _ _ _ h => h) (Or.inl ⟨by rfl, ?_⟩) ?_ ?_
          rotate_left
          ·
           intro w'
           go_simp
           with_reducible rfl
          rotate_left
          ·
           simp only [Act.put, List.setIfInBounds_toArray, List.set_cons_zero, List.set_cons_succ, i64_w, i32_w]
           rfl
          refine pure_ (i := 2) (N := some 41) (v := ?_) (a' := ?_) #[true, false, true, false, false, false, false, false, false, false, false] rfl rfl (any_of HT_.out (by kernel_rfl)) (fun _ _ _ h => h) (Or.inl ⟨by rfl, ?_⟩) ?_ ?_
          rotate_left
          ·
           intro w'
           go_simp
           with_reducible rfl
          rotate_left
          ·
           simp only [Act.put, List.setIfInBounds_toArray, List.set_cons_zero, List.set_cons_succ, i64_w, i32_w]
           rfl
          refine pure_ (i := 5) (N := some 44) (v := ?_) (a' := ?_) #[true, false, true, false, false, true, false, false, false, false, false] rfl rfl (any_of HT_.out (by kernel_rfl)) (fun _ _ _ h => h) (Or.inl ⟨by rfl, ?_⟩) ?_ ?_
          rotate_left
          ·
           intro w'
           go_simp
           with_reducible rfl
          rotate_left
          ·
           simp only [Act.put, List.setIfInBounds_toArray, List.set_cons_zero, List.set_cons_succ, i64_w, i32_w]
           rfl
          refine pure_ (i := 7) (N := some 46) (v := ?_) (a' := ?_) #[true, false, true, false, false, true, false, true, false, false, false] rfl rfl (any_of HT_.out (by kernel_rfl)) (fun _ _ _ h => h) (Or.inl ⟨by rfl, ?_⟩) ?_ ?_
          rotate_left
          ·
           intro w'
           go_simp
           with_reducible rfl
          rotate_left
          ·
           simp only [Act.put, List.setIfInBounds_toArray, List.set_cons_zero, List.set_cons_succ, i64_w, i32_w]
           rfl
          refine take_ (i := 1) (N := some 40) (v := ?_) (a' := ?_) #[true, true, true, false, false, true, false, true, false, false, false] rfl rfl (take_ofW HT_.out HW_.out (by kernel_rfl)) (fun _ _ _ h => h) (Or.inl ⟨by rfl, ?_⟩) hHeld ?_ ?_
          rotate_left
          ·
           rintro w' ⟨s0, s1, s2, s3, s4, s5, s6, s7, s8, s9, s10, s11⟩
           go_simp
           with_reducible rfl
          rotate_left
          ·
           simp only [Act.put, List.setIfInBounds_toArray, List.set_cons_zero, List.set_cons_succ, i64_w, i32_w]
           rfl
          refine pure_ (i := 3) (N := some 42) (v := ?_) (a' := ?_) #[true, true, true, true, false, true, false, true, false, false, false] rfl rfl (any_of HT_.out (by kernel_rfl)) (fun _ _ _ h => h) (Or.inl ⟨by rfl, ?_⟩) ?_ ?_
          rotate_left
          ·
           intro w'
           go_simp
           with_reducible rfl
          rotate_left
          ·
           simp only [Act.put, List.setIfInBounds_toArray, List.set_cons_zero, List.set_cons_succ, i64_w, i32_w]
           rfl
          refine take_ (i := 4) (N := some 43) (v := ?_) (a' := ?_) #[true, true, true, true, true, true, false, true, false, false, false] rfl rfl (take_ofW HT_.out HW_.out (by kernel_rfl)) (fun _ _ _ h => h) (Or.inl ⟨by rfl, ?_⟩) hHeld ?_ ?_
          rotate_left
          ·
           rintro w' ⟨s0, s1, s2, s3, s4, s5, s6, s7, s8, s9, s10, s11⟩
           go_simp
           with_reducible rfl
          rotate_left
          ·
           simp only [Act.put, List.setIfInBounds_toArray, List.set_cons_zero, List.set_cons_succ, i64_w, i32_w]
           rfl
          refine take_ (i := 6) (N := some 45) (v := ?_) (a' := ?_) #[true, true, true, true, true, true, true, true, false, false, false] rfl rfl (take_ofW HT_.out HW_.out (by kernel_rfl)) (fun _ _ _ h => h) (Or.inl ⟨by rfl, ?_⟩) hHeld ?_ ?_
          rotate_left
          ·
           rintro w' ⟨s0, s1, s2, s3, s4, s5, s6, s7, s8, s9, s10, s11⟩
           go_simp
           with_reducible rfl
          rotate_left
          ·
           simp only [Act.put, List.setIfInBounds_toArray, List.set_cons_zero, List.set_cons_succ, i64_w, i32_w]
           rfl
          refine pure_ (i := 8) (N := some 47) (v := ?_) (a' := ?_) #[true, true, true, true, true, true, true, true, true, false, false] rfl rfl (any_of HT_.out (by kernel_rfl)) (fun _ _ _ h => h) (Or.inl ⟨by rfl, ?_⟩) ?_ ?_
          rotate_left
          ·
           intro w'
           go_simp
           with_reducible rfl
          rotate_left
          ·
           simp only [Act.put, List.setIfInBounds_toArray, List.set_cons_zero, List.set_cons_succ, i64_w, i32_w]
           rfl
          refine take_ (i := 9) (N := some 48) (v := ?_) (a' := ?_) #[true, true, true, true, true, true, true, true, true, true, false] rfl rfl (take_ofW HT_.out HW_.out (by kernel_rfl)) (fun _ _ _ h => h) (Or.inl ⟨by rfl, ?_⟩) hHeld ?_ ?_
          rotate_left
          ·
           rintro w' ⟨s0, s1, s2, s3, s4, s5, s6, s7, s8, s9, s10, s11⟩
           go_simp
           with_reducible rfl
          rotate_left
          ·
           simp only [Act.put, List.setIfInBounds_toArray, List.set_cons_zero, List.set_cons_succ, i64_w, i32_w]
           rfl
          refine pure_ (i := 10) (N := some 49) (v := ?_) (a' := ?_) #[true, true, true, true, true, true, true, true, true, true, true] rfl rfl (any_of HT_.out (by kernel_rfl)) (fun _ _ _ h => h) (Or.inl ⟨by rfl, ?_⟩) ?_ ?_
          rotate_left
          ·
           intro w'
           go_simp
           with_reducible rfl
          rotate_left
          ·
           simp only [Act.put, List.setIfInBounds_toArray, List.set_cons_zero, List.set_cons_succ, i64_w, i32_w]
           rfl
          refine done_ (done_of HT_.out (by kernel_rfl)) ?_
          try go_wp2
          go_roundg k2
          case measure => have := HJ2.out; have := HK2.out; omega
          case rel => exact ⟨(wrap64 (x5_2 + 1)), eT, H', ⟨by have := HJ2.out; have := HK2.out; omega⟩, ⟨kB BK390.out⟩, ⟨kB BK391.out⟩, ⟨bB2 HB.out GE390.out GE391.out⟩⟩
        ·
         rw [if_neg c20] at H
         exact absurd H (by simp)
       ·
        rw [if_neg c19] at H
        exact absurd H (by simp)
      ·
       rw [if_neg c18] at H
       have c18b0 : decide (x5_2 < (l0_1.length : Int)) = false := decide_eq_false c18; clear c18
       have H' := aM H
       clear H; have hnb25 := NB390_391.out; have hnc25 := NB391_390.out
       have hcz26_0 : wr.cell? ⟨gb390, 0, none⟩ = some (.string a0_0) := (blk_cell BK390.out 0).trans rfl
       have hcz26_1 : wr.cell? ⟨gb390, 1, none⟩ = some (.slice A0_1 l0_1.length c0_1) := (blk_cell BK390.out 1).trans rfl
       have hcz26_2 : wr.cell? ⟨gb390, 2, none⟩ = some (.slice A0_2 l0_2.length c0_2) := (blk_cell BK390.out 2).trans rfl
       have hfz26_0 := blk_frozen BK390.out 0; have hfz26_1 := blk_frozen BK390.out 1; have hfz26_2 := blk_frozen BK390.out 2
       go_wp2
       go_loopg [6] k2 (fun kq v6 w' => ∃ (x6_3 : Int), v6 = .int .i64 x6_3 ∧ Aside0 (r09_Equal.l1 kq x6_3 a0_0 l0_1 l0_2 a1_0 l1_1 l1_2 = some r) ∧ Aside0 (kq ≤ k2) ∧ Aside0 (w'.heap[gb390]? = some (.cells #[.string a0_0, (.slice A0_1 l0_1.length c0_1), (.slice A0_2 l0_2.length c0_2)] 28 (0, 0))) ∧ Aside0 (w'.heap[gb391]? = some (.cells #[.string a1_0, (.slice A1_1 l1_1.length c1_1), (.slice A1_2 l1_2.length c1_2)] 28 (0, 0))) ∧ Aside0 (Below w.heap.size w w'))
       case atStart => exact ⟨(0), eT, H', ⟨Nat.le_refl _⟩, ⟨kB BK390.out⟩, ⟨kB BK391.out⟩, ⟨bB2 HB.out GE390.out GE391.out⟩⟩
       case round =>
        clear H'
        try clear hx3
        try clear hx392_0
        try clear hx392_1
        try clear hx392_2
        try clear hx393_0
        try clear hx393_1
        try clear hx393_2
        obtain ⟨x6_3, rfl, HA, HK3, BK390, BK391, HB⟩ := hrel
        cases gk with
        | zero => exact absurd HA.out (by simp [r09_Equal.l1])
        | succ k3 =>
         have H := HA.out; clear HA
         simp only [r09_Equal.l1] at H
         by_cases c27 : x6_3 < (l0_2.length : Int)
         ·
          rw [if_pos c27] at H
          have c27b0 : decide (x6_3 < (l0_2.length : Int)) = true := decide_eq_true c27; clear c27
          by_cases c28 : 0 ≤ x6_3
          ·
           rw [if_pos c28] at H
           have c28b0 : decide (0 ≤ x6_3) = true := decide_eq_true c28; clear c28
           by_cases c29 : x6_3 < (l1_2.length : Int)
           ·
            rw [if_pos c29] at H
            have c29b0 : decide (x6_3 < (l1_2.length : Int)) = true := decide_eq_true c29; clear c29
            by_cases c30 : ((rd_T41 l0_2 x6_3).f0).toList = ((rd_T41 l1_2 x6_3).f0).toList
            ·
             rw [if_pos c30] at H
             have c30b0 : (((rd_T41 l0_2 x6_3).f0).toList == ((rd_T41 l1_2 x6_3).f0).toList) = true := beq_iff_eq.mpr c30; have c30b1 : (((rd_T41 l0_2 x6_3).f0).toList != ((rd_T41 l1_2 x6_3).f0).toList) = false := bne_eq_false_iff_eq.mpr c30; clear c30
             by_cases c31 : ((rd_T41 l0_2 x6_3).f4) = ((rd_T41 l1_2 x6_3).f4)
             ·
              rw [if_pos c31] at H
              have c31b0 : (((rd_T41 l0_2 x6_3).f4) == ((rd_T41 l1_2 x6_3).f4)) = true := beq_iff_eq.mpr c31; have c31b1 : (((rd_T41 l0_2 x6_3).f4) != ((rd_T41 l1_2 x6_3).f4)) = false := bne_eq_false_iff_eq.mpr c31; clear c31; replace H := Option.bind_eq_some_iff.mp H; obtain ⟨t398, A320, H⟩ := H
              replace H : (if t398 = true then ((r09_SameArcs.f k3 ((rd_T41 l0_2 x6_3).f2) ((rd_T41 l1_2 x6_3).f2)).bind fun t399 => (if t399 = true then ((r09_SameArcs.f k3 ((rd_T41 l0_2 x6_3).f3) ((rd_T41 l1_2 x6_3).f3)).bind fun t400 => (if t400 = true then (r09_Equal.l1 k3 (wrap64 (x6_3 + 1)) a0_0 l0_1 l0_2 a1_0 l1_1 l1_2) else (none))) else (none))) else (none)) = some r := H
              have A32 := aM A320; clear A320
              by_cases c33 : t398 = true
              ·
               subst c33
               have H1 : ((r09_SameArcs.f k3 ((rd_T41 l0_2 x6_3).f2) ((rd_T41 l1_2 x6_3).f2)).bind fun t399 => (if t399 = true then ((r09_SameArcs.f k3 ((rd_T41 l0_2 x6_3).f3) ((rd_T41 l1_2 x6_3).f3)).bind fun t400 => (if t400 = true then (r09_Equal.l1 k3 (wrap64 (x6_3 + 1)) a0_0 l0_1 l0_2 a1_0 l1_1 l1_2) else (none))) else (none))) = some r := by rw [if_pos rfl] at H; exact H
               clear H; have H := H1; clear H1; replace H := Option.bind_eq_some_iff.mp H; obtain ⟨t399, A340, H⟩ := H
               replace H : (if t399 = true then ((r09_SameArcs.f k3 ((rd_T41 l0_2 x6_3).f3) ((rd_T41 l1_2 x6_3).f3)).bind fun t400 => (if t400 = true then (r09_Equal.l1 k3 (wrap64 (x6_3 + 1)) a0_0 l0_1 l0_2 a1_0 l1_1 l1_2) else (none))) else (none)) = some r := H
               have A34 := aM A340; clear A340
               by_cases c35 : t399 = true
               ·
                subst c35
                have H1 : ((r09_SameArcs.f k3 ((rd_T41 l0_2 x6_3).f3) ((rd_T41 l1_2 x6_3).f3)).bind fun t400 => (if t400 = true then (r09_Equal.l1 k3 (wrap64 (x6_3 + 1)) a0_0 l0_1 l0_2 a1_0 l1_1 l1_2) else (none))) = some r := by rw [if_pos rfl] at H; exact H
                clear H; have H := H1; clear H1; replace H := Option.bind_eq_some_iff.mp H; obtain ⟨t400, A360, H⟩ := H
                replace H : (if t400 = true then (r09_Equal.l1 k3 (wrap64 (x6_3 + 1)) a0_0 l0_1 l0_2 a1_0 l1_1 l1_2) else (none)) = some r := H
                have A36 := aM A360; clear A360
                by_cases c37 : t400 = true
                ·
                 subst c37
                 have H1 : (r09_Equal.l1 k3 (wrap64 (x6_3 + 1)) a0_0 l0_1 l0_2 a1_0 l1_1 l1_2) = some r := by rw [if_pos rfl] at H; exact H
                 clear H; have H := H1; clear H1
                 have H' := aM H
                 clear H; have hnb38 := NB390_391.out; have hnc38 := NB391_390.out
                 have hcz39_0 : wr.cell? ⟨gb390, 0, none⟩ = some (.string a0_0) := (blk_cell BK390.out 0).trans rfl
                 have hcz39_1 : wr.cell? ⟨gb390, 1, none⟩ = some (.slice A0_1 l0_1.length c0_1) := (blk_cell BK390.out 1).trans rfl
                 have hcz39_2 : wr.cell? ⟨gb390, 2, none⟩ = some (.slice A0_2 l0_2.length c0_2) := (blk_cell BK390.out 2).trans rfl
                 have hfz39_0 := blk_frozen BK390.out 0; have hfz39_1 := blk_frozen BK390.out 1; have hfz39_2 := blk_frozen BK390.out 2
                 try go_wp2
                 have n0_ := aM (blk_drew BK390.out); have n1_ := aM (blk_drew BK391.out); have n2_ := aM (below_drew1 HB.out); clear BK390; clear BK391; clear HB; have BK390 := n0_; have BK391 := n1_; have HB := n2_; clear n0_ n1_ n2_; have p394 : 0 ≤ (x6_3 : Int) := dT; have q394 : x6_3 < (l0_2.length : Int) := dT; obtain ⟨ad394, A394_1, c394_1, A394_2, c394_2, A394_3, c394_3, e394, hx394_0, hx394_1, hx394_2, hx394_3, hx394_4, hl394_1, hi394_1, hl394_2, hi394_2, hl394_3, hi394_3⟩ := at_T41 HR0_2.out x6_3 p394 q394; have hw394_4 := hx394_4; have hw394_3 := hx394_3; have hw394_2 := hx394_2; have hw394_1 := hx394_1; have hw394_0 := hx394_0; cases e394
                 try replace hx394_0 := (HB.out.cell (World.block_lt_of_cell? w _ hx394_0)).trans hx394_0
                 try replace hx394_1 := (HB.out.cell (World.block_lt_of_cell? w _ hx394_1)).trans hx394_1
                 try replace hx394_2 := (HB.out.cell (World.block_lt_of_cell? w _ hx394_2)).trans hx394_2
                 try replace hx394_3 := (HB.out.cell (World.block_lt_of_cell? w _ hx394_3)).trans hx394_3
                 try replace hx394_4 := (HB.out.cell (World.block_lt_of_cell? w _ hx394_4)).trans hx394_4
                 have HR394_1 := aM hi394_1; have HC394_1 := aM hl394_1; clear hi394_1 hl394_1; have HR394_2 := aM hi394_2; have HC394_2 := aM hl394_2; clear hi394_2 hl394_2; have HR394_3 := aM hi394_3; have HC394_3 := aM hl394_3; clear hi394_3 hl394_3; replace p394 := eq_true p394; replace q394 := eq_true q394; have p395 : 0 ≤ (x6_3 : Int) := dT; have q395 : x6_3 < (l1_2.length : Int) := dT; obtain ⟨ad395, A395_1, c395_1, A395_2, c395_2, A395_3, c395_3, e395, hx395_0, hx395_1, hx395_2, hx395_3, hx395_4, hl395_1, hi395_1, hl395_2, hi395_2, hl395_3, hi395_3⟩ := at_T41 HR1_2.out x6_3 p395 q395; have hw395_4 := hx395_4; have hw395_3 := hx395_3; have hw395_2 := hx395_2; have hw395_1 := hx395_1; have hw395_0 := hx395_0; cases e395
                 try replace hx395_0 := (HB.out.cell (World.block_lt_of_cell? w _ hx395_0)).trans hx395_0
                 try replace hx395_1 := (HB.out.cell (World.block_lt_of_cell? w _ hx395_1)).trans hx395_1
                 try replace hx395_2 := (HB.out.cell (World.block_lt_of_cell? w _ hx395_2)).trans hx395_2
                 try replace hx395_3 := (HB.out.cell (World.block_lt_of_cell? w _ hx395_3)).trans hx395_3
                 try replace hx395_4 := (HB.out.cell (World.block_lt_of_cell? w _ hx395_4)).trans hx395_4
                 have HR395_1 := aM hi395_1; have HC395_1 := aM hl395_1; clear hi395_1 hl395_1; have HR395_2 := aM hi395_2; have HC395_2 := aM hl395_2; clear hi395_2 hl395_2; have HR395_3 := aM hi395_3; have HC395_3 := aM hl395_3; clear hi395_3 hl395_3; replace p395 := eq_true p395; replace q395 := eq_true q395
                 refine start_ (n := 14) (S := fun w' => w'.cell? ⟨gb390, 0, none⟩ = some (.string a0_0) ∧ w'.cell? ⟨gb390, 1, none⟩ = some (.slice A0_1 l0_1.length c0_1) ∧ w'.cell? ⟨gb390, 2, none⟩ = some (.slice (some ad394) l0_2.length c0_2) ∧ w'.cell? ⟨gb391, 0, none⟩ = some (.string a1_0) ∧ w'.cell? ⟨gb391, 1, none⟩ = some (.slice A1_1 l1_1.length c1_1) ∧ w'.cell? ⟨gb391, 2, none⟩ = some (.slice (some ad395) l1_2.length c1_2) ∧ w'.cell? (ad394.add ((x6_3).toNat * 5)) = some (.string ((rd_T41 l0_2 x6_3).f0)) ∧ w'.cell? ⟨(ad394.add ((x6_3).toNat * 5)).block, (ad394.add ((x6_3).toNat * 5)).off + 1, none⟩ = some (.slice A394_1 ((rd_T41 l0_2 x6_3).f1).length c394_1) ∧ w'.cell? ⟨(ad394.add ((x6_3).toNat * 5)).block, (ad394.add ((x6_3).toNat * 5)).off + 2, none⟩ = some (.slice A394_2 ((rd_T41 l0_2 x6_3).f2).length c394_2) ∧ w'.cell? ⟨(ad394.add ((x6_3).toNat * 5)).block, (ad394.add ((x6_3).toNat * 5)).off + 3, none⟩ = some (.slice A394_3 ((rd_T41 l0_2 x6_3).f3).length c394_3) ∧ w'.cell? ⟨(ad394.add ((x6_3).toNat * 5)).block, (ad394.add ((x6_3).toNat * 5)).off + 4, none⟩ = some (.int .i64 ((rd_T41 l0_2 x6_3).f4)) ∧ w'.cell? (ad395.add ((x6_3).toNat * 5)) = some (.string ((rd_T41 l1_2 x6_3).f0)) ∧ w'.cell? ⟨(ad395.add ((x6_3).toNat * 5)).block, (ad395.add ((x6_3).toNat * 5)).off + 1, none⟩ = some (.slice A395_1 ((rd_T41 l1_2 x6_3).f1).length c395_1) ∧ w'.cell? ⟨(ad395.add ((x6_3).toNat * 5)).block, (ad395.add ((x6_3).toNat * 5)).off + 2, none⟩ = some (.slice A395_2 ((rd_T41 l1_2 x6_3).f2).length c395_2) ∧ w'.cell? ⟨(ad395.add ((x6_3).toNat * 5)).block, (ad395.add ((x6_3).toNat * 5)).off + 3, none⟩ = some (.slice A395_3 ((rd_T41 l1_2 x6_3).f3).length c395_3) ∧ w'.cell? ⟨(ad395.add ((x6_3).toNat * 5)).block, (ad395.add ((x6_3).toNat * 5)).off + 4, none⟩ = some (.int .i64 ((rd_T41 l1_2 x6_3).f4))) (ds := []) #[false, false, false, false, false, false, false, false, false, false, false, false, false, false] (by kernel_rfl) rfl rfl ⟨(blk_cell BK390.out 0).trans rfl, (blk_cell BK390.out 1).trans rfl, (blk_cell BK390.out 2).trans rfl, (blk_cell BK391.out 0).trans rfl, (blk_cell BK391.out 1).trans rfl, (blk_cell BK391.out 2).trans rfl, ((HB.out.cell (World.block_lt_of_cell? w _ hw394_0)).trans hw394_0), ((HB.out.cell (World.block_lt_of_cell? w _ hw394_1)).trans hw394_1), ((HB.out.cell (World.block_lt_of_cell? w _ hw394_2)).trans hw394_2), ((HB.out.cell (World.block_lt_of_cell? w _ hw394_3)).trans hw394_3), ((HB.out.cell (World.block_lt_of_cell? w _ hw394_4)).trans hw394_4), ((HB.out.cell (World.block_lt_of_cell? w _ hw395_0)).trans hw395_0), ((HB.out.cell (World.block_lt_of_cell? w _ hw395_1)).trans hw395_1), ((HB.out.cell (World.block_lt_of_cell? w _ hw395_2)).trans hw395_2), ((HB.out.cell (World.block_lt_of_cell? w _ hw395_3)).trans hw395_3), ((HB.out.cell (World.block_lt_of_cell? w _ hw395_4)).trans hw395_4)⟩ (fun hHeld => ?_); refine with_tabW r09_Equal.tab11 r09_Equal.bits11 (fun HT_ HW_ => ?_)
                 generalize wr.drew = w40 at BK390 BK391 HB HR394_1 HR394_2 HR394_3 HR395_1 HR395_2 HR395_3 hx394_0 hx394_1 hx394_2 hx394_3 hx394_4 hx395_0 hx395_1 hx395_2 hx395_3 hx395_4 hHeld ⊢
                 refine pure_ (i := 0) (N := some 57) (v := ?_) (a' := ?_) #[true, false, false, false, false, false, false, false, false, false, false, false, false, false] rfl rfl (any_of HT_.out (by kernel_rfl)) (fun _ _ _ h => h) (Or.inl ⟨by rfl, ?_⟩) ?_ ?_
                 rotate_left
                 ·
                  intro w'
                  go_simp
                  with_reducible rfl
                 rotate_left
                 ·
                  simp only [Act.put, List.setIfInBounds_toArray, List.set_cons_zero, List.set_cons_succ, i64_w, i32_w]
                  rfl
                 refine pure_ (i := 2) (N := some 59) (v := ?_) (a' := ?_) #[true, false, true, false, false, false, false, false, false, false, false, false, false, false] rfl rfl (any_of HT_.out (by kernel_rfl)) (fun _ _ _ h => h) (Or.inl ⟨by rfl, ?_⟩) ?_ ?_
                 rotate_left
                 ·
                  intro w'
                  go_simp
                  with_reducible rfl
                 rotate_left
                 ·
                  simp only [Act.put, List.setIfInBounds_toArray, List.set_cons_zero, List.set_cons_succ, i64_w, i32_w]
                  rfl
                 refine pure_ (i := 5) (N := some 62) (v := ?_) (a' := ?_) #[true, false, true, false, false, true, false, false, false, false, false, false, false, false] rfl rfl (any_of HT_.out (by kernel_rfl)) (fun _ _ _ h => h) (Or.inl ⟨by rfl, ?_⟩) ?_ ?_
                 rotate_left
                 ·
                  intro w'
                  go_simp
                  with_reducible rfl
                 rotate_left
                 ·
                  simp only [Act.put, List.setIfInBounds_toArray, List.set_cons_zero, List.set_cons_succ, i64_w, i32_w]
                  rfl
                 refine pure_ (i := 7) (N := some 64) (v := ?_) (a' := ?_) #[true, false, true, false, false, true, false, true, false, false, false, false, false, false] rfl rfl (any_of HT_.out (by kernel_rfl)) (fun _ _ _ h => h) (Or.inl ⟨by rfl, ?_⟩) ?_ ?_
                 rotate_left
                 ·
                  intro w'
                  go_simp
                  with_reducible rfl
                 rotate_left
                 ·
                  simp only [Act.put, List.setIfInBounds_toArray, List.set_cons_zero, List.set_cons_succ, i64_w, i32_w]
                  rfl
                 refine take_ (i := 1) (N := some 58) (v := ?_) (a' := ?_) #[true, true, true, false, false, true, false, true, false, false, false, false, false, false] rfl rfl (take_ofW HT_.out HW_.out (by kernel_rfl)) (fun _ _ _ h => h) (Or.inl ⟨by rfl, ?_⟩) hHeld ?_ ?_
                 rotate_left
                 ·
                  rintro w' ⟨s0, s1, s2, s3, s4, s5, s6, s7, s8, s9, s10, s11, s12, s13, s14, s15⟩
                  go_simp
                  with_reducible rfl
                 rotate_left
                 ·
                  simp only [Act.put, List.setIfInBounds_toArray, List.set_cons_zero, List.set_cons_succ, i64_w, i32_w]
                  rfl
                 refine pure_ (i := 3) (N := some 60) (v := ?_) (a' := ?_) #[true, true, true, true, false, true, false, true, false, false, false, false, false, false] rfl rfl (any_of HT_.out (by kernel_rfl)) (fun _ _ _ h => h) (Or.inl ⟨by rfl, ?_⟩) ?_ ?_
                 rotate_left
                 ·
                  intro w'
                  go_simp
                  with_reducible rfl
                 rotate_left
                 ·
                  simp only [Act.put, List.setIfInBounds_toArray, List.set_cons_zero, List.set_cons_succ, i64_w, i32_w]
                  rfl
                 refine take_ (i := 4) (N := some 61) (v := ?_) (a' := ?_) #[true, true, true, true, true, true, false, true, false, false, false, false, false, false] rfl rfl (take_ofW HT_.out HW_.out (by kernel_rfl)) (fun _ _ _ h => h) (Or.inl ⟨by rfl, ?_⟩) hHeld ?_ ?_
                 rotate_left
                 ·
                  rintro w' ⟨s0, s1, s2, s3, s4, s5, s6, s7, s8, s9, s10, s11, s12, s13, s14, s15⟩
                  go_simp
                  with_reducible rfl
                 rotate_left
                 ·
                  simp only [Act.put, List.setIfInBounds_toArray, List.set_cons_zero, List.set_cons_succ, i64_w, i32_w]
                  rfl
                 refine take_ (i := 6) (N := some 63) (v := ?_) (a' := ?_) #[true, true, true, true, true, true, true, true, false, false, false, false, false, false] rfl rfl (take_ofW HT_.out HW_.out (by kernel_rfl)) (fun _ _ _ h => h) (Or.inl ⟨by rfl, ?_⟩) hHeld ?_ ?_
                 rotate_left
                 ·
                  rintro w' ⟨s0, s1, s2, s3, s4, s5, s6, s7, s8, s9, s10, s11, s12, s13, s14, s15⟩
                  go_simp
                  with_reducible rfl
                 rotate_left
                 ·
                  simp only [Act.put, List.setIfInBounds_toArray, List.set_cons_zero, List.set_cons_succ, i64_w, i32_w]
                  rfl
                 refine pure_ (i := 8) (N := some 65) (v := ?_) (a' := ?_) #[true, true, true, true, true, true, true, true, true, false, false, false, false, false] rfl rfl (any_of HT_.out (by kernel_rfl)) (fun _ _ _ h => h) (Or.inl ⟨by rfl, ?_⟩) ?_ ?_
                 rotate_left
                 ·
                  intro w'
                  go_simp
                  with_reducible rfl
                 rotate_left
                 ·
                  simp only [Act.put, List.setIfInBounds_toArray, List.set_cons_zero, List.set_cons_succ, i64_w, i32_w]
                  rfl
                 refine take_ (i := 9) (N := some 66) (v := ?_) (a' := ?_) #[true, true, true, true, true, true, true, true, true, true, false, false, false, false] rfl rfl (take_ofW HT_.out HW_.out (by kernel_rfl)) (fun _ _ _ h => h) (Or.inl ⟨by rfl, ?_⟩) hHeld ?_ ?_
                 rotate_left
                 ·
                  rintro w' ⟨s0, s1, s2, s3, s4, s5, s6, s7, s8, s9, s10, s11, s12, s13, s14, s15⟩
                  go_simp
                  with_reducible rfl
                 rotate_left
                 ·
                  simp only [Act.put, List.setIfInBounds_toArray, List.set_cons_zero, List.set_cons_succ, i64_w, i32_w]
                  rfl
                 refine join_ (σ := Nat × Nat) 2 #[true, true, true, true, true, true, true, true, true, true, true, true, false, false] (fun s_ => [(7, .pointer (some ⟨s_.1, 0, none⟩)), (8, .pointer (some ⟨s_.2, 0, none⟩))]) (fun s_ w' => (w'.cell? ⟨gb390, 0, none⟩ = some (.string a0_0) ∧ w'.cell? ⟨gb390, 1, none⟩ = some (.slice A0_1 l0_1.length c0_1) ∧ w'.cell? ⟨gb390, 2, none⟩ = some (.slice (some ad394) l0_2.length c0_2) ∧ w'.cell? ⟨gb391, 0, none⟩ = some (.string a1_0) ∧ w'.cell? ⟨gb391, 1, none⟩ = some (.slice A1_1 l1_1.length c1_1) ∧ w'.cell? ⟨gb391, 2, none⟩ = some (.slice (some ad395) l1_2.length c1_2) ∧ w'.cell? (ad394.add ((x6_3).toNat * 5)) = some (.string ((rd_T41 l0_2 x6_3).f0)) ∧ w'.cell? ⟨(ad394.add ((x6_3).toNat * 5)).block, (ad394.add ((x6_3).toNat * 5)).off + 1, none⟩ = some (.slice A394_1 ((rd_T41 l0_2 x6_3).f1).length c394_1) ∧ w'.cell? ⟨(ad394.add ((x6_3).toNat * 5)).block, (ad394.add ((x6_3).toNat * 5)).off + 2, none⟩ = some (.slice A394_2 ((rd_T41 l0_2 x6_3).f2).length c394_2) ∧ w'.cell? ⟨(ad394.add ((x6_3).toNat * 5)).block, (ad394.add ((x6_3).toNat * 5)).off + 3, none⟩ = some (.slice A394_3 ((rd_T41 l0_2 x6_3).f3).length c394_3) ∧ w'.cell? ⟨(ad394.add ((x6_3).toNat * 5)).block, (ad394.add ((x6_3).toNat * 5)).off + 4, none⟩ = some (.int .i64 ((rd_T41 l0_2 x6_3).f4)) ∧ w'.cell? (ad395.add ((x6_3).toNat * 5)) = some (.string ((rd_T41 l1_2 x6_3).f0)) ∧ w'.cell? ⟨(ad395.add ((x6_3).toNat * 5)).block, (ad395.add ((x6_3).toNat * 5)).off + 1, none⟩ = some (.slice A395_1 ((rd_T41 l1_2 x6_3).f1).length c395_1) ∧ w'.cell? ⟨(ad395.add ((x6_3).toNat * 5)).block, (ad395.add ((x6_3).toNat * 5)).off + 2, none⟩ = some (.slice A395_2 ((rd_T41 l1_2 x6_3).f2).length c395_2) ∧ w'.cell? ⟨(ad395.add ((x6_3).toNat * 5)).block, (ad395.add ((x6_3).toNat * 5)).off + 3, none⟩ = some (.slice A395_3 ((rd_T41 l1_2 x6_3).f3).length c395_3) ∧ w'.cell? ⟨(ad395.add ((x6_3).toNat * 5)).block, (ad395.add ((x6_3).toNat * 5)).off + 4, none⟩ = some (.int .i64 ((rd_T41 l1_2 x6_3).f4))) ∧ (w'.heap[gb390]? = some (.cells #[.string a0_0, .slice A0_1 l0_1.length c0_1, .slice (some ad394) l0_2.length c0_2] 28 (0, 0))) ∧ (w'.heap[gb391]? = some (.cells #[.string a1_0, .slice A1_1 l1_1.length c1_1, .slice (some ad395) l1_2.length c1_2] 28 (0, 0))) ∧ (w'.heap[s_.1]? = some (.cells #[.string (⟨#[]⟩ : ByteArray), .slice none 0 0, .slice none 0 0, .slice none 0 0, .int .i64 0] 41 (0, 0))) ∧ (w'.heap[s_.2]? = some (.cells #[.string (⟨#[]⟩ : ByteArray), .slice none 0 0, .slice none 0 0, .slice none 0 0, .int .i64 0] 41 (0, 0))) ∧ (w.heap.size ≤ s_.1) ∧ (w.heap.size ≤ s_.1) ∧ (gb390 ≠ s_.1) ∧ (s_.1 ≠ gb390) ∧ (gb391 ≠ s_.1) ∧ (s_.1 ≠ gb391) ∧ (s_.2 ≠ s_.1) ∧ (s_.1 ≠ s_.2) ∧ (w.heap.size ≤ s_.2) ∧ (w.heap.size ≤ s_.2) ∧ (gb390 ≠ s_.2) ∧ (s_.2 ≠ gb390) ∧ (gb391 ≠ s_.2) ∧ (s_.2 ≠ gb391) ∧ (Below w.heap.size w w')) ?_ ?_
                 rotate_left
                 ·
                  intro hCont
                  refine two_ (i := 10) (j := 11) (Ni := some 7) (Nj := some 8) #[true, true, true, true, true, true, true, true, true, true, true, false, false, false] #[true, true, true, true, true, true, true, true, true, true, false, true, false, false] rfl rfl rfl rfl (two_of HT_.out (by kernel_rfl)) (by decide) (by decide) (fun K hK => ?_) (fun K hK => ?_)
                  ·
                   skip
                   refine box_step ?hg (N := 7) ?hd (cs := #[.string (⟨#[]⟩ : ByteArray), .slice none 0 0, .slice none 0 0, .slice none 0 0, .int .i64 0]) (t := 41) ?hr ?_; (case hd => rfl); (case hg => rfl); (case hr => first | (go_simp; done) | (go_simp; rfl))
                   intro gb396 hg w41 hbox hb
                   have n0_ := aM (kW BK390.out hb); have n1_ := aM (kW BK391.out hb); have n2_ := aM (below_step (bB2 HB.out GE390.out GE391.out) hb); have n3_ := aM (hbox); have n4_ := aM ((by rw [hg]; exact (below_size (bB2 HB.out GE390.out GE391.out)) : w.heap.size ≤ gb396)); have n5_ := aM ((by rw [hg]; exact (below_size (bB2 HB.out GE390.out GE391.out)) : w.heap.size ≤ gb396)); have n6_ := aM ((by rw [hg]; exact Nat.ne_of_lt (kL BK390.out) : gb390 ≠ gb396)); have n7_ := aM ((by rw [hg]; exact Nat.ne_of_gt (kL BK390.out) : gb396 ≠ gb390)); have n8_ := aM ((by rw [hg]; exact Nat.ne_of_lt (kL BK391.out) : gb391 ≠ gb396)); have n9_ := aM ((by rw [hg]; exact Nat.ne_of_gt (kL BK391.out) : gb396 ≠ gb391)); clear BK390; clear BK391; clear HB; have BK390 := n0_; have BK391 := n1_; have HB := n2_; have BK396 := n3_; have GW396 := n4_; have GE396 := n5_; have NB390_396 := n6_; have NB396_390 := n7_; have NB391_396 := n8_; have NB396_391 := n9_; clear n0_ n1_ n2_ n3_ n4_ n5_ n6_ n7_ n8_ n9_; clear hb hbox hg
                   refine hK.out _ _ ⟨(blk_cell BK390.out 0).trans rfl, (blk_cell BK390.out 1).trans rfl, (blk_cell BK390.out 2).trans rfl, (blk_cell BK391.out 0).trans rfl, (blk_cell BK391.out 1).trans rfl, (blk_cell BK391.out 2).trans rfl, ((HB.out.cell (World.block_lt_of_cell? w _ hw394_0)).trans hw394_0), ((HB.out.cell (World.block_lt_of_cell? w _ hw394_1)).trans hw394_1), ((HB.out.cell (World.block_lt_of_cell? w _ hw394_2)).trans hw394_2), ((HB.out.cell (World.block_lt_of_cell? w _ hw394_3)).trans hw394_3), ((HB.out.cell (World.block_lt_of_cell? w _ hw394_4)).trans hw394_4), ((HB.out.cell (World.block_lt_of_cell? w _ hw395_0)).trans hw395_0), ((HB.out.cell (World.block_lt_of_cell? w _ hw395_1)).trans hw395_1), ((HB.out.cell (World.block_lt_of_cell? w _ hw395_2)).trans hw395_2), ((HB.out.cell (World.block_lt_of_cell? w _ hw395_3)).trans hw395_3), ((HB.out.cell (World.block_lt_of_cell? w _ hw395_4)).trans hw395_4)⟩ (fun hHeld => ?_)
                   clear hK K
                   refine norm_ (a' := ?_) ?_ ?_
                   rotate_left
                   ·
                    show Act.put _ (some 7) _ = _
                    simp only [Act.put, List.setIfInBounds_toArray, List.set_cons_zero, List.set_cons_succ, i64_w, i32_w]
                    rfl
                   refine one_ (i := 11) (N := some 8) #[true, true, true, true, true, true, true, true, true, true, true, true, false, false] rfl rfl (one_of HT_.out (by kernel_rfl)) (by decide) (fun K hK => ?_)
                   refine box_step ?hg (N := 8) ?hd (cs := #[.string (⟨#[]⟩ : ByteArray), .slice none 0 0, .slice none 0 0, .slice none 0 0, .int .i64 0]) (t := 41) ?hr ?_; (case hd => rfl); (case hg => rfl); (case hr => first | (go_simp; done) | (go_simp; rfl))
                   intro gb397 hg w42 hbox hb
                   have n0_ := aM (kW BK390.out hb); have n1_ := aM (kW BK391.out hb); have n2_ := aM (kW BK396.out hb); have n3_ := aM (below_step (by repeat (first | (with_reducible first | exact HB.out | apply below_alloc | apply pw_below_drewN | apply below_drew1 | refine below_set ?_ GE390.out | refine below_set ?_ GE391.out | refine below_set ?_ GE396.out) | exact HB.out)) hb); have n4_ := aM (hbox); have n5_ := aM ((by rw [hg]; exact (below_size (by repeat (first | (with_reducible first | exact HB.out | apply below_alloc | apply pw_below_drewN | apply below_drew1 | refine below_set ?_ GE390.out | refine below_set ?_ GE391.out | refine below_set ?_ GE396.out) | exact HB.out))) : w.heap.size ≤ gb397)); have n6_ := aM ((by rw [hg]; exact (below_size (by repeat (first | (with_reducible first | exact HB.out | apply below_alloc | apply pw_below_drewN | apply below_drew1 | refine below_set ?_ GE390.out | refine below_set ?_ GE391.out | refine below_set ?_ GE396.out) | exact HB.out))) : w.heap.size ≤ gb397)); have n7_ := aM ((by rw [hg]; exact Nat.ne_of_lt (kL BK390.out) : gb390 ≠ gb397)); have n8_ := aM ((by rw [hg]; exact Nat.ne_of_gt (kL BK390.out) : gb397 ≠ gb390)); have n9_ := aM ((by rw [hg]; exact Nat.ne_of_lt (kL BK391.out) : gb391 ≠ gb397)); have n10_ := aM ((by rw [hg]; exact Nat.ne_of_gt (kL BK391.out) : gb397 ≠ gb391)); have n11_ := aM ((by rw [hg]; exact Nat.ne_of_lt (kL BK396.out) : gb396 ≠ gb397)); have n12_ := aM ((by rw [hg]; exact Nat.ne_of_gt (kL BK396.out) : gb397 ≠ gb396)); clear BK390; clear BK391; clear BK396; clear HB; have BK390 := n0_; have BK391 := n1_; have BK396 := n2_; have HB := n3_; have BK397 := n4_; have GW397 := n5_; have GE397 := n6_; have NB390_397 := n7_; have NB397_390 := n8_; have NB391_397 := n9_; have NB397_391 := n10_; have NB396_397 := n11_; have NB397_396 := n12_; clear n0_ n1_ n2_ n3_ n4_ n5_ n6_ n7_ n8_ n9_ n10_ n11_ n12_; clear hb hbox hg
                   refine hK.out _ _ ⟨(blk_cell BK390.out 0).trans rfl, (blk_cell BK390.out 1).trans rfl, (blk_cell BK390.out 2).trans rfl, (blk_cell BK391.out 0).trans rfl, (blk_cell BK391.out 1).trans rfl, (blk_cell BK391.out 2).trans rfl, ((HB.out.cell (World.block_lt_of_cell? w _ hw394_0)).trans hw394_0), ((HB.out.cell (World.block_lt_of_cell? w _ hw394_1)).trans hw394_1), ((HB.out.cell (World.block_lt_of_cell? w _ hw394_2)).trans hw394_2), ((HB.out.cell (World.block_lt_of_cell? w _ hw394_3)).trans hw394_3), ((HB.out.cell (World.block_lt_of_cell? w _ hw394_4)).trans hw394_4), ((HB.out.cell (World.block_lt_of_cell? w _ hw395_0)).trans hw395_0), ((HB.out.cell (World.block_lt_of_cell? w _ hw395_1)).trans hw395_1), ((HB.out.cell (World.block_lt_of_cell? w _ hw395_2)).trans hw395_2), ((HB.out.cell (World.block_lt_of_cell? w _ hw395_3)).trans hw395_3), ((HB.out.cell (World.block_lt_of_cell? w _ hw395_4)).trans hw395_4)⟩ (fun hHeld => ?_)
                   clear hK K
                   refine norm_ (a' := ?_) ?_ ?_
                   rotate_left
                   ·
                    show Act.put _ (some 8) _ = _
                    simp only [Act.put, List.setIfInBounds_toArray, List.set_cons_zero, List.set_cons_succ, i64_w, i32_w]
                    rfl
                   exact norm_ (by simp only [putAll, Act.put, List.setIfInBounds_toArray, List.set_cons_zero, List.set_cons_succ]) (hCont (gb396, gb397) _ ⟨hHeld, (kB BK390.out), (kB BK391.out), (kB BK396.out), (kB BK397.out), GW396.out, GE396.out, NB390_396.out, NB396_390.out, NB391_396.out, NB396_391.out, NB397_396.out, NB396_397.out, GW397.out, GE397.out, NB390_397.out, NB397_390.out, NB391_397.out, NB397_391.out, (by repeat (first | (with_reducible first | exact HB.out | apply below_alloc | apply pw_below_drewN | apply below_drew1 | refine below_set ?_ GE390.out | refine below_set ?_ GE391.out | refine below_set ?_ GE396.out | refine below_set ?_ GE397.out) | exact HB.out))⟩)
                  ·
                   skip
                   refine box_step ?hg (N := 8) ?hd (cs := #[.string (⟨#[]⟩ : ByteArray), .slice none 0 0, .slice none 0 0, .slice none 0 0, .int .i64 0]) (t := 41) ?hr ?_; (case hd => rfl); (case hg => rfl); (case hr => first | (go_simp; done) | (go_simp; rfl))
                   intro gb397 hg w41 hbox hb
                   have n0_ := aM (kW BK390.out hb); have n1_ := aM (kW BK391.out hb); have n2_ := aM (below_step (bB2 HB.out GE390.out GE391.out) hb); have n3_ := aM (hbox); have n4_ := aM ((by rw [hg]; exact (below_size (bB2 HB.out GE390.out GE391.out)) : w.heap.size ≤ gb397)); have n5_ := aM ((by rw [hg]; exact (below_size (bB2 HB.out GE390.out GE391.out)) : w.heap.size ≤ gb397)); have n6_ := aM ((by rw [hg]; exact Nat.ne_of_lt (kL BK390.out) : gb390 ≠ gb397)); have n7_ := aM ((by rw [hg]; exact Nat.ne_of_gt (kL BK390.out) : gb397 ≠ gb390)); have n8_ := aM ((by rw [hg]; exact Nat.ne_of_lt (kL BK391.out) : gb391 ≠ gb397)); have n9_ := aM ((by rw [hg]; exact Nat.ne_of_gt (kL BK391.out) : gb397 ≠ gb391)); clear BK390; clear BK391; clear HB; have BK390 := n0_; have BK391 := n1_; have HB := n2_; have BK397 := n3_; have GW397 := n4_; have GE397 := n5_; have NB390_397 := n6_; have NB397_390 := n7_; have NB391_397 := n8_; have NB397_391 := n9_; clear n0_ n1_ n2_ n3_ n4_ n5_ n6_ n7_ n8_ n9_; clear hb hbox hg
                   refine hK.out _ _ ⟨(blk_cell BK390.out 0).trans rfl, (blk_cell BK390.out 1).trans rfl, (blk_cell BK390.out 2).trans rfl, (blk_cell BK391.out 0).trans rfl, (blk_cell BK391.out 1).trans rfl, (blk_cell BK391.out 2).trans rfl, ((HB.out.cell (World.block_lt_of_cell? w _ hw394_0)).trans hw394_0), ((HB.out.cell (World.block_lt_of_cell? w _ hw394_1)).trans hw394_1), ((HB.out.cell (World.block_lt_of_cell? w _ hw394_2)).trans hw394_2), ((HB.out.cell (World.block_lt_of_cell? w _ hw394_3)).trans hw394_3), ((HB.out.cell (World.block_lt_of_cell? w _ hw394_4)).trans hw394_4), ((HB.out.cell (World.block_lt_of_cell? w _ hw395_0)).trans hw395_0), ((HB.out.cell (World.block_lt_of_cell? w _ hw395_1)).trans hw395_1), ((HB.out.cell (World.block_lt_of_cell? w _ hw395_2)).trans hw395_2), ((HB.out.cell (World.block_lt_of_cell? w _ hw395_3)).trans hw395_3), ((HB.out.cell (World.block_lt_of_cell? w _ hw395_4)).trans hw395_4)⟩ (fun hHeld => ?_)
                   clear hK K
                   refine norm_ (a' := ?_) ?_ ?_
                   rotate_left
                   ·
                    show Act.put _ (some 8) _ = _
                    simp only [Act.put, List.setIfInBounds_toArray, List.set_cons_zero, List.set_cons_succ, i64_w, i32_w]
                    rfl
                   refine one_ (i := 10) (N := some 7) #[true, true, true, true, true, true, true, true, true, true, true, true, false, false] rfl rfl (one_of HT_.out (by kernel_rfl)) (by decide) (fun K hK => ?_)
                   refine box_step ?hg (N := 7) ?hd (cs := #[.string (⟨#[]⟩ : ByteArray), .slice none 0 0, .slice none 0 0, .slice none 0 0, .int .i64 0]) (t := 41) ?hr ?_; (case hd => rfl); (case hg => rfl); (case hr => first | (go_simp; done) | (go_simp; rfl))
                   intro gb396 hg w42 hbox hb
                   have n0_ := aM (kW BK390.out hb); have n1_ := aM (kW BK391.out hb); have n2_ := aM (kW BK397.out hb); have n3_ := aM (below_step (by repeat (first | (with_reducible first | exact HB.out | apply below_alloc | apply pw_below_drewN | apply below_drew1 | refine below_set ?_ GE390.out | refine below_set ?_ GE391.out | refine below_set ?_ GE397.out) | exact HB.out)) hb); have n4_ := aM (hbox); have n5_ := aM ((by rw [hg]; exact (below_size (by repeat (first | (with_reducible first | exact HB.out | apply below_alloc | apply pw_below_drewN | apply below_drew1 | refine below_set ?_ GE390.out | refine below_set ?_ GE391.out | refine below_set ?_ GE397.out) | exact HB.out))) : w.heap.size ≤ gb396)); have n6_ := aM ((by rw [hg]; exact (below_size (by repeat (first | (with_reducible first | exact HB.out | apply below_alloc | apply pw_below_drewN | apply below_drew1 | refine below_set ?_ GE390.out | refine below_set ?_ GE391.out | refine below_set ?_ GE397.out) | exact HB.out))) : w.heap.size ≤ gb396)); have n7_ := aM ((by rw [hg]; exact Nat.ne_of_lt (kL BK390.out) : gb390 ≠ gb396)); have n8_ := aM ((by rw [hg]; exact Nat.ne_of_gt (kL BK390.out) : gb396 ≠ gb390)); have n9_ := aM ((by rw [hg]; exact Nat.ne_of_lt (kL BK391.out) : gb391 ≠ gb396)); have n10_ := aM ((by rw [hg]; exact Nat.ne_of_gt (kL BK391.out) : gb396 ≠ gb391)); have n11_ := aM ((by rw [hg]; exact Nat.ne_of_lt (kL BK397.out) : gb397 ≠ gb396)); have n12_ := aM ((by rw [hg]; exact Nat.ne_of_gt (kL BK397.out) : gb396 ≠ gb397)); clear BK390; clear BK391; clear BK397; clear HB; have BK390 := n0_; have BK391 := n1_; have BK397 := n2_; have HB := n3_; have BK396 := n4_; have GW396 := n5_; have GE396 := n6_; have NB390_396 := n7_; have NB396_390 := n8_; have NB391_396 := n9_; have NB396_391 := n10_; have NB397_396 := n11_; have NB396_397 := n12_; clear n0_ n1_ n2_ n3_ n4_ n5_ n6_ n7_ n8_ n9_ n10_ n11_ n12_; clear hb hbox hg
                   refine hK.out _ _ ⟨(blk_cell BK390.out 0).trans rfl, (blk_cell BK390.out 1).trans rfl, (blk_cell BK390.out 2).trans rfl, (blk_cell BK391.out 0).trans rfl, (blk_cell BK391.out 1).trans rfl, (blk_cell BK391.out 2).trans rfl, ((HB.out.cell (World.block_lt_of_cell? w _ hw394_0)).trans hw394_0), ((HB.out.cell (World.block_lt_of_cell? w _ hw394_1)).trans hw394_1), ((HB.out.cell (World.block_lt_of_cell? w _ hw394_2)).trans hw394_2), ((HB.out.cell (World.block_lt_of_cell? w _ hw394_3)).trans hw394_3), ((HB.out.cell (World.block_lt_of_cell? w _ hw394_4)).trans hw394_4), ((HB.out.cell (World.block_lt_of_cell? w _ hw395_0)).trans hw395_0), ((HB.out.cell (World.block_lt_of_cell? w _ hw395_1)).trans hw395_1), ((HB.out.cell (World.block_lt_of_cell? w _ hw395_2)).trans hw395_2), ((HB.out.cell (World.block_lt_of_cell? w _ hw395_3)).trans hw395_3), ((HB.out.cell (World.block_lt_of_cell? w _ hw395_4)).trans hw395_4)⟩ (fun hHeld => ?_)
                   clear hK K
                   refine norm_ (a' := ?_) ?_ ?_
                   rotate_left
                   ·
                    show Act.put _ (some 7) _ = _
                    simp only [Act.put, List.setIfInBounds_toArray, List.set_cons_zero, List.set_cons_succ, i64_w, i32_w]
                    rfl
                   exact norm_ (by simp only [putAll, Act.put, List.setIfInBounds_toArray, List.set_cons_zero, List.set_cons_succ]) (hCont (gb396, gb397) _ ⟨hHeld, (kB BK390.out), (kB BK391.out), (kB BK396.out), (kB BK397.out), GW396.out, GE396.out, NB390_396.out, NB396_390.out, NB391_396.out, NB396_391.out, NB397_396.out, NB396_397.out, GW397.out, GE397.out, NB390_397.out, NB397_390.out, NB391_397.out, NB397_391.out, (by repeat (first | (with_reducible first | exact HB.out | apply below_alloc | apply pw_below_drewN | apply below_drew1 | refine below_set ?_ GE390.out | refine below_set ?_ GE391.out | refine below_set ?_ GE397.out | refine below_set ?_ GE396.out) | exact HB.out))⟩)
                 rintro ⟨gb396, gb397⟩ w43 ⟨hS_, h0_, h1_, h2_, h3_, h4_, h5_, h6_, h7_, h8_, h9_, h10_, h11_, h12_, h13_, h14_, h15_, h16_, h17_, h18_⟩
                 have n0_ : Aside0 (w43.heap[gb390]? = some (.cells #[.string a0_0, .slice A0_1 l0_1.length c0_1, .slice (some ad394) l0_2.length c0_2] 28 (0, 0))) := ⟨h0_⟩; have n1_ : Aside0 (w43.heap[gb391]? = some (.cells #[.string a1_0, .slice A1_1 l1_1.length c1_1, .slice (some ad395) l1_2.length c1_2] 28 (0, 0))) := ⟨h1_⟩
                 have n2_ : Aside0 (w43.heap[gb396]? = some (.cells #[.string (⟨#[]⟩ : ByteArray), .slice none 0 0, .slice none 0 0, .slice none 0 0, .int .i64 0] 41 (0, 0))) := ⟨h2_⟩
                 have n3_ : Aside0 (w43.heap[gb397]? = some (.cells #[.string (⟨#[]⟩ : ByteArray), .slice none 0 0, .slice none 0 0, .slice none 0 0, .int .i64 0] 41 (0, 0))) := ⟨h3_⟩
                 have n4_ : Aside0 (w.heap.size ≤ gb396) := ⟨h4_⟩; have n5_ : Aside0 (w.heap.size ≤ gb396) := ⟨h5_⟩; have n6_ : Aside0 (gb390 ≠ gb396) := ⟨h6_⟩; have n7_ : Aside0 (gb396 ≠ gb390) := ⟨h7_⟩; have n8_ : Aside0 (gb391 ≠ gb396) := ⟨h8_⟩; have n9_ : Aside0 (gb396 ≠ gb391) := ⟨h9_⟩; have n10_ : Aside0 (gb397 ≠ gb396) := ⟨h10_⟩; have n11_ : Aside0 (gb396 ≠ gb397) := ⟨h11_⟩; have n12_ : Aside0 (w.heap.size ≤ gb397) := ⟨h12_⟩; have n13_ : Aside0 (w.heap.size ≤ gb397) := ⟨h13_⟩; have n14_ : Aside0 (gb390 ≠ gb397) := ⟨h14_⟩; have n15_ : Aside0 (gb397 ≠ gb390) := ⟨h15_⟩; have n16_ : Aside0 (gb391 ≠ gb397) := ⟨h16_⟩; have n17_ : Aside0 (gb397 ≠ gb391) := ⟨h17_⟩; have n18_ : Aside0 (Below w.heap.size w w43) := ⟨h18_⟩; clear BK390; clear BK391; clear HB; clear h0_ h1_ h2_ h3_ h4_ h5_ h6_ h7_ h8_ h9_ h10_ h11_ h12_ h13_ h14_ h15_ h16_ h17_ h18_; have BK390 := n0_; have BK391 := n1_; have BK396 := n2_; have BK397 := n3_; have GW396 := n4_; have GE396 := n5_; have NB390_396 := n6_; have NB396_390 := n7_; have NB391_396 := n8_; have NB396_391 := n9_; have NB397_396 := n10_; have NB396_397 := n11_; have GW397 := n12_; have GE397 := n13_; have NB390_397 := n14_; have NB397_390 := n15_; have NB391_397 := n16_; have NB397_391 := n17_; have HB := n18_; clear n0_ n1_ n2_ n3_ n4_ n5_ n6_ n7_ n8_ n9_ n10_ n11_ n12_ n13_ n14_ n15_ n16_ n17_ n18_
                 have hHeld : w43.cell? ⟨gb390, 0, none⟩ = some (.string a0_0) ∧ w43.cell? ⟨gb390, 1, none⟩ = some (.slice A0_1 l0_1.length c0_1) ∧ w43.cell? ⟨gb390, 2, none⟩ = some (.slice (some ad394) l0_2.length c0_2) ∧ w43.cell? ⟨gb391, 0, none⟩ = some (.string a1_0) ∧ w43.cell? ⟨gb391, 1, none⟩ = some (.slice A1_1 l1_1.length c1_1) ∧ w43.cell? ⟨gb391, 2, none⟩ = some (.slice (some ad395) l1_2.length c1_2) ∧ w43.cell? (ad394.add ((x6_3).toNat * 5)) = some (.string ((rd_T41 l0_2 x6_3).f0)) ∧ w43.cell? ⟨(ad394.add ((x6_3).toNat * 5)).block, (ad394.add ((x6_3).toNat * 5)).off + 1, none⟩ = some (.slice A394_1 ((rd_T41 l0_2 x6_3).f1).length c394_1) ∧ w43.cell? ⟨(ad394.add ((x6_3).toNat * 5)).block, (ad394.add ((x6_3).toNat * 5)).off + 2, none⟩ = some (.slice A394_2 ((rd_T41 l0_2 x6_3).f2).length c394_2) ∧ w43.cell? ⟨(ad394.add ((x6_3).toNat * 5)).block, (ad394.add ((x6_3).toNat * 5)).off + 3, none⟩ = some (.slice A394_3 ((rd_T41 l0_2 x6_3).f3).length c394_3) ∧ w43.cell? ⟨(ad394.add ((x6_3).toNat * 5)).block, (ad394.add ((x6_3).toNat * 5)).off + 4, none⟩ = some (.int .i64 ((rd_T41 l0_2 x6_3).f4)) ∧ w43.cell? (ad395.add ((x6_3).toNat * 5)) = some (.string ((rd_T41 l1_2 x6_3).f0)) ∧ w43.cell? ⟨(ad395.add ((x6_3).toNat * 5)).block, (ad395.add ((x6_3).toNat * 5)).off + 1, none⟩ = some (.slice A395_1 ((rd_T41 l1_2 x6_3).f1).length c395_1) ∧ w43.cell? ⟨(ad395.add ((x6_3).toNat * 5)).block, (ad395.add ((x6_3).toNat * 5)).off + 2, none⟩ = some (.slice A395_2 ((rd_T41 l1_2 x6_3).f2).length c395_2) ∧ w43.cell? ⟨(ad395.add ((x6_3).toNat * 5)).block, (ad395.add ((x6_3).toNat * 5)).off + 3, none⟩ = some (.slice A395_3 ((rd_T41 l1_2 x6_3).f3).length c395_3) ∧ w43.cell? ⟨(ad395.add ((x6_3).toNat * 5)).block, (ad395.add ((x6_3).toNat * 5)).off + 4, none⟩ = some (.int .i64 ((rd_T41 l1_2 x6_3).f4)) := hS_
                 refine norm_ (a' := ?_) ?_ ?_
                 rotate_left
                 ·
                  simp only [putAll, Act.put, List.setIfInBounds_toArray, List.set_cons_zero, List.set_cons_succ]
                  rfl
                 refine one_ (i := 12) (N := none) #[true, true, true, true, true, true, true, true, true, true, true, true, true, false] rfl rfl (one_of HT_.out (by kernel_rfl)) (by decide) (fun K hK => ?_)
                 have hs44 : w43.cell? ⟨gb396, 0, none⟩ = some (.string (⟨#[]⟩ : ByteArray)) := (blk_cell BK396.out 0).trans rfl
                 have hfs44 := blk_frozen BK396.out 0; have hns44_0 := NB390_396.out; have hns44_1 := NB391_396.out; have hns44_3 := NB397_396.out; have hms44_0 := NB396_390.out; have hms44_1 := NB396_391.out; have hms44_3 := NB396_397.out
                 have hs45 : w43.cell? ⟨gb396, 1, none⟩ = some (.slice none 0 0) := (blk_cell BK396.out 1).trans rfl
                 have hfs45 := blk_frozen BK396.out 1; have hns45_0 := NB390_396.out; have hns45_1 := NB391_396.out; have hns45_3 := NB397_396.out; have hms45_0 := NB396_390.out; have hms45_1 := NB396_391.out; have hms45_3 := NB396_397.out
                 have hs46 : w43.cell? ⟨gb396, 2, none⟩ = some (.slice none 0 0) := (blk_cell BK396.out 2).trans rfl
                 have hfs46 := blk_frozen BK396.out 2; have hns46_0 := NB390_396.out; have hns46_1 := NB391_396.out; have hns46_3 := NB397_396.out; have hms46_0 := NB396_390.out; have hms46_1 := NB396_391.out; have hms46_3 := NB396_397.out
                 have hs47 : w43.cell? ⟨gb396, 3, none⟩ = some (.slice none 0 0) := (blk_cell BK396.out 3).trans rfl
                 have hfs47 := blk_frozen BK396.out 3; have hns47_0 := NB390_396.out; have hns47_1 := NB391_396.out; have hns47_3 := NB397_396.out; have hms47_0 := NB396_390.out; have hms47_1 := NB396_391.out; have hms47_3 := NB396_397.out
                 have hs48 : w43.cell? ⟨gb396, 4, none⟩ = some (.int .i64 0) := (blk_cell BK396.out 4).trans rfl
                 have hfs48 := blk_frozen BK396.out 4; have hns48_0 := NB390_396.out; have hns48_1 := NB391_396.out; have hns48_3 := NB397_396.out; have hms48_0 := NB396_390.out; have hms48_1 := NB396_391.out; have hms48_3 := NB396_397.out
                 refine skip_ (w1 := ?_) (by rfl) rfl ?_ ?_
                 rotate_left
                 ·
                  go_simp
                  rfl
                 refine hK.out _ _ ⟨((cell_far (p := ⟨gb396, _, none⟩) NB390_396.out _).trans (((cell_far (p := ⟨gb396, _, none⟩) NB390_396.out _).trans (((cell_far (p := ⟨gb396, _, none⟩) NB390_396.out _).trans (((cell_far (p := ⟨gb396, _, none⟩) NB390_396.out _).trans (((cell_far (p := ⟨gb396, _, none⟩) NB390_396.out _).trans (hHeld.1)))))))))), ((cell_far (p := ⟨gb396, _, none⟩) NB390_396.out _).trans (((cell_far (p := ⟨gb396, _, none⟩) NB390_396.out _).trans (((cell_far (p := ⟨gb396, _, none⟩) NB390_396.out _).trans (((cell_far (p := ⟨gb396, _, none⟩) NB390_396.out _).trans (((cell_far (p := ⟨gb396, _, none⟩) NB390_396.out _).trans (hHeld.2.1)))))))))), ((cell_far (p := ⟨gb396, _, none⟩) NB390_396.out _).trans (((cell_far (p := ⟨gb396, _, none⟩) NB390_396.out _).trans (((cell_far (p := ⟨gb396, _, none⟩) NB390_396.out _).trans (((cell_far (p := ⟨gb396, _, none⟩) NB390_396.out _).trans (((cell_far (p := ⟨gb396, _, none⟩) NB390_396.out _).trans (hHeld.2.2.1)))))))))), ((cell_far (p := ⟨gb396, _, none⟩) NB391_396.out _).trans (((cell_far (p := ⟨gb396, _, none⟩) NB391_396.out _).trans (((cell_far (p := ⟨gb396, _, none⟩) NB391_396.out _).trans (((cell_far (p := ⟨gb396, _, none⟩) NB391_396.out _).trans (((cell_far (p := ⟨gb396, _, none⟩) NB391_396.out _).trans (hHeld.2.2.2.1)))))))))), ((cell_far (p := ⟨gb396, _, none⟩) NB391_396.out _).trans (((cell_far (p := ⟨gb396, _, none⟩) NB391_396.out _).trans (((cell_far (p := ⟨gb396, _, none⟩) NB391_396.out _).trans (((cell_far (p := ⟨gb396, _, none⟩) NB391_396.out _).trans (((cell_far (p := ⟨gb396, _, none⟩) NB391_396.out _).trans (hHeld.2.2.2.2.1)))))))))), ((cell_far (p := ⟨gb396, _, none⟩) NB391_396.out _).trans (((cell_far (p := ⟨gb396, _, none⟩) NB391_396.out _).trans (((cell_far (p := ⟨gb396, _, none⟩) NB391_396.out _).trans (((cell_far (p := ⟨gb396, _, none⟩) NB391_396.out _).trans (((cell_far (p := ⟨gb396, _, none⟩) NB391_396.out _).trans (hHeld.2.2.2.2.2.1)))))))))), ((cell_far (p := ⟨gb396, _, none⟩) (by first | exact Nat.ne_of_lt (Nat.lt_of_lt_of_le (by have := World.block_lt_of_cell? _ _ hw394_0; first | rwa [add_block] at this | exact this) GW396.out) | (rw [add_block]; exact Nat.ne_of_lt (Nat.lt_of_lt_of_le (by have := World.block_lt_of_cell? _ _ hw394_0; first | rwa [add_block] at this | exact this) GW396.out)) | (show (Addr.add _ _).block ≠ _; rw [add_block]; exact Nat.ne_of_lt (Nat.lt_of_lt_of_le (by have := World.block_lt_of_cell? _ _ hw394_0; first | rwa [add_block] at this | exact this) GW396.out)) | (dsimp only; exact Nat.ne_of_lt (Nat.lt_of_lt_of_le (by have := World.block_lt_of_cell? _ _ hw394_0; first | rwa [add_block] at this | exact this) GW396.out))) _).trans (((cell_far (p := ⟨gb396, _, none⟩) (by first | exact Nat.ne_of_lt (Nat.lt_of_lt_of_le (by have := World.block_lt_of_cell? _ _ hw394_0; first | rwa [add_block] at this | exact this) GW396.out) | (rw [add_block]; exact Nat.ne_of_lt (Nat.lt_of_lt_of_le (by have := World.block_lt_of_cell? _ _ hw394_0; first | rwa [add_block] at this | exact this) GW396.out)) | (show (Addr.add _ _).block ≠ _; rw [add_block]; exact Nat.ne_of_lt (Nat.lt_of_lt_of_le (by have := World.block_lt_of_cell? _ _ hw394_0; first | rwa [add_block] at this | exact this) GW396.out)) | (dsimp only; exact Nat.ne_of_lt (Nat.lt_of_lt_of_le (by have := World.block_lt_of_cell? _ _ hw394_0; first | rwa [add_block] at this | exact this) GW396.out))) _).trans (((cell_far (p := ⟨gb396, _, none⟩) (by first | exact Nat.ne_of_lt (Nat.lt_of_lt_of_le (by have := World.block_lt_of_cell? _ _ hw394_0; first | rwa [add_block] at this | exact this) GW396.out) | (rw [add_block]; exact Nat.ne_of_lt (Nat.lt_of_lt_of_le (by have := World.block_lt_of_cell? _ _ hw394_0; first | rwa [add_block] at this | exact this) GW396.out)) | (show (Addr.add _ _).block ≠ _; rw [add_block]; exact Nat.ne_of_lt (Nat.lt_of_lt_of_le (by have := World.block_lt_of_cell? _ _ hw394_0; first | rwa [add_block] at this | exact this) GW396.out)) | (dsimp only; exact Nat.ne_of_lt (Nat.lt_of_lt_of_le (by have := World.block_lt_of_cell? _ _ hw394_0; first | rwa [add_block] at this | exact this) GW396.out))) _).trans (((cell_far (p := ⟨gb396, _, none⟩) (by first | exact Nat.ne_of_lt (Nat.lt_of_lt_of_le (by have := World.block_lt_of_cell? _ _ hw394_0; first | rwa [add_block] at this | exact this) GW396.out) | (rw [add_block]; exact Nat.ne_of_lt (Nat.lt_of_lt_of_le (by have := World.block_lt_of_cell? _ _ hw394_0; first | rwa [add_block] at this | exact this) GW396.out)) | (show (Addr.add _ _).block ≠ _; rw [add_block]; exact Nat.ne_of_lt (Nat.lt_of_lt_of_le (by have := World.block_lt_of_cell? _ _ hw394_0; first | rwa [add_block] at this | exact this) GW396.out)) | (dsimp only; exact Nat.ne_of_lt (Nat.lt_of_lt_of_le (by have := World.block_lt_of_cell? _ _ hw394_0; first | rwa [add_block] at this | exact this) GW396.out))) _).trans (((cell_far (p := ⟨gb396, _, none⟩) (by first | exact Nat.ne_of_lt (Nat.lt_of_lt_of_le (by have := World.block_lt_of_cell? _ _ hw394_0; first | rwa [add_block] at this | exact this) GW396.out) | (rw [add_block]; exact Nat.ne_of_lt (Nat.lt_of_lt_of_le (by have := World.block_lt_of_cell? _ _ hw394_0; first | rwa [add_block] at this | exact this) GW396.out)) | (show (Addr.add _ _).block ≠ _; rw [add_block]; exact Nat.ne_of_lt (Nat.lt_of_lt_of_le (by have := World.block_lt_of_cell? _ _ hw394_0; first | rwa [add_block] at this | exact this) GW396.out)) | (dsimp only; exact Nat.ne_of_lt (Nat.lt_of_lt_of_le (by have := World.block_lt_of_cell? _ _ hw394_0; first | rwa [add_block] at this | exact this) GW396.out))) _).trans (hHeld.2.2.2.2.2.2.1)))))))))), ((cell_far (p := ⟨gb396, _, none⟩) (by first | exact Nat.ne_of_lt (Nat.lt_of_lt_of_le (by have := World.block_lt_of_cell? _ _ hw394_1; first | rwa [add_block] at this | exact this) GW396.out) | (rw [add_block]; exact Nat.ne_of_lt (Nat.lt_of_lt_of_le (by have := World.block_lt_of_cell? _ _ hw394_1; first | rwa [add_block] at this | exact this) GW396.out)) | (show (Addr.add _ _).block ≠ _; rw [add_block]; exact Nat.ne_of_lt (Nat.lt_of_lt_of_le (by have := World.block_lt_of_cell? _ _ hw394_1; first | rwa [add_block] at this | exact this) GW396.out)) | (dsimp only; exact Nat.ne_of_lt (Nat.lt_of_lt_of_le (by have := World.block_lt_of_cell? _ _ hw394_1; first | rwa [add_block] at this | exact this) GW396.out))) _).trans (((cell_far (p := ⟨gb396, _, none⟩) (by first | exact Nat.ne_of_lt (Nat.lt_of_lt_of_le (by have := World.block_lt_of_cell? _ _ hw394_1; first | rwa [add_block] at this | exact this) GW396.out) | (rw [add_block]; exact Nat.ne_of_lt (Nat.lt_of_lt_of_le (by have := World.block_lt_of_cell? _ _ hw394_1; first | rwa [add_block] at this | exact this) GW396.out)) | (show (Addr.add _ _).block ≠ _; rw [add_block]; exact Nat.ne_of_lt (Nat.lt_of_lt_of_le (by have := World.block_lt_of_cell? _ _ hw394_1; first | rwa [add_block] at this | exact this) GW396.out)) | (dsimp only; exact Nat.ne_of_lt (Nat.lt_of_lt_of_le (by have := World.block_lt_of_cell? _ _ hw394_1; first | rwa [add_block] at this | exact this) GW396.out))) _).trans (((cell_far (p := ⟨gb396, _, none⟩) (by first | exact Nat.ne_of_lt (Nat.lt_of_lt_of_le (by have := World.block_lt_of_cell? _ _ hw394_1; first | rwa [add_block] at this | exact this) GW396.out) | (rw [add_block]; exact Nat.ne_of_lt (Nat.lt_of_lt_of_le (by have := World.block_lt_of_cell? _ _ hw394_1; first | rwa [add_block] at this | exact this) GW396.out)) | (show (Addr.add _ _).block ≠ _; rw [add_block]; exact Nat.ne_of_lt (Nat.lt_of_lt_of_le (by have := World.block_lt_of_cell? _ _ hw394_1; first | rwa [add_block] at this | exact this) GW396.out)) | (dsimp only; exact Nat.ne_of_lt (Nat.lt_of_lt_of_le (by have := World.block_lt_of_cell? _ _ hw394_1; first | rwa [add_block] at this | exact this) GW396.out))) _).trans (((cell_far (p := ⟨gb396, _, none⟩) (by first | exact Nat.ne_of_lt (Nat.lt_of_lt_of_le (by have := World.block_lt_of_cell? _ _ hw394_1; first | rwa [add_block] at this | exact this) GW396.out) | (rw [add_block]; exact Nat.ne_of_lt (Nat.lt_of_lt_of_le (by have := World.block_lt_of_cell? _ _ hw394_1; first | rwa [add_block] at this | exact this) GW396.out)) | (show (Addr.add _ _).block ≠ _; rw [add_block]; exact Nat.ne_of_lt (Nat.lt_of_lt_of_le (by have := World.block_lt_of_cell? _ _ hw394_1; first | rwa [add_block] at this | exact this) GW396.out)) | (dsimp only; exact Nat.ne_of_lt (Nat.lt_of_lt_of_le (by have := World.block_lt_of_cell? _ _ hw394_1; first | rwa [add_block] at this | exact this) GW396.out))) _).trans (((cell_far (p := ⟨gb396, _, none⟩) (by first | exact Nat.ne_of_lt (Nat.lt_of_lt_of_le (by have := World.block_lt_of_cell? _ _ hw394_1; first | rwa [add_block] at this | exact this) GW396.out) | (rw [add_block]; exact Nat.ne_of_lt (Nat.lt_of_lt_of_le (by have := World.block_lt_of_cell? _ _ hw394_1; first | rwa [add_block] at this | exact this) GW396.out)) | (show (Addr.add _ _).block ≠ _; rw [add_block]; exact Nat.ne_of_lt (Nat.lt_of_lt_of_le (by have := World.block_lt_of_cell? _ _ hw394_1; first | rwa [add_block] at this | exact this) GW396.out)) | (dsimp only; exact Nat.ne_of_lt (Nat.lt_of_lt_of_le (by have := World.block_lt_of_cell? _ _ hw394_1; first | rwa [add_block] at this | exact this) GW396.out))) _).trans (hHeld.2.2.2.2.2.2.2.1)))))))))), ((cell_far (p := ⟨gb396, _, none⟩) (by first | exact Nat.ne_of_lt (Nat.lt_of_lt_of_le (by have := World.block_lt_of_cell? _ _ hw394_2; first | rwa [add_block] at this | exact this) GW396.out) | (rw [add_block]; exact Nat.ne_of_lt (Nat.lt_of_lt_of_le (by have := World.block_lt_of_cell? _ _ hw394_2; first | rwa [add_block] at this | exact this) GW396.out)) | (show (Addr.add _ _).block ≠ _; rw [add_block]; exact Nat.ne_of_lt (Nat.lt_of_lt_of_le (by have := World.block_lt_of_cell? _ _ hw394_2; first | rwa [add_block] at this | exact this) GW396.out)) | (dsimp only; exact Nat.ne_of_lt (Nat.lt_of_lt_of_le (by have := World.block_lt_of_cell? _ _ hw394_2; first | rwa [add_block] at this | exact this) GW396.out))) _).trans (((cell_far (p := ⟨gb396, _, none⟩) (by first | exact Nat.ne_of_lt (Nat.lt_of_lt_of_le (by have := World.block_lt_of_cell? _ _ hw394_2; first | rwa [add_block] at this | exact this) GW396.out) | (rw [add_block]; exact Nat.ne_of_lt (Nat.lt_of_lt_of_le (by have := World.block_lt_of_cell? _ _ hw394_2; first | rwa [add_block] at this | exact this) GW396.out)) | (show (Addr.add _ _).block ≠ _; rw [add_block]; exact Nat.ne_of_lt (Nat.lt_of_lt_of_le (by have := World.block_lt_of_cell? _ _ hw394_2; first | rwa [add_block] at this | exact this) GW396.out)) | (dsimp only; exact Nat.ne_of_lt (Nat.lt_of_lt_of_le (by have := World.block_lt_of_cell? _ _ hw394_2; first | rwa [add_block] at this | exact this) GW396.out))) _).trans (((cell_far (p := ⟨gb396, _, none⟩) (by first | exact Nat.ne_of_lt (Nat.lt_of_lt_of_le (by have := World.block_lt_of_cell? _ _ hw394_2; first | rwa [add_block] at this | exact this) GW396.out) | (rw [add_block]; exact Nat.ne_of_lt (Nat.lt_of_lt_of_le (by have := World.block_lt_of_cell? _ _ hw394_2; first | rwa [add_block] at this | exact this) GW396.out)) | (show (Addr.add _ _).block ≠ _; rw [add_block]; exact Nat.ne_of_lt (Nat.lt_of_lt_of_le (by have := World.block_lt_of_cell? _ _ hw394_2; first | rwa [add_block] at this | exact this) GW396.out)) | (dsimp only; exact Nat.ne_of_lt (Nat.lt_of_lt_of_le (by have := World.block_lt_of_cell? _ _ hw394_2; first | rwa [add_block] at this | exact this) GW396.out))) _).trans (((cell_far (p := ⟨gb396, _, none⟩) (by first | exact Nat.ne_of_lt (Nat.lt_of_lt_of_le (by have := World.block_lt_of_cell? _ _ hw394_2; first | rwa [add_block] at this | exact this) GW396.out) | (rw [add_block]; exact Nat.ne_of_lt (Nat.lt_of_lt_of_le (by have := World.block_lt_of_cell? _ _ hw394_2; first | rwa [add_block] at this | exact this) GW396.out)) | (show (Addr.add _ _).block ≠ _; rw [add_block]; exact Nat.ne_of_lt (Nat.lt_of_lt_of_le (by have := World.block_lt_of_cell? _ _ hw394_2; first | rwa [add_block] at this | exact this) GW396.out)) | (dsimp only; exact Nat.ne_of_lt (Nat.lt_of_lt_of_le (by have := World.block_lt_of_cell? _ _ hw394_2; first | rwa [add_block] at this | exact this) GW396.out))) _).trans (((cell_far (p := ⟨gb396, _, none⟩) (by first | exact Nat.ne_of_lt (Nat.lt_of_lt_of_le (by have := World.block_lt_of_cell? _ _ hw394_2; first | rwa [add_block] at this | exact this) GW396.out) | (rw [add_block]; exact Nat.ne_of_lt (Nat.lt_of_lt_of_le (by have := World.block_lt_of_cell? _ _ hw394_2; first | rwa [add_block] at this | exact this) GW396.out)) | (show (Addr.add _ _).block ≠ _; rw [add_block]; exact Nat.ne_of_lt (Nat.lt_of_lt_of_le (by have := World.block_lt_of_cell? _ _ hw394_2; first | rwa [add_block] at this | exact this) GW396.out)) | (dsimp only; exact Nat.ne_of_lt (Nat.lt_of_lt_of_le (by have := World.block_lt_of_cell? _ _ hw394_2; first | rwa [add_block] at this | exact this) GW396.out))) _).trans (hHeld.2.2.2.2.2.2.2.2.1)))))))))), ((cell_far (p := ⟨gb396, _, none⟩) (by first | exact Nat.ne_of_lt (Nat.lt_of_lt_of_le (by have := World.block_lt_of_cell? _ _ hw394_3; first | rwa [add_block] at this | exact this) GW396.out) | (rw [add_block]; exact Nat.ne_of_lt (Nat.lt_of_lt_of_le (by have := World.block_lt_of_cell? _ _ hw394_3; first | rwa [add_block] at this | exact this) GW396.out)) | (show (Addr.add _ _).block ≠ _; rw [add_block]; exact Nat.ne_of_lt (Nat.lt_of_lt_of_le (by have := World.block_lt_of_cell? _ _ hw394_3; first | rwa [add_block] at this | exact this) GW396.out)) | (dsimp only; exact Nat.ne_of_lt (Nat.lt_of_lt_of_le (by have := World.block_lt_of_cell? _ _ hw394_3; first | rwa [add_block] at this | exact this) GW396.out))) _).trans (((cell_far (p := ⟨gb396, _, none⟩) (by first | exact Nat.ne_of_lt (Nat.lt_of_lt_of_le (by have := World.block_lt_of_cell? _ _ hw394_3; first | rwa [add_block] at this | exact this) GW396.out) | (rw [add_block]; exact Nat.ne_of_lt (Nat.lt_of_lt_of_le (by have := World.block_lt_of_cell? _ _ hw394_3; first | rwa [add_block] at this | exact this) GW396.out)) | (show (Addr.add _ _).block ≠ _; rw [add_block]; exact Nat.ne_of_lt (Nat.lt_of_lt_of_le (by have := World.block_lt_of_cell? _ _ hw394_3; first | rwa [add_block] at this | exact this) GW396.out)) | (dsimp only; exact Nat.ne_of_lt (Nat.lt_of_lt_of_le (by have := World.block_lt_of_cell? _ _ hw394_3; first | rwa [add_block] at this | exact this) GW396.out))) _).trans (((cell_far (p := ⟨gb396, _, none⟩) (by first | exact Nat.ne_of_lt (Nat.lt_of_lt_of_le (by have := World.block_lt_of_cell? _ _ hw394_3; first | rwa [add_block] at this | exact this) GW396.out) | (rw [add_block]; exact Nat.ne_of_lt (Nat.lt_of_lt_of_le (by have := World.block_lt_of_cell? _ _ hw394_3; first | rwa [add_block] at this | exact this) GW396.out)) | (show (Addr.add _ _).block ≠ _; rw [add_block]; exact Nat.ne_of_lt (Nat.lt_of_lt_of_le (by have := World.block_lt_of_cell? _ _ hw394_3; first | rwa [add_block] at this | exact this) GW396.out)) | (dsimp only; exact Nat.ne_of_lt (Nat.lt_of_lt_of_le (by have := World.block_lt_of_cell? _ _ hw394_3; first | rwa [add_block] at this | exact this) GW396.out))) _).trans (((cell_far (p := ⟨gb396, _, none⟩) (by first | exact Nat.ne_of_lt (Nat.lt_of_lt_of_le (by have := World.block_lt_of_cell? _ _ hw394_3; first | rwa [add_block] at this | exact this) GW396.out) | (rw [add_block]; exact Nat.ne_of_lt (Nat.lt_of_lt_of_le (by have := World.block_lt_of_cell? _ _ hw394_3; first | rwa [add_block] at this | exact this) GW396.out)) | (show (Addr.add _ _).block ≠ _; rw [add_block]; exact Nat.ne_of_lt (Nat.lt_of_lt_of_le (by have := World.block_lt_of_cell? _ _ hw394_3; first | rwa [add_block] at this | exact this) GW396.out)) | (dsimp only; exact Nat.ne_of_lt (Nat.lt_of_lt_of_le (by have := World.block_lt_of_cell? _ _ hw394_3; first | rwa [add_block] at this | exact this) GW396.out))) _).trans (((cell_far (p := ⟨gb396, _, none⟩) (by first | exact Nat.ne_of_lt (Nat.lt_of_lt_of_le (by have := World.block_lt_of_cell? _ _ hw394_3; first | rwa [add_block] at this | exact this) GW396.out) | (rw [add_block]; exact Nat.ne_of_lt (Nat.lt_of_lt_of_le (by have := World.block_lt_of_cell? _ _ hw394_3; first | rwa [add_block] at this | exact this) GW396.out)) | (show (Addr.add _ _).block ≠ _; rw [add_block]; exact Nat.ne_of_lt (Nat.lt_of_lt_of_le (by have := World.block_lt_of_cell? _ _ hw394_3; first | rwa [add_block] at this | exact this) GW396.out)) | (dsimp only; exact Nat.ne_of_lt (Nat.lt_of_lt_of_le (by have := World.block_lt_of_cell? _ _ hw394_3; first | rwa [add_block] at this | exact this) GW396.out))) _).trans (hHeld.2.2.2.2.2.2.2.2.2.1)))))))))), ((cell_far (p := ⟨gb396, _, none⟩) (by first | exact Nat.ne_of_lt (Nat.lt_of_lt_of_le (by have := World.block_lt_of_cell? _ _ hw394_4; first | rwa [add_block] at this | exact this) GW396.out) | (rw [add_block]; exact Nat.ne_of_lt (Nat.lt_of_lt_of_le (by have := World.block_lt_of_cell? _ _ hw394_4; first | rwa [add_block] at this | exact this) GW396.out)) | (show (Addr.add _ _).block ≠ _; rw [add_block]; exact Nat.ne_of_lt (Nat.lt_of_lt_of_le (by have := World.block_lt_of_cell? _ _ hw394_4; first | rwa [add_block] at this | exact this) GW396.out)) | (dsimp only; exact Nat.ne_of_lt (Nat.lt_of_lt_of_le (by have := World.block_lt_of_cell? _ _ hw394_4; first | rwa [add_block] at this | exact this) GW396.out))) _).trans (((cell_far (p := ⟨gb396, _, none⟩) (by first | exact Nat.ne_of_lt (Nat.lt_of_lt_of_le (by have := World.block_lt_of_cell? _ _ hw394_4; first | rwa [add_block] at this | exact this) GW396.out) | (rw [add_block]; exact Nat.ne_of_lt (Nat.lt_of_lt_of_le (by have := World.block_lt_of_cell? _ _ hw394_4; first | rwa [add_block] at this | exact this) GW396.out)) | (show (Addr.add _ _).block ≠ _; rw [add_block]; exact Nat.ne_of_lt (Nat.lt_of_lt_of_le (by have := World.block_lt_of_cell? _ _ hw394_4; first | rwa [add_block] at this | exact this) GW396.out)) | (dsimp only; exact Nat.ne_of_lt (Nat.lt_of_lt_of_le (by have := World.block_lt_of_cell? _ _ hw394_4; first | rwa [add_block] at this | exact this) GW396.out))) _).trans (((cell_far (p := ⟨gb396, _, none⟩) (by first | exact Nat.ne_of_lt (Nat.lt_of_lt_of_le (by have := World.block_lt_of_cell? _ _ hw394_4; first | rwa [add_block] at this | exact this) GW396.out) | (rw [add_block]; exact Nat.ne_of_lt (Nat.lt_of_lt_of_le (by have := World.block_lt_of_cell? _ _ hw394_4; first | rwa [add_block] at this | exact this) GW396.out)) | (show (Addr.add _ _).block ≠ _; rw [add_block]; exact Nat.ne_of_lt (Nat.lt_of_lt_of_le (by have := World.block_lt_of_cell? _ _ hw394_4; first | rwa [add_block] at this | exact this) GW396.out)) | (dsimp only; exact Nat.ne_of_lt (Nat.lt_of_lt_of_le (by have := World.block_lt_of_cell? _ _ hw394_4; first | rwa [add_block] at this | exact this) GW396.out))) _).trans (((cell_far (p := ⟨gb396, _, none⟩) (by first | exact Nat.ne_of_lt (Nat.lt_of_lt_of_le (by have := World.block_lt_of_cell? _ _ hw394_4; first | rwa [add_block] at this | exact this) GW396.out) | (rw [add_block]; exact Nat.ne_of_lt (Nat.lt_of_lt_of_le (by have := World.block_lt_of_cell? _ _ hw394_4; first | rwa [add_block] at this | exact this) GW396.out)) | (show (Addr.add _ _).block ≠ _; rw [add_block]; exact Nat.ne_of_lt (Nat.lt_of_lt_of_le (by have := World.block_lt_of_cell? _ _ hw394_4; first | rwa [add_block] at this | exact this) GW396.out)) | (dsimp only; exact Nat.ne_of_lt (Nat.lt_of_lt_of_le (by have := World.block_lt_of_cell? _ _ hw394_4; first | rwa [add_block] at this | exact this) GW396.out))) _).trans (((cell_far (p := ⟨gb396, _, none⟩) (by first | exact Nat.ne_of_lt (Nat.lt_of_lt_of_le (by have := World.block_lt_of_cell? _ _ hw394_4; first | rwa [add_block] at this | exact this) GW396.out) | (rw [add_block]; exact Nat.ne_of_lt (Nat.lt_of_lt_of_le (by have := World.block_lt_of_cell? _ _ hw394_4; first | rwa [add_block] at this | exact this) GW396.out)) | (show (Addr.add _ _).block ≠ _; rw [add_block]; exact Nat.ne_of_lt (Nat.lt_of_lt_of_le (by have := World.block_lt_of_cell? _ _ hw394_4; first | rwa [add_block] at this | exact this) GW396.out)) | (dsimp only; exact Nat.ne_of_lt (Nat.lt_of_lt_of_le (by have := World.block_lt_of_cell? _ _ hw394_4; first | rwa [add_block] at this | exact this) GW396.out))) _).trans (hHeld.2.2.2.2.2.2.2.2.2.2.1)))))))))), ((cell_far (p := ⟨gb396, _, none⟩) (by first | exact Nat.ne_of_lt (Nat.lt_of_lt_of_le (by have := World.block_lt_of_cell? _ _ hw395_0; first | rwa [add_block] at this | exact this) GW396.out) | (rw [add_block]; exact Nat.ne_of_lt (Nat.lt_of_lt_of_le (by have := World.block_lt_of_cell? _ _ hw395_0; first | rwa [add_block] at this | exact this) GW396.out)) | (show (Addr.add _ _).block ≠ _; rw [add_block]; exact Nat.ne_of_lt (Nat.lt_of_lt_of_le (by have := World.block_lt_of_cell? _ _ hw395_0; first | rwa [add_block] at this | exact this) GW396.out)) | (dsimp only; exact Nat.ne_of_lt (Nat.lt_of_lt_of_le (by have := World.block_lt_of_cell? _ _ hw395_0; first | rwa [add_block] at this | exact this) GW396.out))) _).trans (((cell_far (p := ⟨gb396, _, none⟩) (by first | exact Nat.ne_of_lt (Nat.lt_of_lt_of_le (by have := World.block_lt_of_cell? _ _ hw395_0; first | rwa [add_block] at this | exact this) GW396.out) | (rw [add_block]; exact Nat.ne_of_lt (Nat.lt_of_lt_of_le (by have := World.block_lt_of_cell? _ _ hw395_0; first | rwa [add_block] at this | exact this) GW396.out)) | (show (Addr.add _ _).block ≠ _; rw [add_block]; exact Nat.ne_of_lt (Nat.lt_of_lt_of_le (by have := World.block_lt_of_cell? _ _ hw395_0; first | rwa [add_block] at this | exact this) GW396.out)) | (dsimp only; exact Nat.ne_of_lt (Nat.lt_of_lt_of_le (by have := World.block_lt_of_cell? _ _ hw395_0; first | rwa [add_block] at this | exact this) GW396.out))) _).trans (((cell_far (p := ⟨gb396, _, none⟩) (by first | exact Nat.ne_of_lt (Nat.lt_of_lt_of_le (by have := World.block_lt_of_cell? _ _ hw395_0; first | rwa [add_block] at this | exact this) GW396.out) | (rw [add_block]; exact Nat.ne_of_lt (Nat.lt_of_lt_of_le (by have := World.block_lt_of_cell? _ _ hw395_0; first | rwa [add_block] at this | exact this) GW396.out)) | (show (Addr.add _ _).block ≠ _; rw [add_block]; exact Nat.ne_of_lt (Nat.lt_of_lt_of_le (by have := World.block_lt_of_cell? _ _ hw395_0; first | rwa [add_block] at this | exact this) GW396.out)) | (dsimp only; exact Nat.ne_of_lt (Nat.lt_of_lt_of_le (by have := World.block_lt_of_cell? _ _ hw395_0; first | rwa [add_block] at this | exact this) GW396.out))) _).trans (((cell_far (p := ⟨gb396, _, none⟩) (by first | exact Nat.ne_of_lt (Nat.lt_of_lt_of_le (by have := World.block_lt_of_cell? _ _ hw395_0; first | rwa [add_block] at this | exact this) GW396.out) | (rw [add_block]; exact Nat.ne_of_lt (Nat.lt_of_lt_of_le (by have := World.block_lt_of_cell? _ _ hw395_0; first | rwa [add_block] at this | exact this) GW396.out)) | (show (Addr.add _ _).block ≠ _; rw [add_block]; exact Nat.ne_of_lt (Nat.lt_of_lt_of_le (by have := World.block_lt_of_cell? _ _ hw395_0; first | rwa [add_block] at this | exact this) GW396.out)) | (dsimp only; exact Nat.ne_of_lt (Nat.lt_of_lt_of_le (by have := World.block_lt_of_cell? _ _ hw395_0; first | rwa [add_block] at this | exact this) GW396.out))) _).trans (((cell_far (p := ⟨gb396, _, none⟩) (by first | exact Nat.ne_of_lt (Nat.lt_of_lt_of_le (by have := World.block_lt_of_cell? _ _ hw395_0; first | rwa [add_block] at this | exact this) GW396.out) | (rw [add_block]; exact Nat.ne_of_lt (Nat.lt_of_lt_of_le (by have := World.block_lt_of_cell? _ _ hw395_0; first | rwa [add_block] at this | exact this) GW396.out)) | (show (Addr.add _ _).block ≠ _; rw [add_block]; exact Nat.ne_of_lt (Nat.lt_of_lt_of_le (by have := World.block_lt_of_cell? _ _ hw395_0; first | rwa [add_block] at this | exact this) GW396.out)) | (dsimp only; exact Nat.ne_of_lt (Nat.lt_of_lt_of_le (by have := World.block_lt_of_cell? _ _ hw395_0; first | rwa [add_block] at this | exact this) GW396.out))) _).trans (hHeld.2.2.2.2.2.2.2.2.2.2.2.1)))))))))), ((cell_far (p := ⟨gb396, _, none⟩) (by first | exact Nat.ne_of_lt (Nat.lt_of_lt_of_le (by have := World.block_lt_of_cell? _ _ hw395_1; first | rwa [add_block] at this | exact this) GW396.out) | (rw [add_block]; exact Nat.ne_of_lt (Nat.lt_of_lt_of_le (by have := World.block_lt_of_cell? _ _ hw395_1; first | rwa [add_block] at this | exact this) GW396.out)) | (show (Addr.add _ _).block ≠ _; rw [add_block]; exact Nat.ne_of_lt (Nat.lt_of_lt_of_le (by have := World.block_lt_of_cell? _ _ hw395_1; first | rwa [add_block] at this | exact this) GW396.out)) | (dsimp only; exact Nat.ne_of_lt (Nat.lt_of_lt_of_le (by have := World.block_lt_of_cell? _ _ hw395_1; first | rwa [add_block] at this | exact this) GW396.out))) _).trans (((cell_far (p := ⟨gb396, _, none⟩) (by first | exact Nat.ne_of_lt (Nat.lt_of_lt_of_le (by have := World.block_lt_of_cell? _ _ hw395_1; first | rwa [add_block] at this | exact this) GW396.out) | (rw [add_block]; exact Nat.ne_of_lt (Nat.lt_of_lt_of_le (by have := World.block_lt_of_cell? _ _ hw395_1; first | rwa [add_block] at this | exact this) GW396.out)) | (show (Addr.add _ _).block ≠ _; rw [add_block]; exact Nat.ne_of_lt (Nat.lt_of_lt_of_le (by have := World.block_lt_of_cell? _ _ hw395_1; first | rwa [add_block] at this | exact this) GW396.out)) | (dsimp only; exact Nat.ne_of_lt (Nat.lt_of_lt_of_le (by have := World.block_lt_of_cell? _ _ hw395_1; first | rwa [add_block] at this | exact this) GW396.out))) _).trans (((cell_far (p := ⟨gb396, _, none⟩) (by first | exact Nat.ne_of_lt (Nat.lt_of_lt_of_le (by have := World.block_lt_of_cell? _ _ hw395_1; first | rwa [add_block] at this | exact this) GW396.out) | (rw [add_block]; exact Nat.ne_of_lt (Nat.lt_of_lt_of_le (by have := World.block_lt_of_cell? _ _ hw395_1; first | rwa [add_block] at this | exact this) GW396.out)) | (show (Addr.add _ _).block ≠ _; rw [add_block]; exact Nat.ne_of_lt (Nat.lt_of_lt_of_le (by have := World.block_lt_of_cell? _ _ hw395_1; first | rwa [add_block] at this | exact this) GW396.out)) | (dsimp only; exact Nat.ne_of_lt (Nat.lt_of_lt_of_le (by have := World.block_lt_of_cell? _ _ hw395_1; first | rwa [add_block] at this | exact this) GW396.out))) _).trans (((cell_far (p := ⟨gb396, _, none⟩) (by first | exact Nat.ne_of_lt (Nat.lt_of_lt_of_le (by have := World.block_lt_of_cell? _ _ hw395_1; first | rwa [add_block] at this | exact this) GW396.out) | (rw [add_block]; exact Nat.ne_of_lt (Nat.lt_of_lt_of_le (by have := World.block_lt_of_cell? _ _ hw395_1; first | rwa [add_block] at this | exact this) GW396.out)) | (show (Addr.add _ _).block ≠ _; rw [add_block]; exact Nat.ne_of_lt (Nat.lt_of_lt_of_le (by have := World.block_lt_of_cell? _ _ hw395_1; first | rwa [add_block] at this | exact this) GW396.out)) | (dsimp only; exact Nat.ne_of_lt (Nat.lt_of_lt_of_le (by have := World.block_lt_of_cell? _ _ hw395_1; first | rwa [add_block] at this | exact this) GW396.out))) _).trans (((cell_far (p := ⟨gb396, _, none⟩) (by first | exact Nat.ne_of_lt (Nat.lt_of_lt_of_le (by have := World.block_lt_of_cell? _ _ hw395_1; first | rwa [add_block] at this | exact this) GW396.out) | (rw [add_block]; exact Nat.ne_of_lt (Nat.lt_of_lt_of_le (by have := World.block_lt_of_cell? _ _ hw395_1; first | rwa [add_block] at this | exact this) GW396.out)) | (show (Addr.add _ _).block ≠ _; rw [add_block]; exact Nat.ne_of_lt (Nat.lt_of_lt_of_le (by have := World.block_lt_of_cell? _ _ hw395_1; first | rwa [add_block] at this | exact this) GW396.out)) | (dsimp only; exact Nat.ne_of_lt (Nat.lt_of_lt_of_le (by have := World.block_lt_of_cell? _ _ hw395_1; first | rwa [add_block] at this | exact this) GW396.out))) _).trans (hHeld.2.2.2.2.2.2.2.2.2.2.2.2.1)))))))))), ((cell_far (p := ⟨gb396, _, none⟩) (by first | exact Nat.ne_of_lt (Nat.lt_of_lt_of_le (by have := World.block_lt_of_cell? _ _ hw395_2; first | rwa [add_block] at this | exact this) GW396.out) | (rw [add_block]; exact Nat.ne_of_lt (Nat.lt_of_lt_of_le (by have := World.block_lt_of_cell? _ _ hw395_2; first | rwa [add_block] at this | exact this) GW396.out)) | (show (Addr.add _ _).block ≠ _; rw [add_block]; exact Nat.ne_of_lt (Nat.lt_of_lt_of_le (by have := World.block_lt_of_cell? _ _ hw395_2; first | rwa [add_block] at this | exact this) GW396.out)) | (dsimp only; exact Nat.ne_of_lt (Nat.lt_of_lt_of_le (by have := World.block_lt_of_cell? _ _ hw395_2; first | rwa [add_block] at this | exact this) GW396.out))) _).trans (((cell_far (p := ⟨gb396, _, none⟩) (by first | exact Nat.ne_of_lt (Nat.lt_of_lt_of_le (by have := World.block_lt_of_cell? _ _ hw395_2; first | rwa [add_block] at this | exact this) GW396.out) | (rw [add_block]; exact Nat.ne_of_lt (Nat.lt_of_lt_of_le (by have := World.block_lt_of_cell? _ _ hw395_2; first | rwa [add_block] at this | exact this) GW396.out)) | (show (Addr.add _ _).block ≠ _; rw [add_block]; exact Nat.ne_of_lt (Nat.lt_of_lt_of_le (by have := World.block_lt_of_cell? _ _ hw395_2; first | rwa [add_block] at this | exact this) GW396.out)) | (dsimp only; exact Nat.ne_of_lt (Nat.lt_of_lt_of_le (by have := World.block_lt_of_cell? _ _ hw395_2; first | rwa [add_block] at this | exact this) GW396.out))) _).trans (((cell_far (p := ⟨gb396, _, none⟩) (by first | exact Nat.ne_of_lt (Nat.lt_of_lt_of_le (by have := World.block_lt_of_cell? _ _ hw395_2; first | rwa [add_block] at this | exact this) GW396.out) | (rw [add_block]; exact Nat.ne_of_lt (Nat.lt_of_lt_of_le (by have := World.block_lt_of_cell? _ _ hw395_2; first | rwa [add_block] at this | exact this) GW396.out)) | (show (Addr.add _ _).block ≠ _; rw [add_block]; exact Nat.ne_of_lt (Nat.lt_of_lt_of_le (by have := World.block_lt_of_cell? _ _ hw395_2; first | rwa [add_block] at this | exact this) GW396.out)) | (dsimp only; exact Nat.ne_of_lt (Nat.lt_of_lt_of_le (by have := World.block_lt_of_cell? _ _ hw395_2; first | rwa [add_block] at this | exact this) GW396.out))) _).trans (((cell_far (p := ⟨gb396, _, none⟩) (by first | exact Nat.ne_of_lt (Nat.lt_of_lt_of_le (by have := World.block_lt_of_cell? _ _ hw395_2; first | rwa [add_block] at this | exact this) GW396.out) | (rw [add_block]; exact Nat.ne_of_lt (Nat.lt_of_lt_of_le (by have := World.block_lt_of_cell? _ _ hw395_2; first | rwa [add_block] at this | exact this) GW396.out)) | (show (Addr.add _ _).block ≠ _; rw [add_block]; exact Nat.ne_of_lt (Nat.lt_of_lt_of_le (by have := World.block_lt_of_cell? _ _ hw395_2; first | rwa [add_block] at this | exact this) GW396.out)) | (dsimp only; exact Nat.ne_of_lt (Nat.lt_of_lt_of_le (by have := World.block_lt_of_cell? _ _ hw395_2; first | rwa [add_block] at this | exact this) GW396.out))) _).trans (((cell_far (p := ⟨gb396, _, none⟩) (by first | exact Nat.ne_of_lt (Nat.lt_of_lt_of_le (by have := World.block_lt_of_cell? _ _ hw395_2; first | rwa [add_block] at this | exact this) GW396.out) | (rw [add_block]; exact Nat.ne_of_lt (Nat.lt_of_lt_of_le (by have := World.block_lt_of_cell? _ _ hw395_2; first | rwa [add_block] at this | exact this) GW396.out)) | (show (Addr.add _ _).block ≠ _; rw [add_block]; exact Nat.ne_of_lt (Nat.lt_of_lt_of_le (by have := World.block_lt_of_cell? _ _ hw395_2; first | rwa [add_block] at this | exact this) GW396.out)) | (dsimp only; exact Nat.ne_of_lt (Nat.lt_of_lt_of_le (by have := World.block_lt_of_cell? _ _ hw395_2; first | rwa [add_block] at this | exact this) GW396.out))) _).trans (hHeld.2.2.2.2.2.2.2.2.2.2.2.2.2.1)))))))))), ((cell_far (p := ⟨gb396, _, none⟩) (by first | exact Nat.ne_of_lt (Nat.lt_of_lt_of_le (by have := World.block_lt_of_cell? _ _ hw395_3; first | rwa [add_block] at this | exact this) GW396.out) | (rw [add_block]; exact Nat.ne_of_lt (Nat.lt_of_lt_of_le (by have := World.block_lt_of_cell? _ _ hw395_3; first | rwa [add_block] at this | exact this) GW396.out)) | (show (Addr.add _ _).block ≠ _; rw [add_block]; exact Nat.ne_of_lt (Nat.lt_of_lt_of_le (by have := World.block_lt_of_cell? _ _ hw395_3; first | rwa [add_block] at this | exact this) GW396.out)) | (dsimp only; exact Nat.ne_of_lt (Nat.lt_of_lt_of_le (by have := World.block_lt_of_cell? _ _ hw395_3; first | rwa [add_block] at this | exact this) GW396.out))) _).trans (((cell_far (p := ⟨gb396, _, none⟩) (by first | exact Nat.ne_of_lt (Nat.lt_of_lt_of_le (by have := World.block_lt_of_cell? _ _ hw395_3; first | rwa [add_block] at this | exact this) GW396.out) | (rw [add_block]; exact Nat.ne_of_lt (Nat.lt_of_lt_of_le (by have := World.block_lt_of_cell? _ _ hw395_3; first | rwa [add_block] at this | exact this) GW396.out)) | (show (Addr.add _ _).block ≠ _; rw [add_block]; exact Nat.ne_of_lt (Nat.lt_of_lt_of_le (by have := World.block_lt_of_cell? _ _ hw395_3; first | rwa [add_block] at this | exact this) GW396.out)) | (dsimp only; exact Nat.ne_of_lt (Nat.lt_of_lt_of_le (by have := World.block_lt_of_cell? _ _ hw395_3; first | rwa [add_block] at this | exact this) GW396.out))) _).trans (((cell_far (p := ⟨gb396, _, none⟩) (by first | exact Nat.ne_of_lt (Nat.lt_of_lt_of_le (by have := World.block_lt_of_cell? _ _ hw395_3; first | rwa [add_block] at this | exact this) GW396.out) | (rw [add_block]; exact Nat.ne_of_lt (Nat.lt_of_lt_of_le (by have := World.block_lt_of_cell? _ _ hw395_3; first | rwa [add_block] at this | exact this) GW396.out)) | (show (Addr.add _ _).block ≠ _; rw [add_block]; exact Nat.ne_of_lt (Nat.lt_of_lt_of_le (by have := World.block_lt_of_cell? _ _ hw395_3; first | rwa [add_block] at this | exact this) GW396.out)) | (dsimp only; exact Nat.ne_of_lt (Nat.lt_of_lt_of_le (by have := World.block_lt_of_cell? _ _ hw395_3; first | rwa [add_block] at this | exact this) GW396.out))) _).trans (((cell_far (p := ⟨gb396, _, none⟩) (by first | exact Nat.ne_of_lt (Nat.lt_of_lt_of_le (by have := World.block_lt_of_cell? _ _ hw395_3; first | rwa [add_block] at this | exact this) GW396.out) | (rw [add_block]; exact Nat.ne_of_lt (Nat.lt_of_lt_of_le (by have := World.block_lt_of_cell? _ _ hw395_3; first | rwa [add_block] at this | exact this) GW396.out)) | (show (Addr.add _ _).block ≠ _; rw [add_block]; exact Nat.ne_of_lt (Nat.lt_of_lt_of_le (by have := World.block_lt_of_cell? _ _ hw395_3; first | rwa [add_block] at this | exact this) GW396.out)) | (dsimp only; exact Nat.ne_of_lt (Nat.lt_of_lt_of_le (by have := World.block_lt_of_cell? _ _ hw395_3; first | rwa [add_block] at this | exact this) GW396.out))) _).trans (((cell_far (p := ⟨gb396, _, none⟩) (by first | exact Nat.ne_of_lt (Nat.lt_of_lt_of_le (by have := World.block_lt_of_cell? _ _ hw395_3; first | rwa [add_block] at this | exact this) GW396.out) | (rw [add_block]; exact Nat.ne_of_lt (Nat.lt_of_lt_of_le (by have := World.block_lt_of_cell? _ _ hw395_3; first | rwa [add_block] at this | exact this) GW396.out)) | (show (Addr.add _ _).block ≠ _; rw [add_block]; exact Nat.ne_of_lt (Nat.lt_of_lt_of_le (by have := World.block_lt_of_cell? _ _ hw395_3; first | rwa [add_block] at this | exact this) GW396.out)) | (dsimp only; exact Nat.ne_of_lt (Nat.lt_of_lt_of_le (by have := World.block_lt_of_cell? _ _ hw395_3; first | rwa [add_block] at this | exact this) GW396.out))) _).trans (hHeld.2.2.2.2.2.2.2.2.2.2.2.2.2.2.1)))))))))), ((cell_far (p := ⟨gb396, _, none⟩) (by first | exact Nat.ne_of_lt (Nat.lt_of_lt_of_le (by have := World.block_lt_of_cell? _ _ hw395_4; first | rwa [add_block] at this | exact this) GW396.out) | (rw [add_block]; exact Nat.ne_of_lt (Nat.lt_of_lt_of_le (by have := World.block_lt_of_cell? _ _ hw395_4; first | rwa [add_block] at this | exact this) GW396.out)) | (show (Addr.add _ _).block ≠ _; rw [add_block]; exact Nat.ne_of_lt (Nat.lt_of_lt_of_le (by have := World.block_lt_of_cell? _ _ hw395_4; first | rwa [add_block] at this | exact this) GW396.out)) | (dsimp only; exact Nat.ne_of_lt (Nat.lt_of_lt_of_le (by have := World.block_lt_of_cell? _ _ hw395_4; first | rwa [add_block] at this | exact this) GW396.out))) _).trans (((cell_far (p := ⟨gb396, _, none⟩) (by first | exact Nat.ne_of_lt (Nat.lt_of_lt_of_le (by have := World.block_lt_of_cell? _ _ hw395_4; first | rwa [add_block] at this | exact this) GW396.out) | (rw [add_block]; exact Nat.ne_of_lt (Nat.lt_of_lt_of_le (by have := World.block_lt_of_cell? _ _ hw395_4; first | rwa [add_block] at this | exact this) GW396.out)) | (show (Addr.add _ _).block ≠ _; rw [add_block]; exact Nat.ne_of_lt (Nat.lt_of_lt_of_le (by have := World.block_lt_of_cell? _ _ hw395_4; first | rwa [add_block] at this | exact this) GW396.out)) | (dsimp only; exact Nat.ne_of_lt (Nat.lt_of_lt_of_le (by have := World.block_lt_of_cell? _ _ hw395_4; first | rwa [add_block] at this | exact this) GW396.out))) _).trans (((cell_far (p := ⟨gb396, _, none⟩) (by first | exact Nat.ne_of_lt (Nat.lt_of_lt_of_le (by have := World.block_lt_of_cell? _ _ hw395_4; first | rwa [add_block] at this | exact this) GW396.out) | (rw [add_block]; exact Nat.ne_of_lt (Nat.lt_of_lt_of_le (by have := World.block_lt_of_cell? _ _ hw395_4; first | rwa [add_block] at this | exact this) GW396.out)) | (show (Addr.add _ _).block ≠ _; rw [add_block]; exact Nat.ne_of_lt (Nat.lt_of_lt_of_le (by have := World.block_lt_of_cell? _ _ hw395_4; first | rwa [add_block] at this | exact this) GW396.out)) | (dsimp only; exact Nat.ne_of_lt (Nat.lt_of_lt_of_le (by have := World.block_lt_of_cell? _ _ hw395_4; first | rwa [add_block] at this | exact this) GW396.out))) _).trans (((cell_far (p := ⟨gb396, _, none⟩) (by first | exact Nat.ne_of_lt (Nat.lt_of_lt_of_le (by have := World.block_lt_of_cell? _ _ hw395_4; first | rwa [add_block] at this | exact this) GW396.out) | (rw [add_block]; exact Nat.ne_of_lt (Nat.lt_of_lt_of_le (by have := World.block_lt_of_cell? _ _ hw395_4; first | rwa [add_block] at this | exact this) GW396.out)) | (show (Addr.add _ _).block ≠ _; rw [add_block]; exact Nat.ne_of_lt (Nat.lt_of_lt_of_le (by have := World.block_lt_of_cell? _ _ hw395_4; first | rwa [add_block] at this | exact this) GW396.out)) | (dsimp only; exact Nat.ne_of_lt (Nat.lt_of_lt_of_le (by have := World.block_lt_of_cell? _ _ hw395_4; first | rwa [add_block] at this | exact this) GW396.out))) _).trans (((cell_far (p := ⟨gb396, _, none⟩) (by first | exact Nat.ne_of_lt (Nat.lt_of_lt_of_le (by have := World.block_lt_of_cell? _ _ hw395_4; first | rwa [add_block] at this | exact this) GW396.out) | (rw [add_block]; exact Nat.ne_of_lt (Nat.lt_of_lt_of_le (by have := World.block_lt_of_cell? _ _ hw395_4; first | rwa [add_block] at this | exact this) GW396.out)) | (show (Addr.add _ _).block ≠ _; rw [add_block]; exact Nat.ne_of_lt (Nat.lt_of_lt_of_le (by have := World.block_lt_of_cell? _ _ hw395_4; first | rwa [add_block] at this | exact this) GW396.out)) | (dsimp only; exact Nat.ne_of_lt (Nat.lt_of_lt_of_le (by have := World.block_lt_of_cell? _ _ hw395_4; first | rwa [add_block] at this | exact this) GW396.out))) _).trans (hHeld.2.2.2.2.2.2.2.2.2.2.2.2.2.2.2))))))))))⟩ (fun hHeld => ?_)
                 clear hK K
                 refine one_ (i := 13) (N := none) #[true, true, true, true, true, true, true, true, true, true, true, true, true, true] rfl rfl (one_of HT_.out (by kernel_rfl)) (by decide) (fun K hK => ?_)
                 have hs49 : w43.cell? ⟨gb397, 0, none⟩ = some (.string (⟨#[]⟩ : ByteArray)) := (blk_cell BK397.out 0).trans rfl
                 have hfs49 := blk_frozen BK397.out 0; have hns49_0 := NB390_397.out; have hns49_1 := NB391_397.out; have hns49_2 := NB396_397.out; have hms49_0 := NB397_390.out; have hms49_1 := NB397_391.out; have hms49_2 := NB397_396.out
                 have hs50 : w43.cell? ⟨gb397, 1, none⟩ = some (.slice none 0 0) := (blk_cell BK397.out 1).trans rfl
                 have hfs50 := blk_frozen BK397.out 1; have hns50_0 := NB390_397.out; have hns50_1 := NB391_397.out; have hns50_2 := NB396_397.out; have hms50_0 := NB397_390.out; have hms50_1 := NB397_391.out; have hms50_2 := NB397_396.out
                 have hs51 : w43.cell? ⟨gb397, 2, none⟩ = some (.slice none 0 0) := (blk_cell BK397.out 2).trans rfl
                 have hfs51 := blk_frozen BK397.out 2; have hns51_0 := NB390_397.out; have hns51_1 := NB391_397.out; have hns51_2 := NB396_397.out; have hms51_0 := NB397_390.out; have hms51_1 := NB397_391.out; have hms51_2 := NB397_396.out
                 have hs52 : w43.cell? ⟨gb397, 3, none⟩ = some (.slice none 0 0) := (blk_cell BK397.out 3).trans rfl
                 have hfs52 := blk_frozen BK397.out 3; have hns52_0 := NB390_397.out; have hns52_1 := NB391_397.out; have hns52_2 := NB396_397.out; have hms52_0 := NB397_390.out; have hms52_1 := NB397_391.out; have hms52_2 := NB397_396.out
                 have hs53 : w43.cell? ⟨gb397, 4, none⟩ = some (.int .i64 0) := (blk_cell BK397.out 4).trans rfl
                 have hfs53 := blk_frozen BK397.out 4; have hns53_0 := NB390_397.out; have hns53_1 := NB391_397.out; have hns53_2 := NB396_397.out; have hms53_0 := NB397_390.out; have hms53_1 := NB397_391.out; have hms53_2 := NB397_396.out
                 refine skip_ (w1 := ?_) (by rfl) rfl ?_ ?_
                 rotate_left
                 ·
                  go_simp
                  rfl
                 refine hK.out _ _ ⟨((cell_far (p := ⟨gb397, _, none⟩) NB390_397.out _).trans (((cell_far (p := ⟨gb397, _, none⟩) NB390_397.out _).trans (((cell_far (p := ⟨gb397, _, none⟩) NB390_397.out _).trans (((cell_far (p := ⟨gb397, _, none⟩) NB390_397.out _).trans (((cell_far (p := ⟨gb397, _, none⟩) NB390_397.out _).trans (hHeld.1)))))))))), ((cell_far (p := ⟨gb397, _, none⟩) NB390_397.out _).trans (((cell_far (p := ⟨gb397, _, none⟩) NB390_397.out _).trans (((cell_far (p := ⟨gb397, _, none⟩) NB390_397.out _).trans (((cell_far (p := ⟨gb397, _, none⟩) NB390_397.out _).trans (((cell_far (p := ⟨gb397, _, none⟩) NB390_397.out _).trans (hHeld.2.1)))))))))), ((cell_far (p := ⟨gb397, _, none⟩) NB390_397.out _).trans (((cell_far (p := ⟨gb397, _, none⟩) NB390_397.out _).trans (((cell_far (p := ⟨gb397, _, none⟩) NB390_397.out _).trans (((cell_far (p := ⟨gb397, _, none⟩) NB390_397.out _).trans (((cell_far (p := ⟨gb397, _, none⟩) NB390_397.out _).trans (hHeld.2.2.1)))))))))), ((cell_far (p := ⟨gb397, _, none⟩) NB391_397.out _).trans (((cell_far (p := ⟨gb397, _, none⟩) NB391_397.out _).trans (((cell_far (p := ⟨gb397, _, none⟩) NB391_397.out _).trans (((cell_far (p := ⟨gb397, _, none⟩) NB391_397.out _).trans (((cell_far (p := ⟨gb397, _, none⟩) NB391_397.out _).trans (hHeld.2.2.2.1)))))))))), ((cell_far (p := ⟨gb397, _, none⟩) NB391_397.out _).trans (((cell_far (p := ⟨gb397, _, none⟩) NB391_397.out _).trans (((cell_far (p := ⟨gb397, _, none⟩) NB391_397.out _).trans (((cell_far (p := ⟨gb397, _, none⟩) NB391_397.out _).trans (((cell_far (p := ⟨gb397, _, none⟩) NB391_397.out _).trans (hHeld.2.2.2.2.1)))))))))), ((cell_far (p := ⟨gb397, _, none⟩) NB391_397.out _).trans (((cell_far (p := ⟨gb397, _, none⟩) NB391_397.out _).trans (((cell_far (p := ⟨gb397, _, none⟩) NB391_397.out _).trans (((cell_far (p := ⟨gb397, _, none⟩) NB391_397.out _).trans (((cell_far (p := ⟨gb397, _, none⟩) NB391_397.out _).trans (hHeld.2.2.2.2.2.1)))))))))), ((cell_far (p := ⟨gb397, _, none⟩) (by first | exact Nat.ne_of_lt (Nat.lt_of_lt_of_le (by have := World.block_lt_of_cell? _ _ hw394_0; first | rwa [add_block] at this | exact this) GW397.out) | (rw [add_block]; exact Nat.ne_of_lt (Nat.lt_of_lt_of_le (by have := World.block_lt_of_cell? _ _ hw394_0; first | rwa [add_block] at this | exact this) GW397.out)) | (show (Addr.add _ _).block ≠ _; rw [add_block]; exact Nat.ne_of_lt (Nat.lt_of_lt_of_le (by have := World.block_lt_of_cell? _ _ hw394_0; first | rwa [add_block] at this | exact this) GW397.out)) | (dsimp only; exact Nat.ne_of_lt (Nat.lt_of_lt_of_le (by have := World.block_lt_of_cell? _ _ hw394_0; first | rwa [add_block] at this | exact this) GW397.out))) _).trans (((cell_far (p := ⟨gb397, _, none⟩) (by first | exact Nat.ne_of_lt (Nat.lt_of_lt_of_le (by have := World.block_lt_of_cell? _ _ hw394_0; first | rwa [add_block] at this | exact this) GW397.out) | (rw [add_block]; exact Nat.ne_of_lt (Nat.lt_of_lt_of_le (by have := World.block_lt_of_cell? _ _ hw394_0; first | rwa [add_block] at this | exact this) GW397.out)) | (show (Addr.add _ _).block ≠ _; rw [add_block]; exact Nat.ne_of_lt (Nat.lt_of_lt_of_le (by have := World.block_lt_of_cell? _ _ hw394_0; first | rwa [add_block] at this | exact this) GW397.out)) | (dsimp only; exact Nat.ne_of_lt (Nat.lt_of_lt_of_le (by have := World.block_lt_of_cell? _ _ hw394_0; first | rwa [add_block] at this | exact this) GW397.out))) _).trans (((cell_far (p := ⟨gb397, _, none⟩) (by first | exact Nat.ne_of_lt (Nat.lt_of_lt_of_le (by have := World.block_lt_of_cell? _ _ hw394_0; first | rwa [add_block] at this | exact this) GW397.out) | (rw [add_block]; exact Nat.ne_of_lt (Nat.lt_of_lt_of_le (by have := World.block_lt_of_cell? _ _ hw394_0; first | rwa [add_block] at this | exact this) GW397.out)) | (show (Addr.add _ _).block ≠ _; rw [add_block]; exact Nat.ne_of_lt (Nat.lt_of_lt_of_le (by have := World.block_lt_of_cell? _ _ hw394_0; first | rwa [add_block] at this | exact this) GW397.out)) | (dsimp only; exact Nat.ne_of_lt (Nat.lt_of_lt_of_le (by have := World.block_lt_of_cell? _ _ hw394_0; first | rwa [add_block] at this | exact this) GW397.out))) _).trans (((cell_far (p := ⟨gb397, _, none⟩) (by first | exact Nat.ne_of_lt (Nat.lt_of_lt_of_le (by have := World.block_lt_of_cell? _ _ hw394_0; first | rwa [add_block] at this | exact this) GW397.out) | (rw [add_block]; exact Nat.ne_of_lt (Nat.lt_of_lt_of_le (by have := World.block_lt_of_cell? _ _ hw394_0; first | rwa [add_block] at this | exact this) GW397.out)) | (show (Addr.add _ _).block ≠ _; rw [add_block]; exact Nat.ne_of_lt (Nat.lt_of_lt_of_le (by have := World.block_lt_of_cell? _ _ hw394_0; first | rwa [add_block] at this | exact this) GW397.out)) | (dsimp only; exact Nat.ne_of_lt (Nat.lt_of_lt_of_le (by have := World.block_lt_of_cell? _ _ hw394_0; first | rwa [add_block] at this | exact this) GW397.out))) _).trans (((cell_far (p := ⟨gb397, _, none⟩) (by first | exact Nat.ne_of_lt (Nat.lt_of_lt_of_le (by have := World.block_lt_of_cell? _ _ hw394_0; first | rwa [add_block] at this | exact this) GW397.out) | (rw [add_block]; exact Nat.ne_of_lt (Nat.lt_of_lt_of_le (by have := World.block_lt_of_cell? _ _ hw394_0; first | rwa [add_block] at this | exact this) GW397.out)) | (show (Addr.add _ _).block ≠ _; rw [add_block]; exact Nat.ne_of_lt (Nat.lt_of_lt_of_le (by have := World.block_lt_of_cell? _ _ hw394_0; first | rwa [add_block] at this | exact this) GW397.out)) | (dsimp only; exact Nat.ne_of_lt (Nat.lt_of_lt_of_le (by have := World.block_lt_of_cell? _ _ hw394_0; first | rwa [add_block] at this | exact this) GW397.out))) _).trans (hHeld.2.2.2.2.2.2.1)))))))))), ((cell_far (p := ⟨gb397, _, none⟩) (by first | exact Nat.ne_of_lt (Nat.lt_of_lt_of_le (by have := World.block_lt_of_cell? _ _ hw394_1; first | rwa [add_block] at this | exact this) GW397.out) | (rw [add_block]; exact Nat.ne_of_lt (Nat.lt_of_lt_of_le (by have := World.block_lt_of_cell? _ _ hw394_1; first | rwa [add_block] at this | exact this) GW397.out)) | (show (Addr.add _ _).block ≠ _; rw [add_block]; exact Nat.ne_of_lt (Nat.lt_of_lt_of_le (by have := World.block_lt_of_cell? _ _ hw394_1; first | rwa [add_block] at this | exact this) GW397.out)) | (dsimp only; exact Nat.ne_of_lt (Nat.lt_of_lt_of_le (by have := World.block_lt_of_cell? _ _ hw394_1; first | rwa [add_block] at this | exact this) GW397.out))) _).trans (((cell_far (p := ⟨gb397, _, none⟩) (by first | exact Nat.ne_of_lt (Nat.lt_of_lt_of_le (by have := World.block_lt_of_cell? _ _ hw394_1; first | rwa [add_block] at this | exact this) GW397.out) | (rw [add_block]; exact Nat.ne_of_lt (Nat.lt_of_lt_of_le (by have := World.block_lt_of_cell? _ _ hw394_1; first | rwa [add_block] at this | exact this) GW397.out)) | (show (Addr.add _ _).block ≠ _; rw [add_block]; exact Nat.ne_of_lt (Nat.lt_of_lt_of_le (by have := World.block_lt_of_cell? _ _ hw394_1; first | rwa [add_block] at this | exact this) GW397.out)) | (dsimp only; exact Nat.ne_of_lt (Nat.lt_of_lt_of_le (by have := World.block_lt_of_cell? _ _ hw394_1; first | rwa [add_block] at this | exact this) GW397.out))) _).trans (((cell_far (p := ⟨gb397, _, none⟩) (by first | exact Nat.ne_of_lt (Nat.lt_of_lt_of_le (by have := World.block_lt_of_cell? _ _ hw394_1; first | rwa [add_block] at this | exact this) GW397.out) | (rw [add_block]; exact Nat.ne_of_lt (Nat.lt_of_lt_of_le (by have := World.block_lt_of_cell? _ _ hw394_1; first | rwa [add_block] at this | exact this) GW397.out)) | (show (Addr.add _ _).block ≠ _; rw [add_block]; exact Nat.ne_of_lt (Nat.lt_of_lt_of_le (by have := World.block_lt_of_cell? _ _ hw394_1; first | rwa [add_block] at this | exact this) GW397.out)) | (dsimp only; exact Nat.ne_of_lt (Nat.lt_of_lt_of_le (by have := World.block_lt_of_cell? _ _ hw394_1; first | rwa [add_block] at this | exact this) GW397.out))) _).trans (((cell_far (p := ⟨gb397, _, none⟩) (by first | exact Nat.ne_of_lt (Nat.lt_of_lt_of_le (by have := World.block_lt_of_cell? _ _ hw394_1; first | rwa [add_block] at this | exact this) GW397.out) | (rw [add_block]; exact Nat.ne_of_lt (Nat.lt_of_lt_of_le (by have := World.block_lt_of_cell? _ _ hw394_1; first | rwa [add_block] at this | exact this) GW397.out)) | (show (Addr.add _ _).block ≠ _; rw [add_block]; exact Nat.ne_of_lt (Nat.lt_of_lt_of_le (by have := World.block_lt_of_cell? _ _ hw394_1; first | rwa [add_block] at this | exact this) GW397.out)) | (dsimp only; exact Nat.ne_of_lt (Nat.lt_of_lt_of_le (by have := World.block_lt_of_cell? _ _ hw394_1; first | rwa [add_block] at this | exact this) GW397.out))) _).trans (((cell_far (p := ⟨gb397, _, none⟩) (by first | exact Nat.ne_of_lt (Nat.lt_of_lt_of_le (by have := World.block_lt_of_cell? _ _ hw394_1; first | rwa [add_block] at this | exact this) GW397.out) | (rw [add_block]; exact Nat.ne_of_lt (Nat.lt_of_lt_of_le (by have := World.block_lt_of_cell? _ _ hw394_1; first | rwa [add_block] at this | exact this) GW397.out)) | (show (Addr.add _ _).block ≠ _; rw [add_block]; exact Nat.ne_of_lt (Nat.lt_of_lt_of_le (by have := World.block_lt_of_cell? _ _ hw394_1; first | rwa [add_block] at this | exact this) GW397.out)) | (dsimp only; exact Nat.ne_of_lt (Nat.lt_of_lt_of_le (by have := World.block_lt_of_cell? _ _ hw394_1; first | rwa [add_block] at this | exact this) GW397.out))) _).trans (hHeld.2.2.2.2.2.2.2.1)))))))))), ((cell_far (p := ⟨gb397, _, none⟩) (by first | exact Nat.ne_of_lt (Nat.lt_of_lt_of_le (by have := World.block_lt_of_cell? _ _ hw394_2; first | rwa [add_block] at this | exact this) GW397.out) | (rw [add_block]; exact Nat.ne_of_lt (Nat.lt_of_lt_of_le (by have := World.block_lt_of_cell? _ _ hw394_2; first | rwa [add_block] at this | exact this) GW397.out)) | (show (Addr.add _ _).block ≠ _; rw [add_block]; exact Nat.ne_of_lt (Nat.lt_of_lt_of_le (by have := World.block_lt_of_cell? _ _ hw394_2; first | rwa [add_block] at this | exact this) GW397.out)) | (dsimp only; exact Nat.ne_of_lt (Nat.lt_of_lt_of_le (by have := World.block_lt_of_cell? _ _ hw394_2; first | rwa [add_block] at this | exact this) GW397.out))) _).trans (((cell_far (p := ⟨gb397, _, none⟩) (by first | exact Nat.ne_of_lt (Nat.lt_of_lt_of_le (by have := World.block_lt_of_cell? _ _ hw394_2; first | rwa [add_block] at this | exact this) GW397.out) | (rw [add_block]; exact Nat.ne_of_lt (Nat.lt_of_lt_of_le (by have := World.block_lt_of_cell? _ _ hw394_2; first | rwa [add_block] at this | exact this) GW397.out)) | (show (Addr.add _ _).block ≠ _; rw [add_block]; exact Nat.ne_of_lt (Nat.lt_of_lt_of_le (by have := World.block_lt_of_cell? _ _ hw394_2; first | rwa [add_block] at this | exact this) GW397.out)) | (dsimp only; exact Nat.ne_of_lt (Nat.lt_of_lt_of_le (by have := World.block_lt_of_cell? _ _ hw394_2; first | rwa [add_block] at this | exact this) GW397.out))) _).trans (((cell_far (p := ⟨gb397, _, none⟩) (by first | exact Nat.ne_of_lt (Nat.lt_of_lt_of_le (by have := World.block_lt_of_cell? _ _ hw394_2; first | rwa [add_block] at this | exact this) GW397.out) | (rw [add_block]; exact Nat.ne_of_lt (Nat.lt_of_lt_of_le (by have := World.block_lt_of_cell? _ _ hw394_2; first | rwa [add_block] at this | exact this) GW397.out)) | (show (Addr.add _ _).block ≠ _; rw [add_block]; exact Nat.ne_of_lt (Nat.lt_of_lt_of_le (by have := World.block_lt_of_cell? _ _ hw394_2; first | rwa [add_block] at this | exact this) GW397.out)) | (dsimp only; exact Nat.ne_of_lt (Nat.lt_of_lt_of_le (by have := World.block_lt_of_cell? _ _ hw394_2; first | rwa [add_block] at this | exact this) GW397.out))) _).trans (((cell_far (p := ⟨gb397, _, none⟩) (by first | exact Nat.ne_of_lt (Nat.lt_of_lt_of_le (by have := World.block_lt_of_cell? _ _ hw394_2; first | rwa [add_block] at this | exact this) GW397.out) | (rw [add_block]; exact Nat.ne_of_lt (Nat.lt_of_lt_of_le (by have := World.block_lt_of_cell? _ _ hw394_2; first | rwa [add_block] at this | exact this) GW397.out)) | (show (Addr.add _ _).block ≠ _; rw [add_block]; exact Nat.ne_of_lt (Nat.lt_of_lt_of_le (by have := World.block_lt_of_cell? _ _ hw394_2; first | rwa [add_block] at this | exact this) GW397.out)) | (dsimp only; exact Nat.ne_of_lt (Nat.lt_of_lt_of_le (by have := World.block_lt_of_cell? _ _ hw394_2; first | rwa [add_block] at this | exact this) GW397.out))) _).trans (((cell_far (p := ⟨gb397, _, none⟩) (by first | exact Nat.ne_of_lt (Nat.lt_of_lt_of_le (by have := World.block_lt_of_cell? _ _ hw394_2; first | rwa [add_block] at this | exact this) GW397.out) | (rw [add_block]; exact Nat.ne_of_lt (Nat.lt_of_lt_of_le (by have := World.block_lt_of_cell? _ _ hw394_2; first | rwa [add_block] at this | exact this) GW397.out)) | (show (Addr.add _ _).block ≠ _; rw [add_block]; exact Nat.ne_of_lt (Nat.lt_of_lt_of_le (by have := World.block_lt_of_cell? _ _ hw394_2; first | rwa [add_block] at this | exact this) GW397.out)) | (dsimp only; exact Nat.ne_of_lt (Nat.lt_of_lt_of_le (by have := World.block_lt_of_cell? _ _ hw394_2; first | rwa [add_block] at this | exact this) GW397.out))) _).trans (hHeld.2.2.2.2.2.2.2.2.1)))))))))), ((cell_far (p := ⟨gb397, _, none⟩) (by first | exact Nat.ne_of_lt (Nat.lt_of_lt_of_le (by have := World.block_lt_of_cell? _ _ hw394_3; first | rwa [add_block] at this | exact this) GW397.out) | (rw [add_block]; exact Nat.ne_of_lt (Nat.lt_of_lt_of_le (by have := World.block_lt_of_cell? _ _ hw394_3; first | rwa [add_block] at this | exact this) GW397.out)) | (show (Addr.add _ _).block ≠ _; rw [add_block]; exact Nat.ne_of_lt (Nat.lt_of_lt_of_le (by have := World.block_lt_of_cell? _ _ hw394_3; first | rwa [add_block] at this | exact this) GW397.out)) | (dsimp only; exact Nat.ne_of_lt (Nat.lt_of_lt_of_le (by have := World.block_lt_of_cell? _ _ hw394_3; first | rwa [add_block] at this | exact this) GW397.out))) _).trans (((cell_far (p := ⟨gb397, _, none⟩) (by first | exact Nat.ne_of_lt (Nat.lt_of_lt_of_le (by have := World.block_lt_of_cell? _ _ hw394_3; first | rwa [add_block] at this | exact this) GW397.out) | (rw [add_block]; exact Nat.ne_of_lt (Nat.lt_of_lt_of_le (by have := World.block_lt_of_cell? _ _ hw394_3; first | rwa [add_block] at this | exact this) GW397.out)) | (show (Addr.add _ _).block ≠ _; rw [add_block]; exact Nat.ne_of_lt (Nat.lt_of_lt_of_le (by have := World.block_lt_of_cell? _ _ hw394_3; first | rwa [add_block] at this | exact this) GW397.out)) | (dsimp only; exact Nat.ne_of_lt (Nat.lt_of_lt_of_le (by have := World.block_lt_of_cell? _ _ hw394_3; first | rwa [add_block] at this | exact this) GW397.out))) _).trans (((cell_far (p := ⟨gb397, _, none⟩) (by first | exact Nat.ne_of_lt (Nat.lt_of_lt_of_le (by have := World.block_lt_of_cell? _ _ hw394_3; first | rwa [add_block] at this | exact this) GW397.out) | (rw [add_block]; exact Nat.ne_of_lt (Nat.lt_of_lt_of_le (by have := World.block_lt_of_cell? _ _ hw394_3; first | rwa [add_block] at this | exact this) GW397.out)) | (show (Addr.add _ _).block ≠ _; rw [add_block]; exact Nat.ne_of_lt (Nat.lt_of_lt_of_le (by have := World.block_lt_of_cell? _ _ hw394_3; first | rwa [add_block] at this | exact this) GW397.out)) | (dsimp only; exact Nat.ne_of_lt (Nat.lt_of_lt_of_le (by have := World.block_lt_of_cell? _ _ hw394_3; first | rwa [add_block] at this | exact this) GW397.out))) _).trans (((cell_far (p := ⟨gb397, _, none⟩) (by first | exact Nat.ne_of_lt (Nat.lt_of_lt_of_le (by have := World.block_lt_of_cell? _ _ hw394_3; first | rwa [add_block] at this | exact this) GW397.out) | (rw [add_block]; exact Nat.ne_of_lt (Nat.lt_of_lt_of_le (by have := World.block_lt_of_cell? _ _ hw394_3; first | rwa [add_block] at this | exact this) GW397.out)) | (show (Addr.add _ _).block ≠ _; rw [add_block]; exact Nat.ne_of_lt (Nat.lt_of_lt_of_le (by have := World.block_lt_of_cell? _ _ hw394_3; first | rwa [add_block] at this | exact this) GW397.out)) | (dsimp only; exact Nat.ne_of_lt (Nat.lt_of_lt_of_le (by have := World.block_lt_of_cell? _ _ hw394_3; first | rwa [add_block] at this | exact this) GW397.out))) _).trans (((cell_far (p := ⟨gb397, _, none⟩) (by first | exact Nat.ne_of_lt (Nat.lt_of_lt_of_le (by have := World.block_lt_of_cell? _ _ hw394_3; first | rwa [add_block] at this | exact this) GW397.out) | (rw [add_block]; exact Nat.ne_of_lt (Nat.lt_of_lt_of_le (by have := World.block_lt_of_cell? _ _ hw394_3; first | rwa [add_block] at this | exact this) GW397.out)) | (show (Addr.add _ _).block ≠ _; rw [add_block]; exact Nat.ne_of_lt (Nat.lt_of_lt_of_le (by have := World.block_lt_of_cell? _ _ hw394_3; first | rwa [add_block] at this | exact this) GW397.out)) | (dsimp only; exact Nat.ne_of_lt (Nat.lt_of_lt_of_le (by have := World.block_lt_of_cell? _ _ hw394_3; first | rwa [add_block] at this | exact this) GW397.out))) _).trans (hHeld.2.2.2.2.2.2.2.2.2.1)))))))))), ((cell_far (p := ⟨gb397, _, none⟩) (by first | exact Nat.ne_of_lt (Nat.lt_of_lt_of_le (by have := World.block_lt_of_cell? _ _ hw394_4; first | rwa [add_block] at this | exact this) GW397.out) | (rw [add_block]; exact Nat.ne_of_lt (Nat.lt_of_lt_of_le (by have := World.block_lt_of_cell? _ _ hw394_4; first | rwa [add_block] at this | exact this) GW397.out)) | (show (Addr.add _ _).block ≠ _; rw [add_block]; exact Nat.ne_of_lt (Nat.lt_of_lt_of_le (by have := World.block_lt_of_cell? _ _ hw394_4; first | rwa [add_block] at this | exact this) GW397.out)) | (dsimp only; exact Nat.ne_of_lt (Nat.lt_of_lt_of_le (by have := World.block_lt_of_cell? _ _ hw394_4; first | rwa [add_block] at this | exact this) GW397.out))) _).trans (((cell_far (p := ⟨gb397, _, none⟩) (by first | exact Nat.ne_of_lt (Nat.lt_of_lt_of_le (by have := World.block_lt_of_cell? _ _ hw394_4; first | rwa [add_block] at this | exact this) GW397.out) | (rw [add_block]; exact Nat.ne_of_lt (Nat.lt_of_lt_of_le (by have := World.block_lt_of_cell? _ _ hw394_4; first | rwa [add_block] at this | exact this) GW397.out)) | (show (Addr.add _ _).block ≠ _; rw [add_block]; exact Nat.ne_of_lt (Nat.lt_of_lt_of_le (by have := World.block_lt_of_cell? _ _ hw394_4; first | rwa [add_block] at this | exact this) GW397.out)) | (dsimp only; exact Nat.ne_of_lt (Nat.lt_of_lt_of_le (by have := World.block_lt_of_cell? _ _ hw394_4; first | rwa [add_block] at this | exact this) GW397.out))) _).trans (((cell_far (p := ⟨gb397, _, none⟩) (by first | exact Nat.ne_of_lt (Nat.lt_of_lt_of_le (by have := World.block_lt_of_cell? _ _ hw394_4; first | rwa [add_block] at this | exact this) GW397.out) | (rw [add_block]; exact Nat.ne_of_lt (Nat.lt_of_lt_of_le (by have := World.block_lt_of_cell? _ _ hw394_4; first | rwa [add_block] at this | exact this) GW397.out)) | (show (Addr.add _ _).block ≠ _; rw [add_block]; exact Nat.ne_of_lt (Nat.lt_of_lt_of_le (by have := World.block_lt_of_cell? _ _ hw394_4; first | rwa [add_block] at this | exact this) GW397.out)) | (dsimp only; exact Nat.ne_of_lt (Nat.lt_of_lt_of_le (by have := World.block_lt_of_cell? _ _ hw394_4; first | rwa [add_block] at this | exact this) GW397.out))) _).trans (((cell_far (p := ⟨gb397, _, none⟩) (by first | exact Nat.ne_of_lt (Nat.lt_of_lt_of_le (by have := World.block_lt_of_cell? _ _ hw394_4; first | rwa [add_block] at this | exact this) GW397.out) | (rw [add_block]; exact Nat.ne_of_lt (Nat.lt_of_lt_of_le (by have := World.block_lt_of_cell? _ _ hw394_4; first | rwa [add_block] at this | exact this) GW397.out)) | (show (Addr.add _ _).block ≠ _; rw [add_block]; exact Nat.ne_of_lt (Nat.lt_of_lt_of_le (by have := World.block_lt_of_cell? _ _ hw394_4; first | rwa [add_block] at this | exact this) GW397.out)) | (dsimp only; exact Nat.ne_of_lt (Nat.lt_of_lt_of_le (by have := World.block_lt_of_cell? _ _ hw394_4; first | rwa [add_block] at this | exact this) GW397.out))) _).trans (((cell_far (p := ⟨gb397, _, none⟩) (by first | exact Nat.ne_of_lt (Nat.lt_of_lt_of_le (by have := World.block_lt_of_cell? _ _ hw394_4; first | rwa [add_block] at this | exact this) GW397.out) | (rw [add_block]; exact Nat.ne_of_lt (Nat.lt_of_lt_of_le (by have := World.block_lt_of_cell? _ _ hw394_4; first | rwa [add_block] at this | exact this) GW397.out)) | (show (Addr.add _ _).block ≠ _; rw [add_block]; exact Nat.ne_of_lt (Nat.lt_of_lt_of_le (by have := World.block_lt_of_cell? _ _ hw394_4; first | rwa [add_block] at this | exact this) GW397.out)) | (dsimp only; exact Nat.ne_of_lt (Nat.lt_of_lt_of_le (by have := World.block_lt_of_cell? _ _ hw394_4; first | rwa [add_block] at this | exact this) GW397.out))) _).trans (hHeld.2.2.2.2.2.2.2.2.2.2.1)))))))))), ((cell_far (p := ⟨gb397, _, none⟩) (by first | exact Nat.ne_of_lt (Nat.lt_of_lt_of_le (by have := World.block_lt_of_cell? _ _ hw395_0; first | rwa [add_block] at this | exact this) GW397.out) | (rw [add_block]; exact Nat.ne_of_lt (Nat.lt_of_lt_of_le (by have := World.block_lt_of_cell? _ _ hw395_0; first | rwa [add_block] at this | exact this) GW397.out)) | (show (Addr.add _ _).block ≠ _; rw [add_block]; exact Nat.ne_of_lt (Nat.lt_of_lt_of_le (by have := World.block_lt_of_cell? _ _ hw395_0; first | rwa [add_block] at this | exact this) GW397.out)) | (dsimp only; exact Nat.ne_of_lt (Nat.lt_of_lt_of_le (by have := World.block_lt_of_cell? _ _ hw395_0; first | rwa [add_block] at this | exact this) GW397.out))) _).trans (((cell_far (p := ⟨gb397, _, none⟩) (by first | exact Nat.ne_of_lt (Nat.lt_of_lt_of_le (by have := World.block_lt_of_cell? _ _ hw395_0; first | rwa [add_block] at this | exact this) GW397.out) | (rw [add_block]; exact Nat.ne_of_lt (Nat.lt_of_lt_of_le (by have := World.block_lt_of_cell? _ _ hw395_0; first | rwa [add_block] at this | exact this) GW397.out)) | (show (Addr.add _ _).block ≠ _; rw [add_block]; exact Nat.ne_of_lt (Nat.lt_of_lt_of_le (by have := World.block_lt_of_cell? _ _ hw395_0; first | rwa [add_block] at this | exact this) GW397.out)) | (dsimp only; exact Nat.ne_of_lt (Nat.lt_of_lt_of_le (by have := World.block_lt_of_cell? _ _ hw395_0; first | rwa [add_block] at this | exact this) GW397.out))) _).trans (((cell_far (p := ⟨gb397, _, none⟩) (by first | exact Nat.ne_of_lt (Nat.lt_of_lt_of_le (by have := World.block_lt_of_cell? _ _ hw395_0; first | rwa [add_block] at this | exact this) GW397.out) | (rw [add_block]; exact Nat.ne_of_lt (Nat.lt_of_lt_of_le (by have := World.block_lt_of_cell? _ _ hw395_0; first | rwa [add_block] at this | exact this) GW397.out)) | (show (Addr.add _ _).block ≠ _; rw [add_block]; exact Nat.ne_of_lt (Nat.lt_of_lt_of_le (by have := World.block_lt_of_cell? _ _ hw395_0; first | rwa [add_block] at this | exact this) GW397.out)) | (dsimp only; exact Nat.ne_of_lt (Nat.lt_of_lt_of_le (by have := World.block_lt_of_cell? _ _ hw395_0; first | rwa [add_block] at this | exact this) GW397.out))) _).trans (((cell_far (p := ⟨gb397, _, none⟩) (by first | exact Nat.ne_of_lt (Nat.lt_of_lt_of_le (by have := World.block_lt_of_cell? _ _ hw395_0; first | rwa [add_block] at this | exact this) GW397.out) | (rw [add_block]; exact Nat.ne_of_lt (Nat.lt_of_lt_of_le (by have := World.block_lt_of_cell? _ _ hw395_0; first | rwa [add_block] at this | exact this) GW397.out)) | (show (Addr.add _ _).block ≠ _; rw [add_block]; exact Nat.ne_of_lt (Nat.lt_of_lt_of_le (by have := World.block_lt_of_cell? _ _ hw395_0; first | rwa [add_block] at this | exact this) GW397.out)) | (dsimp only; exact Nat.ne_of_lt (Nat.lt_of_lt_of_le (by have := World.block_lt_of_cell? _ _ hw395_0; first | rwa [add_block] at this | exact this) GW397.out))) _).trans (((cell_far (p := ⟨gb397, _, none⟩) (by first | exact Nat.ne_of_lt (Nat.lt_of_lt_of_le (by have := World.block_lt_of_cell? _ _ hw395_0; first | rwa [add_block] at this | exact this) GW397.out) | (rw [add_block]; exact Nat.ne_of_lt (Nat.lt_of_lt_of_le (by have := World.block_lt_of_cell? _ _ hw395_0; first | rwa [add_block] at this | exact this) GW397.out)) | (show (Addr.add _ _).block ≠ _; rw [add_block]; exact Nat.ne_of_lt (Nat.lt_of_lt_of_le (by have := World.block_lt_of_cell? _ _ hw395_0; first | rwa [add_block] at this | exact this) GW397.out)) | (dsimp only; exact Nat.ne_of_lt (Nat.lt_of_lt_of_le (by have := World.block_lt_of_cell? _ _ hw395_0; first | rwa [add_block] at this | exact this) GW397.out))) _).trans (hHeld.2.2.2.2.2.2.2.2.2.2.2.1)))))))))), ((cell_far (p := ⟨gb397, _, none⟩) (by first | exact Nat.ne_of_lt (Nat.lt_of_lt_of_le (by have := World.block_lt_of_cell? _ _ hw395_1; first | rwa [add_block] at this | exact this) GW397.out) | (rw [add_block]; exact Nat.ne_of_lt (Nat.lt_of_lt_of_le (by have := World.block_lt_of_cell? _ _ hw395_1; first | rwa [add_block] at this | exact this) GW397.out)) | (show (Addr.add _ _).block ≠ _; rw [add_block]; exact Nat.ne_of_lt (Nat.lt_of_lt_of_le (by have := World.block_lt_of_cell? _ _ hw395_1; first | rwa [add_block] at this | exact this) GW397.out)) | (dsimp only; exact Nat.ne_of_lt (Nat.lt_of_lt_of_le (by have := World.block_lt_of_cell? _ _ hw395_1; first | rwa [add_block] at this | exact this) GW397.out))) _).trans (((cell_far (p := ⟨gb397, _, none⟩) (by first | exact Nat.ne_of_lt (Nat.lt_of_lt_of_le (by have := World.block_lt_of_cell? _ _ hw395_1; first | rwa [add_block] at this | exact this) GW397.out) | (rw [add_block]; exact Nat.ne_of_lt (Nat.lt_of_lt_of_le (by have := World.block_lt_of_cell? _ _ hw395_1; first | rwa [add_block] at this | exact this) GW397.out)) | (show (Addr.add _ _).block ≠ _; rw [add_block]; exact Nat.ne_of_lt (Nat.lt_of_lt_of_le (by have := World.block_lt_of_cell? _ _ hw395_1; first | rwa [add_block] at this | exact this) GW397.out)) | (dsimp only; exact Nat.ne_of_lt (Nat.lt_of_lt_of_le (by have := World.block_lt_of_cell? _ _ hw395_1; first | rwa [add_block] at this | exact this) GW397.out))) _).trans (((cell_far (p := ⟨gb397, _, none⟩) (by first | exact Nat.ne_of_lt (Nat.lt_of_lt_of_le (by have := World.block_lt_of_cell? _ _ hw395_1; first | rwa [add_block] at this | exact this) GW397.out) | (rw [add_block]; exact Nat.ne_of_lt (Nat.lt_of_lt_of_le (by have := World.block_lt_of_cell? _ _ hw395_1; first | rwa [add_block] at this | exact this) GW397.out)) | (show (Addr.add _ _).block ≠ _; rw [add_block]; exact Nat.ne_of_lt (Nat.lt_of_lt_of_le (by have := World.block_lt_of_cell? _ _ hw395_1; first | rwa [add_block] at this | exact this) GW397.out)) | (dsimp only; exact Nat.ne_of_lt (Nat.lt_of_lt_of_le (by have := World.block_lt_of_cell? _ _ hw395_1; first | rwa [add_block] at this | exact this) GW397.out))) _).trans (((cell_far (p := ⟨gb397, _, none⟩) (by first | exact Nat.ne_of_lt (Nat.lt_of_lt_of_le (by have := World.block_lt_of_cell? _ _ hw395_1; first | rwa [add_block] at this | exact this) GW397.out) | (rw [add_block]; exact Nat.ne_of_lt (Nat.lt_of_lt_of_le (by have := World.block_lt_of_cell? _ _ hw395_1; first | rwa [add_block] at this | exact this) GW397.out)) | (show (Addr.add _ _).block ≠ _; rw [add_block]; exact Nat.ne_of_lt (Nat.lt_of_lt_of_le (by have := World.block_lt_of_cell? _ _ hw395_1; first | rwa [add_block] at this | exact this) GW397.out)) | (dsimp only; exact Nat.ne_of_lt (Nat.lt_of_lt_of_le (by have := World.block_lt_of_cell? _ _ hw395_1; first | rwa [add_block] at this | exact this) GW397.out))) _).trans (((cell_far (p := ⟨gb397, _, none⟩) (by first | exact Nat.ne_of_lt (Nat.lt_of_lt_of_le (by have := World.block_lt_of_cell? _ _ hw395_1; first | rwa [add_block] at this | exact this) GW397.out) | (rw [add_block]; exact Nat.ne_of_lt (Nat.lt_of_lt_of_le (by have := World.block_lt_of_cell? _ _ hw395_1; first | rwa [add_block] at this | exact this) GW397.out)) | (show (Addr.add _ _).block ≠ _; rw [add_block]; exact Nat.ne_of_lt (Nat.lt_of_lt_of_le (by have := World.block_lt_of_cell? _ _ hw395_1; first | rwa [add_block] at this | exact this) GW397.out)) | (dsimp only; exact Nat.ne_of_lt (Nat.lt_of_lt_of_le (by have := World.block_lt_of_cell? _ _ hw395_1; first | rwa [add_block] at this | exact this) GW397.out))) _).trans (hHeld.2.2.2.2.2.2.2.2.2.2.2.2.1)))))))))), ((cell_far (p := ⟨gb397, _, none⟩) (by first | exact Nat.ne_of_lt (Nat.lt_of_lt_of_le (by have := World.block_lt_of_cell? _ _ hw395_2; first | rwa [add_block] at this | exact this) GW397.out) | (rw [add_block]; exact Nat.ne_of_lt (Nat.lt_of_lt_of_le (by have := World.block_lt_of_cell? _ _ hw395_2; first | rwa [add_block] at this | exact this) GW397.out)) | (show (Addr.add _ _).block ≠ _; rw [add_block]; exact Nat.ne_of_lt (Nat.lt_of_lt_of_le (by have := World.block_lt_of_cell? _ _ hw395_2; first | rwa [add_block] at this | exact this) GW397.out)) | (dsimp only; exact Nat.ne_of_lt (Nat.lt_of_lt_of_le (by have := World.block_lt_of_cell? _ _ hw395_2; first | rwa [add_block] at this | exact this) GW397.out))) _).trans (((cell_far (p := ⟨gb397, _, none⟩) (by first | exact Nat.ne_of_lt (Nat.lt_of_lt_of_le (by have := World.block_lt_of_cell? _ _ hw395_2; first | rwa [add_block] at this | exact this) GW397.out) | (rw [add_block]; exact Nat.ne_of_lt (Nat.lt_of_lt_of_le (by have := World.block_lt_of_cell? _ _ hw395_2; first | rwa [add_block] at this | exact this) GW397.out)) | (show (Addr.add _ _).block ≠ _; rw [add_block]; exact Nat.ne_of_lt (Nat.lt_of_lt_of_le (by have := World.block_lt_of_cell? _ _ hw395_2; first | rwa [add_block] at this | exact this) GW397.out)) | (dsimp only; exact Nat.ne_of_lt (Nat.lt_of_lt_of_le (by have := World.block_lt_of_cell? _ _ hw395_2; first | rwa [add_block] at this | exact this) GW397.out))) _).trans (((cell_far (p := ⟨gb397, _, none⟩) (by first | exact Nat.ne_of_lt (Nat.lt_of_lt_of_le (by have := World.block_lt_of_cell? _ _ hw395_2; first | rwa [add_block] at this | exact this) GW397.out) | (rw [add_block]; exact Nat.ne_of_lt (Nat.lt_of_lt_of_le (by have := World.block_lt_of_cell? _ _ hw395_2; first | rwa [add_block] at this | exact this) GW397.out)) | (show (Addr.add _ _).block ≠ _; rw [add_block]; exact Nat.ne_of_lt (Nat.lt_of_lt_of_le (by have := World.block_lt_of_cell? _ _ hw395_2; first | rwa [add_block] at this | exact this) GW397.out)) | (dsimp only; exact Nat.ne_of_lt (Nat.lt_of_lt_of_le (by have := World.block_lt_of_cell? _ _ hw395_2; first | rwa [add_block] at this | exact this) GW397.out))) _).trans (((cell_far (p := ⟨gb397, _, none⟩) (by first | exact Nat.ne_of_lt (Nat.lt_of_lt_of_le (by have := World.block_lt_of_cell? _ _ hw395_2; first | rwa [add_block] at this | exact this) GW397.out) | (rw [add_block]; exact Nat.ne_of_lt (Nat.lt_of_lt_of_le (by have := World.block_lt_of_cell? _ _ hw395_2; first | rwa [add_block] at this | exact this) GW397.out)) | (show (Addr.add _ _).block ≠ _; rw [add_block]; exact Nat.ne_of_lt (Nat.lt_of_lt_of_le (by have := World.block_lt_of_cell? _ _ hw395_2; first | rwa [add_block] at this | exact this) GW397.out)) | (dsimp only; exact Nat.ne_of_lt (Nat.lt_of_lt_of_le (by have := World.block_lt_of_cell? _ _ hw395_2; first | rwa [add_block] at this | exact this) GW397.out))) _).trans (((cell_far (p := ⟨gb397, _, none⟩) (by first | exact Nat.ne_of_lt (Nat.lt_of_lt_of_le (by have := World.block_lt_of_cell? _ _ hw395_2; first | rwa [add_block] at this | exact this) GW397.out) | (rw [add_block]; exact Nat.ne_of_lt (Nat.lt_of_lt_of_le (by have := World.block_lt_of_cell? _ _ hw395_2; first | rwa [add_block] at this | exact this) GW397.out)) | (show (Addr.add _ _).block ≠ _; rw [add_block]; exact Nat.ne_of_lt (Nat.lt_of_lt_of_le (by have := World.block_lt_of_cell? _ _ hw395_2; first | rwa [add_block] at this | exact this) GW397.out)) | (dsimp only; exact Nat.ne_of_lt (Nat.lt_of_lt_of_le (by have := World.block_lt_of_cell? _ _ hw395_2; first | rwa [add_block] at this | exact this) GW397.out))) _).trans (hHeld.2.2.2.2.2.2.2.2.2.2.2.2.2.1)))))))))), ((cell_far (p := ⟨gb397, _, none⟩) (by first | exact Nat.ne_of_lt (Nat.lt_of_lt_of_le (by have := World.block_lt_of_cell? _ _ hw395_3; first | rwa [add_block] at this | exact this) GW397.out) | (rw [add_block]; exact Nat.ne_of_lt (Nat.lt_of_lt_of_le (by have := World.block_lt_of_cell? _ _ hw395_3; first | rwa [add_block] at this | exact this) GW397.out)) | (show (Addr.add _ _).block ≠ _; rw [add_block]; exact Nat.ne_of_lt (Nat.lt_of_lt_of_le (by have := World.block_lt_of_cell? _ _ hw395_3; first | rwa [add_block] at this | exact this) GW397.out)) | (dsimp only; exact Nat.ne_of_lt (Nat.lt_of_lt_of_le (by have := World.block_lt_of_cell? _ _ hw395_3; first | rwa [add_block] at this | exact this) GW397.out))) _).trans (((cell_far (p := ⟨gb397, _, none⟩) (by first | exact Nat.ne_of_lt (Nat.lt_of_lt_of_le (by have := World.block_lt_of_cell? _ _ hw395_3; first | rwa [add_block] at this | exact this) GW397.out) | (rw [add_block]; exact Nat.ne_of_lt (Nat.lt_of_lt_of_le (by have := World.block_lt_of_cell? _ _ hw395_3; first | rwa [add_block] at this | exact this) GW397.out)) | (show (Addr.add _ _).block ≠ _; rw [add_block]; exact Nat.ne_of_lt (Nat.lt_of_lt_of_le (by have := World.block_lt_of_cell? _ _ hw395_3; first | rwa [add_block] at this | exact this) GW397.out)) | (dsimp only; exact Nat.ne_of_lt (Nat.lt_of_lt_of_le (by have := World.block_lt_of_cell? _ _ hw395_3; first | rwa [add_block] at this | exact this) GW397.out))) _).trans (((cell_far (p := ⟨gb397, _, none⟩) (by first | exact Nat.ne_of_lt (Nat.lt_of_lt_of_le (by have := World.block_lt_of_cell? _ _ hw395_3; first | rwa [add_block] at this | exact this) GW397.out) | (rw [add_block]; exact Nat.ne_of_lt (Nat.lt_of_lt_of_le (by have := World.block_lt_of_cell? _ _ hw395_3; first | rwa [add_block] at this | exact this) GW397.out)) | (show (Addr.add _ _).block ≠ _; rw [add_block]; exact Nat.ne_of_lt (Nat.lt_of_lt_of_le (by have := World.block_lt_of_cell? _ _ hw395_3; first | rwa [add_block] at this | exact this) GW397.out)) | (dsimp only; exact Nat.ne_of_lt (Nat.lt_of_lt_of_le (by have := World.block_lt_of_cell? _ _ hw395_3; first | rwa [add_block] at this | exact this) GW397.out))) _).trans (((cell_far (p := ⟨gb397, _, none⟩) (by first | exact Nat.ne_of_lt (Nat.lt_of_lt_of_le (by have := World.block_lt_of_cell? _ _ hw395_3; first | rwa [add_block] at this | exact this) GW397.out) | (rw [add_block]; exact Nat.ne_of_lt (Nat.lt_of_lt_of_le (by have := World.block_lt_of_cell? _ _ hw395_3; first | rwa [add_block] at this | exact this) GW397.out)) | (show (Addr.add _ _).block ≠ _; rw [add_block]; exact Nat.ne_of_lt (Nat.lt_of_lt_of_le (by have := World.block_lt_of_cell? _ _ hw395_3; first | rwa [add_block] at this | exact this) GW397.out)) | (dsimp only; exact Nat.ne_of_lt (Nat.lt_of_lt_of_le (by have := World.block_lt_of_cell? _ _ hw395_3; first | rwa [add_block] at this | exact this) GW397.out))) _).trans (((cell_far (p := ⟨gb397, _, none⟩) (by first | exact Nat.ne_of_lt (Nat.lt_of_lt_of_le (by have := World.block_lt_of_cell? _ _ hw395_3; first | rwa [add_block] at this | exact this) GW397.out) | (rw [add_block]; exact Nat.ne_of_lt (Nat.lt_of_lt_of_le (by have := World.block_lt_of_cell? _ _ hw395_3; first | rwa [add_block] at this | exact this) GW397.out)) | (show (Addr.add _ _).block ≠ _; rw [add_block]; exact Nat.ne_of_lt (Nat.lt_of_lt_of_le (by have := World.block_lt_of_cell? _ _ hw395_3; first | rwa [add_block] at this | exact this) GW397.out)) | (dsimp only; exact Nat.ne_of_lt (Nat.lt_of_lt_of_le (by have := World.block_lt_of_cell? _ _ hw395_3; first | rwa [add_block] at this | exact this) GW397.out))) _).trans (hHeld.2.2.2.2.2.2.2.2.2.2.2.2.2.2.1)))))))))), ((cell_far (p := ⟨gb397, _, none⟩) (by first | exact Nat.ne_of_lt (Nat.lt_of_lt_of_le (by have := World.block_lt_of_cell? _ _ hw395_4; first | rwa [add_block] at this | exact this) GW397.out) | (rw [add_block]; exact Nat.ne_of_lt (Nat.lt_of_lt_of_le (by have := World.block_lt_of_cell? _ _ hw395_4; first | rwa [add_block] at this | exact this) GW397.out)) | (show (Addr.add _ _).block ≠ _; rw [add_block]; exact Nat.ne_of_lt (Nat.lt_of_lt_of_le (by have := World.block_lt_of_cell? _ _ hw395_4; first | rwa [add_block] at this | exact this) GW397.out)) | (dsimp only; exact Nat.ne_of_lt (Nat.lt_of_lt_of_le (by have := World.block_lt_of_cell? _ _ hw395_4; first | rwa [add_block] at this | exact this) GW397.out))) _).trans (((cell_far (p := ⟨gb397, _, none⟩) (by first | exact Nat.ne_of_lt (Nat.lt_of_lt_of_le (by have := World.block_lt_of_cell? _ _ hw395_4; first | rwa [add_block] at this | exact this) GW397.out) | (rw [add_block]; exact Nat.ne_of_lt (Nat.lt_of_lt_of_le (by have := World.block_lt_of_cell? _ _ hw395_4; first | rwa [add_block] at this | exact this) GW397.out)) | (show (Addr.add _ _).block ≠ _; rw [add_block]; exact Nat.ne_of_lt (Nat.lt_of_lt_of_le (by have := World.block_lt_of_cell? _ _ hw395_4; first | rwa [add_block] at this | exact this) GW397.out)) | (dsimp only; exact Nat.ne_of_lt (Nat.lt_of_lt_of_le (by have := World.block_lt_of_cell? _ _ hw395_4; first | rwa [add_block] at this | exact this) GW397.out))) _).trans (((cell_far (p := ⟨gb397, _, none⟩) (by first | exact Nat.ne_of_lt (Nat.lt_of_lt_of_le (by have := World.block_lt_of_cell? _ _ hw395_4; first | rwa [add_block] at this | exact this) GW397.out) | (rw [add_block]; exact Nat.ne_of_lt (Nat.lt_of_lt_of_le (by have := World.block_lt_of_cell? _ _ hw395_4; first | rwa [add_block] at this | exact this) GW397.out)) | (show (Addr.add _ _).block ≠ _; rw [add_block]; exact Nat.ne_of_lt (Nat.lt_of_lt_of_le (by have := World.block_lt_of_cell? _ _ hw395_4; first | rwa [add_block] at this | exact this) GW397.out)) | (dsimp only; exact Nat.ne_of_lt (Nat.lt_of_lt_of_le (by have := World.block_lt_of_cell? _ _ hw395_4; first | rwa [add_block] at this | exact this) GW397.out))) _).trans (((cell_far (p := ⟨gb397, _, none⟩) (by first | exact Nat.ne_of_lt (Nat.lt_of_lt_of_le (by have := World.block_lt_of_cell? _ _ hw395_4; first | rwa [add_block] at this | exact this) GW397.out) | (rw [add_block]; exact Nat.ne_of_lt (Nat.lt_of_lt_of_le (by have := World.block_lt_of_cell? _ _ hw395_4; first | rwa [add_block] at this | exact this) GW397.out)) | (show (Addr.add _ _).block ≠ _; rw [add_block]; exact Nat.ne_of_lt (Nat.lt_of_lt_of_le (by have := World.block_lt_of_cell? _ _ hw395_4; first | rwa [add_block] at this | exact this) GW397.out)) | (dsimp only; exact Nat.ne_of_lt (Nat.lt_of_lt_of_le (by have := World.block_lt_of_cell? _ _ hw395_4; first | rwa [add_block] at this | exact this) GW397.out))) _).trans (((cell_far (p := ⟨gb397, _, none⟩) (by first | exact Nat.ne_of_lt (Nat.lt_of_lt_of_le (by have := World.block_lt_of_cell? _ _ hw395_4; first | rwa [add_block] at this | exact this) GW397.out) | (rw [add_block]; exact Nat.ne_of_lt (Nat.lt_of_lt_of_le (by have := World.block_lt_of_cell? _ _ hw395_4; first | rwa [add_block] at this | exact this) GW397.out)) | (show (Addr.add _ _).block ≠ _; rw [add_block]; exact Nat.ne_of_lt (Nat.lt_of_lt_of_le (by have := World.block_lt_of_cell? _ _ hw395_4; first | rwa [add_block] at this | exact this) GW397.out)) | (dsimp only; exact Nat.ne_of_lt (Nat.lt_of_lt_of_le (by have := World.block_lt_of_cell? _ _ hw395_4; first | rwa [add_block] at this | exact this) GW397.out))) _).trans (hHeld.2.2.2.2.2.2.2.2.2.2.2.2.2.2.2))))))))))⟩ (fun hHeld => ?_)
                 clear hK K
                 refine done_ (done_of HT_.out (by kernel_rfl)) ?_
                 have hnb54 := NB396_390.out; have hnc54 := NB390_396.out; have hnb55 := NB396_391.out; have hnc55 := NB391_396.out; have hnb56 := NB396_397.out; have hnc56 := NB397_396.out
                 have hcz57_0 : w43.cell? ⟨gb396, 0, none⟩ = some (.string (⟨#[]⟩ : ByteArray)) := (blk_cell BK396.out 0).trans rfl
                 have hcz57_1 : w43.cell? ⟨gb396, 1, none⟩ = some (.slice none 0 0) := (blk_cell BK396.out 1).trans rfl
                 have hcz57_2 : w43.cell? ⟨gb396, 2, none⟩ = some (.slice none 0 0) := (blk_cell BK396.out 2).trans rfl
                 have hcz57_3 : w43.cell? ⟨gb396, 3, none⟩ = some (.slice none 0 0) := (blk_cell BK396.out 3).trans rfl
                 have hcz57_4 : w43.cell? ⟨gb396, 4, none⟩ = some (.int .i64 0) := (blk_cell BK396.out 4).trans rfl
                 have hfz57_0 := blk_frozen BK396.out 0; have hfz57_1 := blk_frozen BK396.out 1; have hfz57_2 := blk_frozen BK396.out 2; have hfz57_3 := blk_frozen BK396.out 3; have hfz57_4 := blk_frozen BK396.out 4; have hnb58 := NB397_390.out; have hnc58 := NB390_397.out; have hnb59 := NB397_391.out; have hnc59 := NB391_397.out
                 have hcz60_0 : w43.cell? ⟨gb397, 0, none⟩ = some (.string (⟨#[]⟩ : ByteArray)) := (blk_cell BK397.out 0).trans rfl
                 have hcz60_1 : w43.cell? ⟨gb397, 1, none⟩ = some (.slice none 0 0) := (blk_cell BK397.out 1).trans rfl
                 have hcz60_2 : w43.cell? ⟨gb397, 2, none⟩ = some (.slice none 0 0) := (blk_cell BK397.out 2).trans rfl
                 have hcz60_3 : w43.cell? ⟨gb397, 3, none⟩ = some (.slice none 0 0) := (blk_cell BK397.out 3).trans rfl
                 have hcz60_4 : w43.cell? ⟨gb397, 4, none⟩ = some (.int .i64 0) := (blk_cell BK397.out 4).trans rfl
                 have hfz60_0 := blk_frozen BK397.out 0; have hfz60_1 := blk_frozen BK397.out 1; have hfz60_2 := blk_frozen BK397.out 2; have hfz60_3 := blk_frozen BK397.out 3; have hfz60_4 := blk_frozen BK397.out 4
                 try go_wp2_with (first | (go_at_call 35; (with_reducible refine (r09_SameArcs.calls k3 _ _ ((rd_T41 l0_2 x6_3).f1) _ _ ((rd_T41 l1_2 x6_3).f1) true _ ?side1 ?side2 ?side3 ?side4 A32.out).mono ?_); (case side1 => exact Kd.C_below HR394_1.out (by repeat (first | (with_reducible first | exact HB.out | apply below_alloc | apply pw_below_drewN | apply below_drew1 | refine below_set ?_ GE390.out | refine below_set ?_ GE391.out | refine below_set ?_ GE396.out | refine below_set ?_ GE397.out) | exact HB.out))); (case side2 => exact HC394_1.out); (case side3 => exact Kd.C_below HR395_1.out (by repeat (first | (with_reducible first | exact HB.out | apply below_alloc | apply pw_below_drewN | apply below_drew1 | refine below_set ?_ GE390.out | refine below_set ?_ GE391.out | refine below_set ?_ GE396.out | refine below_set ?_ GE397.out) | exact HB.out))); (case side4 => exact HC395_1.out); rintro e w' ⟨rfl, ⟨nd, rfl⟩⟩) | (go_at_call 35; (with_reducible refine (r09_SameArcs.calls k3 _ _ ((rd_T41 l0_2 x6_3).f2) _ _ ((rd_T41 l1_2 x6_3).f2) true _ ?side1 ?side2 ?side3 ?side4 A34.out).mono ?_); (case side1 => exact Kd.C_below HR394_2.out (by repeat (first | (with_reducible first | exact HB.out | apply below_alloc | apply pw_below_drewN | apply below_drew1 | refine below_set ?_ GE390.out | refine below_set ?_ GE391.out | refine below_set ?_ GE396.out | refine below_set ?_ GE397.out) | exact HB.out))); (case side2 => exact HC394_2.out); (case side3 => exact Kd.C_below HR395_2.out (by repeat (first | (with_reducible first | exact HB.out | apply below_alloc | apply pw_below_drewN | apply below_drew1 | refine below_set ?_ GE390.out | refine below_set ?_ GE391.out | refine below_set ?_ GE396.out | refine below_set ?_ GE397.out) | exact HB.out))); (case side4 => exact HC395_2.out); rintro e w' ⟨rfl, ⟨nd, rfl⟩⟩) | (go_at_call 35; (with_reducible refine (r09_SameArcs.calls k3 _ _ ((rd_T41 l0_2 x6_3).f3) _ _ ((rd_T41 l1_2 x6_3).f3) true _ ?side1 ?side2 ?side3 ?side4 A36.out).mono ?_); (case side1 => exact Kd.C_below HR394_3.out (by repeat (first | (with_reducible first | exact HB.out | apply below_alloc | apply pw_below_drewN | apply below_drew1 | refine below_set ?_ GE390.out | refine below_set ?_ GE391.out | refine below_set ?_ GE396.out | refine below_set ?_ GE397.out) | exact HB.out))); (case side2 => exact HC394_3.out); (case side3 => exact Kd.C_below HR395_3.out (by repeat (first | (with_reducible first | exact HB.out | apply below_alloc | apply pw_below_drewN | apply below_drew1 | refine below_set ?_ GE390.out | refine below_set ?_ GE391.out | refine below_set ?_ GE396.out | refine below_set ?_ GE397.out) | exact HB.out))); (case side4 => exact HC395_3.out); rintro e w' ⟨rfl, ⟨nd, rfl⟩⟩))
                 go_roundg k3
                 case measure => have := HJ2.out; have := HK2.out; have := HK3.out; omega
                 case rel => exact ⟨(wrap64 (x6_3 + 1)), eT, H', ⟨by have := HJ2.out; have := HK2.out; have := HK3.out; omega⟩, ⟨by (with_reducible repeat (first | refine blk_drewN ?_ _ | refine blk_drew ?_ | refine blk_alloc ?_ _)); refine blk_far ?_ NB390_397.out _; (with_reducible repeat (first | refine blk_drewN ?_ _ | refine blk_drew ?_ | refine blk_alloc ?_ _)); refine blk_far ?_ NB390_397.out _; (with_reducible repeat (first | refine blk_drewN ?_ _ | refine blk_drew ?_ | refine blk_alloc ?_ _)); refine blk_far ?_ NB390_397.out _; (with_reducible repeat (first | refine blk_drewN ?_ _ | refine blk_drew ?_ | refine blk_alloc ?_ _)); refine blk_far ?_ NB390_397.out _; (with_reducible repeat (first | refine blk_drewN ?_ _ | refine blk_drew ?_ | refine blk_alloc ?_ _)); refine blk_far ?_ NB390_397.out _; (with_reducible repeat (first | refine blk_drewN ?_ _ | refine blk_drew ?_ | refine blk_alloc ?_ _)); refine blk_far ?_ NB390_396.out _; (with_reducible repeat (first | refine blk_drewN ?_ _ | refine blk_drew ?_ | refine blk_alloc ?_ _)); refine blk_far ?_ NB390_396.out _; (with_reducible repeat (first | refine blk_drewN ?_ _ | refine blk_drew ?_ | refine blk_alloc ?_ _)); refine blk_far ?_ NB390_396.out _; (with_reducible repeat (first | refine blk_drewN ?_ _ | refine blk_drew ?_ | refine blk_alloc ?_ _)); refine blk_far ?_ NB390_396.out _; (with_reducible repeat (first | refine blk_drewN ?_ _ | refine blk_drew ?_ | refine blk_alloc ?_ _)); refine blk_far ?_ NB390_396.out _; (with_reducible repeat (first | refine blk_drewN ?_ _ | refine blk_drew ?_ | refine blk_alloc ?_ _)); exact BK390.out⟩, ⟨by (with_reducible repeat (first | refine blk_drewN ?_ _ | refine blk_drew ?_ | refine blk_alloc ?_ _)); refine blk_far ?_ NB391_397.out _; (with_reducible repeat (first | refine blk_drewN ?_ _ | refine blk_drew ?_ | refine blk_alloc ?_ _)); refine blk_far ?_ NB391_397.out _; (with_reducible repeat (first | refine blk_drewN ?_ _ | refine blk_drew ?_ | refine blk_alloc ?_ _)); refine blk_far ?_ NB391_397.out _; (with_reducible repeat (first | refine blk_drewN ?_ _ | refine blk_drew ?_ | refine blk_alloc ?_ _)); refine blk_far ?_ NB391_397.out _; (with_reducible repeat (first | refine blk_drewN ?_ _ | refine blk_drew ?_ | refine blk_alloc ?_ _)); refine blk_far ?_ NB391_397.out _; (with_reducible repeat (first | refine blk_drewN ?_ _ | refine blk_drew ?_ | refine blk_alloc ?_ _)); refine blk_far ?_ NB391_396.out _; (with_reducible repeat (first | refine blk_drewN ?_ _ | refine blk_drew ?_ | refine blk_alloc ?_ _)); refine blk_far ?_ NB391_396.out _; (with_reducible repeat (first | refine blk_drewN ?_ _ | refine blk_drew ?_ | refine blk_alloc ?_ _)); refine blk_far ?_ NB391_396.out _; (with_reducible repeat (first | refine blk_drewN ?_ _ | refine blk_drew ?_ | refine blk_alloc ?_ _)); refine blk_far ?_ NB391_396.out _; (with_reducible repeat (first | refine blk_drewN ?_ _ | refine blk_drew ?_ | refine blk_alloc ?_ _)); refine blk_far ?_ NB391_396.out _; (with_reducible repeat (first | refine blk_drewN ?_ _ | refine blk_drew ?_ | refine blk_alloc ?_ _)); exact BK391.out⟩, ⟨by repeat (first | (with_reducible first | exact HB.out | apply below_alloc | apply pw_below_drewN | apply below_drew1 | refine below_set ?_ GE390.out | refine below_set ?_ GE391.out | refine below_set ?_ GE396.out | refine below_set ?_ GE397.out) | exact HB.out)⟩⟩
                ·
                 replace c37 := Bool.eq_false_iff.mpr c37
                 subst c37
                 have H1 : (none) = some r := by rw [if_neg (show ¬ (false = true) by decide)] at H; exact H
                 clear H; have H := H1; clear H1
                 exact absurd H (by simp)
               ·
                replace c35 := Bool.eq_false_iff.mpr c35
                subst c35
                have H1 : (none) = some r := by rw [if_neg (show ¬ (false = true) by decide)] at H; exact H
                clear H; have H := H1; clear H1
                exact absurd H (by simp)
              ·
               replace c33 := Bool.eq_false_iff.mpr c33
               subst c33
               have H1 : (none) = some r := by rw [if_neg (show ¬ (false = true) by decide)] at H; exact H
               clear H; have H := H1; clear H1
               exact absurd H (by simp)
             ·
              rw [if_neg c31] at H
              exact absurd H (by simp)
            ·
             rw [if_neg c30] at H
             exact absurd H (by simp)
           ·
            rw [if_neg c29] at H
            exact absurd H (by simp)
          ·
           rw [if_neg c28] at H
           exact absurd H (by simp)
         ·
          rw [if_neg c27] at H
          have c27b0 : decide (x6_3 < (l0_2.length : Int)) = false := decide_eq_false c27; clear c27
          obtain rfl := Option.some.inj H
          have hnb61 := NB390_391.out; have hnc61 := NB391_390.out
          have hcz62_0 : wr.cell? ⟨gb390, 0, none⟩ = some (.string a0_0) := (blk_cell BK390.out 0).trans rfl
          have hcz62_1 : wr.cell? ⟨gb390, 1, none⟩ = some (.slice A0_1 l0_1.length c0_1) := (blk_cell BK390.out 1).trans rfl
          have hcz62_2 : wr.cell? ⟨gb390, 2, none⟩ = some (.slice A0_2 l0_2.length c0_2) := (blk_cell BK390.out 2).trans rfl
          have hfz62_0 := blk_frozen BK390.out 0; have hfz62_1 := blk_frozen BK390.out 1; have hfz62_2 := blk_frozen BK390.out 2
          go_wp2
          go_ret
          exact ⟨rT, bB2 HB.out GE390.out GE391.out⟩












/-! ### discover_Same: function 20 -/
mutual
def discover_Same.j0 : Nat → List (List ByteArray) → List (List ByteArray) → List (List Int) → List (List Int) → Bool → Option (Bool)
 | 0, _, _, _, _, _ => none
 | k + 1, x0, x1, x5, x7, x38 => if x38 = true then (some false) else ((eventlog_Activities.f k x1).bind fun t463 => ((eventlog_Activities.f k x0).bind fun t466 => (discover_Same.l0 k x5 x7 t463 t466 (t466.length : Int) 0)))
def discover_Same.l0 : Nat → List (List Int) → List (List Int) → List ByteArray → List ByteArray → Int → Int → Option (Bool)
 | 0, _, _, _, _, _, _ => none
 | k + 1, x5, x7, x9, x42, x43, x44 => if x44 < x43 then (if 0 ≤ x44 then (if x44 < (x42.length : Int) then (if x44 < (x9.length : Int) then (if (rdOf ByteArray.empty x9 x44).toList = (rdOf ByteArray.empty x42 x44).toList then (discover_Same.l0 k x5 x7 x9 x42 x43 (wrap64 (x44 + 1))) else (some false)) else (none)) else (none)) else (none)) else (discover_Same.l1 k x7 x5 (x5.length : Int) 0)
def discover_Same.l1 : Nat → List (List Int) → List (List Int) → Int → Int → Option (Bool)
 | 0, _, _, _, _ => none
 | k + 1, x7, x56, x57, x58 => if x58 < x57 then (if 0 ≤ x58 then (if x58 < (x56.length : Int) then (discover_Same.l2 k x7 x58 x56 x57 x58 (rd_L5 x56 x58) ((rd_L5 x56 x58).length : Int) 0) else (none)) else (none)) else (some true)
def discover_Same.l2 : Nat → List (List Int) → Int → List (List Int) → Int → Int → List Int → Int → Int → Option (Bool)
 | 0, _, _, _, _, _, _, _, _ => none
 | k + 1, x7, x12, x56, x57, x58, x63, x64, x65 => if x65 < x64 then (if 0 ≤ x65 then (if x65 < (x63.length : Int) then (if 0 ≤ x12 then (if x12 < (x7.length : Int) then (if x65 < ((rd_L5 x7 x12).length : Int) then (if (rd (rd_L5 x7 x12) x65) = (rd x63 x65) then (discover_Same.l2 k x7 x12 x56 x57 x58 x63 x64 (wrap64 (x65 + 1))) else (some false)) else (none)) else (none)) else (none)) else (none)) else (none)) else (discover_Same.l1 k x7 x56 x57 (wrap64 (x58 + 1)))
end
def discover_Same.f (k : Nat) (l0 : List (List ByteArray)) (l1 : List (List ByteArray)) : Option (Bool) := (discover_Footprint.f k l0).bind fun bt455 => ((discover_Footprint.f k l1).bind fun bt459 => (if bt455.2 = 0 then (if bt459.2 = 0 then (discover_Same.j0 k l0 l1 bt455.1 bt459.1 ((bt455.1.length : Int) != (bt459.1.length : Int))) else (discover_Same.j0 k l0 l1 bt455.1 bt459.1 true)) else (discover_Same.j0 k l0 l1 bt455.1 bt459.1 true)))
theorem discover_Same.mono_l : ∀ k, (∀ y0 y1 y2 y3 y4, LeO (discover_Same.j0 k y0 y1 y2 y3 y4) (discover_Same.j0 (k + 1) y0 y1 y2 y3 y4)) ∧ (∀ y0 y1 y2 y3 y4 y5, LeO (discover_Same.l0 k y0 y1 y2 y3 y4 y5) (discover_Same.l0 (k + 1) y0 y1 y2 y3 y4 y5)) ∧ (∀ y0 y1 y2 y3, LeO (discover_Same.l1 k y0 y1 y2 y3) (discover_Same.l1 (k + 1) y0 y1 y2 y3)) ∧ (∀ y0 y1 y2 y3 y4 y5 y6 y7, LeO (discover_Same.l2 k y0 y1 y2 y3 y4 y5 y6 y7) (discover_Same.l2 (k + 1) y0 y1 y2 y3 y4 y5 y6 y7))
 | 0 => ⟨fun _ _ _ _ _ r h => by simp [discover_Same.j0] at h, fun _ _ _ _ _ _ r h => by simp [discover_Same.l0] at h, fun _ _ _ _ r h => by simp [discover_Same.l1] at h, fun _ _ _ _ _ _ _ _ r h => by simp [discover_Same.l2] at h⟩
 | k + 1 => by
  obtain ⟨ih0, ih1, ih2, ih3⟩ := discover_Same.mono_l k
  refine ⟨?_, ?_, ?_, ?_⟩
  ·
   intro y0 y1 y2 y3 y4
   unfold discover_Same.j0
   repeat' first
   | (with_reducible first | exact ih0 _ _ _ _ _ | exact ih1 _ _ _ _ _ _ | exact ih2 _ _ _ _ | exact ih3 _ _ _ _ _ _ _ _ | exact discover_Footprint.mono _ _ | exact eventlog_Activities.mono _ _ | exact LeO.refl _ | exact LeO.none _ | refine LeO.ite ?_ ?_ | refine LeO.bind ?_ (fun _ => ?_))
   | exact LeO.none _
   | refine LeO.ite ?_ ?_
   | refine LeO.bind ?_ (fun _ => ?_)
  ·
   intro y0 y1 y2 y3 y4 y5
   unfold discover_Same.l0
   repeat' first
   | (with_reducible first | exact ih0 _ _ _ _ _ | exact ih1 _ _ _ _ _ _ | exact ih2 _ _ _ _ | exact ih3 _ _ _ _ _ _ _ _ | exact discover_Footprint.mono _ _ | exact eventlog_Activities.mono _ _ | exact LeO.refl _ | exact LeO.none _ | refine LeO.ite ?_ ?_ | refine LeO.bind ?_ (fun _ => ?_))
   | exact LeO.none _
   | refine LeO.ite ?_ ?_
   | refine LeO.bind ?_ (fun _ => ?_)
  ·
   intro y0 y1 y2 y3
   unfold discover_Same.l1
   repeat' first
   | (with_reducible first | exact ih0 _ _ _ _ _ | exact ih1 _ _ _ _ _ _ | exact ih2 _ _ _ _ | exact ih3 _ _ _ _ _ _ _ _ | exact discover_Footprint.mono _ _ | exact eventlog_Activities.mono _ _ | exact LeO.refl _ | exact LeO.none _ | refine LeO.ite ?_ ?_ | refine LeO.bind ?_ (fun _ => ?_))
   | exact LeO.none _
   | refine LeO.ite ?_ ?_
   | refine LeO.bind ?_ (fun _ => ?_)
  ·
   intro y0 y1 y2 y3 y4 y5 y6 y7
   unfold discover_Same.l2
   repeat' first
   | (with_reducible first | exact ih0 _ _ _ _ _ | exact ih1 _ _ _ _ _ _ | exact ih2 _ _ _ _ | exact ih3 _ _ _ _ _ _ _ _ | exact discover_Footprint.mono _ _ | exact eventlog_Activities.mono _ _ | exact LeO.refl _ | exact LeO.none _ | refine LeO.ite ?_ ?_ | refine LeO.bind ?_ (fun _ => ?_))
   | exact LeO.none _
   | refine LeO.ite ?_ ?_
   | refine LeO.bind ?_ (fun _ => ?_)
theorem discover_Same.mono : ∀ a0 a1 k, LeO (discover_Same.f k a0 a1) (discover_Same.f (k + 1) a0 a1) := by
 intro a0 a1 k
 obtain ⟨ih0, ih1, ih2, ih3⟩ := discover_Same.mono_l k
 unfold discover_Same.f
 repeat' first
   | (with_reducible first | exact ih0 _ _ _ _ _ | exact ih1 _ _ _ _ _ _ | exact ih2 _ _ _ _ | exact ih3 _ _ _ _ _ _ _ _ | exact discover_Footprint.mono _ _ | exact eventlog_Activities.mono _ _ | exact LeO.refl _ | exact LeO.none _ | refine LeO.ite ?_ ?_ | refine LeO.bind ?_ (fun _ => ?_))
   | exact LeO.none _
   | refine LeO.ite ?_ ?_
   | refine LeO.bind ?_ (fun _ => ?_)
set_option maxHeartbeats 8000000 in
set_option maxRecDepth 100000 in
theorem discover_Same.calls (k : Nat) (A0 : Option Addr) (c0 : Nat) (l0 : List (List ByteArray)) (A1 : Option Addr) (c1 : Nat) (l1 : List (List ByteArray)) (r : Bool) (w : World) (hr0 : Kd.C (Kd.slice 9 Kd.string) w A0 l0.length l0) (hc0 : l0.length ≤ c0) (hr1 : Kd.C (Kd.slice 9 Kd.string) w A1 l1.length l1) (hc1 : l1.length ≤ c1) (h : discover_Same.f k l0 l1 = some r) :
  Calls Tryd.prog 20 #[.slice A0 l0.length c0, .slice A1 l1.length c1] w fun e w' => e = .returned (.bool r) ∧ Below w.heap.size w w' := by
 have HR0 := aM hr0; have HC0 := aM hc0; clear hr0 hc0; have HR1 := aM hr1; have HC1 := aM hc1; clear hr1 hc1; have HB := aM (Below.refl w.heap.size w)
 have H : ((discover_Footprint.f k l0).bind fun bt455 => ((discover_Footprint.f k l1).bind fun bt459 => (if bt455.2 = 0 then (if bt459.2 = 0 then (discover_Same.j0 k l0 l1 bt455.1 bt459.1 ((bt455.1.length : Int) != (bt459.1.length : Int))) else (discover_Same.j0 k l0 l1 bt455.1 bt459.1 true)) else (discover_Same.j0 k l0 l1 bt455.1 bt459.1 true)))) = some r := h
 clear h; replace H := Option.bind_eq_some_iff.mp H
 obtain ⟨⟨t455, t456⟩, A30, H⟩ := H
 replace H : ((discover_Footprint.f k l1).bind fun bt459 => (if t456 = 0 then (if bt459.2 = 0 then (discover_Same.j0 k l0 l1 t455 bt459.1 ((t455.length : Int) != (bt459.1.length : Int))) else (discover_Same.j0 k l0 l1 t455 bt459.1 true)) else (discover_Same.j0 k l0 l1 t455 bt459.1 true))) = some r := H
 have A3 := aM A30; clear A30; replace H := Option.bind_eq_some_iff.mp H
 obtain ⟨⟨t459, t460⟩, A40, H⟩ := H
 replace H : (if t456 = 0 then (if t460 = 0 then (discover_Same.j0 k l0 l1 t455 t459 ((t455.length : Int) != (t459.length : Int))) else (discover_Same.j0 k l0 l1 t455 t459 true)) else (discover_Same.j0 k l0 l1 t455 t459 true)) = some r := H
 have A4 := aM A40; clear A40; have HC5 := aM H; clear H
 go_enter Tryd.func20, Tryd.ntmps20
 go_upto_region 3 with (first | ((with_reducible refine gate_callee (f := 19) rfl ?_); refine goesL_ (some 18) rfl rfl Tryd.func19 (by kernel_rfl) rfl #[.slice A0 l0.length c0] rfl mT ?_; (with_reducible refine (discover_Footprint.calls k _ _ l0 t455 t456 _ ?side1 ?side2 A3.out).mono ?_); (case side1 => repeat (first | exact HR0.out | (with_reducible refine Kd.C_alloc ?_ _) | (with_reducible refine Kd.C_drewN ?_ _) | (with_reducible refine Kd.C_drew ?_))); (case side2 => exact HC0.out); rintro e w6 ⟨v457, rfl, ho0, hb⟩; refine ⟨_, rfl, ?_⟩; have n0_ := aM (Kd.S_lower ho0 (below_size (bB HB.out))); have n1_ := aM (below_step (bB HB.out) hb); clear HB; have HO458 := n0_; have HB := n1_; clear n0_ n1_; (try clear hb); (try clear hb2); (try clear hk); (try clear hi); (try clear ho0)) | ((with_reducible refine gate_callee (f := 19) rfl ?_); refine goesL_ (some 23) rfl rfl Tryd.func19 (by kernel_rfl) rfl #[.slice A1 l1.length c1] rfl mT ?_; (with_reducible refine (discover_Footprint.calls k _ _ l1 t459 t460 _ ?side1 ?side2 A4.out).mono ?_); (case side1 => exact cB HR1.out HB.out); (case side2 => exact HC1.out); rintro e w7 ⟨v461, rfl, ho0, hb⟩; refine ⟨_, rfl, ?_⟩; have n0_ := aM (Kd.S_elder' (by (with_reducible repeat (first | apply Kd.S_alloc | apply Kd.S_drewN | apply Kd.S_drew)); exact HO458.out) (Kd.S_base ho0) hb); have n1_ := aM (Kd.S_lower (Kd.S_new' ho0 (Kd.S_lt (by (with_reducible repeat (first | apply Kd.S_alloc | apply Kd.S_drewN | apply Kd.S_drew)); exact HO458.out))) (below_size (bB HB.out))); have n2_ := aM (below_step (bB HB.out) hb); clear HO458; clear HB; have HO458 := n0_; have HO462 := n1_; have HB := n2_; clear n0_ n1_ n2_; (try clear hb); (try clear hb2); (try clear hk); (try clear hi); (try clear ho0)))
 (try simp only [Act.put, List.setIfInBounds_toArray, List.set_cons_zero, List.set_cons_succ])
 go_cut [38] (fun v38 wc => ∃ (kq : Nat) (x38_4 : Bool), v38 = .bool x38_4 ∧ Aside0 (discover_Same.j0 kq l0 l1 t455 t459 x38_4 = some r) ∧ Aside0 (kq ≤ k) ∧ Aside0 (Kd.S (Kd.slice 3 (Kd.int .i64)) 36 wc w.heap.size (fun k_ => some k_ ≠ (v461 : Value).ownBlock) v457 t455) ∧ Aside0 (Kd.S (Kd.slice 3 (Kd.int .i64)) 36 wc w.heap.size (fun k_ => some k_ ≠ (v457 : Value).ownBlock) v461 t459) ∧ Aside0 (Below w.heap.size w wc))
 case first =>
  have H := HC5.out; clear HC5
  by_cases c8 : t456 = 0
  ·
   rw [if_pos c8] at H
   have c8b0 : (t456 == 0) = true := beq_iff_eq.mpr c8; have c8b1 : (t456 != 0) = false := bne_eq_false_iff_eq.mpr c8; clear c8
   (first | rw [c8b0] | (simp only [i64_w, i32_w]; rw [c8b0]) | skip)
   by_cases c9 : t460 = 0
   ·
    rw [if_pos c9] at H
    have c9b0 : (t460 == 0) = true := beq_iff_eq.mpr c9; have c9b1 : (t460 != 0) = false := bne_eq_false_iff_eq.mpr c9; clear c9
    have H' := aM H
    clear H; obtain ⟨Ao10, co10, eo10⟩ := Kd.S_slice HO458.out; subst eo10; obtain ⟨Ao11, co11, eo11⟩ := Kd.S_slice HO462.out; subst eo11
    go_wp2
    go_meet
    case rel => exact ⟨_, (((t455.length : Int) != (t459.length : Int))), eT, H', ⟨by first | omega | exact Nat.le_refl _⟩, ⟨by (with_reducible repeat (first | apply Kd.S_alloc | apply Kd.S_drewN | apply Kd.S_drew)); exact Kd.S_mono HO458.out (fun _ hk => hk.2)⟩, ⟨by (with_reducible repeat (first | apply Kd.S_alloc | apply Kd.S_drewN | apply Kd.S_drew)); exact Kd.S_mono HO462.out (fun _ hk => hk.2)⟩, ⟨bB HB.out⟩⟩
   ·
    rw [if_neg c9] at H
    have c9b0 : (t460 == 0) = false := beq_eq_false_iff_ne.mpr c9; have c9b1 : (t460 != 0) = true := bne_iff_ne.mpr c9
    have H' := aM H
    clear H
    go_wp2
    go_meet
    case rel => exact ⟨_, (true), eT, H', ⟨by first | omega | exact Nat.le_refl _⟩, ⟨by (with_reducible repeat (first | apply Kd.S_alloc | apply Kd.S_drewN | apply Kd.S_drew)); exact Kd.S_mono HO458.out (fun _ hk => hk.2)⟩, ⟨by (with_reducible repeat (first | apply Kd.S_alloc | apply Kd.S_drewN | apply Kd.S_drew)); exact Kd.S_mono HO462.out (fun _ hk => hk.2)⟩, ⟨bB HB.out⟩⟩
  ·
   rw [if_neg c8] at H
   have c8b0 : (t456 == 0) = false := beq_eq_false_iff_ne.mpr c8; have c8b1 : (t456 != 0) = true := bne_iff_ne.mpr c8
   (first | rw [c8b0] | (simp only [i64_w, i32_w]; rw [c8b0]) | skip)
   have H' := aM H
   clear H
   go_wp2
   go_meet
   case rel => exact ⟨_, (true), eT, H', ⟨by first | omega | exact Nat.le_refl _⟩, ⟨by (with_reducible repeat (first | apply Kd.S_alloc | apply Kd.S_drewN | apply Kd.S_drew)); exact Kd.S_mono HO458.out (fun _ hk => hk.2)⟩, ⟨by (with_reducible repeat (first | apply Kd.S_alloc | apply Kd.S_drewN | apply Kd.S_drew)); exact Kd.S_mono HO462.out (fun _ hk => hk.2)⟩, ⟨bB HB.out⟩⟩
 case rest =>
  clear HC5; obtain ⟨kq, x38_4, rfl, HA, HJ4, HO_5, HO_7, HB⟩ := hcut
  cases kq with
  | zero => exact absurd HA.out (by simp [discover_Same.j0])
  | succ kj4 =>
   have H := HA.out; clear HA
   simp only [discover_Same.j0] at H
   by_cases c12 : x38_4 = true
   ·
    subst c12
    have H1 : (some false) = some r := by rw [if_pos rfl] at H; exact H
    clear H; have H := H1; clear H1
    obtain rfl := Option.some.inj H
    go_wp2
    go_ret
    exact ⟨rT, bB HB.out⟩
   ·
    replace c12 := Bool.eq_false_iff.mpr c12
    subst c12
    have H1 : ((eventlog_Activities.f kj4 l1).bind fun t463 => ((eventlog_Activities.f kj4 l0).bind fun t466 => (discover_Same.l0 kj4 t455 t459 t463 t466 (t466.length : Int) 0))) = some r := by rw [if_neg (show ¬ (false = true) by decide)] at H; exact H
    clear H; have H := H1; clear H1; replace H := Option.bind_eq_some_iff.mp H; obtain ⟨t463, A130, H⟩ := H
    replace H : ((eventlog_Activities.f kj4 l0).bind fun t466 => (discover_Same.l0 kj4 t455 t459 t463 t466 (t466.length : Int) 0)) = some r := H
    have A13 := aM A130; clear A130; replace H := Option.bind_eq_some_iff.mp H; obtain ⟨t466, A140, H⟩ := H
    replace H : (discover_Same.l0 kj4 t455 t459 t463 t466 (t466.length : Int) 0) = some r := H
    have A14 := aM A140; clear A140
    have H' := aM H
    clear H
    go_wp2_with (first | ((with_reducible refine gate_callee (f := 27) rfl ?_); refine goesL_ (some 40) rfl rfl Tryd.func27 (by kernel_rfl) rfl #[.slice A1 l1.length c1] rfl mT ?_; (with_reducible refine (eventlog_Activities.calls kj4 _ _ l1 t463 _ ?side1 ?side2 A13.out).mono ?_); (case side1 => exact cB HR1.out HB.out); (case side2 => exact HC1.out); rintro e w15 ⟨v464, rfl, ho0, hb⟩; refine ⟨_, rfl, ?_⟩; have n0_ := aM (Kd.S_below (by (with_reducible repeat (first | apply Kd.S_alloc | apply Kd.S_drewN | apply Kd.S_drew)); exact HO_5.out) hb); have n1_ := aM (Kd.S_below (by (with_reducible repeat (first | apply Kd.S_alloc | apply Kd.S_drewN | apply Kd.S_drew)); exact HO_7.out) hb); have n2_ := aM (Kd.R_lower ho0 (below_size (bB HB.out))); have n3_ := aM (below_step (bB HB.out) hb); clear HO_5; clear HO_7; clear HB; have HO_5 := n0_; have HO_7 := n1_; have HO465 := n2_; have HB := n3_; clear n0_ n1_ n2_ n3_; (try clear hb); (try clear hb2); (try clear hk); (try clear hi); (try clear ho0)) | ((with_reducible refine gate_callee (f := 27) rfl ?_); refine goesL_ (some 42) rfl rfl Tryd.func27 (by kernel_rfl) rfl #[.slice A0 l0.length c0] rfl mT ?_; (with_reducible refine (eventlog_Activities.calls kj4 _ _ l0 t466 _ ?side1 ?side2 A14.out).mono ?_); (case side1 => exact cB HR0.out HB.out); (case side2 => exact HC0.out); rintro e w16 ⟨v467, rfl, ho0, hb⟩; refine ⟨_, rfl, ?_⟩; have n0_ := aM (Kd.S_below (by (with_reducible repeat (first | apply Kd.S_alloc | apply Kd.S_drewN | apply Kd.S_drew)); exact HO_5.out) hb); have n1_ := aM (Kd.S_below (by (with_reducible repeat (first | apply Kd.S_alloc | apply Kd.S_drewN | apply Kd.S_drew)); exact HO_7.out) hb); have n2_ := aM (Kd.R_elder' (by (with_reducible repeat (first | apply Kd.R_alloc | apply Kd.R_drewN | apply Kd.R_drew)); exact HO465.out) (Kd.R_base ho0) hb); have n3_ := aM (Kd.R_lower (Kd.R_new' ho0 (Kd.R_lt (by (with_reducible repeat (first | apply Kd.R_alloc | apply Kd.R_drewN | apply Kd.R_drew)); exact HO465.out))) (below_size (bB HB.out))); have n4_ := aM (below_step (bB HB.out) hb); clear HO_5; clear HO_7; clear HO465; clear HB; have HO_5 := n0_; have HO_7 := n1_; have HO465 := n2_; have HO468 := n3_; have HB := n4_; clear n0_ n1_ n2_ n3_ n4_; (try clear hb); (try clear hb2); (try clear hk); (try clear hi); (try clear ho0); obtain ⟨Ao17, co17, eo17⟩ := Kd.R_slice HO468.out; subst eo17))
    go_loopg [44] kj4 (fun kq v44 w' => ∃ (x44_2 : Int), v44 = .int .i64 x44_2 ∧ Aside0 (discover_Same.l0 kq t455 t459 t463 t466 (t466.length : Int) x44_2 = some r) ∧ Aside0 (kq ≤ kj4) ∧ Aside0 (Kd.S (Kd.slice 3 (Kd.int .i64)) 36 w' w.heap.size (fun k_ => some k_ ≠ (v461 : Value).ownBlock) v457 t455) ∧ Aside0 (Kd.S (Kd.slice 3 (Kd.int .i64)) 36 w' w.heap.size (fun k_ => some k_ ≠ (v457 : Value).ownBlock) v461 t459) ∧ Aside0 (Kd.R Kd.string 9 w' w.heap.size (fun k_ => some k_ ≠ ((.slice Ao17 t466.length co17) : Value).ownBlock) v464 t463) ∧ Aside0 (Kd.R Kd.string 9 w' w.heap.size (fun k_ => some k_ ≠ (v464 : Value).ownBlock) (.slice Ao17 t466.length co17) t466) ∧ Aside0 (Below w.heap.size w w'))
    case atStart => exact ⟨(0), eT, H', ⟨Nat.le_refl _⟩, ⟨by (with_reducible repeat (first | apply Kd.S_alloc | apply Kd.S_drewN | apply Kd.S_drew)); exact HO_5.out⟩, ⟨by (with_reducible repeat (first | apply Kd.S_alloc | apply Kd.S_drewN | apply Kd.S_drew)); exact HO_7.out⟩, ⟨by (with_reducible repeat (first | apply Kd.R_alloc | apply Kd.R_drewN | apply Kd.R_drew)); exact Kd.R_mono HO465.out (fun _ hk => hk.2)⟩, ⟨by (with_reducible repeat (first | apply Kd.R_alloc | apply Kd.R_drewN | apply Kd.R_drew)); exact Kd.R_mono HO468.out (fun _ hk => hk.2)⟩, ⟨bB HB.out⟩⟩
    case round =>
     clear H'; obtain ⟨x44_2, rfl, HA, HK2, HO_5, HO_7, HO_9, HO_42, HB⟩ := hrel
     cases gk with
     | zero => exact absurd HA.out (by simp [discover_Same.l0])
     | succ k2 =>
      have H := HA.out; clear HA
      simp only [discover_Same.l0] at H
      by_cases c18 : x44_2 < (t466.length : Int)
      ·
       rw [if_pos c18] at H
       have c18b0 : decide (x44_2 < (t466.length : Int)) = true := decide_eq_true c18; clear c18
       by_cases c19 : 0 ≤ x44_2
       ·
        rw [if_pos c19] at H
        have c19b0 : decide (0 ≤ x44_2) = true := decide_eq_true c19; clear c19
        by_cases c20 : x44_2 < (t466.length : Int)
        ·
         rw [if_pos c20] at H
         have c20b0 : decide (x44_2 < (t466.length : Int)) = true := decide_eq_true c20; clear c20
         by_cases c21 : x44_2 < (t463.length : Int)
         ·
          rw [if_pos c21] at H
          have c21b0 : decide (x44_2 < (t463.length : Int)) = true := decide_eq_true c21; clear c21
          by_cases c22 : (rdOf ByteArray.empty t463 x44_2).toList = (rdOf ByteArray.empty t466 x44_2).toList
          ·
           rw [if_pos c22] at H
           have c22b0 : ((rdOf ByteArray.empty t463 x44_2).toList == (rdOf ByteArray.empty t466 x44_2).toList) = true := beq_iff_eq.mpr c22; have c22b1 : ((rdOf ByteArray.empty t463 x44_2).toList != (rdOf ByteArray.empty t466 x44_2).toList) = false := bne_eq_false_iff_eq.mpr c22; clear c22
           have H' := aM H
           clear H; have p469 : 0 ≤ (x44_2 : Int) := dT; have q469 : x44_2 < (t466.length : Int) := dT
           try (obtain ⟨Aoz469, coz469, eoz469⟩ := Kd.R_slice HO_42.out; subst eoz469)
           obtain ⟨ad469, e469, hx469_0⟩ := Kd.at_string (Kd.R_reads' HO_42.out).2.2 x44_2 p469 q469; cases e469; replace p469 := eq_true p469; replace q469 := eq_true q469; obtain ⟨Ao23, co23, eo23⟩ := Kd.R_slice HO_9.out; subst eo23; have p470 : 0 ≤ (x44_2 : Int) := dT; have q470 : x44_2 < (t463.length : Int) := dT
           try (obtain ⟨Aoz470, coz470, eoz470⟩ := Kd.R_slice HO_9.out; subst eoz470)
           obtain ⟨ad470, e470, hx470_0⟩ := Kd.at_string (Kd.R_reads' HO_9.out).2.2 x44_2 p470 q470; cases e470; replace p470 := eq_true p470; replace q470 := eq_true q470
           go_wp2
           go_roundg k2
           case measure => have := HJ4.out; have := HK2.out; omega
           case rel => exact ⟨(wrap64 (x44_2 + 1)), eT, H', ⟨by have := HJ4.out; have := HK2.out; omega⟩, ⟨by (with_reducible repeat (first | apply Kd.S_alloc | apply Kd.S_drewN | apply Kd.S_drew)); exact HO_5.out⟩, ⟨by (with_reducible repeat (first | apply Kd.S_alloc | apply Kd.S_drewN | apply Kd.S_drew)); exact HO_7.out⟩, ⟨by (with_reducible repeat (first | apply Kd.R_alloc | apply Kd.R_drewN | apply Kd.R_drew)); exact HO_9.out⟩, ⟨by (with_reducible repeat (first | apply Kd.R_alloc | apply Kd.R_drewN | apply Kd.R_drew)); exact HO_42.out⟩, ⟨bB HB.out⟩⟩
          ·
           rw [if_neg c22] at H
           have c22b0 : ((rdOf ByteArray.empty t463 x44_2).toList == (rdOf ByteArray.empty t466 x44_2).toList) = false := beq_eq_false_iff_ne.mpr c22; have c22b1 : ((rdOf ByteArray.empty t463 x44_2).toList != (rdOf ByteArray.empty t466 x44_2).toList) = true := bne_iff_ne.mpr c22
           obtain rfl := Option.some.inj H
           have p469 : 0 ≤ (x44_2 : Int) := dT; have q469 : x44_2 < (t466.length : Int) := dT
           try (obtain ⟨Aoz469, coz469, eoz469⟩ := Kd.R_slice HO_42.out; subst eoz469)
           obtain ⟨ad469, e469, hx469_0⟩ := Kd.at_string (Kd.R_reads' HO_42.out).2.2 x44_2 p469 q469; cases e469; replace p469 := eq_true p469; replace q469 := eq_true q469; obtain ⟨Ao24, co24, eo24⟩ := Kd.R_slice HO_9.out; subst eo24; have p470 : 0 ≤ (x44_2 : Int) := dT; have q470 : x44_2 < (t463.length : Int) := dT
           try (obtain ⟨Aoz470, coz470, eoz470⟩ := Kd.R_slice HO_9.out; subst eoz470)
           obtain ⟨ad470, e470, hx470_0⟩ := Kd.at_string (Kd.R_reads' HO_9.out).2.2 x44_2 p470 q470; cases e470; replace p470 := eq_true p470; replace q470 := eq_true q470
           go_wp2
           go_ret
           exact ⟨rT, bB HB.out⟩
         ·
          rw [if_neg c21] at H
          exact absurd H (by simp)
        ·
         rw [if_neg c20] at H
         exact absurd H (by simp)
       ·
        rw [if_neg c19] at H
        exact absurd H (by simp)
      ·
       rw [if_neg c18] at H
       have c18b0 : decide (x44_2 < (t466.length : Int)) = false := decide_eq_false c18; clear c18
       have H' := aM H
       clear H; obtain ⟨Ao25, co25, eo25⟩ := Kd.S_slice HO_5.out; subst eo25
       go_wp2
       go_loopg [58] k2 (fun kq v58 w' => ∃ (x58_3 : Int), v58 = .int .i64 x58_3 ∧ Aside0 (discover_Same.l1 kq t459 t455 (t455.length : Int) x58_3 = some r) ∧ Aside0 (kq ≤ k2) ∧ Aside0 (Kd.S (Kd.slice 3 (Kd.int .i64)) 36 w' w.heap.size (fun k_ => some k_ ≠ ((.slice Ao25 t455.length co25) : Value).ownBlock) v461 t459) ∧ Aside0 (Kd.S (Kd.slice 3 (Kd.int .i64)) 36 w' w.heap.size (fun k_ => some k_ ≠ (v461 : Value).ownBlock) (.slice Ao25 t455.length co25) t455) ∧ Aside0 (Below w.heap.size w w'))
       case atStart => exact ⟨(0), eT, H', ⟨Nat.le_refl _⟩, ⟨by (with_reducible repeat (first | apply Kd.S_alloc | apply Kd.S_drewN | apply Kd.S_drew)); exact HO_7.out⟩, ⟨by (with_reducible repeat (first | apply Kd.S_alloc | apply Kd.S_drewN | apply Kd.S_drew)); exact HO_5.out⟩, ⟨bB HB.out⟩⟩
       case round =>
        clear H'
        try clear hx4
        try clear hx469_0
        try clear hx470_0
        obtain ⟨x58_3, rfl, HA, HK3, HO_7, HO_56, HB⟩ := hrel
        cases gk with
        | zero => exact absurd HA.out (by simp [discover_Same.l1])
        | succ k3 =>
         have H := HA.out; clear HA
         simp only [discover_Same.l1] at H
         by_cases c26 : x58_3 < (t455.length : Int)
         ·
          rw [if_pos c26] at H
          have c26b0 : decide (x58_3 < (t455.length : Int)) = true := decide_eq_true c26; clear c26
          by_cases c27 : 0 ≤ x58_3
          ·
           rw [if_pos c27] at H
           have c27b0 : decide (0 ≤ x58_3) = true := decide_eq_true c27; clear c27
           by_cases c28 : x58_3 < (t455.length : Int)
           ·
            rw [if_pos c28] at H
            have c28b0 : decide (x58_3 < (t455.length : Int)) = true := decide_eq_true c28; clear c28
            have H' := aM H
            clear H; have p471 : 0 ≤ (x58_3 : Int) := dT; have q471 : x58_3 < (t455.length : Int) := dT; obtain ⟨ad471, A471_0, c471_0, e471, hx471_0, hl471_0, hi471_0⟩ := at_L5 (Kd.S_reads' HO_56.out).2.2 x58_3 p471 q471; cases e471; obtain ⟨ce471, hce471, hMe471, hcc471⟩ := Kd.S_get HO_56.out [] x58_3 p471 (by first | exact q471 | exact dT | (have e_ := (Kd.S_reads' HO_56.out).1; omega)); obtain ⟨ve471_0, rfl, ge471_0⟩ := hMe471; have hv471_0 := hcc471 0 _ rfl; rw [Nat.add_zero, show ((Kd.slice 3 (Kd.int .i64))).sz = 1 from rfl, Nat.mul_one] at hv471_0; replace hv471_0 := Option.some.inj (hv471_0.symm.trans hx471_0); rw [hv471_0] at ge471_0; have HL471_0 := aM (show Kd.R (Kd.int .i64) 3 _ _ _ _ (rd_L5 t455 x58_3) from ge471_0); clear hv471_0 ge471_0; clear hcc471 hce471; have HR471_0 := aM hi471_0; have HC471_0 := aM hl471_0; clear hi471_0 hl471_0; replace p471 := eq_true p471; replace q471 := eq_true q471
            go_wp2
            go_loopg [65] k3 (fun kq v65 w' => ∃ (x65_4 : Int), v65 = .int .i64 x65_4 ∧ Aside0 (discover_Same.l2 kq t459 x58_3 t455 (t455.length : Int) x58_3 (rd_L5 t455 x58_3) ((rd_L5 t455 x58_3).length : Int) x65_4 = some r) ∧ Aside0 (kq ≤ k3) ∧ Aside0 (Kd.S (Kd.slice 3 (Kd.int .i64)) 36 w' w.heap.size (fun k_ => some k_ ≠ ((.slice (some ad471) t455.length co25) : Value).ownBlock) v461 t459) ∧ Aside0 (Kd.S (Kd.slice 3 (Kd.int .i64)) 36 w' w.heap.size (fun k_ => some k_ ≠ (v461 : Value).ownBlock) (.slice (some ad471) t455.length co25) t455) ∧ Aside0 (Kd.C (Kd.int .i64) w' A471_0 (rd_L5 t455 x58_3).length (rd_L5 t455 x58_3)) ∧ Aside0 (Below w.heap.size w w'))
            case atStart => exact ⟨(0), eT, H', ⟨Nat.le_refl _⟩, ⟨by (with_reducible repeat (first | apply Kd.S_alloc | apply Kd.S_drewN | apply Kd.S_drew)); exact HO_7.out⟩, ⟨by (with_reducible repeat (first | apply Kd.S_alloc | apply Kd.S_drewN | apply Kd.S_drew)); exact HO_56.out⟩, ⟨by repeat (first | (with_reducible exact HR471_0.out) | (with_reducible refine Kd.C_alloc ?_ _) | (with_reducible refine Kd.C_drewN ?_ _) | (with_reducible refine Kd.C_drew ?_) | exact HR471_0.out)⟩, ⟨bB HB.out⟩⟩
            case round =>
             clear H'
             try clear hx4
             try clear hx469_0
             try clear hx470_0
             try clear hx471_0
             obtain ⟨x65_4, rfl, HA, HK4, HO_7, HO_56, HR471_0, HB⟩ := hrel
             cases gk with
             | zero => exact absurd HA.out (by simp [discover_Same.l2])
             | succ k4 =>
              have H := HA.out; clear HA
              simp only [discover_Same.l2] at H
              by_cases c29 : x65_4 < ((rd_L5 t455 x58_3).length : Int)
              ·
               rw [if_pos c29] at H
               have c29b0 : decide (x65_4 < ((rd_L5 t455 x58_3).length : Int)) = true := decide_eq_true c29; clear c29
               by_cases c30 : 0 ≤ x65_4
               ·
                rw [if_pos c30] at H
                have c30b0 : decide (0 ≤ x65_4) = true := decide_eq_true c30; clear c30
                by_cases c31 : x65_4 < ((rd_L5 t455 x58_3).length : Int)
                ·
                 rw [if_pos c31] at H
                 have c31b0 : decide (x65_4 < ((rd_L5 t455 x58_3).length : Int)) = true := decide_eq_true c31; clear c31
                 by_cases c32 : 0 ≤ x58_3
                 ·
                  rw [if_pos c32] at H
                  have c32b0 : decide (0 ≤ x58_3) = true := decide_eq_true c32; clear c32
                  by_cases c33 : x58_3 < (t459.length : Int)
                  ·
                   rw [if_pos c33] at H
                   have c33b0 : decide (x58_3 < (t459.length : Int)) = true := decide_eq_true c33; clear c33
                   by_cases c34 : x65_4 < ((rd_L5 t459 x58_3).length : Int)
                   ·
                    rw [if_pos c34] at H
                    have c34b0 : decide (x65_4 < ((rd_L5 t459 x58_3).length : Int)) = true := decide_eq_true c34; clear c34
                    by_cases c35 : (rd (rd_L5 t459 x58_3) x65_4) = (rd (rd_L5 t455 x58_3) x65_4)
                    ·
                     rw [if_pos c35] at H
                     have c35b0 : ((rd (rd_L5 t459 x58_3) x65_4) == (rd (rd_L5 t455 x58_3) x65_4)) = true := beq_iff_eq.mpr c35; have c35b1 : ((rd (rd_L5 t459 x58_3) x65_4) != (rd (rd_L5 t455 x58_3) x65_4)) = false := bne_eq_false_iff_eq.mpr c35; clear c35
                     have H' := aM H
                     clear H; have p472 : 0 ≤ (x65_4 : Int) := dT; have q472 : x65_4 < ((rd_L5 t455 x58_3).length : Int) := dT; obtain ⟨ad472, e472, hx472_0⟩ := Kd.at_int HR471_0.out x65_4 p472 q472; cases e472
                     try replace hx472_0 := (HB.out.cell (World.block_lt_of_cell? w _ hx472_0)).trans hx472_0
                     replace p472 := eq_true p472; replace q472 := eq_true q472; obtain ⟨Ao36, co36, eo36⟩ := Kd.S_slice HO_7.out; subst eo36; have p473 : 0 ≤ (x58_3 : Int) := dT; have q473 : x58_3 < (t459.length : Int) := dT; obtain ⟨ad473, A473_0, c473_0, e473, hx473_0, hl473_0, hi473_0⟩ := at_L5 (Kd.S_reads' HO_7.out).2.2 x58_3 p473 q473; cases e473; obtain ⟨ce473, hce473, hMe473, hcc473⟩ := Kd.S_get HO_7.out [] x58_3 p473 (by first | exact q473 | exact dT | (have e_ := (Kd.S_reads' HO_7.out).1; omega)); obtain ⟨ve473_0, rfl, ge473_0⟩ := hMe473; have hv473_0 := hcc473 0 _ rfl; rw [Nat.add_zero, show ((Kd.slice 3 (Kd.int .i64))).sz = 1 from rfl, Nat.mul_one] at hv473_0; replace hv473_0 := Option.some.inj (hv473_0.symm.trans hx473_0); rw [hv473_0] at ge473_0; have HL473_0 := aM (show Kd.R (Kd.int .i64) 3 _ _ _ _ (rd_L5 t459 x58_3) from ge473_0); clear hv473_0 ge473_0; clear hcc473 hce473; have HR473_0 := aM hi473_0; have HC473_0 := aM hl473_0; clear hi473_0 hl473_0; replace p473 := eq_true p473; replace q473 := eq_true q473; have p474 : 0 ≤ (x65_4 : Int) := dT; have q474 : x65_4 < ((rd_L5 t459 x58_3).length : Int) := dT; obtain ⟨ad474, e474, hx474_0⟩ := Kd.at_int (by repeat (first | (with_reducible exact HR473_0.out) | (with_reducible refine Kd.C_alloc ?_ _) | (with_reducible refine Kd.C_drewN ?_ _) | (with_reducible refine Kd.C_drew ?_) | exact HR473_0.out)) x65_4 p474 q474; cases e474; replace p474 := eq_true p474; replace q474 := eq_true q474
                     go_wp2
                     go_roundg k4
                     case measure => have := HJ4.out; have := HK2.out; have := HK3.out; have := HK4.out; omega
                     case rel => exact ⟨(wrap64 (x65_4 + 1)), eT, H', ⟨by have := HJ4.out; have := HK2.out; have := HK3.out; have := HK4.out; omega⟩, ⟨by (with_reducible repeat (first | apply Kd.S_alloc | apply Kd.S_drewN | apply Kd.S_drew)); exact HO_7.out⟩, ⟨by (with_reducible repeat (first | apply Kd.S_alloc | apply Kd.S_drewN | apply Kd.S_drew)); exact HO_56.out⟩, ⟨by repeat (first | (with_reducible exact HR471_0.out) | (with_reducible refine Kd.C_alloc ?_ _) | (with_reducible refine Kd.C_drewN ?_ _) | (with_reducible refine Kd.C_drew ?_) | exact HR471_0.out)⟩, ⟨bB HB.out⟩⟩
                    ·
                     rw [if_neg c35] at H
                     have c35b0 : ((rd (rd_L5 t459 x58_3) x65_4) == (rd (rd_L5 t455 x58_3) x65_4)) = false := beq_eq_false_iff_ne.mpr c35; have c35b1 : ((rd (rd_L5 t459 x58_3) x65_4) != (rd (rd_L5 t455 x58_3) x65_4)) = true := bne_iff_ne.mpr c35
                     obtain rfl := Option.some.inj H
                     have p472 : 0 ≤ (x65_4 : Int) := dT; have q472 : x65_4 < ((rd_L5 t455 x58_3).length : Int) := dT; obtain ⟨ad472, e472, hx472_0⟩ := Kd.at_int HR471_0.out x65_4 p472 q472; cases e472
                     try replace hx472_0 := (HB.out.cell (World.block_lt_of_cell? w _ hx472_0)).trans hx472_0
                     replace p472 := eq_true p472; replace q472 := eq_true q472; obtain ⟨Ao37, co37, eo37⟩ := Kd.S_slice HO_7.out; subst eo37; have p473 : 0 ≤ (x58_3 : Int) := dT; have q473 : x58_3 < (t459.length : Int) := dT; obtain ⟨ad473, A473_0, c473_0, e473, hx473_0, hl473_0, hi473_0⟩ := at_L5 (Kd.S_reads' HO_7.out).2.2 x58_3 p473 q473; cases e473; obtain ⟨ce473, hce473, hMe473, hcc473⟩ := Kd.S_get HO_7.out [] x58_3 p473 (by first | exact q473 | exact dT | (have e_ := (Kd.S_reads' HO_7.out).1; omega)); obtain ⟨ve473_0, rfl, ge473_0⟩ := hMe473; have hv473_0 := hcc473 0 _ rfl; rw [Nat.add_zero, show ((Kd.slice 3 (Kd.int .i64))).sz = 1 from rfl, Nat.mul_one] at hv473_0; replace hv473_0 := Option.some.inj (hv473_0.symm.trans hx473_0); rw [hv473_0] at ge473_0; have HL473_0 := aM (show Kd.R (Kd.int .i64) 3 _ _ _ _ (rd_L5 t459 x58_3) from ge473_0); clear hv473_0 ge473_0; clear hcc473 hce473; have HR473_0 := aM hi473_0; have HC473_0 := aM hl473_0; clear hi473_0 hl473_0; replace p473 := eq_true p473; replace q473 := eq_true q473; have p474 : 0 ≤ (x65_4 : Int) := dT; have q474 : x65_4 < ((rd_L5 t459 x58_3).length : Int) := dT; obtain ⟨ad474, e474, hx474_0⟩ := Kd.at_int (by repeat (first | (with_reducible exact HR473_0.out) | (with_reducible refine Kd.C_alloc ?_ _) | (with_reducible refine Kd.C_drewN ?_ _) | (with_reducible refine Kd.C_drew ?_) | exact HR473_0.out)) x65_4 p474 q474; cases e474; replace p474 := eq_true p474; replace q474 := eq_true q474
                     go_wp2
                     go_ret
                     exact ⟨rT, bB HB.out⟩
                   ·
                    rw [if_neg c34] at H
                    exact absurd H (by simp)
                  ·
                   rw [if_neg c33] at H
                   exact absurd H (by simp)
                 ·
                  rw [if_neg c32] at H
                  exact absurd H (by simp)
                ·
                 rw [if_neg c31] at H
                 exact absurd H (by simp)
               ·
                rw [if_neg c30] at H
                exact absurd H (by simp)
              ·
               rw [if_neg c29] at H
               have c29b0 : decide (x65_4 < ((rd_L5 t455 x58_3).length : Int)) = false := decide_eq_false c29; clear c29
               have H' := aM H
               clear H
               go_wp2
               go_roundg k4
               case measure => have := HJ4.out; have := HK2.out; have := HK3.out; have := HK4.out; omega
               case rel => exact ⟨(wrap64 (x58_3 + 1)), eT, H', ⟨by have := HJ4.out; have := HK2.out; have := HK3.out; have := HK4.out; omega⟩, ⟨by (with_reducible repeat (first | apply Kd.S_alloc | apply Kd.S_drewN | apply Kd.S_drew)); exact HO_7.out⟩, ⟨by (with_reducible repeat (first | apply Kd.S_alloc | apply Kd.S_drewN | apply Kd.S_drew)); exact HO_56.out⟩, ⟨bB HB.out⟩⟩
           ·
            rw [if_neg c28] at H
            exact absurd H (by simp)
          ·
           rw [if_neg c27] at H
           exact absurd H (by simp)
         ·
          rw [if_neg c26] at H
          have c26b0 : decide (x58_3 < (t455.length : Int)) = false := decide_eq_false c26; clear c26
          obtain rfl := Option.some.inj H
          go_wp2
          go_ret
          exact ⟨rT, bB HB.out⟩


end Go.Proofs.YtejchnmhlcbfcaaDoor.Pr
