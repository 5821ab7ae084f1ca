/- Functions that the statement reaches: what each answers, and that the program answers it (written by a program of this work). -/
import Derived.Test.YtapkjfnfkalibaaProg
import Derived.Below
import Derived.Deep.Draws
import Derived.Deep.AppendLies
import Derived.Maps.AppendAt
import Derived.OwnWalk
import Derived.Laws.BytesArg
import Derived.Laws.MakeOwn
import Derived.Laws.OwnMore
import Derived.Deep.OwnRows
import Derived.Tactics
import Derived.Lib.ConvBytes
import Derived.Laws.Slices
import Derived.WalkKit
import Derived.KernelRfl
import Derived.RowKit3
import Derived.Deep.LoopGhost
import Derived.Deep.QuietTactic
import Derived.BigQuiet
import Derived.WideLaws
import Derived.Deep.DeepCutAuto
import Derived.Deep.CutBlock
import Derived.Deep.RegionHeld3
import Derived.Laws.Rows
import Derived.Lib.AppendStr
import Derived.ArgAppend
import Derived.Laws.IdiomCopy
import Derived.OrdersHeld
import Derived.Laws.BitsLemmas
import Derived.RowKit
import Derived.WalkMore
import Derived.Test.YtapkjfnfkalibaaVBindingCounts
import Derived.Test.YtapkjfnfkalibaaBBindingCounts
import Derived.Test.YtapkjfnfkalibaaQBindingCounts0
import Derived.Test.YtapkjfnfkalibaaQBindingCounts2
import Derived.Test.YtapkjfnfkalibaaQBindingCounts3
namespace Go.Proofs.Ytapkjfnfkalibaa.Pr
open Go.RowKit Go.Proofs.YtapkjfnfkalibaaW.PrintWords Go.Proofs.YtapkjfnfkalibaaW.PrintLast Go.Proofs.YtapkjfnfkalibaaW.PrintMore
attribute [local go_sem] Instr.field asAgg
attribute [local go_sem] max2_int min2_int max_two min_two max_three min_three max_four min_four   -- for this text's walks alone
set_option linter.unusedVariables false
set_option linter.unusedSimpArgs false
/-! ### petrinetlaw40_lives: function 10 -/
mutual
def petrinetlaw40_lives.j0 : Nat → List (S51) → Bool → ByteArray → List (S48) → List (S62) → List (S111) → List (S111) → Option (Bool)
 | 0, _, _, _, _, _, _, _ => none
 | k + 1, x1, x109, x200000, x200001, x200002, x200003, x200004 => if x109 = true then (some false) else ((binding_Check.f x1 x200000 x200001 x200002 x200003 x200004).bind fun t233 => (if t233 = 0 then ((binding_Check.f ([] : List (S51)) x200000 x200001 x200002 x200003 x200004).bind fun t234 => (if t234 = 2 then ((binding_CheckTerms.f k x1 x200000 x200001 x200002 x200003 x200004 0 (([(⟨0, 5, 0⟩ : S54)] : List (S54)))).bind fun t238 => (petrinetlaw40_lives.j1 k x1 (t238 != 9) x200000 x200001 x200002 x200003 x200004)) else (petrinetlaw40_lives.j1 k x1 true x200000 x200001 x200002 x200003 x200004))) else (petrinetlaw40_lives.j1 k x1 true x200000 x200001 x200002 x200003 x200004)))
def petrinetlaw40_lives.j1 : Nat → List (S51) → Bool → ByteArray → List (S48) → List (S62) → List (S111) → List (S111) → Option (Bool)
 | 0, _, _, _, _, _, _, _ => none
 | k + 1, x1, x126, x200000, x200001, x200002, x200003, x200004 => if x126 = true then (some false) else ((binding_Holds.f k x1 x200000 x200001 x200002 x200003 x200004 (([0, 1] : List Int))).bind fun t242 => (if t242 = true then ((binding_Holds.f k x1 x200000 x200001 x200002 x200003 x200004 (([1, 1] : List Int))).bind fun t246 => (if t246 = true then (some false) else ((binding_Text.f k x1 x200000 x200001 x200002 x200003 x200004 (([0, 2] : List Int))).bind fun t250 => (some (t250.toList == ([120, 61, 97, 44, 121, 61, 99] : List UInt8)))))) else (some false)))
end
def petrinetlaw40_lives.f (k : Nat)  : Option (Bool) := (petrinetlaw40_three.f).bind fun t183 => ((petrinetlaw40_pair.f).bind fun bt186 => ((binding_All.f t183 bt186.1 bt186.2.1 bt186.2.2.1 bt186.2.2.2.1 bt186.2.2.2.2).bind fun t200 => ((binding_Eval.f k t183 bt186.1 bt186.2.1 bt186.2.2.1 bt186.2.2.2.1 bt186.2.2.2.2 0 (([(⟨2, 3, 1⟩ : S54), (⟨1, 5, 0⟩ : S54)] : List (S54))) (([0, 2] : List Int))).bind fun bt209 => ((binding_Eval.f k t183 bt186.1 bt186.2.1 bt186.2.2.1 bt186.2.2.2.1 bt186.2.2.2.2 0 ([] : List (S54)) (([0, 3] : List Int))).bind fun bt216 => (if (t200.length : Int) = 3 then (if 0 < (t200.length : Int) then (if ((rd_L15 t200 0).length : Int) = 2 then (if 0 < ((rd_L15 t200 0).length : Int) then (if (rd (rd_L15 t200 0) 0) = 0 then (if 1 < ((rd_L15 t200 0).length : Int) then (if (rd (rd_L15 t200 0) 1) = 1 then (if 2 < (t200.length : Int) then (if ((rd_L15 t200 2).length : Int) = 2 then (if 0 < ((rd_L15 t200 2).length : Int) then (if (rd (rd_L15 t200 2) 0) = 1 then (if 1 < ((rd_L15 t200 2).length : Int) then (if (rd (rd_L15 t200 2) 1) = 2 then (if (bt209.1.length : Int) = 3 then (if 0 < (bt209.1.length : Int) then (if (rd bt209.1 0) = 3 then (if 1 < (bt209.1.length : Int) then (if (rd bt209.1 1) = 1 then (if 2 < (bt209.1.length : Int) then (if (rd bt209.1 2) = 1 then (if bt209.2 = 0 then (petrinetlaw40_lives.j0 k t183 (bt216.2 != 15) bt186.1 bt186.2.1 bt186.2.2.1 bt186.2.2.2.1 bt186.2.2.2.2) else (petrinetlaw40_lives.j0 k t183 true bt186.1 bt186.2.1 bt186.2.2.1 bt186.2.2.2.1 bt186.2.2.2.2)) else (petrinetlaw40_lives.j0 k t183 true bt186.1 bt186.2.1 bt186.2.2.1 bt186.2.2.2.1 bt186.2.2.2.2)) else (none)) else (petrinetlaw40_lives.j0 k t183 true bt186.1 bt186.2.1 bt186.2.2.1 bt186.2.2.2.1 bt186.2.2.2.2)) else (none)) else (petrinetlaw40_lives.j0 k t183 true bt186.1 bt186.2.1 bt186.2.2.1 bt186.2.2.2.1 bt186.2.2.2.2)) else (none)) else (petrinetlaw40_lives.j0 k t183 true bt186.1 bt186.2.1 bt186.2.2.1 bt186.2.2.2.1 bt186.2.2.2.2)) else (petrinetlaw40_lives.j0 k t183 true bt186.1 bt186.2.1 bt186.2.2.1 bt186.2.2.2.1 bt186.2.2.2.2)) else (none)) else (petrinetlaw40_lives.j0 k t183 true bt186.1 bt186.2.1 bt186.2.2.1 bt186.2.2.2.1 bt186.2.2.2.2)) else (none)) else (petrinetlaw40_lives.j0 k t183 true bt186.1 bt186.2.1 bt186.2.2.1 bt186.2.2.2.1 bt186.2.2.2.2)) else (none)) else (petrinetlaw40_lives.j0 k t183 true bt186.1 bt186.2.1 bt186.2.2.1 bt186.2.2.2.1 bt186.2.2.2.2)) else (none)) else (petrinetlaw40_lives.j0 k t183 true bt186.1 bt186.2.1 bt186.2.2.1 bt186.2.2.2.1 bt186.2.2.2.2)) else (none)) else (petrinetlaw40_lives.j0 k t183 true bt186.1 bt186.2.1 bt186.2.2.1 bt186.2.2.2.1 bt186.2.2.2.2)) else (none)) else (petrinetlaw40_lives.j0 k t183 true bt186.1 bt186.2.1 bt186.2.2.1 bt186.2.2.2.1 bt186.2.2.2.2))))))
theorem petrinetlaw40_lives.mono_l : ∀ k, (∀ y0 y1 y2 y3 y4 y5 y6, LeO (petrinetlaw40_lives.j0 k y0 y1 y2 y3 y4 y5 y6) (petrinetlaw40_lives.j0 (k + 1) y0 y1 y2 y3 y4 y5 y6)) ∧ (∀ y0 y1 y2 y3 y4 y5 y6, LeO (petrinetlaw40_lives.j1 k y0 y1 y2 y3 y4 y5 y6) (petrinetlaw40_lives.j1 (k + 1) y0 y1 y2 y3 y4 y5 y6))
 | 0 => ⟨fun _ _ _ _ _ _ _ r h => by simp [petrinetlaw40_lives.j0] at h, fun _ _ _ _ _ _ _ r h => by simp [petrinetlaw40_lives.j1] at h⟩
 | k + 1 => by
  obtain ⟨ih0, ih1⟩ := petrinetlaw40_lives.mono_l k
  refine ⟨?_, ?_⟩
  ·intro y0 y1 y2 y3 y4 y5 y6
   unfold petrinetlaw40_lives.j0
   repeat' first
   | (with_reducible exact ih0 _ _ _ _ _ _ _)
   | (with_reducible exact ih1 _ _ _ _ _ _ _)
   | (with_reducible exact binding_CheckTerms.mono _ _ _ _ _ _ _ _ _)
   | (with_reducible exact binding_Eval.mono _ _ _ _ _ _ _ _ _ _)
   | (with_reducible exact binding_Holds.mono _ _ _ _ _ _ _ _)
   | (with_reducible exact binding_Text.mono _ _ _ _ _ _ _ _)
   | (with_reducible exact LeO.refl _)
   | (with_reducible exact LeO.none _)
   | (with_reducible refine LeO.ite ?_ ?_)
   | (with_reducible refine LeO.bind ?_ (fun _ => ?_))
   | exact ih0 _ _ _ _ _ _ _
   | exact ih1 _ _ _ _ _ _ _
   | exact binding_CheckTerms.mono _ _ _ _ _ _ _ _ _
   | exact binding_Eval.mono _ _ _ _ _ _ _ _ _ _
   | exact binding_Holds.mono _ _ _ _ _ _ _ _
   | exact binding_Text.mono _ _ _ _ _ _ _ _
   | exact LeO.none _
   | refine LeO.ite ?_ ?_
   | refine LeO.bind ?_ (fun _ => ?_)
  ·intro y0 y1 y2 y3 y4 y5 y6
   unfold petrinetlaw40_lives.j1
   repeat' first
   | (with_reducible exact ih0 _ _ _ _ _ _ _)
   | (with_reducible exact ih1 _ _ _ _ _ _ _)
   | (with_reducible exact binding_CheckTerms.mono _ _ _ _ _ _ _ _ _)
   | (with_reducible exact binding_Eval.mono _ _ _ _ _ _ _ _ _ _)
   | (with_reducible exact binding_Holds.mono _ _ _ _ _ _ _ _)
   | (with_reducible exact binding_Text.mono _ _ _ _ _ _ _ _)
   | (with_reducible exact LeO.refl _)
   | (with_reducible exact LeO.none _)
   | (with_reducible refine LeO.ite ?_ ?_)
   | (with_reducible refine LeO.bind ?_ (fun _ => ?_))
   | exact ih0 _ _ _ _ _ _ _
   | exact ih1 _ _ _ _ _ _ _
   | exact binding_CheckTerms.mono _ _ _ _ _ _ _ _ _
   | exact binding_Eval.mono _ _ _ _ _ _ _ _ _ _
   | exact binding_Holds.mono _ _ _ _ _ _ _ _
   | exact binding_Text.mono _ _ _ _ _ _ _ _
   | exact LeO.none _
   | refine LeO.ite ?_ ?_
   | refine LeO.bind ?_ (fun _ => ?_)
theorem petrinetlaw40_lives.mono : ∀ k, LeO (petrinetlaw40_lives.f k ) (petrinetlaw40_lives.f (k + 1) ) := by
 intro  k
 obtain ⟨ih0, ih1⟩ := petrinetlaw40_lives.mono_l k
 unfold petrinetlaw40_lives.f
 repeat' first
   | (with_reducible exact ih0 _ _ _ _ _ _ _)
   | (with_reducible exact ih1 _ _ _ _ _ _ _)
   | (with_reducible exact binding_CheckTerms.mono _ _ _ _ _ _ _ _ _)
   | (with_reducible exact binding_Eval.mono _ _ _ _ _ _ _ _ _ _)
   | (with_reducible exact binding_Holds.mono _ _ _ _ _ _ _ _)
   | (with_reducible exact binding_Text.mono _ _ _ _ _ _ _ _)
   | (with_reducible exact LeO.refl _)
   | (with_reducible exact LeO.none _)
   | (with_reducible refine LeO.ite ?_ ?_)
   | (with_reducible refine LeO.bind ?_ (fun _ => ?_))
   | exact ih0 _ _ _ _ _ _ _
   | exact ih1 _ _ _ _ _ _ _
   | exact binding_CheckTerms.mono _ _ _ _ _ _ _ _ _
   | exact binding_Eval.mono _ _ _ _ _ _ _ _ _ _
   | exact binding_Holds.mono _ _ _ _ _ _ _ _
   | exact binding_Text.mono _ _ _ _ _ _ _ _
   | exact LeO.none _
   | refine LeO.ite ?_ ?_
   | refine LeO.bind ?_ (fun _ => ?_)
theorem petrinetlaw40_lives.j0_no : ∀ k y0 y2 y3 y4 y5 y6, ¬ (petrinetlaw40_lives.j0 k y0 true y2 y3 y4 y5 y6 = some true) := by
 intro k; cases k <;> simp [petrinetlaw40_lives.j0]
theorem petrinetlaw40_lives.j1_no : ∀ k y0 y2 y3 y4 y5 y6, ¬ (petrinetlaw40_lives.j1 k y0 true y2 y3 y4 y5 y6 = some true) := by
 intro k; cases k <;> simp [petrinetlaw40_lives.j1]
set_option maxHeartbeats 8000000 in
set_option maxRecDepth 100000 in
theorem petrinetlaw40_lives.calls (k : Nat)  (r : Bool) (w : World) (h : petrinetlaw40_lives.f k  = some r) (hrT_ : Aside0 (r = true)) :
  Calls Try.prog 10 #[] w fun e w' => e = .returned (.bool r) ∧ Below w.heap.size w w' := by
 have hu27 := Try.underlying27
 have hu9 := Try.underlying9
 have hu23 := Try.underlying23
 have hu24 := Try.underlying24
 have hu25 := Try.underlying25
 have hu54 := Try.underlying54
 have hu3 := Try.underlying3
 have HB := Aside0.mk (Below.refl w.heap.size w)
 have H : ((petrinetlaw40_three.f).bind fun t183 => ((petrinetlaw40_pair.f).bind fun bt186 => ((binding_All.f t183 bt186.1 bt186.2.1 bt186.2.2.1 bt186.2.2.2.1 bt186.2.2.2.2).bind fun t200 => ((binding_Eval.f k t183 bt186.1 bt186.2.1 bt186.2.2.1 bt186.2.2.2.1 bt186.2.2.2.2 0 (([(⟨2, 3, 1⟩ : S54), (⟨1, 5, 0⟩ : S54)] : List (S54))) (([0, 2] : List Int))).bind fun bt209 => ((binding_Eval.f k t183 bt186.1 bt186.2.1 bt186.2.2.1 bt186.2.2.2.1 bt186.2.2.2.2 0 ([] : List (S54)) (([0, 3] : List Int))).bind fun bt216 => (if (t200.length : Int) = 3 then (if 0 < (t200.length : Int) then (if ((rd_L15 t200 0).length : Int) = 2 then (if 0 < ((rd_L15 t200 0).length : Int) then (if (rd (rd_L15 t200 0) 0) = 0 then (if 1 < ((rd_L15 t200 0).length : Int) then (if (rd (rd_L15 t200 0) 1) = 1 then (if 2 < (t200.length : Int) then (if ((rd_L15 t200 2).length : Int) = 2 then (if 0 < ((rd_L15 t200 2).length : Int) then (if (rd (rd_L15 t200 2) 0) = 1 then (if 1 < ((rd_L15 t200 2).length : Int) then (if (rd (rd_L15 t200 2) 1) = 2 then (if (bt209.1.length : Int) = 3 then (if 0 < (bt209.1.length : Int) then (if (rd bt209.1 0) = 3 then (if 1 < (bt209.1.length : Int) then (if (rd bt209.1 1) = 1 then (if 2 < (bt209.1.length : Int) then (if (rd bt209.1 2) = 1 then (if bt209.2 = 0 then (petrinetlaw40_lives.j0 k t183 (bt216.2 != 15) bt186.1 bt186.2.1 bt186.2.2.1 bt186.2.2.2.1 bt186.2.2.2.2) else (petrinetlaw40_lives.j0 k t183 true bt186.1 bt186.2.1 bt186.2.2.1 bt186.2.2.2.1 bt186.2.2.2.2)) else (petrinetlaw40_lives.j0 k t183 true bt186.1 bt186.2.1 bt186.2.2.1 bt186.2.2.2.1 bt186.2.2.2.2)) else (none)) else (petrinetlaw40_lives.j0 k t183 true bt186.1 bt186.2.1 bt186.2.2.1 bt186.2.2.2.1 bt186.2.2.2.2)) else (none)) else (petrinetlaw40_lives.j0 k t183 true bt186.1 bt186.2.1 bt186.2.2.1 bt186.2.2.2.1 bt186.2.2.2.2)) else (none)) else (petrinetlaw40_lives.j0 k t183 true bt186.1 bt186.2.1 bt186.2.2.1 bt186.2.2.2.1 bt186.2.2.2.2)) else (petrinetlaw40_lives.j0 k t183 true bt186.1 bt186.2.1 bt186.2.2.1 bt186.2.2.2.1 bt186.2.2.2.2)) else (none)) else (petrinetlaw40_lives.j0 k t183 true bt186.1 bt186.2.1 bt186.2.2.1 bt186.2.2.2.1 bt186.2.2.2.2)) else (none)) else (petrinetlaw40_lives.j0 k t183 true bt186.1 bt186.2.1 bt186.2.2.1 bt186.2.2.2.1 bt186.2.2.2.2)) else (none)) else (petrinetlaw40_lives.j0 k t183 true bt186.1 bt186.2.1 bt186.2.2.1 bt186.2.2.2.1 bt186.2.2.2.2)) else (none)) else (petrinetlaw40_lives.j0 k t183 true bt186.1 bt186.2.1 bt186.2.2.1 bt186.2.2.2.1 bt186.2.2.2.2)) else (none)) else (petrinetlaw40_lives.j0 k t183 true bt186.1 bt186.2.1 bt186.2.2.1 bt186.2.2.2.1 bt186.2.2.2.2)) else (none)) else (petrinetlaw40_lives.j0 k t183 true bt186.1 bt186.2.1 bt186.2.2.1 bt186.2.2.2.1 bt186.2.2.2.2))))))) = some r := h
 clear h
 replace H := Option.bind_eq_some_iff.mp H
 obtain ⟨t183, A10, H⟩ := H
 replace H : ((petrinetlaw40_pair.f).bind fun bt186 => ((binding_All.f t183 bt186.1 bt186.2.1 bt186.2.2.1 bt186.2.2.2.1 bt186.2.2.2.2).bind fun t200 => ((binding_Eval.f k t183 bt186.1 bt186.2.1 bt186.2.2.1 bt186.2.2.2.1 bt186.2.2.2.2 0 (([(⟨2, 3, 1⟩ : S54), (⟨1, 5, 0⟩ : S54)] : List (S54))) (([0, 2] : List Int))).bind fun bt209 => ((binding_Eval.f k t183 bt186.1 bt186.2.1 bt186.2.2.1 bt186.2.2.2.1 bt186.2.2.2.2 0 ([] : List (S54)) (([0, 3] : List Int))).bind fun bt216 => (if (t200.length : Int) = 3 then (if 0 < (t200.length : Int) then (if ((rd_L15 t200 0).length : Int) = 2 then (if 0 < ((rd_L15 t200 0).length : Int) then (if (rd (rd_L15 t200 0) 0) = 0 then (if 1 < ((rd_L15 t200 0).length : Int) then (if (rd (rd_L15 t200 0) 1) = 1 then (if 2 < (t200.length : Int) then (if ((rd_L15 t200 2).length : Int) = 2 then (if 0 < ((rd_L15 t200 2).length : Int) then (if (rd (rd_L15 t200 2) 0) = 1 then (if 1 < ((rd_L15 t200 2).length : Int) then (if (rd (rd_L15 t200 2) 1) = 2 then (if (bt209.1.length : Int) = 3 then (if 0 < (bt209.1.length : Int) then (if (rd bt209.1 0) = 3 then (if 1 < (bt209.1.length : Int) then (if (rd bt209.1 1) = 1 then (if 2 < (bt209.1.length : Int) then (if (rd bt209.1 2) = 1 then (if bt209.2 = 0 then (petrinetlaw40_lives.j0 k t183 (bt216.2 != 15) bt186.1 bt186.2.1 bt186.2.2.1 bt186.2.2.2.1 bt186.2.2.2.2) else (petrinetlaw40_lives.j0 k t183 true bt186.1 bt186.2.1 bt186.2.2.1 bt186.2.2.2.1 bt186.2.2.2.2)) else (petrinetlaw40_lives.j0 k t183 true bt186.1 bt186.2.1 bt186.2.2.1 bt186.2.2.2.1 bt186.2.2.2.2)) else (none)) else (petrinetlaw40_lives.j0 k t183 true bt186.1 bt186.2.1 bt186.2.2.1 bt186.2.2.2.1 bt186.2.2.2.2)) else (none)) else (petrinetlaw40_lives.j0 k t183 true bt186.1 bt186.2.1 bt186.2.2.1 bt186.2.2.2.1 bt186.2.2.2.2)) else (none)) else (petrinetlaw40_lives.j0 k t183 true bt186.1 bt186.2.1 bt186.2.2.1 bt186.2.2.2.1 bt186.2.2.2.2)) else (petrinetlaw40_lives.j0 k t183 true bt186.1 bt186.2.1 bt186.2.2.1 bt186.2.2.2.1 bt186.2.2.2.2)) else (none)) else (petrinetlaw40_lives.j0 k t183 true bt186.1 bt186.2.1 bt186.2.2.1 bt186.2.2.2.1 bt186.2.2.2.2)) else (none)) else (petrinetlaw40_lives.j0 k t183 true bt186.1 bt186.2.1 bt186.2.2.1 bt186.2.2.2.1 bt186.2.2.2.2)) else (none)) else (petrinetlaw40_lives.j0 k t183 true bt186.1 bt186.2.1 bt186.2.2.1 bt186.2.2.2.1 bt186.2.2.2.2)) else (none)) else (petrinetlaw40_lives.j0 k t183 true bt186.1 bt186.2.1 bt186.2.2.1 bt186.2.2.2.1 bt186.2.2.2.2)) else (none)) else (petrinetlaw40_lives.j0 k t183 true bt186.1 bt186.2.1 bt186.2.2.1 bt186.2.2.2.1 bt186.2.2.2.2)) else (none)) else (petrinetlaw40_lives.j0 k t183 true bt186.1 bt186.2.1 bt186.2.2.1 bt186.2.2.2.1 bt186.2.2.2.2)))))) = some r := H
 have A1 := Aside0.mk A10
 clear A10
 replace H := Option.bind_eq_some_iff.mp H
 obtain ⟨⟨t186, t187, t190, t193, t196⟩, A20, H⟩ := H
 replace H : ((binding_All.f t183 t186 t187 t190 t193 t196).bind fun t200 => ((binding_Eval.f k t183 t186 t187 t190 t193 t196 0 (([(⟨2, 3, 1⟩ : S54), (⟨1, 5, 0⟩ : S54)] : List (S54))) (([0, 2] : List Int))).bind fun bt209 => ((binding_Eval.f k t183 t186 t187 t190 t193 t196 0 ([] : List (S54)) (([0, 3] : List Int))).bind fun bt216 => (if (t200.length : Int) = 3 then (if 0 < (t200.length : Int) then (if ((rd_L15 t200 0).length : Int) = 2 then (if 0 < ((rd_L15 t200 0).length : Int) then (if (rd (rd_L15 t200 0) 0) = 0 then (if 1 < ((rd_L15 t200 0).length : Int) then (if (rd (rd_L15 t200 0) 1) = 1 then (if 2 < (t200.length : Int) then (if ((rd_L15 t200 2).length : Int) = 2 then (if 0 < ((rd_L15 t200 2).length : Int) then (if (rd (rd_L15 t200 2) 0) = 1 then (if 1 < ((rd_L15 t200 2).length : Int) then (if (rd (rd_L15 t200 2) 1) = 2 then (if (bt209.1.length : Int) = 3 then (if 0 < (bt209.1.length : Int) then (if (rd bt209.1 0) = 3 then (if 1 < (bt209.1.length : Int) then (if (rd bt209.1 1) = 1 then (if 2 < (bt209.1.length : Int) then (if (rd bt209.1 2) = 1 then (if bt209.2 = 0 then (petrinetlaw40_lives.j0 k t183 (bt216.2 != 15) t186 t187 t190 t193 t196) else (petrinetlaw40_lives.j0 k t183 true t186 t187 t190 t193 t196)) else (petrinetlaw40_lives.j0 k t183 true t186 t187 t190 t193 t196)) else (none)) else (petrinetlaw40_lives.j0 k t183 true t186 t187 t190 t193 t196)) else (none)) else (petrinetlaw40_lives.j0 k t183 true t186 t187 t190 t193 t196)) else (none)) else (petrinetlaw40_lives.j0 k t183 true t186 t187 t190 t193 t196)) else (petrinetlaw40_lives.j0 k t183 true t186 t187 t190 t193 t196)) else (none)) else (petrinetlaw40_lives.j0 k t183 true t186 t187 t190 t193 t196)) else (none)) else (petrinetlaw40_lives.j0 k t183 true t186 t187 t190 t193 t196)) else (none)) else (petrinetlaw40_lives.j0 k t183 true t186 t187 t190 t193 t196)) else (none)) else (petrinetlaw40_lives.j0 k t183 true t186 t187 t190 t193 t196)) else (none)) else (petrinetlaw40_lives.j0 k t183 true t186 t187 t190 t193 t196)) else (none)) else (petrinetlaw40_lives.j0 k t183 true t186 t187 t190 t193 t196))))) = some r := H
 have A2 := Aside0.mk A20
 clear A20
 replace H := Option.bind_eq_some_iff.mp H
 obtain ⟨t200, A30, H⟩ := H
 replace H : ((binding_Eval.f k t183 t186 t187 t190 t193 t196 0 (([(⟨2, 3, 1⟩ : S54), (⟨1, 5, 0⟩ : S54)] : List (S54))) (([0, 2] : List Int))).bind fun bt209 => ((binding_Eval.f k t183 t186 t187 t190 t193 t196 0 ([] : List (S54)) (([0, 3] : List Int))).bind fun bt216 => (if (t200.length : Int) = 3 then (if 0 < (t200.length : Int) then (if ((rd_L15 t200 0).length : Int) = 2 then (if 0 < ((rd_L15 t200 0).length : Int) then (if (rd (rd_L15 t200 0) 0) = 0 then (if 1 < ((rd_L15 t200 0).length : Int) then (if (rd (rd_L15 t200 0) 1) = 1 then (if 2 < (t200.length : Int) then (if ((rd_L15 t200 2).length : Int) = 2 then (if 0 < ((rd_L15 t200 2).length : Int) then (if (rd (rd_L15 t200 2) 0) = 1 then (if 1 < ((rd_L15 t200 2).length : Int) then (if (rd (rd_L15 t200 2) 1) = 2 then (if (bt209.1.length : Int) = 3 then (if 0 < (bt209.1.length : Int) then (if (rd bt209.1 0) = 3 then (if 1 < (bt209.1.length : Int) then (if (rd bt209.1 1) = 1 then (if 2 < (bt209.1.length : Int) then (if (rd bt209.1 2) = 1 then (if bt209.2 = 0 then (petrinetlaw40_lives.j0 k t183 (bt216.2 != 15) t186 t187 t190 t193 t196) else (petrinetlaw40_lives.j0 k t183 true t186 t187 t190 t193 t196)) else (petrinetlaw40_lives.j0 k t183 true t186 t187 t190 t193 t196)) else (none)) else (petrinetlaw40_lives.j0 k t183 true t186 t187 t190 t193 t196)) else (none)) else (petrinetlaw40_lives.j0 k t183 true t186 t187 t190 t193 t196)) else (none)) else (petrinetlaw40_lives.j0 k t183 true t186 t187 t190 t193 t196)) else (petrinetlaw40_lives.j0 k t183 true t186 t187 t190 t193 t196)) else (none)) else (petrinetlaw40_lives.j0 k t183 true t186 t187 t190 t193 t196)) else (none)) else (petrinetlaw40_lives.j0 k t183 true t186 t187 t190 t193 t196)) else (none)) else (petrinetlaw40_lives.j0 k t183 true t186 t187 t190 t193 t196)) else (none)) else (petrinetlaw40_lives.j0 k t183 true t186 t187 t190 t193 t196)) else (none)) else (petrinetlaw40_lives.j0 k t183 true t186 t187 t190 t193 t196)) else (none)) else (petrinetlaw40_lives.j0 k t183 true t186 t187 t190 t193 t196)))) = some r := H
 have A3 := Aside0.mk A30
 clear A30
 obtain ⟨y203, hy203⟩ : ∃ y_ : List (S54), y_ = (([(⟨2, 3, 1⟩ : S54), (⟨1, 5, 0⟩ : S54)] : List (S54))) := ⟨_, rfl⟩
 replace H : ((binding_Eval.f k t183 t186 t187 t190 t193 t196 0 y203 (([0, 2] : List Int))).bind fun bt209 => ((binding_Eval.f k t183 t186 t187 t190 t193 t196 0 ([] : List (S54)) (([0, 3] : List Int))).bind fun bt216 => (if (t200.length : Int) = 3 then (if 0 < (t200.length : Int) then (if ((rd_L15 t200 0).length : Int) = 2 then (if 0 < ((rd_L15 t200 0).length : Int) then (if (rd (rd_L15 t200 0) 0) = 0 then (if 1 < ((rd_L15 t200 0).length : Int) then (if (rd (rd_L15 t200 0) 1) = 1 then (if 2 < (t200.length : Int) then (if ((rd_L15 t200 2).length : Int) = 2 then (if 0 < ((rd_L15 t200 2).length : Int) then (if (rd (rd_L15 t200 2) 0) = 1 then (if 1 < ((rd_L15 t200 2).length : Int) then (if (rd (rd_L15 t200 2) 1) = 2 then (if (bt209.1.length : Int) = 3 then (if 0 < (bt209.1.length : Int) then (if (rd bt209.1 0) = 3 then (if 1 < (bt209.1.length : Int) then (if (rd bt209.1 1) = 1 then (if 2 < (bt209.1.length : Int) then (if (rd bt209.1 2) = 1 then (if bt209.2 = 0 then (petrinetlaw40_lives.j0 k t183 (bt216.2 != 15) t186 t187 t190 t193 t196) else (petrinetlaw40_lives.j0 k t183 true t186 t187 t190 t193 t196)) else (petrinetlaw40_lives.j0 k t183 true t186 t187 t190 t193 t196)) else (none)) else (petrinetlaw40_lives.j0 k t183 true t186 t187 t190 t193 t196)) else (none)) else (petrinetlaw40_lives.j0 k t183 true t186 t187 t190 t193 t196)) else (none)) else (petrinetlaw40_lives.j0 k t183 true t186 t187 t190 t193 t196)) else (petrinetlaw40_lives.j0 k t183 true t186 t187 t190 t193 t196)) else (none)) else (petrinetlaw40_lives.j0 k t183 true t186 t187 t190 t193 t196)) else (none)) else (petrinetlaw40_lives.j0 k t183 true t186 t187 t190 t193 t196)) else (none)) else (petrinetlaw40_lives.j0 k t183 true t186 t187 t190 t193 t196)) else (none)) else (petrinetlaw40_lives.j0 k t183 true t186 t187 t190 t193 t196)) else (none)) else (petrinetlaw40_lives.j0 k t183 true t186 t187 t190 t193 t196)) else (none)) else (petrinetlaw40_lives.j0 k t183 true t186 t187 t190 t193 t196)))) = some r := by first | (rw [hy203]; with_reducible exact H) | (have H2_ := (Option.bind_some _ _).symm.trans H; rw [hy203]; with_reducible exact H2_) | (have H2_ := (Option.bind_some _ _).symm.trans H; with_reducible exact H2_) | with_reducible exact H | (rw [hy203]; exact H) | exact H
 have Ny203 := Aside0.mk hy203
 clear hy203
 obtain ⟨y206, hy206⟩ : ∃ y_ : List Int, y_ = (([0, 2] : List Int)) := ⟨_, rfl⟩
 replace H : ((binding_Eval.f k t183 t186 t187 t190 t193 t196 0 y203 y206).bind fun bt209 => ((binding_Eval.f k t183 t186 t187 t190 t193 t196 0 ([] : List (S54)) (([0, 3] : List Int))).bind fun bt216 => (if (t200.length : Int) = 3 then (if 0 < (t200.length : Int) then (if ((rd_L15 t200 0).length : Int) = 2 then (if 0 < ((rd_L15 t200 0).length : Int) then (if (rd (rd_L15 t200 0) 0) = 0 then (if 1 < ((rd_L15 t200 0).length : Int) then (if (rd (rd_L15 t200 0) 1) = 1 then (if 2 < (t200.length : Int) then (if ((rd_L15 t200 2).length : Int) = 2 then (if 0 < ((rd_L15 t200 2).length : Int) then (if (rd (rd_L15 t200 2) 0) = 1 then (if 1 < ((rd_L15 t200 2).length : Int) then (if (rd (rd_L15 t200 2) 1) = 2 then (if (bt209.1.length : Int) = 3 then (if 0 < (bt209.1.length : Int) then (if (rd bt209.1 0) = 3 then (if 1 < (bt209.1.length : Int) then (if (rd bt209.1 1) = 1 then (if 2 < (bt209.1.length : Int) then (if (rd bt209.1 2) = 1 then (if bt209.2 = 0 then (petrinetlaw40_lives.j0 k t183 (bt216.2 != 15) t186 t187 t190 t193 t196) else (petrinetlaw40_lives.j0 k t183 true t186 t187 t190 t193 t196)) else (petrinetlaw40_lives.j0 k t183 true t186 t187 t190 t193 t196)) else (none)) else (petrinetlaw40_lives.j0 k t183 true t186 t187 t190 t193 t196)) else (none)) else (petrinetlaw40_lives.j0 k t183 true t186 t187 t190 t193 t196)) else (none)) else (petrinetlaw40_lives.j0 k t183 true t186 t187 t190 t193 t196)) else (petrinetlaw40_lives.j0 k t183 true t186 t187 t190 t193 t196)) else (none)) else (petrinetlaw40_lives.j0 k t183 true t186 t187 t190 t193 t196)) else (none)) else (petrinetlaw40_lives.j0 k t183 true t186 t187 t190 t193 t196)) else (none)) else (petrinetlaw40_lives.j0 k t183 true t186 t187 t190 t193 t196)) else (none)) else (petrinetlaw40_lives.j0 k t183 true t186 t187 t190 t193 t196)) else (none)) else (petrinetlaw40_lives.j0 k t183 true t186 t187 t190 t193 t196)) else (none)) else (petrinetlaw40_lives.j0 k t183 true t186 t187 t190 t193 t196)))) = some r := by first | (rw [hy206]; with_reducible exact H) | (have H2_ := (Option.bind_some _ _).symm.trans H; rw [hy206]; with_reducible exact H2_) | (have H2_ := (Option.bind_some _ _).symm.trans H; with_reducible exact H2_) | with_reducible exact H | (rw [hy206]; exact H) | exact H
 have Ny206 := Aside0.mk hy206
 clear hy206
 replace H := Option.bind_eq_some_iff.mp H
 obtain ⟨⟨t209, t212⟩, A40, H⟩ := H
 replace H : ((binding_Eval.f k t183 t186 t187 t190 t193 t196 0 ([] : List (S54)) (([0, 3] : List Int))).bind fun bt216 => (if (t200.length : Int) = 3 then (if 0 < (t200.length : Int) then (if ((rd_L15 t200 0).length : Int) = 2 then (if 0 < ((rd_L15 t200 0).length : Int) then (if (rd (rd_L15 t200 0) 0) = 0 then (if 1 < ((rd_L15 t200 0).length : Int) then (if (rd (rd_L15 t200 0) 1) = 1 then (if 2 < (t200.length : Int) then (if ((rd_L15 t200 2).length : Int) = 2 then (if 0 < ((rd_L15 t200 2).length : Int) then (if (rd (rd_L15 t200 2) 0) = 1 then (if 1 < ((rd_L15 t200 2).length : Int) then (if (rd (rd_L15 t200 2) 1) = 2 then (if (t209.length : Int) = 3 then (if 0 < (t209.length : Int) then (if (rd t209 0) = 3 then (if 1 < (t209.length : Int) then (if (rd t209 1) = 1 then (if 2 < (t209.length : Int) then (if (rd t209 2) = 1 then (if t212 = 0 then (petrinetlaw40_lives.j0 k t183 (bt216.2 != 15) t186 t187 t190 t193 t196) else (petrinetlaw40_lives.j0 k t183 true t186 t187 t190 t193 t196)) else (petrinetlaw40_lives.j0 k t183 true t186 t187 t190 t193 t196)) else (none)) else (petrinetlaw40_lives.j0 k t183 true t186 t187 t190 t193 t196)) else (none)) else (petrinetlaw40_lives.j0 k t183 true t186 t187 t190 t193 t196)) else (none)) else (petrinetlaw40_lives.j0 k t183 true t186 t187 t190 t193 t196)) else (petrinetlaw40_lives.j0 k t183 true t186 t187 t190 t193 t196)) else (none)) else (petrinetlaw40_lives.j0 k t183 true t186 t187 t190 t193 t196)) else (none)) else (petrinetlaw40_lives.j0 k t183 true t186 t187 t190 t193 t196)) else (none)) else (petrinetlaw40_lives.j0 k t183 true t186 t187 t190 t193 t196)) else (none)) else (petrinetlaw40_lives.j0 k t183 true t186 t187 t190 t193 t196)) else (none)) else (petrinetlaw40_lives.j0 k t183 true t186 t187 t190 t193 t196)) else (none)) else (petrinetlaw40_lives.j0 k t183 true t186 t187 t190 t193 t196))) = some r := H
 have A4 := Aside0.mk A40
 clear A40
 obtain ⟨y213, hy213⟩ : ∃ y_ : List Int, y_ = (([0, 3] : List Int)) := ⟨_, rfl⟩
 replace H : ((binding_Eval.f k t183 t186 t187 t190 t193 t196 0 ([] : List (S54)) y213).bind fun bt216 => (if (t200.length : Int) = 3 then (if 0 < (t200.length : Int) then (if ((rd_L15 t200 0).length : Int) = 2 then (if 0 < ((rd_L15 t200 0).length : Int) then (if (rd (rd_L15 t200 0) 0) = 0 then (if 1 < ((rd_L15 t200 0).length : Int) then (if (rd (rd_L15 t200 0) 1) = 1 then (if 2 < (t200.length : Int) then (if ((rd_L15 t200 2).length : Int) = 2 then (if 0 < ((rd_L15 t200 2).length : Int) then (if (rd (rd_L15 t200 2) 0) = 1 then (if 1 < ((rd_L15 t200 2).length : Int) then (if (rd (rd_L15 t200 2) 1) = 2 then (if (t209.length : Int) = 3 then (if 0 < (t209.length : Int) then (if (rd t209 0) = 3 then (if 1 < (t209.length : Int) then (if (rd t209 1) = 1 then (if 2 < (t209.length : Int) then (if (rd t209 2) = 1 then (if t212 = 0 then (petrinetlaw40_lives.j0 k t183 (bt216.2 != 15) t186 t187 t190 t193 t196) else (petrinetlaw40_lives.j0 k t183 true t186 t187 t190 t193 t196)) else (petrinetlaw40_lives.j0 k t183 true t186 t187 t190 t193 t196)) else (none)) else (petrinetlaw40_lives.j0 k t183 true t186 t187 t190 t193 t196)) else (none)) else (petrinetlaw40_lives.j0 k t183 true t186 t187 t190 t193 t196)) else (none)) else (petrinetlaw40_lives.j0 k t183 true t186 t187 t190 t193 t196)) else (petrinetlaw40_lives.j0 k t183 true t186 t187 t190 t193 t196)) else (none)) else (petrinetlaw40_lives.j0 k t183 true t186 t187 t190 t193 t196)) else (none)) else (petrinetlaw40_lives.j0 k t183 true t186 t187 t190 t193 t196)) else (none)) else (petrinetlaw40_lives.j0 k t183 true t186 t187 t190 t193 t196)) else (none)) else (petrinetlaw40_lives.j0 k t183 true t186 t187 t190 t193 t196)) else (none)) else (petrinetlaw40_lives.j0 k t183 true t186 t187 t190 t193 t196)) else (none)) else (petrinetlaw40_lives.j0 k t183 true t186 t187 t190 t193 t196))) = some r := by first | (rw [hy213]; with_reducible exact H) | (have H2_ := (Option.bind_some _ _).symm.trans H; rw [hy213]; with_reducible exact H2_) | (have H2_ := (Option.bind_some _ _).symm.trans H; with_reducible exact H2_) | with_reducible exact H | (rw [hy213]; exact H) | exact H
 have Ny213 := Aside0.mk hy213
 clear hy213
 replace H := Option.bind_eq_some_iff.mp H
 obtain ⟨⟨t216, t219⟩, A50, H⟩ := H
 replace H : (if (t200.length : Int) = 3 then (if 0 < (t200.length : Int) then (if ((rd_L15 t200 0).length : Int) = 2 then (if 0 < ((rd_L15 t200 0).length : Int) then (if (rd (rd_L15 t200 0) 0) = 0 then (if 1 < ((rd_L15 t200 0).length : Int) then (if (rd (rd_L15 t200 0) 1) = 1 then (if 2 < (t200.length : Int) then (if ((rd_L15 t200 2).length : Int) = 2 then (if 0 < ((rd_L15 t200 2).length : Int) then (if (rd (rd_L15 t200 2) 0) = 1 then (if 1 < ((rd_L15 t200 2).length : Int) then (if (rd (rd_L15 t200 2) 1) = 2 then (if (t209.length : Int) = 3 then (if 0 < (t209.length : Int) then (if (rd t209 0) = 3 then (if 1 < (t209.length : Int) then (if (rd t209 1) = 1 then (if 2 < (t209.length : Int) then (if (rd t209 2) = 1 then (if t212 = 0 then (petrinetlaw40_lives.j0 k t183 (t219 != 15) t186 t187 t190 t193 t196) else (petrinetlaw40_lives.j0 k t183 true t186 t187 t190 t193 t196)) else (petrinetlaw40_lives.j0 k t183 true t186 t187 t190 t193 t196)) else (none)) else (petrinetlaw40_lives.j0 k t183 true t186 t187 t190 t193 t196)) else (none)) else (petrinetlaw40_lives.j0 k t183 true t186 t187 t190 t193 t196)) else (none)) else (petrinetlaw40_lives.j0 k t183 true t186 t187 t190 t193 t196)) else (petrinetlaw40_lives.j0 k t183 true t186 t187 t190 t193 t196)) else (none)) else (petrinetlaw40_lives.j0 k t183 true t186 t187 t190 t193 t196)) else (none)) else (petrinetlaw40_lives.j0 k t183 true t186 t187 t190 t193 t196)) else (none)) else (petrinetlaw40_lives.j0 k t183 true t186 t187 t190 t193 t196)) else (none)) else (petrinetlaw40_lives.j0 k t183 true t186 t187 t190 t193 t196)) else (none)) else (petrinetlaw40_lives.j0 k t183 true t186 t187 t190 t193 t196)) else (none)) else (petrinetlaw40_lives.j0 k t183 true t186 t187 t190 t193 t196)) = some r := H
 have A5 := Aside0.mk A50
 clear A50
 have HC6 := Aside0.mk H
 clear H
 go_enter Try.func10, Try.ntmps10
 go_upto_region 5 with (first | ((with_reducible refine gate_callee (f := 27) rfl ?_); refine goesL_ (some 8) rfl rfl Try.func27 (by kernel_rfl) rfl #[] rfl (by (try simp only [List.map_toArray, List.map_cons, List.map_nil]); first | done | rfl | (simp only [List.length_drop, List.length_take]; rfl)) ?_; (with_reducible refine (petrinetlaw40_three.calls  t183 _ A1.out).mono ?_); rintro e w7 ⟨v184, rfl, ho0, hb⟩; refine ⟨_, rfl, ?_⟩; have n0_ := Aside0.mk (Kd.N_lower (Kd.N_mono (ok' := fun k_ => True) ho0 (fun k_ hk_ => trivial)) (below_size (by repeat (first | (with_reducible first | exact HB.out | apply below_alloc | apply pw_below_drewN | apply below_drew1) | exact HB.out)))); have n1_ := Aside0.mk (below_step (by repeat (first | (with_reducible first | exact HB.out | apply below_alloc | apply pw_below_drewN | apply below_drew1) | exact HB.out)) hb); clear HB; have HO185 := n0_; have HB := n1_; clear n0_ n1_; (try clear hb); (try clear hb2); (try clear hk); (try clear hi); (try clear ho0)) | ((with_reducible refine gate_callee (f := 28) rfl ?_); refine goesL_ (some 9) rfl rfl Try.func28 (by kernel_rfl) rfl #[] rfl (by (try simp only [List.map_toArray, List.map_cons, List.map_nil]); first | done | rfl | (simp only [List.length_drop, List.length_take]; rfl)) ?_; (with_reducible refine (petrinetlaw40_pair.calls  t186 t187 t190 t193 t196 _ A2.out).mono ?_); rintro e w8 ⟨v188, v191, v194, v197, rfl, ho0, ho1, ho2, ho3, hb⟩; refine ⟨_, rfl, ?_⟩; have n0_ := Aside0.mk (Kd.N_mono (Kd.N_told (Kd.N_told (Kd.N_told (Kd.N_told (Kd.N_old (by (with_reducible repeat (first | apply Kd.N_alloc | apply Kd.N_drewN | apply Kd.N_drew)); exact HO185.out) hb) (Kd.R_base ho0)) (Kd.R_base ho1)) (by first | exact Kd.N_base ho2 | exact Kd.S_base ho2)) (by first | exact Kd.N_base ho3 | exact Kd.S_base ho3)) (fun _ h_ => h_.1)); have n1_ := Aside0.mk (Kd.R_lower ho0 (below_size (by repeat (first | (with_reducible first | exact HB.out | apply below_alloc | apply pw_below_drewN | apply below_drew1) | exact HB.out)))); have n2_ := Aside0.mk (Kd.R_lower ho1 (below_size (by repeat (first | (with_reducible first | exact HB.out | apply below_alloc | apply pw_below_drewN | apply below_drew1) | exact HB.out)))); have n3_ := Aside0.mk (Kd.N_lower (Kd.N_mono (ok' := fun k_ => some k_ ≠ (v188 : Value).ownBlock ∧ some k_ ≠ (v191 : Value).ownBlock ∧ some k_ ≠ (v197 : Value).ownBlock ∧ some k_ ≠ (v184 : Value).ownBlock) (Kd.S_N (Kd.S_bound (Kd.S_apart' (Kd.S_apart' ho2 (Kd.R_typed ho0) (by decide)) (Kd.R_typed ho1) (by decide)))) (fun k_ hk_ => ⟨hk_.1.1.2, hk_.1.2, hk_.1.1.1, (Kd.fresh' (Kd.N_lt (by (with_reducible repeat (first | apply Kd.N_alloc | apply Kd.N_drewN | apply Kd.N_drew)); exact HO185.out)) k_ hk_.2.1)⟩)) (below_size (by repeat (first | (with_reducible first | exact HB.out | apply below_alloc | apply pw_below_drewN | apply below_drew1) | exact HB.out)))); have n4_ := Aside0.mk (Kd.N_lower (Kd.N_mono (ok' := fun k_ => some k_ ≠ (v188 : Value).ownBlock ∧ some k_ ≠ (v191 : Value).ownBlock ∧ some k_ ≠ (v194 : Value).ownBlock ∧ some k_ ≠ (v184 : Value).ownBlock) (Kd.S_N (Kd.S_bound (Kd.S_apart' (Kd.S_apart' ho3 (Kd.R_typed ho0) (by decide)) (Kd.R_typed ho1) (by decide)))) (fun k_ hk_ => ⟨hk_.1.1.2, hk_.1.2, hk_.1.1.1, (Kd.fresh' (Kd.N_lt (by (with_reducible repeat (first | apply Kd.N_alloc | apply Kd.N_drewN | apply Kd.N_drew)); exact HO185.out)) k_ hk_.2.1)⟩)) (below_size (by repeat (first | (with_reducible first | exact HB.out | apply below_alloc | apply pw_below_drewN | apply below_drew1) | exact HB.out)))); have n5_ := Aside0.mk (below_step (by repeat (first | (with_reducible first | exact HB.out | apply below_alloc | apply pw_below_drewN | apply below_drew1) | exact HB.out)) hb); clear HO185; clear HB; have HO185 := n0_; have HO189 := n1_; have HO192 := n2_; have HO195 := n3_; have HO198 := n4_; have HB := n5_; clear n0_ n1_ n2_ n3_ n4_ n5_; (try clear hb); (try clear hb2); (try clear hk); (try clear hi); (try clear ho0); (try clear ho1); (try clear ho2); (try clear ho3)) | ((with_reducible refine gate_dst (N := 2) rfl ?_); (try (refine gate_guard (by rfl) ?_; dsimp only)); refine box_event ?hg (N := 2) ?hd (cs := #[.string (⟨#[]⟩ : ByteArray), .slice none 0 0, .slice none 0 0, .slice none 0 0, .slice none 0 0]) (t := 27) ?hr ?_; (case hd => rfl); (case hg => rfl); (case hr => first | (go_simp; done) | (go_simp; rfl)); intro gb199 hg w9 hbox hb; have n0_ := Aside0.mk (Kd.N_below (Kd.N_elderB (by (with_reducible repeat (first | apply Kd.N_alloc | apply Kd.N_drewN | apply Kd.N_drew)); exact HO185.out) gb199 (Nat.le_of_eq hg.symm)) hb); have n1_ := Aside0.mk (Kd.R_below (by (with_reducible repeat (first | apply Kd.R_alloc | apply Kd.R_drewN | apply Kd.R_drew)); exact HO189.out) hb); have n2_ := Aside0.mk (Kd.R_below (by (with_reducible repeat (first | apply Kd.R_alloc | apply Kd.R_drewN | apply Kd.R_drew)); exact HO192.out) hb); have n3_ := Aside0.mk (Kd.N_below (Kd.N_elderB (by (with_reducible repeat (first | apply Kd.N_alloc | apply Kd.N_drewN | apply Kd.N_drew)); exact HO195.out) gb199 (Nat.le_of_eq hg.symm)) hb); have n4_ := Aside0.mk (Kd.N_below (Kd.N_elderB (by (with_reducible repeat (first | apply Kd.N_alloc | apply Kd.N_drewN | apply Kd.N_drew)); exact HO198.out) gb199 (Nat.le_of_eq hg.symm)) hb); have n5_ := Aside0.mk (below_step (by repeat (first | (with_reducible first | exact HB.out | apply below_alloc | apply pw_below_drewN | apply below_drew1) | exact HB.out)) hb); have n6_ := Aside0.mk (hbox); have n7_ := Aside0.mk ((by rw [hg]; exact (below_size (by repeat (first | (with_reducible first | exact HB.out | apply below_alloc | apply pw_below_drewN | apply below_drew1) | exact HB.out))) : w.heap.size ≤ gb199)); have n8_ := Aside0.mk ((by rw [hg]; exact (below_size (by repeat (first | (with_reducible first | exact HB.out | apply below_alloc | apply pw_below_drewN | apply below_drew1) | exact HB.out))) : w.heap.size ≤ gb199)); clear HO185; clear HO189; clear HO192; clear HO195; clear HO198; clear HB; have HO185 := n0_; have HO189 := n1_; have HO192 := n2_; have HO195 := n3_; have HO198 := n4_; have HB := n5_; have BK199 := n6_; have GW199 := n7_; have GE199 := n8_; clear n0_ n1_ n2_ n3_ n4_ n5_ n6_ n7_ n8_; clear hb hbox hg; have hcz10_0 : w9.cell? ⟨gb199, 0, none⟩ = some (.string (⟨#[]⟩ : ByteArray)) := (blk_cell BK199.out 0).trans rfl; have hcz10_1 : w9.cell? ⟨gb199, 1, none⟩ = some (.slice none 0 0) := (blk_cell BK199.out 1).trans rfl; have hcz10_2 : w9.cell? ⟨gb199, 2, none⟩ = some (.slice none 0 0) := (blk_cell BK199.out 2).trans rfl; have hcz10_3 : w9.cell? ⟨gb199, 3, none⟩ = some (.slice none 0 0) := (blk_cell BK199.out 3).trans rfl; have hcz10_4 : w9.cell? ⟨gb199, 4, none⟩ = some (.slice none 0 0) := (blk_cell BK199.out 4).trans rfl; have hfz10_0 := blk_frozen BK199.out 0; have hfz10_1 := blk_frozen BK199.out 1; have hfz10_2 := blk_frozen BK199.out 2; have hfz10_3 := blk_frozen BK199.out 3; have hfz10_4 := blk_frozen BK199.out 4; obtain ⟨Ao11, co11, eo11⟩ := Kd.R_slice HO189.out; subst eo11; obtain ⟨Ao12, co12, eo12⟩ := Kd.R_slice HO192.out; subst eo12; obtain ⟨Ao13, co13, eo13⟩ := Kd.N_slice HO195.out; subst eo13; obtain ⟨Ao14, co14, eo14⟩ := Kd.N_slice HO198.out; subst eo14; obtain ⟨Ao15, co15, eo15⟩ := Kd.N_slice HO185.out; subst eo15) | ((with_reducible refine gate_callee (f := 24) rfl ?_); refine goesL_ (some 12) rfl rfl Try.func24 (by kernel_rfl) rfl #[.slice Ao15 t183.length co15, .agg #[.string t186, .slice Ao11 t187.length co11, .slice Ao12 t190.length co12, .slice Ao13 t193.length co13, .slice Ao14 t196.length co14]] rfl (by (try simp only [List.map_toArray, List.map_cons, List.map_nil]); first | done | rfl | (simp only [List.length_drop, List.length_take]; rfl)) ?_; (with_reducible refine (binding_All.calls _ _ t183 t186 _ _ t187 _ _ t190 _ _ t193 _ _ t196 t200 _ ?side1 ?side2 ?side3 ?side4 ?side5 ?side6 ?side7 ?side8 ?side9 ?side10 A3.out).mono ?_); (case side1 => refine (Kd.N_reads' (e := 51) (base := w.heap.size) (ok := fun k_ => (((((True ∧ some k_ ≠ (.slice Ao11 t187.length co11 : Value).ownBlock) ∧ some k_ ≠ (.slice Ao12 t190.length co12 : Value).ownBlock) ∧ some k_ ≠ (.slice Ao13 t193.length co13 : Value).ownBlock) ∧ some k_ ≠ (.slice Ao14 t196.length co14 : Value).ownBlock) ∧ k_ ≠ gb199)) (n := t183.length) (c := co15) ?_).2.2; exact (by (with_reducible repeat (first | apply Kd.N_alloc | apply Kd.N_drewN | apply Kd.N_drew)); exact (Kd.N_mono (Kd.N_far (p := ⟨gb199, 4, none⟩) (Kd.N_far (p := ⟨gb199, 3, none⟩) (Kd.N_far (p := ⟨gb199, 2, none⟩) (Kd.N_far (p := ⟨gb199, 1, none⟩) (Kd.N_far (p := ⟨gb199, 0, none⟩) (Kd.N_mono HO185.out (fun k_ hk => (⟨hk, hk.2⟩ : _ ∧ k_ ≠ gb199))) (fun _ hk => hk.2) (.string t186)) (fun _ hk => hk.2) (.slice Ao11 t187.length co11)) (fun _ hk => hk.2) (.slice Ao12 t190.length co12)) (fun _ hk => hk.2) (.slice Ao13 t193.length co13)) (fun _ hk => hk.2) (.slice Ao14 t196.length co14)) (fun _ h_ => h_.1)))); (case side2 => exact (Kd.N_reads' HO185.out).2.1); (case side3 => refine (Kd.R_reads' (e := 48) (base := w.heap.size) (ok := fun k_ => True) (n := t187.length) (c := co11) ?_).2.2; exact (by (with_reducible repeat (first | apply Kd.R_alloc | apply Kd.R_drewN | apply Kd.R_drew)); exact (Kd.R_mono (Kd.R_far (p := ⟨gb199, 4, none⟩) (Kd.R_far (p := ⟨gb199, 3, none⟩) (Kd.R_far (p := ⟨gb199, 2, none⟩) (Kd.R_far (p := ⟨gb199, 1, none⟩) (Kd.R_far (p := ⟨gb199, 0, none⟩) (Kd.R_types HO189.out BK199.out (by decide)) (fun _ hk => hk.2) (.string t186)) (fun _ hk => hk.2) (.slice Ao11 t187.length co11)) (fun _ hk => hk.2) (.slice Ao12 t190.length co12)) (fun _ hk => hk.2) (.slice Ao13 t193.length co13)) (fun _ hk => hk.2) (.slice Ao14 t196.length co14)) (fun _ h_ => h_.1)))); (case side4 => exact (Kd.R_reads' HO189.out).2.1); (case side5 => refine (Kd.R_reads' (e := 62) (base := w.heap.size) (ok := fun k_ => True) (n := t190.length) (c := co12) ?_).2.2; exact (by (with_reducible repeat (first | apply Kd.R_alloc | apply Kd.R_drewN | apply Kd.R_drew)); exact (Kd.R_mono (Kd.R_far (p := ⟨gb199, 4, none⟩) (Kd.R_far (p := ⟨gb199, 3, none⟩) (Kd.R_far (p := ⟨gb199, 2, none⟩) (Kd.R_far (p := ⟨gb199, 1, none⟩) (Kd.R_far (p := ⟨gb199, 0, none⟩) (Kd.R_types HO192.out BK199.out (by decide)) (fun _ hk => hk.2) (.string t186)) (fun _ hk => hk.2) (.slice Ao11 t187.length co11)) (fun _ hk => hk.2) (.slice Ao12 t190.length co12)) (fun _ hk => hk.2) (.slice Ao13 t193.length co13)) (fun _ hk => hk.2) (.slice Ao14 t196.length co14)) (fun _ h_ => h_.1)))); (case side6 => exact (Kd.R_reads' HO192.out).2.1); (case side7 => refine (Kd.N_reads' (e := 111) (base := w.heap.size) (ok := fun k_ => ((some k_ ≠ (.slice Ao11 t187.length co11 : Value).ownBlock ∧ (some k_ ≠ (.slice Ao12 t190.length co12 : Value).ownBlock ∧ (some k_ ≠ (.slice Ao14 t196.length co14 : Value).ownBlock ∧ some k_ ≠ (.slice Ao15 t183.length co15 : Value).ownBlock))) ∧ k_ ≠ gb199)) (n := t193.length) (c := co13) ?_).2.2; exact (by (with_reducible repeat (first | apply Kd.N_alloc | apply Kd.N_drewN | apply Kd.N_drew)); exact (Kd.N_mono (Kd.N_far (p := ⟨gb199, 4, none⟩) (Kd.N_far (p := ⟨gb199, 3, none⟩) (Kd.N_far (p := ⟨gb199, 2, none⟩) (Kd.N_far (p := ⟨gb199, 1, none⟩) (Kd.N_far (p := ⟨gb199, 0, none⟩) (Kd.N_mono HO195.out (fun k_ hk => (⟨hk, hk.2⟩ : _ ∧ k_ ≠ gb199))) (fun _ hk => hk.2) (.string t186)) (fun _ hk => hk.2) (.slice Ao11 t187.length co11)) (fun _ hk => hk.2) (.slice Ao12 t190.length co12)) (fun _ hk => hk.2) (.slice Ao13 t193.length co13)) (fun _ hk => hk.2) (.slice Ao14 t196.length co14)) (fun _ h_ => h_.1)))); (case side8 => exact (Kd.N_reads' HO195.out).2.1); (case side9 => refine (Kd.N_reads' (e := 111) (base := w.heap.size) (ok := fun k_ => ((some k_ ≠ (.slice Ao11 t187.length co11 : Value).ownBlock ∧ (some k_ ≠ (.slice Ao12 t190.length co12 : Value).ownBlock ∧ (some k_ ≠ (.slice Ao13 t193.length co13 : Value).ownBlock ∧ some k_ ≠ (.slice Ao15 t183.length co15 : Value).ownBlock))) ∧ k_ ≠ gb199)) (n := t196.length) (c := co14) ?_).2.2; exact (by (with_reducible repeat (first | apply Kd.N_alloc | apply Kd.N_drewN | apply Kd.N_drew)); exact (Kd.N_mono (Kd.N_far (p := ⟨gb199, 4, none⟩) (Kd.N_far (p := ⟨gb199, 3, none⟩) (Kd.N_far (p := ⟨gb199, 2, none⟩) (Kd.N_far (p := ⟨gb199, 1, none⟩) (Kd.N_far (p := ⟨gb199, 0, none⟩) (Kd.N_mono HO198.out (fun k_ hk => (⟨hk, hk.2⟩ : _ ∧ k_ ≠ gb199))) (fun _ hk => hk.2) (.string t186)) (fun _ hk => hk.2) (.slice Ao11 t187.length co11)) (fun _ hk => hk.2) (.slice Ao12 t190.length co12)) (fun _ hk => hk.2) (.slice Ao13 t193.length co13)) (fun _ hk => hk.2) (.slice Ao14 t196.length co14)) (fun _ h_ => h_.1)))); (case side10 => exact (Kd.N_reads' HO198.out).2.1); rintro e w16 ⟨v201, rfl, ho0, hb⟩; refine ⟨_, rfl, ?_⟩; have n0_ := Aside0.mk (Kd.N_elder' (by (with_reducible repeat (first | apply Kd.N_alloc | apply Kd.N_drewN | apply Kd.N_drew)); exact (Kd.N_mono (Kd.N_far (p := ⟨gb199, 4, none⟩) (Kd.N_far (p := ⟨gb199, 3, none⟩) (Kd.N_far (p := ⟨gb199, 2, none⟩) (Kd.N_far (p := ⟨gb199, 1, none⟩) (Kd.N_far (p := ⟨gb199, 0, none⟩) (Kd.N_mono HO185.out (fun k_ hk => (⟨hk, hk.2⟩ : _ ∧ k_ ≠ gb199))) (fun _ hk => hk.2) (.string t186)) (fun _ hk => hk.2) (.slice Ao11 t187.length co11)) (fun _ hk => hk.2) (.slice Ao12 t190.length co12)) (fun _ hk => hk.2) (.slice Ao13 t193.length co13)) (fun _ hk => hk.2) (.slice Ao14 t196.length co14)) (fun _ h_ => h_.1))) (by first | exact Kd.N_base ho0 | exact Kd.S_base ho0) hb); have n1_ := Aside0.mk (Kd.R_below (by (with_reducible repeat (first | apply Kd.R_alloc | apply Kd.R_drewN | apply Kd.R_drew)); exact (Kd.R_mono (Kd.R_far (p := ⟨gb199, 4, none⟩) (Kd.R_far (p := ⟨gb199, 3, none⟩) (Kd.R_far (p := ⟨gb199, 2, none⟩) (Kd.R_far (p := ⟨gb199, 1, none⟩) (Kd.R_far (p := ⟨gb199, 0, none⟩) (Kd.R_types HO189.out BK199.out (by decide)) (fun _ hk => hk.2) (.string t186)) (fun _ hk => hk.2) (.slice Ao11 t187.length co11)) (fun _ hk => hk.2) (.slice Ao12 t190.length co12)) (fun _ hk => hk.2) (.slice Ao13 t193.length co13)) (fun _ hk => hk.2) (.slice Ao14 t196.length co14)) (fun _ h_ => h_.1))) hb); have n2_ := Aside0.mk (Kd.R_below (by (with_reducible repeat (first | apply Kd.R_alloc | apply Kd.R_drewN | apply Kd.R_drew)); exact (Kd.R_mono (Kd.R_far (p := ⟨gb199, 4, none⟩) (Kd.R_far (p := ⟨gb199, 3, none⟩) (Kd.R_far (p := ⟨gb199, 2, none⟩) (Kd.R_far (p := ⟨gb199, 1, none⟩) (Kd.R_far (p := ⟨gb199, 0, none⟩) (Kd.R_types HO192.out BK199.out (by decide)) (fun _ hk => hk.2) (.string t186)) (fun _ hk => hk.2) (.slice Ao11 t187.length co11)) (fun _ hk => hk.2) (.slice Ao12 t190.length co12)) (fun _ hk => hk.2) (.slice Ao13 t193.length co13)) (fun _ hk => hk.2) (.slice Ao14 t196.length co14)) (fun _ h_ => h_.1))) hb); have n3_ := Aside0.mk (Kd.N_elder' (by (with_reducible repeat (first | apply Kd.N_alloc | apply Kd.N_drewN | apply Kd.N_drew)); exact (Kd.N_mono (Kd.N_far (p := ⟨gb199, 4, none⟩) (Kd.N_far (p := ⟨gb199, 3, none⟩) (Kd.N_far (p := ⟨gb199, 2, none⟩) (Kd.N_far (p := ⟨gb199, 1, none⟩) (Kd.N_far (p := ⟨gb199, 0, none⟩) (Kd.N_mono HO195.out (fun k_ hk => (⟨hk, hk.2⟩ : _ ∧ k_ ≠ gb199))) (fun _ hk => hk.2) (.string t186)) (fun _ hk => hk.2) (.slice Ao11 t187.length co11)) (fun _ hk => hk.2) (.slice Ao12 t190.length co12)) (fun _ hk => hk.2) (.slice Ao13 t193.length co13)) (fun _ hk => hk.2) (.slice Ao14 t196.length co14)) (fun _ h_ => h_.1))) (by first | exact Kd.N_base ho0 | exact Kd.S_base ho0) hb); have n4_ := Aside0.mk (Kd.N_elder' (by (with_reducible repeat (first | apply Kd.N_alloc | apply Kd.N_drewN | apply Kd.N_drew)); exact (Kd.N_mono (Kd.N_far (p := ⟨gb199, 4, none⟩) (Kd.N_far (p := ⟨gb199, 3, none⟩) (Kd.N_far (p := ⟨gb199, 2, none⟩) (Kd.N_far (p := ⟨gb199, 1, none⟩) (Kd.N_far (p := ⟨gb199, 0, none⟩) (Kd.N_mono HO198.out (fun k_ hk => (⟨hk, hk.2⟩ : _ ∧ k_ ≠ gb199))) (fun _ hk => hk.2) (.string t186)) (fun _ hk => hk.2) (.slice Ao11 t187.length co11)) (fun _ hk => hk.2) (.slice Ao12 t190.length co12)) (fun _ hk => hk.2) (.slice Ao13 t193.length co13)) (fun _ hk => hk.2) (.slice Ao14 t196.length co14)) (fun _ h_ => h_.1))) (by first | exact Kd.N_base ho0 | exact Kd.S_base ho0) hb); have n5_ := Aside0.mk (Kd.N_lower (Kd.N_mono (ok' := fun k_ => some k_ ≠ (.slice Ao15 t183.length co15 : Value).ownBlock ∧ some k_ ≠ (.slice Ao11 t187.length co11 : Value).ownBlock ∧ some k_ ≠ (.slice Ao12 t190.length co12 : Value).ownBlock ∧ some k_ ≠ (.slice Ao13 t193.length co13 : Value).ownBlock ∧ some k_ ≠ (.slice Ao14 t196.length co14 : Value).ownBlock ∧ k_ ≠ gb199) (Kd.S_N (Kd.S_bound ho0)) (fun k_ hk_ => ⟨(Kd.fresh' (Kd.N_lt (by (with_reducible repeat (first | apply Kd.N_alloc | apply Kd.N_drewN | apply Kd.N_drew)); exact (Kd.N_mono (Kd.N_far (p := ⟨gb199, 4, none⟩) (Kd.N_far (p := ⟨gb199, 3, none⟩) (Kd.N_far (p := ⟨gb199, 2, none⟩) (Kd.N_far (p := ⟨gb199, 1, none⟩) (Kd.N_far (p := ⟨gb199, 0, none⟩) (Kd.N_mono HO185.out (fun k_ hk => (⟨hk, hk.2⟩ : _ ∧ k_ ≠ gb199))) (fun _ hk => hk.2) (.string t186)) (fun _ hk => hk.2) (.slice Ao11 t187.length co11)) (fun _ hk => hk.2) (.slice Ao12 t190.length co12)) (fun _ hk => hk.2) (.slice Ao13 t193.length co13)) (fun _ hk => hk.2) (.slice Ao14 t196.length co14)) (fun _ h_ => h_.1)))) k_ hk_.2.1), (Kd.fresh' (Kd.R_lt (by (with_reducible repeat (first | apply Kd.R_alloc | apply Kd.R_drewN | apply Kd.R_drew)); exact (Kd.R_mono (Kd.R_far (p := ⟨gb199, 4, none⟩) (Kd.R_far (p := ⟨gb199, 3, none⟩) (Kd.R_far (p := ⟨gb199, 2, none⟩) (Kd.R_far (p := ⟨gb199, 1, none⟩) (Kd.R_far (p := ⟨gb199, 0, none⟩) (Kd.R_types HO189.out BK199.out (by decide)) (fun _ hk => hk.2) (.string t186)) (fun _ hk => hk.2) (.slice Ao11 t187.length co11)) (fun _ hk => hk.2) (.slice Ao12 t190.length co12)) (fun _ hk => hk.2) (.slice Ao13 t193.length co13)) (fun _ hk => hk.2) (.slice Ao14 t196.length co14)) (fun _ h_ => h_.1)))) k_ hk_.2.1), (Kd.fresh' (Kd.R_lt (by (with_reducible repeat (first | apply Kd.R_alloc | apply Kd.R_drewN | apply Kd.R_drew)); exact (Kd.R_mono (Kd.R_far (p := ⟨gb199, 4, none⟩) (Kd.R_far (p := ⟨gb199, 3, none⟩) (Kd.R_far (p := ⟨gb199, 2, none⟩) (Kd.R_far (p := ⟨gb199, 1, none⟩) (Kd.R_far (p := ⟨gb199, 0, none⟩) (Kd.R_types HO192.out BK199.out (by decide)) (fun _ hk => hk.2) (.string t186)) (fun _ hk => hk.2) (.slice Ao11 t187.length co11)) (fun _ hk => hk.2) (.slice Ao12 t190.length co12)) (fun _ hk => hk.2) (.slice Ao13 t193.length co13)) (fun _ hk => hk.2) (.slice Ao14 t196.length co14)) (fun _ h_ => h_.1)))) k_ hk_.2.1), (Kd.fresh' (Kd.N_lt (by (with_reducible repeat (first | apply Kd.N_alloc | apply Kd.N_drewN | apply Kd.N_drew)); exact (Kd.N_mono (Kd.N_far (p := ⟨gb199, 4, none⟩) (Kd.N_far (p := ⟨gb199, 3, none⟩) (Kd.N_far (p := ⟨gb199, 2, none⟩) (Kd.N_far (p := ⟨gb199, 1, none⟩) (Kd.N_far (p := ⟨gb199, 0, none⟩) (Kd.N_mono HO195.out (fun k_ hk => (⟨hk, hk.2⟩ : _ ∧ k_ ≠ gb199))) (fun _ hk => hk.2) (.string t186)) (fun _ hk => hk.2) (.slice Ao11 t187.length co11)) (fun _ hk => hk.2) (.slice Ao12 t190.length co12)) (fun _ hk => hk.2) (.slice Ao13 t193.length co13)) (fun _ hk => hk.2) (.slice Ao14 t196.length co14)) (fun _ h_ => h_.1)))) k_ hk_.2.1), (Kd.fresh' (Kd.N_lt (by (with_reducible repeat (first | apply Kd.N_alloc | apply Kd.N_drewN | apply Kd.N_drew)); exact (Kd.N_mono (Kd.N_far (p := ⟨gb199, 4, none⟩) (Kd.N_far (p := ⟨gb199, 3, none⟩) (Kd.N_far (p := ⟨gb199, 2, none⟩) (Kd.N_far (p := ⟨gb199, 1, none⟩) (Kd.N_far (p := ⟨gb199, 0, none⟩) (Kd.N_mono HO198.out (fun k_ hk => (⟨hk, hk.2⟩ : _ ∧ k_ ≠ gb199))) (fun _ hk => hk.2) (.string t186)) (fun _ hk => hk.2) (.slice Ao11 t187.length co11)) (fun _ hk => hk.2) (.slice Ao12 t190.length co12)) (fun _ hk => hk.2) (.slice Ao13 t193.length co13)) (fun _ hk => hk.2) (.slice Ao14 t196.length co14)) (fun _ h_ => h_.1)))) k_ hk_.2.1), (Kd.freshB (g := gb199) (o := .cells #[.string t186, .slice Ao11 t187.length co11, .slice Ao12 t190.length co12, .slice Ao13 t193.length co13, .slice Ao14 t196.length co14] 27 (0, 0)) (by (with_reducible repeat (first | refine blk_drewN ?_ _ | refine blk_drew ?_ | refine blk_alloc ?_ _)); refine blk_put (cs := #[.string t186, .slice Ao11 t187.length co11, .slice Ao12 t190.length co12, .slice Ao13 t193.length co13, .slice none 0 0]) ?_ 4 _ rfl; (with_reducible repeat (first | refine blk_drewN ?_ _ | refine blk_drew ?_ | refine blk_alloc ?_ _)); refine blk_put (cs := #[.string t186, .slice Ao11 t187.length co11, .slice Ao12 t190.length co12, .slice none 0 0, .slice none 0 0]) ?_ 3 _ rfl; (with_reducible repeat (first | refine blk_drewN ?_ _ | refine blk_drew ?_ | refine blk_alloc ?_ _)); refine blk_put (cs := #[.string t186, .slice Ao11 t187.length co11, .slice none 0 0, .slice none 0 0, .slice none 0 0]) ?_ 2 _ rfl; (with_reducible repeat (first | refine blk_drewN ?_ _ | refine blk_drew ?_ | refine blk_alloc ?_ _)); refine blk_put (cs := #[.string t186, .slice none 0 0, .slice none 0 0, .slice none 0 0, .slice none 0 0]) ?_ 1 _ rfl; (with_reducible repeat (first | refine blk_drewN ?_ _ | refine blk_drew ?_ | refine blk_alloc ?_ _)); refine blk_put (cs := #[.string (⟨#[]⟩ : ByteArray), .slice none 0 0, .slice none 0 0, .slice none 0 0, .slice none 0 0]) ?_ 0 _ rfl; (with_reducible repeat (first | refine blk_drewN ?_ _ | refine blk_drew ?_ | refine blk_alloc ?_ _)); exact BK199.out) k_ hk_.2.1)⟩)) (below_size (by repeat (first | (with_reducible first | exact HB.out | apply below_alloc | apply pw_below_drewN | apply below_drew1 | refine below_set ?_ GE199.out) | exact HB.out)))); have n6_ := Aside0.mk (blk_below (g := gb199) (o := .cells #[.string t186, .slice Ao11 t187.length co11, .slice Ao12 t190.length co12, .slice Ao13 t193.length co13, .slice Ao14 t196.length co14] 27 (0, 0)) (by (with_reducible repeat (first | refine blk_drewN ?_ _ | refine blk_drew ?_ | refine blk_alloc ?_ _)); refine blk_put (cs := #[.string t186, .slice Ao11 t187.length co11, .slice Ao12 t190.length co12, .slice Ao13 t193.length co13, .slice none 0 0]) ?_ 4 _ rfl; (with_reducible repeat (first | refine blk_drewN ?_ _ | refine blk_drew ?_ | refine blk_alloc ?_ _)); refine blk_put (cs := #[.string t186, .slice Ao11 t187.length co11, .slice Ao12 t190.length co12, .slice none 0 0, .slice none 0 0]) ?_ 3 _ rfl; (with_reducible repeat (first | refine blk_drewN ?_ _ | refine blk_drew ?_ | refine blk_alloc ?_ _)); refine blk_put (cs := #[.string t186, .slice Ao11 t187.length co11, .slice none 0 0, .slice none 0 0, .slice none 0 0]) ?_ 2 _ rfl; (with_reducible repeat (first | refine blk_drewN ?_ _ | refine blk_drew ?_ | refine blk_alloc ?_ _)); refine blk_put (cs := #[.string t186, .slice none 0 0, .slice none 0 0, .slice none 0 0, .slice none 0 0]) ?_ 1 _ rfl; (with_reducible repeat (first | refine blk_drewN ?_ _ | refine blk_drew ?_ | refine blk_alloc ?_ _)); refine blk_put (cs := #[.string (⟨#[]⟩ : ByteArray), .slice none 0 0, .slice none 0 0, .slice none 0 0, .slice none 0 0]) ?_ 0 _ rfl; (with_reducible repeat (first | refine blk_drewN ?_ _ | refine blk_drew ?_ | refine blk_alloc ?_ _)); exact BK199.out) hb); have n7_ := Aside0.mk (below_step (by repeat (first | (with_reducible first | exact HB.out | apply below_alloc | apply pw_below_drewN | apply below_drew1 | refine below_set ?_ GE199.out) | exact HB.out)) hb); clear HO185; clear HO189; clear HO192; clear HO195; clear HO198; clear BK199; clear HB; have HO185 := n0_; have HO189 := n1_; have HO192 := n2_; have HO195 := n3_; have HO198 := n4_; have HO202 := n5_; have BK199 := n6_; have HB := n7_; clear n0_ n1_ n2_ n3_ n4_ n5_ n6_ n7_; (try clear hb); (try clear hb2); (try clear hk); (try clear hi); (try clear ho0); have hcz17_0 : w16.cell? ⟨gb199, 0, none⟩ = some (.string t186) := (blk_cell BK199.out 0).trans rfl; have hcz17_1 : w16.cell? ⟨gb199, 1, none⟩ = some (.slice Ao11 t187.length co11) := (blk_cell BK199.out 1).trans rfl; have hcz17_2 : w16.cell? ⟨gb199, 2, none⟩ = some (.slice Ao12 t190.length co12) := (blk_cell BK199.out 2).trans rfl; have hcz17_3 : w16.cell? ⟨gb199, 3, none⟩ = some (.slice Ao13 t193.length co13) := (blk_cell BK199.out 3).trans rfl; have hcz17_4 : w16.cell? ⟨gb199, 4, none⟩ = some (.slice Ao14 t196.length co14) := (blk_cell BK199.out 4).trans rfl; have hfz17_0 := blk_frozen BK199.out 0; have hfz17_1 := blk_frozen BK199.out 1; have hfz17_2 := blk_frozen BK199.out 2; have hfz17_3 := blk_frozen BK199.out 3; have hfz17_4 := blk_frozen BK199.out 4) | ((with_reducible refine gate_dst (N := 18) rfl ?_); (try (refine gate_guard (by rfl) ?_; dsimp only)); refine Kd.R_lit k54 _ 54 ?hg (N := 18) ?hd (xs := ([(⟨2, 3, 1⟩ : S54), (⟨1, 5, 0⟩ : S54)] : List (S54))) (inner := [.int .i64 2, .int .i64 3, .int .i64 1, .int .i64 1, .int .i64 5, .int .i64 0]) (ok := fun _ => True) (okp := fun _ => True) ?hr ?hp (fun _ hk => hk) trivial (Below.refl _ _) (Nat.le_refl _) (by simp) ?_; (case hd => rfl); (case hg => rfl); (case hr => first | (go_simp; done) | (go_simp; rfl)); (case hp => exact (Reps.c3 (show Kd.M k54 _ _ _ (⟨2, 3, 1⟩ : S54) [.int .i64 2, .int .i64 3, .int .i64 1] from (k54_mkM _ _ _ (⟨2, 3, 1⟩ : S54) )) (Reps.c3 (show Kd.M k54 _ _ _ (⟨1, 5, 0⟩ : S54) [.int .i64 1, .int .i64 5, .int .i64 0] from (k54_mkM _ _ _ (⟨1, 5, 0⟩ : S54) )) (Reps.none _ _)))); intro v204 w18 ho19 hb hg_ hnew_; clear hg_ hnew_; (first | rw [← Ny203.out] at ho19 | (simp only [Int.reduceToNat] at ho19; rw [← Ny203.out] at ho19)); have n0_ := Aside0.mk (Kd.N_elder' (by (with_reducible repeat (first | apply Kd.N_alloc | apply Kd.N_drewN | apply Kd.N_drew)); exact HO185.out) (Kd.R_base ho19) hb); have n1_ := Aside0.mk (Kd.R_below (by (with_reducible repeat (first | apply Kd.R_alloc | apply Kd.R_drewN | apply Kd.R_drew)); exact HO189.out) hb); have n2_ := Aside0.mk (Kd.R_below (by (with_reducible repeat (first | apply Kd.R_alloc | apply Kd.R_drewN | apply Kd.R_drew)); exact HO192.out) hb); have n3_ := Aside0.mk (Kd.N_elder' (by (with_reducible repeat (first | apply Kd.N_alloc | apply Kd.N_drewN | apply Kd.N_drew)); exact HO195.out) (Kd.R_base ho19) hb); have n4_ := Aside0.mk (Kd.N_elder' (by (with_reducible repeat (first | apply Kd.N_alloc | apply Kd.N_drewN | apply Kd.N_drew)); exact HO198.out) (Kd.R_base ho19) hb); have n5_ := Aside0.mk (Kd.N_elder' (by (with_reducible repeat (first | apply Kd.N_alloc | apply Kd.N_drewN | apply Kd.N_drew)); exact HO202.out) (Kd.R_base ho19) hb); have n6_ := Aside0.mk (Kd.R_lower ho19 (below_size (by repeat (first | (with_reducible first | exact HB.out | apply below_alloc | apply pw_below_drewN | apply below_drew1 | refine below_set ?_ GE199.out) | exact HB.out)))); have n7_ := Aside0.mk (blk_below (g := gb199) (o := .cells #[.string t186, .slice Ao11 t187.length co11, .slice Ao12 t190.length co12, .slice Ao13 t193.length co13, .slice Ao14 t196.length co14] 27 (0, 0)) (by (with_reducible repeat (first | refine blk_drewN ?_ _ | refine blk_drew ?_ | refine blk_alloc ?_ _)); exact BK199.out) hb); have n8_ := Aside0.mk (below_step (by repeat (first | (with_reducible first | exact HB.out | apply below_alloc | apply pw_below_drewN | apply below_drew1 | refine below_set ?_ GE199.out) | exact HB.out)) hb); clear HO185; clear HO189; clear HO192; clear HO195; clear HO198; clear HO202; clear BK199; clear HB; have HO185 := n0_; have HO189 := n1_; have HO192 := n2_; have HO195 := n3_; have HO198 := n4_; have HO202 := n5_; have HO205 := n6_; have BK199 := n7_; have HB := n8_; clear n0_ n1_ n2_ n3_ n4_ n5_ n6_ n7_ n8_; clear hb ho19) | ((with_reducible refine gate_dst (N := 19) rfl ?_); (try (refine gate_guard (by rfl) ?_; dsimp only)); refine Kd.R_lit (Kd.int .i64) _ 3 ?hg (N := 19) ?hd (xs := ([0, 2] : List Int)) (inner := [.int .i64 0, .int .i64 2]) (ok := fun _ => True) (okp := fun _ => True) ?hr ?hp (fun _ hk => hk) trivial (Below.refl _ _) (Nat.le_refl _) (by simp) ?_; (case hd => rfl); (case hg => rfl); (case hr => first | (go_simp; done) | (go_simp; rfl)); (case hp => exact (Reps.one (show Kd.M (Kd.int .i64) _ _ _ 0 [.int .i64 0] from rfl) (Reps.one (show Kd.M (Kd.int .i64) _ _ _ 2 [.int .i64 2] from rfl) (Reps.none _ _)))); intro v207 w20 ho21 hb hg_ hnew_; clear hg_ hnew_; (first | rw [← Ny206.out] at ho21 | (simp only [Int.reduceToNat] at ho21; rw [← Ny206.out] at ho21)); have n0_ := Aside0.mk (Kd.N_elder' (by (with_reducible repeat (first | apply Kd.N_alloc | apply Kd.N_drewN | apply Kd.N_drew)); exact HO185.out) (Kd.R_base ho21) hb); have n1_ := Aside0.mk (Kd.R_below (by (with_reducible repeat (first | apply Kd.R_alloc | apply Kd.R_drewN | apply Kd.R_drew)); exact HO189.out) hb); have n2_ := Aside0.mk (Kd.R_below (by (with_reducible repeat (first | apply Kd.R_alloc | apply Kd.R_drewN | apply Kd.R_drew)); exact HO192.out) hb); have n3_ := Aside0.mk (Kd.N_elder' (by (with_reducible repeat (first | apply Kd.N_alloc | apply Kd.N_drewN | apply Kd.N_drew)); exact HO195.out) (Kd.R_base ho21) hb); have n4_ := Aside0.mk (Kd.N_elder' (by (with_reducible repeat (first | apply Kd.N_alloc | apply Kd.N_drewN | apply Kd.N_drew)); exact HO198.out) (Kd.R_base ho21) hb); have n5_ := Aside0.mk (Kd.N_elder' (by (with_reducible repeat (first | apply Kd.N_alloc | apply Kd.N_drewN | apply Kd.N_drew)); exact HO202.out) (Kd.R_base ho21) hb); have n6_ := Aside0.mk (Kd.R_below (by (with_reducible repeat (first | apply Kd.R_alloc | apply Kd.R_drewN | apply Kd.R_drew)); exact HO205.out) hb); have n7_ := Aside0.mk (Kd.R_lower ho21 (below_size (by repeat (first | (with_reducible first | exact HB.out | apply below_alloc | apply pw_below_drewN | apply below_drew1 | refine below_set ?_ GE199.out) | exact HB.out)))); have n8_ := Aside0.mk (blk_below (g := gb199) (o := .cells #[.string t186, .slice Ao11 t187.length co11, .slice Ao12 t190.length co12, .slice Ao13 t193.length co13, .slice Ao14 t196.length co14] 27 (0, 0)) (by (with_reducible repeat (first | refine blk_drewN ?_ _ | refine blk_drew ?_ | refine blk_alloc ?_ _)); exact BK199.out) hb); have n9_ := Aside0.mk (below_step (by repeat (first | (with_reducible first | exact HB.out | apply below_alloc | apply pw_below_drewN | apply below_drew1 | refine below_set ?_ GE199.out) | exact HB.out)) hb); clear HO185; clear HO189; clear HO192; clear HO195; clear HO198; clear HO202; clear HO205; clear BK199; clear HB; have HO185 := n0_; have HO189 := n1_; have HO192 := n2_; have HO195 := n3_; have HO198 := n4_; have HO202 := n5_; have HO205 := n6_; have HO208 := n7_; have BK199 := n8_; have HB := n9_; clear n0_ n1_ n2_ n3_ n4_ n5_ n6_ n7_ n8_ n9_; clear hb ho21; obtain ⟨Ao22, co22, eo22⟩ := Kd.R_slice HO205.out; subst eo22; obtain ⟨Ao23, co23, eo23⟩ := Kd.R_slice HO208.out; subst eo23) | ((with_reducible refine gate_callee (f := 15) rfl ?_); refine goesL_ (some 20) rfl rfl Try.func15 (by kernel_rfl) rfl #[.slice Ao15 t183.length co15, .agg #[.string t186, .slice Ao11 t187.length co11, .slice Ao12 t190.length co12, .slice Ao13 t193.length co13, .slice Ao14 t196.length co14], .int .i64 0, .slice Ao22 y203.length co22, .slice Ao23 y206.length co23] rfl (by (try simp only [List.map_toArray, List.map_cons, List.map_nil]); first | done | rfl | (simp only [List.length_drop, List.length_take]; rfl)) ?_; (with_reducible refine (binding_Eval.calls k _ _ t183 t186 _ _ t187 _ _ t190 _ _ t193 _ _ t196 0 _ _ y203 _ _ y206 t209 t212 _ ?side1 ?side2 ?side3 ?side4 ?side5 ?side6 ?side7 ?side8 ?side9 ?side10 ?side11 ?side12 ?side13 ?side14 A4.out).mono ?_); (case side1 => repeat (first | exact (Kd.N_reads' HO185.out).2.2 | (with_reducible refine Kd.C_alloc ?_ _) | (with_reducible refine Kd.C_drewN ?_ _) | (with_reducible refine Kd.C_drew ?_))); (case side2 => exact (Kd.N_reads' HO185.out).2.1); (case side3 => repeat (first | exact (Kd.R_reads' HO189.out).2.2 | (with_reducible refine Kd.C_alloc ?_ _) | (with_reducible refine Kd.C_drewN ?_ _) | (with_reducible refine Kd.C_drew ?_))); (case side4 => exact (Kd.R_reads' HO189.out).2.1); (case side5 => repeat (first | exact (Kd.R_reads' HO192.out).2.2 | (with_reducible refine Kd.C_alloc ?_ _) | (with_reducible refine Kd.C_drewN ?_ _) | (with_reducible refine Kd.C_drew ?_))); (case side6 => exact (Kd.R_reads' HO192.out).2.1); (case side7 => repeat (first | exact (Kd.N_reads' HO195.out).2.2 | (with_reducible refine Kd.C_alloc ?_ _) | (with_reducible refine Kd.C_drewN ?_ _) | (with_reducible refine Kd.C_drew ?_))); (case side8 => exact (Kd.N_reads' HO195.out).2.1); (case side9 => repeat (first | exact (Kd.N_reads' HO198.out).2.2 | (with_reducible refine Kd.C_alloc ?_ _) | (with_reducible refine Kd.C_drewN ?_ _) | (with_reducible refine Kd.C_drew ?_))); (case side10 => exact (Kd.N_reads' HO198.out).2.1); (case side11 => repeat (first | exact (Kd.R_reads' HO205.out).2.2 | (with_reducible refine Kd.C_alloc ?_ _) | (with_reducible refine Kd.C_drewN ?_ _) | (with_reducible refine Kd.C_drew ?_))); (case side12 => exact (Kd.R_reads' HO205.out).2.1); (case side13 => repeat (first | exact (Kd.R_reads' HO208.out).2.2 | (with_reducible refine Kd.C_alloc ?_ _) | (with_reducible refine Kd.C_drewN ?_ _) | (with_reducible refine Kd.C_drew ?_))); (case side14 => exact (Kd.R_reads' HO208.out).2.1); rintro e w24 ⟨v210, rfl, ho0, hb⟩; refine ⟨_, rfl, ?_⟩; have n0_ := Aside0.mk (Kd.N_elder' (by (with_reducible repeat (first | apply Kd.N_alloc | apply Kd.N_drewN | apply Kd.N_drew)); exact HO185.out) (Kd.R_base ho0) hb); have n1_ := Aside0.mk (Kd.R_below (by (with_reducible repeat (first | apply Kd.R_alloc | apply Kd.R_drewN | apply Kd.R_drew)); exact HO189.out) hb); have n2_ := Aside0.mk (Kd.R_below (by (with_reducible repeat (first | apply Kd.R_alloc | apply Kd.R_drewN | apply Kd.R_drew)); exact HO192.out) hb); have n3_ := Aside0.mk (Kd.N_elder' (by (with_reducible repeat (first | apply Kd.N_alloc | apply Kd.N_drewN | apply Kd.N_drew)); exact HO195.out) (Kd.R_base ho0) hb); have n4_ := Aside0.mk (Kd.N_elder' (by (with_reducible repeat (first | apply Kd.N_alloc | apply Kd.N_drewN | apply Kd.N_drew)); exact HO198.out) (Kd.R_base ho0) hb); have n5_ := Aside0.mk (Kd.N_elder' (by (with_reducible repeat (first | apply Kd.N_alloc | apply Kd.N_drewN | apply Kd.N_drew)); exact HO202.out) (Kd.R_base ho0) hb); have n6_ := Aside0.mk (Kd.R_below (by (with_reducible repeat (first | apply Kd.R_alloc | apply Kd.R_drewN | apply Kd.R_drew)); exact HO205.out) hb); have n7_ := Aside0.mk (Kd.R_elder' (by (with_reducible repeat (first | apply Kd.R_alloc | apply Kd.R_drewN | apply Kd.R_drew)); exact HO208.out) (Kd.R_base ho0) hb); have n8_ := Aside0.mk (Kd.R_lower (Kd.R_new' ho0 (Kd.R_lt (by (with_reducible repeat (first | apply Kd.R_alloc | apply Kd.R_drewN | apply Kd.R_drew)); exact HO208.out))) (below_size (by repeat (first | (with_reducible first | exact HB.out | apply below_alloc | apply pw_below_drewN | apply below_drew1 | refine below_set ?_ GE199.out) | exact HB.out)))); have n9_ := Aside0.mk (blk_below (g := gb199) (o := .cells #[.string t186, .slice Ao11 t187.length co11, .slice Ao12 t190.length co12, .slice Ao13 t193.length co13, .slice Ao14 t196.length co14] 27 (0, 0)) (by (with_reducible repeat (first | refine blk_drewN ?_ _ | refine blk_drew ?_ | refine blk_alloc ?_ _)); exact BK199.out) hb); have n10_ := Aside0.mk (below_step (by repeat (first | (with_reducible first | exact HB.out | apply below_alloc | apply pw_below_drewN | apply below_drew1 | refine below_set ?_ GE199.out) | exact HB.out)) hb); clear HO185; clear HO189; clear HO192; clear HO195; clear HO198; clear HO202; clear HO205; clear HO208; clear BK199; clear HB; have HO185 := n0_; have HO189 := n1_; have HO192 := n2_; have HO195 := n3_; have HO198 := n4_; have HO202 := n5_; have HO205 := n6_; have HO208 := n7_; have HO211 := n8_; have BK199 := n9_; have HB := n10_; clear n0_ n1_ n2_ n3_ n4_ n5_ n6_ n7_ n8_ n9_ n10_; (try clear hb); (try clear hb2); (try clear hk); (try clear hi); (try clear ho0); have hcz25_0 : w24.cell? ⟨gb199, 0, none⟩ = some (.string t186) := (blk_cell BK199.out 0).trans rfl; have hcz25_1 : w24.cell? ⟨gb199, 1, none⟩ = some (.slice Ao11 t187.length co11) := (blk_cell BK199.out 1).trans rfl; have hcz25_2 : w24.cell? ⟨gb199, 2, none⟩ = some (.slice Ao12 t190.length co12) := (blk_cell BK199.out 2).trans rfl; have hcz25_3 : w24.cell? ⟨gb199, 3, none⟩ = some (.slice Ao13 t193.length co13) := (blk_cell BK199.out 3).trans rfl; have hcz25_4 : w24.cell? ⟨gb199, 4, none⟩ = some (.slice Ao14 t196.length co14) := (blk_cell BK199.out 4).trans rfl; have hfz25_0 := blk_frozen BK199.out 0; have hfz25_1 := blk_frozen BK199.out 1; have hfz25_2 := blk_frozen BK199.out 2; have hfz25_3 := blk_frozen BK199.out 3; have hfz25_4 := blk_frozen BK199.out 4) | ((with_reducible refine gate_dst (N := 26) rfl ?_); (try (refine gate_guard (by rfl) ?_; dsimp only)); refine Kd.R_lit (Kd.int .i64) _ 3 ?hg (N := 26) ?hd (xs := ([0, 3] : List Int)) (inner := [.int .i64 0, .int .i64 3]) (ok := fun _ => True) (okp := fun _ => True) ?hr ?hp (fun _ hk => hk) trivial (Below.refl _ _) (Nat.le_refl _) (by simp) ?_; (case hd => rfl); (case hg => rfl); (case hr => first | (go_simp; done) | (go_simp; rfl)); (case hp => exact (Reps.one (show Kd.M (Kd.int .i64) _ _ _ 0 [.int .i64 0] from rfl) (Reps.one (show Kd.M (Kd.int .i64) _ _ _ 3 [.int .i64 3] from rfl) (Reps.none _ _)))); intro v214 w26 ho27 hb hg_ hnew_; clear hg_ hnew_; (first | rw [← Ny213.out] at ho27 | (simp only [Int.reduceToNat] at ho27; rw [← Ny213.out] at ho27)); have n0_ := Aside0.mk (Kd.N_elder' (by (with_reducible repeat (first | apply Kd.N_alloc | apply Kd.N_drewN | apply Kd.N_drew)); exact HO185.out) (Kd.R_base ho27) hb); have n1_ := Aside0.mk (Kd.R_below (by (with_reducible repeat (first | apply Kd.R_alloc | apply Kd.R_drewN | apply Kd.R_drew)); exact HO189.out) hb); have n2_ := Aside0.mk (Kd.R_below (by (with_reducible repeat (first | apply Kd.R_alloc | apply Kd.R_drewN | apply Kd.R_drew)); exact HO192.out) hb); have n3_ := Aside0.mk (Kd.N_elder' (by (with_reducible repeat (first | apply Kd.N_alloc | apply Kd.N_drewN | apply Kd.N_drew)); exact HO195.out) (Kd.R_base ho27) hb); have n4_ := Aside0.mk (Kd.N_elder' (by (with_reducible repeat (first | apply Kd.N_alloc | apply Kd.N_drewN | apply Kd.N_drew)); exact HO198.out) (Kd.R_base ho27) hb); have n5_ := Aside0.mk (Kd.N_elder' (by (with_reducible repeat (first | apply Kd.N_alloc | apply Kd.N_drewN | apply Kd.N_drew)); exact HO202.out) (Kd.R_base ho27) hb); have n6_ := Aside0.mk (Kd.R_below (by (with_reducible repeat (first | apply Kd.R_alloc | apply Kd.R_drewN | apply Kd.R_drew)); exact HO205.out) hb); have n7_ := Aside0.mk (Kd.R_elder' (by (with_reducible repeat (first | apply Kd.R_alloc | apply Kd.R_drewN | apply Kd.R_drew)); exact HO208.out) (Kd.R_base ho27) hb); have n8_ := Aside0.mk (Kd.R_elder' (by (with_reducible repeat (first | apply Kd.R_alloc | apply Kd.R_drewN | apply Kd.R_drew)); exact HO211.out) (Kd.R_base ho27) hb); have n9_ := Aside0.mk (Kd.R_lower (Kd.R_new' (Kd.R_new' ho27 (Kd.R_lt (by (with_reducible repeat (first | apply Kd.R_alloc | apply Kd.R_drewN | apply Kd.R_drew)); exact HO208.out))) (Kd.R_lt (by (with_reducible repeat (first | apply Kd.R_alloc | apply Kd.R_drewN | apply Kd.R_drew)); exact HO211.out))) (below_size (by repeat (first | (with_reducible first | exact HB.out | apply below_alloc | apply pw_below_drewN | apply below_drew1 | refine below_set ?_ GE199.out) | exact HB.out)))); have n10_ := Aside0.mk (blk_below (g := gb199) (o := .cells #[.string t186, .slice Ao11 t187.length co11, .slice Ao12 t190.length co12, .slice Ao13 t193.length co13, .slice Ao14 t196.length co14] 27 (0, 0)) (by (with_reducible repeat (first | refine blk_drewN ?_ _ | refine blk_drew ?_ | refine blk_alloc ?_ _)); exact BK199.out) hb); have n11_ := Aside0.mk (below_step (by repeat (first | (with_reducible first | exact HB.out | apply below_alloc | apply pw_below_drewN | apply below_drew1 | refine below_set ?_ GE199.out) | exact HB.out)) hb); clear HO185; clear HO189; clear HO192; clear HO195; clear HO198; clear HO202; clear HO205; clear HO208; clear HO211; clear BK199; clear HB; have HO185 := n0_; have HO189 := n1_; have HO192 := n2_; have HO195 := n3_; have HO198 := n4_; have HO202 := n5_; have HO205 := n6_; have HO208 := n7_; have HO211 := n8_; have HO215 := n9_; have BK199 := n10_; have HB := n11_; clear n0_ n1_ n2_ n3_ n4_ n5_ n6_ n7_ n8_ n9_ n10_ n11_; clear hb ho27; obtain ⟨Ao28, co28, eo28⟩ := Kd.R_slice HO215.out; subst eo28) | ((with_reducible refine gate_callee (f := 15) rfl ?_); refine goesL_ (some 27) rfl rfl Try.func15 (by kernel_rfl) rfl #[.slice Ao15 t183.length co15, .agg #[.string t186, .slice Ao11 t187.length co11, .slice Ao12 t190.length co12, .slice Ao13 t193.length co13, .slice Ao14 t196.length co14], .int .i64 0, .slice none 0 0, .slice Ao28 y213.length co28] rfl (by (try simp only [List.map_toArray, List.map_cons, List.map_nil]); first | done | rfl | (simp only [List.length_drop, List.length_take]; rfl)) ?_; (refine (binding_Eval.calls k _ _ t183 t186 _ _ t187 _ _ t190 _ _ t193 _ _ t196 0 _ _ ([] : List (S54)) _ _ y213 t216 t219 _ ?side1 ?side2 ?side3 ?side4 ?side5 ?side6 ?side7 ?side8 ?side9 ?side10 ?side11 ?side12 ?side13 ?side14 A5.out).mono ?_); (case side1 => repeat (first | exact (Kd.N_reads' HO185.out).2.2 | (with_reducible refine Kd.C_alloc ?_ _) | (with_reducible refine Kd.C_drewN ?_ _) | (with_reducible refine Kd.C_drew ?_))); (case side2 => exact (Kd.N_reads' HO185.out).2.1); (case side3 => repeat (first | exact (Kd.R_reads' HO189.out).2.2 | (with_reducible refine Kd.C_alloc ?_ _) | (with_reducible refine Kd.C_drewN ?_ _) | (with_reducible refine Kd.C_drew ?_))); (case side4 => exact (Kd.R_reads' HO189.out).2.1); (case side5 => repeat (first | exact (Kd.R_reads' HO192.out).2.2 | (with_reducible refine Kd.C_alloc ?_ _) | (with_reducible refine Kd.C_drewN ?_ _) | (with_reducible refine Kd.C_drew ?_))); (case side6 => exact (Kd.R_reads' HO192.out).2.1); (case side7 => repeat (first | exact (Kd.N_reads' HO195.out).2.2 | (with_reducible refine Kd.C_alloc ?_ _) | (with_reducible refine Kd.C_drewN ?_ _) | (with_reducible refine Kd.C_drew ?_))); (case side8 => exact (Kd.N_reads' HO195.out).2.1); (case side9 => repeat (first | exact (Kd.N_reads' HO198.out).2.2 | (with_reducible refine Kd.C_alloc ?_ _) | (with_reducible refine Kd.C_drewN ?_ _) | (with_reducible refine Kd.C_drew ?_))); (case side10 => exact (Kd.N_reads' HO198.out).2.1); (case side11 => exact Kd.C_nil _ _); (case side12 => exact Nat.le_refl _); (case side13 => repeat (first | exact (Kd.R_reads' HO215.out).2.2 | (with_reducible refine Kd.C_alloc ?_ _) | (with_reducible refine Kd.C_drewN ?_ _) | (with_reducible refine Kd.C_drew ?_))); (case side14 => exact (Kd.R_reads' HO215.out).2.1); rintro e w29 ⟨v217, rfl, ho0, hb⟩; refine ⟨_, rfl, ?_⟩; have n0_ := Aside0.mk (Kd.N_elder' (by (with_reducible repeat (first | apply Kd.N_alloc | apply Kd.N_drewN | apply Kd.N_drew)); exact HO185.out) (Kd.R_base ho0) hb); have n1_ := Aside0.mk (Kd.R_below (by (with_reducible repeat (first | apply Kd.R_alloc | apply Kd.R_drewN | apply Kd.R_drew)); exact HO189.out) hb); have n2_ := Aside0.mk (Kd.R_below (by (with_reducible repeat (first | apply Kd.R_alloc | apply Kd.R_drewN | apply Kd.R_drew)); exact HO192.out) hb); have n3_ := Aside0.mk (Kd.N_elder' (by (with_reducible repeat (first | apply Kd.N_alloc | apply Kd.N_drewN | apply Kd.N_drew)); exact HO195.out) (Kd.R_base ho0) hb); have n4_ := Aside0.mk (Kd.N_elder' (by (with_reducible repeat (first | apply Kd.N_alloc | apply Kd.N_drewN | apply Kd.N_drew)); exact HO198.out) (Kd.R_base ho0) hb); have n5_ := Aside0.mk (Kd.N_elder' (by (with_reducible repeat (first | apply Kd.N_alloc | apply Kd.N_drewN | apply Kd.N_drew)); exact HO202.out) (Kd.R_base ho0) hb); have n6_ := Aside0.mk (Kd.R_below (by (with_reducible repeat (first | apply Kd.R_alloc | apply Kd.R_drewN | apply Kd.R_drew)); exact HO205.out) hb); have n7_ := Aside0.mk (Kd.R_elder' (by (with_reducible repeat (first | apply Kd.R_alloc | apply Kd.R_drewN | apply Kd.R_drew)); exact HO208.out) (Kd.R_base ho0) hb); have n8_ := Aside0.mk (Kd.R_elder' (by (with_reducible repeat (first | apply Kd.R_alloc | apply Kd.R_drewN | apply Kd.R_drew)); exact HO211.out) (Kd.R_base ho0) hb); have n9_ := Aside0.mk (Kd.R_elder' (by (with_reducible repeat (first | apply Kd.R_alloc | apply Kd.R_drewN | apply Kd.R_drew)); exact HO215.out) (Kd.R_base ho0) hb); have n10_ := Aside0.mk (Kd.R_lower (Kd.R_new' (Kd.R_new' (Kd.R_new' ho0 (Kd.R_lt (by (with_reducible repeat (first | apply Kd.R_alloc | apply Kd.R_drewN | apply Kd.R_drew)); exact HO208.out))) (Kd.R_lt (by (with_reducible repeat (first | apply Kd.R_alloc | apply Kd.R_drewN | apply Kd.R_drew)); exact HO211.out))) (Kd.R_lt (by (with_reducible repeat (first | apply Kd.R_alloc | apply Kd.R_drewN | apply Kd.R_drew)); exact HO215.out))) (below_size (by repeat (first | (with_reducible first | exact HB.out | apply below_alloc | apply pw_below_drewN | apply below_drew1 | refine below_set ?_ GE199.out) | exact HB.out)))); have n11_ := Aside0.mk (blk_below (g := gb199) (o := .cells #[.string t186, .slice Ao11 t187.length co11, .slice Ao12 t190.length co12, .slice Ao13 t193.length co13, .slice Ao14 t196.length co14] 27 (0, 0)) (by (with_reducible repeat (first | refine blk_drewN ?_ _ | refine blk_drew ?_ | refine blk_alloc ?_ _)); exact BK199.out) hb); have n12_ := Aside0.mk (below_step (by repeat (first | (with_reducible first | exact HB.out | apply below_alloc | apply pw_below_drewN | apply below_drew1 | refine below_set ?_ GE199.out) | exact HB.out)) hb); clear HO185; clear HO189; clear HO192; clear HO195; clear HO198; clear HO202; clear HO205; clear HO208; clear HO211; clear HO215; clear BK199; clear HB; have HO185 := n0_; have HO189 := n1_; have HO192 := n2_; have HO195 := n3_; have HO198 := n4_; have HO202 := n5_; have HO205 := n6_; have HO208 := n7_; have HO211 := n8_; have HO215 := n9_; have HO218 := n10_; have BK199 := n11_; have HB := n12_; clear n0_ n1_ n2_ n3_ n4_ n5_ n6_ n7_ n8_ n9_ n10_ n11_ n12_; (try clear hb); (try clear hb2); (try clear hk); (try clear hi); (try clear ho0)))
 (try simp only [Act.put, List.setIfInBounds_toArray, List.set_cons_zero, List.set_cons_succ])
 go_cut [109] (fun v109 wc => ∃ (kq : Nat) (x109_5 : Bool), v109 = .bool x109_5 ∧ Aside0 (petrinetlaw40_lives.j0 kq t183 x109_5 t186 t187 t190 t193 t196 = some r) ∧ Aside0 (kq ≤ k) ∧ Aside0 (Kd.N k51 51 wc w.heap.size (fun k_ => some k_ ≠ ((.slice Ao11 t187.length co11) : Value).ownBlock ∧ some k_ ≠ ((.slice Ao12 t190.length co12) : Value).ownBlock ∧ some k_ ≠ ((.slice Ao13 t193.length co13) : Value).ownBlock ∧ some k_ ≠ ((.slice Ao14 t196.length co14) : Value).ownBlock ∧ k_ ≠ gb199) (.slice Ao15 t183.length co15) t183) ∧ Aside0 (Kd.R k48 48 wc w.heap.size (fun _ => True) (.slice Ao11 t187.length co11) t187) ∧ Aside0 (Kd.R k62 62 wc w.heap.size (fun _ => True) (.slice Ao12 t190.length co12) t190) ∧ Aside0 (Kd.N k111 111 wc w.heap.size (fun k_ => some k_ ≠ ((.slice Ao15 t183.length co15) : Value).ownBlock ∧ some k_ ≠ ((.slice Ao11 t187.length co11) : Value).ownBlock ∧ some k_ ≠ ((.slice Ao12 t190.length co12) : Value).ownBlock ∧ some k_ ≠ ((.slice Ao14 t196.length co14) : Value).ownBlock ∧ k_ ≠ gb199) (.slice Ao13 t193.length co13) t193) ∧ Aside0 (Kd.N k111 111 wc w.heap.size (fun k_ => some k_ ≠ ((.slice Ao15 t183.length co15) : Value).ownBlock ∧ some k_ ≠ ((.slice Ao11 t187.length co11) : Value).ownBlock ∧ some k_ ≠ ((.slice Ao12 t190.length co12) : Value).ownBlock ∧ some k_ ≠ ((.slice Ao13 t193.length co13) : Value).ownBlock ∧ k_ ≠ gb199) (.slice Ao14 t196.length co14) t196) ∧ Aside0 (wc.heap[gb199]? = some (.cells #[.string t186, (.slice Ao11 t187.length co11), (.slice Ao12 t190.length co12), (.slice Ao13 t193.length co13), (.slice Ao14 t196.length co14)] 27 (0, 0))) ∧ Aside0 (Below w.heap.size w wc))
 case first =>
  have H := HC6.out
  clear HC6
  by_cases c30 : (t200.length : Int) = 3
  ·rw [if_pos c30] at H
   have c30b0 : ((t200.length : Int) == 3) = true := beq_iff_eq.mpr c30
   have c30b1 : ((t200.length : Int) != 3) = false := bne_eq_false_iff_eq.mpr c30
   clear c30
   (first | rw [c30b0] | (simp only [i64_w, i32_w]; rw [c30b0]) | skip)
   by_cases c31 : 0 < (t200.length : Int)
   ·rw [if_pos c31] at H
    have c31b0 : decide (0 < (t200.length : Int)) = true := decide_eq_true c31
    have c31b1 : decide (0 < t200.length) = true := decide_eq_true (by omega)
    clear c31
    by_cases c32 : ((rd_L15 t200 0).length : Int) = 2
    ·rw [if_pos c32] at H
     have c32b0 : (((rd_L15 t200 0).length : Int) == 2) = true := beq_iff_eq.mpr c32
     have c32b1 : (((rd_L15 t200 0).length : Int) != 2) = false := bne_eq_false_iff_eq.mpr c32
     clear c32
     by_cases c33 : 0 < ((rd_L15 t200 0).length : Int)
     ·rw [if_pos c33] at H
      have c33b0 : decide (0 < ((rd_L15 t200 0).length : Int)) = true := decide_eq_true c33
      have c33b1 : decide (0 < (rd_L15 t200 0).length) = true := decide_eq_true (by omega)
      clear c33
      by_cases c34 : (rd (rd_L15 t200 0) 0) = 0
      ·rw [if_pos c34] at H
       have c34b0 : ((rd (rd_L15 t200 0) 0) == 0) = true := beq_iff_eq.mpr c34
       have c34b1 : ((rd (rd_L15 t200 0) 0) != 0) = false := bne_eq_false_iff_eq.mpr c34
       clear c34
       by_cases c35 : 1 < ((rd_L15 t200 0).length : Int)
       ·rw [if_pos c35] at H
        have c35b0 : decide (1 < ((rd_L15 t200 0).length : Int)) = true := decide_eq_true c35
        have c35b1 : decide (1 < (rd_L15 t200 0).length) = true := decide_eq_true (by omega)
        clear c35
        by_cases c36 : (rd (rd_L15 t200 0) 1) = 1
        ·rw [if_pos c36] at H
         have c36b0 : ((rd (rd_L15 t200 0) 1) == 1) = true := beq_iff_eq.mpr c36
         have c36b1 : ((rd (rd_L15 t200 0) 1) != 1) = false := bne_eq_false_iff_eq.mpr c36
         clear c36
         by_cases c37 : 2 < (t200.length : Int)
         ·rw [if_pos c37] at H
          have c37b0 : decide (2 < (t200.length : Int)) = true := decide_eq_true c37
          have c37b1 : decide (2 < t200.length) = true := decide_eq_true (by omega)
          clear c37
          by_cases c38 : ((rd_L15 t200 2).length : Int) = 2
          ·rw [if_pos c38] at H
           have c38b0 : (((rd_L15 t200 2).length : Int) == 2) = true := beq_iff_eq.mpr c38
           have c38b1 : (((rd_L15 t200 2).length : Int) != 2) = false := bne_eq_false_iff_eq.mpr c38
           clear c38
           by_cases c39 : 0 < ((rd_L15 t200 2).length : Int)
           ·rw [if_pos c39] at H
            have c39b0 : decide (0 < ((rd_L15 t200 2).length : Int)) = true := decide_eq_true c39
            have c39b1 : decide (0 < (rd_L15 t200 2).length) = true := decide_eq_true (by omega)
            clear c39
            by_cases c40 : (rd (rd_L15 t200 2) 0) = 1
            ·rw [if_pos c40] at H
             have c40b0 : ((rd (rd_L15 t200 2) 0) == 1) = true := beq_iff_eq.mpr c40
             have c40b1 : ((rd (rd_L15 t200 2) 0) != 1) = false := bne_eq_false_iff_eq.mpr c40
             clear c40
             by_cases c41 : 1 < ((rd_L15 t200 2).length : Int)
             ·rw [if_pos c41] at H
              have c41b0 : decide (1 < ((rd_L15 t200 2).length : Int)) = true := decide_eq_true c41
              have c41b1 : decide (1 < (rd_L15 t200 2).length) = true := decide_eq_true (by omega)
              clear c41
              by_cases c42 : (rd (rd_L15 t200 2) 1) = 2
              ·rw [if_pos c42] at H
               have c42b0 : ((rd (rd_L15 t200 2) 1) == 2) = true := beq_iff_eq.mpr c42
               have c42b1 : ((rd (rd_L15 t200 2) 1) != 2) = false := bne_eq_false_iff_eq.mpr c42
               clear c42
               by_cases c43 : (t209.length : Int) = 3
               ·rw [if_pos c43] at H
                have c43b0 : ((t209.length : Int) == 3) = true := beq_iff_eq.mpr c43
                have c43b1 : ((t209.length : Int) != 3) = false := bne_eq_false_iff_eq.mpr c43
                clear c43
                by_cases c44 : 0 < (t209.length : Int)
                ·rw [if_pos c44] at H
                 have c44b0 : decide (0 < (t209.length : Int)) = true := decide_eq_true c44
                 have c44b1 : decide (0 < t209.length) = true := decide_eq_true (by omega)
                 clear c44
                 by_cases c45 : (rd t209 0) = 3
                 ·rw [if_pos c45] at H
                  have c45b0 : ((rd t209 0) == 3) = true := beq_iff_eq.mpr c45
                  have c45b1 : ((rd t209 0) != 3) = false := bne_eq_false_iff_eq.mpr c45
                  clear c45
                  by_cases c46 : 1 < (t209.length : Int)
                  ·rw [if_pos c46] at H
                   have c46b0 : decide (1 < (t209.length : Int)) = true := decide_eq_true c46
                   have c46b1 : decide (1 < t209.length) = true := decide_eq_true (by omega)
                   clear c46
                   by_cases c47 : (rd t209 1) = 1
                   ·rw [if_pos c47] at H
                    have c47b0 : ((rd t209 1) == 1) = true := beq_iff_eq.mpr c47
                    have c47b1 : ((rd t209 1) != 1) = false := bne_eq_false_iff_eq.mpr c47
                    clear c47
                    by_cases c48 : 2 < (t209.length : Int)
                    ·rw [if_pos c48] at H
                     have c48b0 : decide (2 < (t209.length : Int)) = true := decide_eq_true c48
                     have c48b1 : decide (2 < t209.length) = true := decide_eq_true (by omega)
                     clear c48
                     by_cases c49 : (rd t209 2) = 1
                     ·rw [if_pos c49] at H
                      have c49b0 : ((rd t209 2) == 1) = true := beq_iff_eq.mpr c49
                      have c49b1 : ((rd t209 2) != 1) = false := bne_eq_false_iff_eq.mpr c49
                      clear c49
                      by_cases c50 : t212 = 0
                      ·rw [if_pos c50] at H
                       have c50b0 : (t212 == 0) = true := beq_iff_eq.mpr c50
                       have c50b1 : (t212 != 0) = false := bne_eq_false_iff_eq.mpr c50
                       clear c50
                       have H' := Aside0.mk H
                       clear H
                       obtain ⟨Ao51, co51, eo51⟩ := Kd.N_slice HO202.out
                       subst eo51
                       have p220 : 0 ≤ (0 : Int) := (by omega)
                       have q220 : 0 < (t200.length : Int) := of_decide_eq_true (by first | (with_reducible assumption) | assumption)
                       obtain ⟨ad220, A220_0, c220_0, e220, hx220_0, hl220_0, hi220_0⟩ := at_L15 (Kd.N_reads' HO202.out).2.2 0 p220 q220
                       cases e220
                       obtain ⟨ce220, hce220, hMe220, hcc220⟩ := Kd.N_get HO202.out [] 0 p220 (by first | exact q220 | exact of_decide_eq_true (by first | (with_reducible assumption) | assumption) | (have e_ := (Kd.N_reads' HO202.out).1; omega))
                       obtain ⟨ua220_0, uc220_0, rfl, ul220_0, ge220_0⟩ := Kd.FK_slice_open hMe220
                       have hv220_0 := hcc220 0 _ rfl
                       rw [Nat.add_zero, show ((Kd.slice 3 (Kd.int .i64))).sz = 1 from rfl, Nat.mul_one] at hv220_0
                       replace hv220_0 := Option.some.inj (hv220_0.symm.trans hx220_0)
                       injection hv220_0 with hva_ hvn_ hvc_
                       rw [hva_] at ge220_0
                       rw [hvc_] at ul220_0
                       have HL220_0 := Aside0.mk (show Kd.V (Kd.int .i64) 3 _ w.heap.size _ _ (rd_L15 t200 0) from Kd.V_mk ul220_0 ge220_0)
                       clear hva_ hvn_ hvc_ ge220_0 ul220_0
                       clear hcc220 hce220
                       have qi220 : (0 < t200.length) = True := eq_true (by omega)
                       (try rw [show ((0 : Int)).toNat = 0 from rfl] at hx220_0)
                       (try rw [Addr.add_zero'] at hx220_0)
                       have HR220_0 := Aside0.mk hi220_0
                       have HC220_0 := Aside0.mk hl220_0
                       clear hi220_0 hl220_0
                       replace p220 := eq_true p220
                       replace q220 := eq_true q220
                       have p221 : 0 ≤ (0 : Int) := (by omega)
                       have q221 : 0 < (t200.length : Int) := of_decide_eq_true (by first | (with_reducible assumption) | assumption)
                       obtain ⟨ad221, A221_0, c221_0, e221, hx221_0, hl221_0, hi221_0⟩ := at_L15 (Kd.N_reads' HO202.out).2.2 0 p221 q221
                       obtain rfl : ad220 = ad221 := (by injection e221)
                       obtain ⟨ce221, hce221, hMe221, hcc221⟩ := Kd.N_get HO202.out [] 0 p221 (by first | exact q221 | exact of_decide_eq_true (by first | (with_reducible assumption) | assumption) | (have e_ := (Kd.N_reads' HO202.out).1; omega))
                       obtain ⟨ua221_0, uc221_0, rfl, ul221_0, ge221_0⟩ := Kd.FK_slice_open hMe221
                       have hv221_0 := hcc221 0 _ rfl
                       rw [Nat.add_zero, show ((Kd.slice 3 (Kd.int .i64))).sz = 1 from rfl, Nat.mul_one] at hv221_0
                       replace hv221_0 := Option.some.inj (hv221_0.symm.trans hx221_0)
                       injection hv221_0 with hva_ hvn_ hvc_
                       rw [hva_] at ge221_0
                       rw [hvc_] at ul221_0
                       have HL221_0 := Aside0.mk (show Kd.V (Kd.int .i64) 3 _ w.heap.size _ _ (rd_L15 t200 0) from Kd.V_mk ul221_0 ge221_0)
                       clear hva_ hvn_ hvc_ ge221_0 ul221_0
                       clear hcc221 hce221
                       have qi221 : (0 < t200.length) = True := eq_true (by omega)
                       (try rw [show ((0 : Int)).toNat = 0 from rfl] at hx221_0)
                       (try rw [Addr.add_zero'] at hx221_0)
                       have HR221_0 := Aside0.mk hi221_0
                       have HC221_0 := Aside0.mk hl221_0
                       clear hi221_0 hl221_0
                       replace p221 := eq_true p221
                       replace q221 := eq_true q221
                       have ea_ := Option.some.inj (hx220_0.symm.trans hx221_0)
                       injection ea_ with ea_ en_ ec_
                       subst ea_
                       subst ec_
                       clear en_
                       have p222 : 0 ≤ (0 : Int) := (by omega)
                       have q222 : 0 < ((rd_L15 t200 0).length : Int) := of_decide_eq_true (by first | (with_reducible assumption) | assumption)
                       obtain ⟨ad222, e222, hx222_0⟩ := Kd.at_int (by repeat (first | (with_reducible exact HR221_0.out) | (with_reducible refine Kd.C_alloc ?_ _) | (with_reducible refine Kd.C_drewN ?_ _) | (with_reducible refine Kd.C_drew ?_) | exact HR221_0.out)) 0 p222 q222
                       cases e222
                       have qi222 : (0 < (rd_L15 t200 0).length) = True := eq_true (by omega)
                       (try rw [show ((0 : Int)).toNat = 0 from rfl] at hx222_0)
                       (try rw [Addr.add_zero'] at hx222_0)
                       replace p222 := eq_true p222
                       replace q222 := eq_true q222
                       have p223 : 0 ≤ (0 : Int) := (by omega)
                       have q223 : 0 < (t200.length : Int) := of_decide_eq_true (by first | (with_reducible assumption) | assumption)
                       obtain ⟨ad223, A223_0, c223_0, e223, hx223_0, hl223_0, hi223_0⟩ := at_L15 (Kd.N_reads' HO202.out).2.2 0 p223 q223
                       obtain rfl : ad220 = ad223 := (by injection e223)
                       obtain ⟨ce223, hce223, hMe223, hcc223⟩ := Kd.N_get HO202.out [] 0 p223 (by first | exact q223 | exact of_decide_eq_true (by first | (with_reducible assumption) | assumption) | (have e_ := (Kd.N_reads' HO202.out).1; omega))
                       obtain ⟨ua223_0, uc223_0, rfl, ul223_0, ge223_0⟩ := Kd.FK_slice_open hMe223
                       have hv223_0 := hcc223 0 _ rfl
                       rw [Nat.add_zero, show ((Kd.slice 3 (Kd.int .i64))).sz = 1 from rfl, Nat.mul_one] at hv223_0
                       replace hv223_0 := Option.some.inj (hv223_0.symm.trans hx223_0)
                       injection hv223_0 with hva_ hvn_ hvc_
                       rw [hva_] at ge223_0
                       rw [hvc_] at ul223_0
                       have HL223_0 := Aside0.mk (show Kd.V (Kd.int .i64) 3 _ w.heap.size _ _ (rd_L15 t200 0) from Kd.V_mk ul223_0 ge223_0)
                       clear hva_ hvn_ hvc_ ge223_0 ul223_0
                       clear hcc223 hce223
                       have qi223 : (0 < t200.length) = True := eq_true (by omega)
                       (try rw [show ((0 : Int)).toNat = 0 from rfl] at hx223_0)
                       (try rw [Addr.add_zero'] at hx223_0)
                       have HR223_0 := Aside0.mk hi223_0
                       have HC223_0 := Aside0.mk hl223_0
                       clear hi223_0 hl223_0
                       replace p223 := eq_true p223
                       replace q223 := eq_true q223
                       have ea_ := Option.some.inj (hx220_0.symm.trans hx223_0)
                       injection ea_ with ea_ en_ ec_
                       subst ea_
                       subst ec_
                       clear en_
                       have p224 : 0 ≤ (1 : Int) := (by omega)
                       have q224 : 1 < ((rd_L15 t200 0).length : Int) := of_decide_eq_true (by first | (with_reducible assumption) | assumption)
                       obtain ⟨ad224, e224, hx224_0⟩ := Kd.at_int (by repeat (first | (with_reducible exact HR223_0.out) | (with_reducible refine Kd.C_alloc ?_ _) | (with_reducible refine Kd.C_drewN ?_ _) | (with_reducible refine Kd.C_drew ?_) | exact HR223_0.out)) 1 p224 q224
                       cases e224
                       (try simp only [show (1 : Int).toNat = 1 from rfl, Nat.reduceMul, Nat.reduceEqDiff, Go.Addr.add, ↓reduceIte] at hx224_0)
                       have qi224 : (1 < (rd_L15 t200 0).length) = True := eq_true (by omega)
                       (try rw [show ((1 : Int)).toNat = 1 from rfl] at hx224_0)
                       replace p224 := eq_true p224
                       replace q224 := eq_true q224
                       have p225 : 0 ≤ (2 : Int) := (by omega)
                       have q225 : 2 < (t200.length : Int) := of_decide_eq_true (by first | (with_reducible assumption) | assumption)
                       obtain ⟨ad225, A225_0, c225_0, e225, hx225_0, hl225_0, hi225_0⟩ := at_L15 (Kd.N_reads' HO202.out).2.2 2 p225 q225
                       obtain rfl : ad220 = ad225 := (by injection e225)
                       obtain ⟨ce225, hce225, hMe225, hcc225⟩ := Kd.N_get HO202.out [] 2 p225 (by first | exact q225 | exact of_decide_eq_true (by first | (with_reducible assumption) | assumption) | (have e_ := (Kd.N_reads' HO202.out).1; omega))
                       obtain ⟨ua225_0, uc225_0, rfl, ul225_0, ge225_0⟩ := Kd.FK_slice_open hMe225
                       have hv225_0 := hcc225 0 _ rfl
                       rw [Nat.add_zero, show ((Kd.slice 3 (Kd.int .i64))).sz = 1 from rfl, Nat.mul_one] at hv225_0
                       replace hv225_0 := Option.some.inj (hv225_0.symm.trans hx225_0)
                       injection hv225_0 with hva_ hvn_ hvc_
                       rw [hva_] at ge225_0
                       rw [hvc_] at ul225_0
                       have HL225_0 := Aside0.mk (show Kd.V (Kd.int .i64) 3 _ w.heap.size _ _ (rd_L15 t200 2) from Kd.V_mk ul225_0 ge225_0)
                       clear hva_ hvn_ hvc_ ge225_0 ul225_0
                       clear hcc225 hce225
                       (try simp only [show (2 : Int).toNat = 2 from rfl, Nat.reduceMul, Nat.reduceEqDiff, Go.Addr.add, ↓reduceIte] at hx225_0)
                       have qi225 : (2 < t200.length) = True := eq_true (by omega)
                       (try rw [show ((2 : Int)).toNat = 2 from rfl] at hx225_0)
                       have HR225_0 := Aside0.mk hi225_0
                       have HC225_0 := Aside0.mk hl225_0
                       clear hi225_0 hl225_0
                       replace p225 := eq_true p225
                       replace q225 := eq_true q225
                       have p226 : 0 ≤ (2 : Int) := (by omega)
                       have q226 : 2 < (t200.length : Int) := of_decide_eq_true (by first | (with_reducible assumption) | assumption)
                       obtain ⟨ad226, A226_0, c226_0, e226, hx226_0, hl226_0, hi226_0⟩ := at_L15 (Kd.N_reads' HO202.out).2.2 2 p226 q226
                       obtain rfl : ad220 = ad226 := (by injection e226)
                       obtain ⟨ce226, hce226, hMe226, hcc226⟩ := Kd.N_get HO202.out [] 2 p226 (by first | exact q226 | exact of_decide_eq_true (by first | (with_reducible assumption) | assumption) | (have e_ := (Kd.N_reads' HO202.out).1; omega))
                       obtain ⟨ua226_0, uc226_0, rfl, ul226_0, ge226_0⟩ := Kd.FK_slice_open hMe226
                       have hv226_0 := hcc226 0 _ rfl
                       rw [Nat.add_zero, show ((Kd.slice 3 (Kd.int .i64))).sz = 1 from rfl, Nat.mul_one] at hv226_0
                       replace hv226_0 := Option.some.inj (hv226_0.symm.trans hx226_0)
                       injection hv226_0 with hva_ hvn_ hvc_
                       rw [hva_] at ge226_0
                       rw [hvc_] at ul226_0
                       have HL226_0 := Aside0.mk (show Kd.V (Kd.int .i64) 3 _ w.heap.size _ _ (rd_L15 t200 2) from Kd.V_mk ul226_0 ge226_0)
                       clear hva_ hvn_ hvc_ ge226_0 ul226_0
                       clear hcc226 hce226
                       (try simp only [show (2 : Int).toNat = 2 from rfl, Nat.reduceMul, Nat.reduceEqDiff, Go.Addr.add, ↓reduceIte] at hx226_0)
                       have qi226 : (2 < t200.length) = True := eq_true (by omega)
                       (try rw [show ((2 : Int)).toNat = 2 from rfl] at hx226_0)
                       have HR226_0 := Aside0.mk hi226_0
                       have HC226_0 := Aside0.mk hl226_0
                       clear hi226_0 hl226_0
                       replace p226 := eq_true p226
                       replace q226 := eq_true q226
                       have ea_ := Option.some.inj (hx225_0.symm.trans hx226_0)
                       injection ea_ with ea_ en_ ec_
                       subst ea_
                       subst ec_
                       clear en_
                       have p227 : 0 ≤ (0 : Int) := (by omega)
                       have q227 : 0 < ((rd_L15 t200 2).length : Int) := of_decide_eq_true (by first | (with_reducible assumption) | assumption)
                       obtain ⟨ad227, e227, hx227_0⟩ := Kd.at_int (by repeat (first | (with_reducible exact HR226_0.out) | (with_reducible refine Kd.C_alloc ?_ _) | (with_reducible refine Kd.C_drewN ?_ _) | (with_reducible refine Kd.C_drew ?_) | exact HR226_0.out)) 0 p227 q227
                       cases e227
                       have qi227 : (0 < (rd_L15 t200 2).length) = True := eq_true (by omega)
                       (try rw [show ((0 : Int)).toNat = 0 from rfl] at hx227_0)
                       (try rw [Addr.add_zero'] at hx227_0)
                       replace p227 := eq_true p227
                       replace q227 := eq_true q227
                       have p228 : 0 ≤ (2 : Int) := (by omega)
                       have q228 : 2 < (t200.length : Int) := of_decide_eq_true (by first | (with_reducible assumption) | assumption)
                       obtain ⟨ad228, A228_0, c228_0, e228, hx228_0, hl228_0, hi228_0⟩ := at_L15 (Kd.N_reads' HO202.out).2.2 2 p228 q228
                       obtain rfl : ad220 = ad228 := (by injection e228)
                       obtain ⟨ce228, hce228, hMe228, hcc228⟩ := Kd.N_get HO202.out [] 2 p228 (by first | exact q228 | exact of_decide_eq_true (by first | (with_reducible assumption) | assumption) | (have e_ := (Kd.N_reads' HO202.out).1; omega))
                       obtain ⟨ua228_0, uc228_0, rfl, ul228_0, ge228_0⟩ := Kd.FK_slice_open hMe228
                       have hv228_0 := hcc228 0 _ rfl
                       rw [Nat.add_zero, show ((Kd.slice 3 (Kd.int .i64))).sz = 1 from rfl, Nat.mul_one] at hv228_0
                       replace hv228_0 := Option.some.inj (hv228_0.symm.trans hx228_0)
                       injection hv228_0 with hva_ hvn_ hvc_
                       rw [hva_] at ge228_0
                       rw [hvc_] at ul228_0
                       have HL228_0 := Aside0.mk (show Kd.V (Kd.int .i64) 3 _ w.heap.size _ _ (rd_L15 t200 2) from Kd.V_mk ul228_0 ge228_0)
                       clear hva_ hvn_ hvc_ ge228_0 ul228_0
                       clear hcc228 hce228
                       (try simp only [show (2 : Int).toNat = 2 from rfl, Nat.reduceMul, Nat.reduceEqDiff, Go.Addr.add, ↓reduceIte] at hx228_0)
                       have qi228 : (2 < t200.length) = True := eq_true (by omega)
                       (try rw [show ((2 : Int)).toNat = 2 from rfl] at hx228_0)
                       have HR228_0 := Aside0.mk hi228_0
                       have HC228_0 := Aside0.mk hl228_0
                       clear hi228_0 hl228_0
                       replace p228 := eq_true p228
                       replace q228 := eq_true q228
                       have ea_ := Option.some.inj (hx225_0.symm.trans hx228_0)
                       injection ea_ with ea_ en_ ec_
                       subst ea_
                       subst ec_
                       clear en_
                       have p229 : 0 ≤ (1 : Int) := (by omega)
                       have q229 : 1 < ((rd_L15 t200 2).length : Int) := of_decide_eq_true (by first | (with_reducible assumption) | assumption)
                       obtain ⟨ad229, e229, hx229_0⟩ := Kd.at_int (by repeat (first | (with_reducible exact HR228_0.out) | (with_reducible refine Kd.C_alloc ?_ _) | (with_reducible refine Kd.C_drewN ?_ _) | (with_reducible refine Kd.C_drew ?_) | exact HR228_0.out)) 1 p229 q229
                       cases e229
                       (try simp only [show (1 : Int).toNat = 1 from rfl, Nat.reduceMul, Nat.reduceEqDiff, Go.Addr.add, ↓reduceIte] at hx229_0)
                       have qi229 : (1 < (rd_L15 t200 2).length) = True := eq_true (by omega)
                       (try rw [show ((1 : Int)).toNat = 1 from rfl] at hx229_0)
                       replace p229 := eq_true p229
                       replace q229 := eq_true q229
                       obtain ⟨Ao52, co52, eo52⟩ := Kd.R_slice HO211.out
                       subst eo52
                       have p230 : 0 ≤ (0 : Int) := (by omega)
                       have q230 : 0 < (t209.length : Int) := of_decide_eq_true (by first | (with_reducible assumption) | assumption)
                       obtain ⟨ad230, e230, hx230_0⟩ := Kd.at_int (Kd.R_reads' HO211.out).2.2 0 p230 q230
                       cases e230
                       have qi230 : (0 < t209.length) = True := eq_true (by omega)
                       (try rw [show ((0 : Int)).toNat = 0 from rfl] at hx230_0)
                       (try rw [Addr.add_zero'] at hx230_0)
                       replace p230 := eq_true p230
                       replace q230 := eq_true q230
                       have p231 : 0 ≤ (1 : Int) := (by omega)
                       have q231 : 1 < (t209.length : Int) := of_decide_eq_true (by first | (with_reducible assumption) | assumption)
                       obtain ⟨ad231, e231, hx231_0⟩ := Kd.at_int (Kd.R_reads' HO211.out).2.2 1 p231 q231
                       obtain rfl : ad230 = ad231 := (by injection e231)
                       (try simp only [show (1 : Int).toNat = 1 from rfl, Nat.reduceMul, Nat.reduceEqDiff, Go.Addr.add, ↓reduceIte] at hx231_0)
                       have qi231 : (1 < t209.length) = True := eq_true (by omega)
                       (try rw [show ((1 : Int)).toNat = 1 from rfl] at hx231_0)
                       replace p231 := eq_true p231
                       replace q231 := eq_true q231
                       have p232 : 0 ≤ (2 : Int) := (by omega)
                       have q232 : 2 < (t209.length : Int) := of_decide_eq_true (by first | (with_reducible assumption) | assumption)
                       obtain ⟨ad232, e232, hx232_0⟩ := Kd.at_int (Kd.R_reads' HO211.out).2.2 2 p232 q232
                       obtain rfl : ad230 = ad232 := (by injection e232)
                       (try simp only [show (2 : Int).toNat = 2 from rfl, Nat.reduceMul, Nat.reduceEqDiff, Go.Addr.add, ↓reduceIte] at hx232_0)
                       have qi232 : (2 < t209.length) = True := eq_true (by omega)
                       (try rw [show ((2 : Int)).toNat = 2 from rfl] at hx232_0)
                       replace p232 := eq_true p232
                       replace q232 := eq_true q232
                       go_wp2
                       go_meet
                       case rel => exact ⟨_, ((t219 != 15)), (by first | rfl | (simp; done) | (simp [*]; done) | (simp [i64_w]; done)), H', ⟨by first | omega | exact Nat.le_refl _⟩, ⟨by (with_reducible repeat (first | apply Kd.N_alloc | apply Kd.N_drewN | apply Kd.N_drew)); exact Kd.N_mono HO185.out (fun _ hk => ⟨hk.1.1.1.1.1.1.1.1.1.1.2, ⟨hk.1.1.1.1.1.1.1.1.1.2, ⟨hk.1.1.1.1.1.1.1.1.2, ⟨hk.1.1.1.1.1.1.1.2, hk.1.1.1.1.1.1.2⟩⟩⟩⟩)⟩, ⟨by (with_reducible repeat (first | apply Kd.R_alloc | apply Kd.R_drewN | apply Kd.R_drew)); exact HO189.out⟩, ⟨by (with_reducible repeat (first | apply Kd.R_alloc | apply Kd.R_drewN | apply Kd.R_drew)); exact HO192.out⟩, ⟨by (with_reducible repeat (first | apply Kd.N_alloc | apply Kd.N_drewN | apply Kd.N_drew)); exact Kd.N_mono HO195.out (fun _ hk => ⟨hk.1.1.1.1.1.1.1.2.2.2, ⟨hk.1.1.1.1.1.1.1.1, ⟨hk.1.1.1.1.1.1.1.2.1, ⟨hk.1.1.1.1.1.1.1.2.2.1, hk.1.1.1.1.1.1.2⟩⟩⟩⟩)⟩, ⟨by (with_reducible repeat (first | apply Kd.N_alloc | apply Kd.N_drewN | apply Kd.N_drew)); exact Kd.N_mono HO198.out (fun _ hk => ⟨hk.1.1.1.1.1.1.1.2.2.2, ⟨hk.1.1.1.1.1.1.1.1, ⟨hk.1.1.1.1.1.1.1.2.1, ⟨hk.1.1.1.1.1.1.1.2.2.1, hk.1.1.1.1.1.1.2⟩⟩⟩⟩)⟩, ⟨by (with_reducible repeat (first | refine blk_drewN ?_ _ | refine blk_drew ?_ | refine blk_alloc ?_ _)); exact BK199.out⟩, ⟨by repeat (first | (with_reducible first | exact HB.out | apply below_alloc | apply pw_below_drewN | apply below_drew1 | refine below_set ?_ GE199.out) | exact HB.out)⟩⟩
                      ·rw [if_neg c50] at H
                       exact absurd (H.trans (congrArg some hrT_.out)) (petrinetlaw40_lives.j0_no _ _ _ _ _ _ _)
                     ·rw [if_neg c49] at H
                      exact absurd (H.trans (congrArg some hrT_.out)) (petrinetlaw40_lives.j0_no _ _ _ _ _ _ _)
                    ·rw [if_neg c48] at H
                     exact absurd H (by simp)
                   ·rw [if_neg c47] at H
                    exact absurd (H.trans (congrArg some hrT_.out)) (petrinetlaw40_lives.j0_no _ _ _ _ _ _ _)
                  ·rw [if_neg c46] at H
                   exact absurd H (by simp)
                 ·rw [if_neg c45] at H
                  exact absurd (H.trans (congrArg some hrT_.out)) (petrinetlaw40_lives.j0_no _ _ _ _ _ _ _)
                ·rw [if_neg c44] at H
                 exact absurd H (by simp)
               ·rw [if_neg c43] at H
                exact absurd (H.trans (congrArg some hrT_.out)) (petrinetlaw40_lives.j0_no _ _ _ _ _ _ _)
              ·rw [if_neg c42] at H
               exact absurd (H.trans (congrArg some hrT_.out)) (petrinetlaw40_lives.j0_no _ _ _ _ _ _ _)
             ·rw [if_neg c41] at H
              exact absurd H (by simp)
            ·rw [if_neg c40] at H
             exact absurd (H.trans (congrArg some hrT_.out)) (petrinetlaw40_lives.j0_no _ _ _ _ _ _ _)
           ·rw [if_neg c39] at H
            exact absurd H (by simp)
          ·rw [if_neg c38] at H
           exact absurd (H.trans (congrArg some hrT_.out)) (petrinetlaw40_lives.j0_no _ _ _ _ _ _ _)
         ·rw [if_neg c37] at H
          exact absurd H (by simp)
        ·rw [if_neg c36] at H
         exact absurd (H.trans (congrArg some hrT_.out)) (petrinetlaw40_lives.j0_no _ _ _ _ _ _ _)
       ·rw [if_neg c35] at H
        exact absurd H (by simp)
      ·rw [if_neg c34] at H
       exact absurd (H.trans (congrArg some hrT_.out)) (petrinetlaw40_lives.j0_no _ _ _ _ _ _ _)
     ·rw [if_neg c33] at H
      exact absurd H (by simp)
    ·rw [if_neg c32] at H
     exact absurd (H.trans (congrArg some hrT_.out)) (petrinetlaw40_lives.j0_no _ _ _ _ _ _ _)
   ·rw [if_neg c31] at H
    exact absurd H (by simp)
  ·rw [if_neg c30] at H
   exact absurd (H.trans (congrArg some hrT_.out)) (petrinetlaw40_lives.j0_no _ _ _ _ _ _ _)
 case rest =>
  clear HC6
  try clear c2
  try clear p2
  try clear q2
  try clear hx2
  try clear qi2
  try clear c3
  try clear c4
  try clear c22
  try clear p22
  try clear q22
  try clear hx22
  try clear qi22
  try clear c30
  try clear c30b0
  try clear c30b1
  try clear c31
  try clear c32
  try clear c32b0
  try clear c32b1
  try clear c33
  try clear c34
  try clear c34b0
  try clear c34b1
  try clear c35
  try clear c36
  try clear c36b0
  try clear c36b1
  try clear c37
  try clear c38
  try clear c38b0
  try clear c38b1
  try clear c39
  try clear c40
  try clear c40b0
  try clear c40b1
  try clear c41
  try clear hx220_0
  try clear hx221_0
  try clear hx222_0
  try clear hx223_0
  try clear hx224_0
  try clear hx225_0
  try clear hx226_0
  try clear hx227_0
  try clear hx228_0
  try clear hx229_0
  try clear p220
  try clear p221
  try clear p222
  try clear p223
  try clear p224
  try clear p225
  try clear p226
  try clear p227
  try clear p228
  try clear p229
  try clear q220
  try clear q221
  try clear q222
  try clear q223
  try clear q224
  try clear q225
  try clear q226
  try clear q227
  try clear q228
  try clear q229
  obtain ⟨kq, x109_5, rfl, HA, HJ5, HO_1, HO_200001, HO_200002, HO_200003, HO_200004, BK199, HB⟩ := hcut
  cases kq with
  | zero => exact absurd HA.out (by simp [petrinetlaw40_lives.j0])
  | succ kj5 =>
   have H := HA.out
   clear HA
   simp only [petrinetlaw40_lives.j0] at H
   by_cases c70 : x109_5 = true
   ·subst c70
    have H1 : (some false) = some r := by rw [if_pos rfl] at H; exact H
    clear H
    have H := H1
    clear H1
    exact absurd ((Option.some.inj H).trans hrT_.out) Bool.false_ne_true
   ·replace c70 := Bool.eq_false_iff.mpr c70
    subst c70
    have H1 : ((binding_Check.f t183 t186 t187 t190 t193 t196).bind fun t233 => (if t233 = 0 then ((binding_Check.f ([] : List (S51)) t186 t187 t190 t193 t196).bind fun t234 => (if t234 = 2 then ((binding_CheckTerms.f kj5 t183 t186 t187 t190 t193 t196 0 (([(⟨0, 5, 0⟩ : S54)] : List (S54)))).bind fun t238 => (petrinetlaw40_lives.j1 kj5 t183 (t238 != 9) t186 t187 t190 t193 t196)) else (petrinetlaw40_lives.j1 kj5 t183 true t186 t187 t190 t193 t196))) else (petrinetlaw40_lives.j1 kj5 t183 true t186 t187 t190 t193 t196))) = some r := by rw [if_neg (show ¬ (false = true) by decide)] at H; exact H
    clear H
    have H := H1
    clear H1
    have HC71 := Aside0.mk H
    clear H
    go_upto_region 7 with (fail)
    go_cut [126] (fun v126 wc => ∃ (kq : Nat) (x126_70 : Bool), v126 = .bool x126_70 ∧ Aside0 (petrinetlaw40_lives.j1 kq t183 x126_70 t186 t187 t190 t193 t196 = some r) ∧ Aside0 (kq ≤ kj5) ∧ Aside0 (Kd.N k51 51 wc w.heap.size (fun k_ => some k_ ≠ ((.slice Ao11 t187.length co11) : Value).ownBlock ∧ some k_ ≠ ((.slice Ao12 t190.length co12) : Value).ownBlock ∧ some k_ ≠ ((.slice Ao13 t193.length co13) : Value).ownBlock ∧ some k_ ≠ ((.slice Ao14 t196.length co14) : Value).ownBlock ∧ k_ ≠ gb199) (.slice Ao15 t183.length co15) t183) ∧ Aside0 (Kd.R k48 48 wc w.heap.size (fun _ => True) (.slice Ao11 t187.length co11) t187) ∧ Aside0 (Kd.R k62 62 wc w.heap.size (fun _ => True) (.slice Ao12 t190.length co12) t190) ∧ Aside0 (Kd.N k111 111 wc w.heap.size (fun k_ => some k_ ≠ ((.slice Ao15 t183.length co15) : Value).ownBlock ∧ some k_ ≠ ((.slice Ao11 t187.length co11) : Value).ownBlock ∧ some k_ ≠ ((.slice Ao12 t190.length co12) : Value).ownBlock ∧ some k_ ≠ ((.slice Ao14 t196.length co14) : Value).ownBlock ∧ k_ ≠ gb199) (.slice Ao13 t193.length co13) t193) ∧ Aside0 (Kd.N k111 111 wc w.heap.size (fun k_ => some k_ ≠ ((.slice Ao15 t183.length co15) : Value).ownBlock ∧ some k_ ≠ ((.slice Ao11 t187.length co11) : Value).ownBlock ∧ some k_ ≠ ((.slice Ao12 t190.length co12) : Value).ownBlock ∧ some k_ ≠ ((.slice Ao13 t193.length co13) : Value).ownBlock ∧ k_ ≠ gb199) (.slice Ao14 t196.length co14) t196) ∧ Aside0 (wc.heap[gb199]? = some (.cells #[.string t186, (.slice Ao11 t187.length co11), (.slice Ao12 t190.length co12), (.slice Ao13 t193.length co13), (.slice Ao14 t196.length co14)] 27 (0, 0))) ∧ Aside0 (Below w.heap.size w wc))
    case first =>
     have H := HC71.out
     clear HC71
     replace H := Option.bind_eq_some_iff.mp H
     obtain ⟨t233, A720, H⟩ := H
     replace H : (if t233 = 0 then ((binding_Check.f ([] : List (S51)) t186 t187 t190 t193 t196).bind fun t234 => (if t234 = 2 then ((binding_CheckTerms.f kj5 t183 t186 t187 t190 t193 t196 0 (([(⟨0, 5, 0⟩ : S54)] : List (S54)))).bind fun t238 => (petrinetlaw40_lives.j1 kj5 t183 (t238 != 9) t186 t187 t190 t193 t196)) else (petrinetlaw40_lives.j1 kj5 t183 true t186 t187 t190 t193 t196))) else (petrinetlaw40_lives.j1 kj5 t183 true t186 t187 t190 t193 t196)) = some r := H
     have A72 := Aside0.mk A720
     clear A720
     by_cases c73 : t233 = 0
     ·rw [if_pos c73] at H
      have c73b0 : (t233 == 0) = true := beq_iff_eq.mpr c73
      have c73b1 : (t233 != 0) = false := bne_eq_false_iff_eq.mpr c73
      clear c73
      (first | rw [c73b0] | (simp only [i64_w, i32_w]; rw [c73b0]) | skip)
      replace H := Option.bind_eq_some_iff.mp H
      obtain ⟨t234, A740, H⟩ := H
      replace H : (if t234 = 2 then ((binding_CheckTerms.f kj5 t183 t186 t187 t190 t193 t196 0 (([(⟨0, 5, 0⟩ : S54)] : List (S54)))).bind fun t238 => (petrinetlaw40_lives.j1 kj5 t183 (t238 != 9) t186 t187 t190 t193 t196)) else (petrinetlaw40_lives.j1 kj5 t183 true t186 t187 t190 t193 t196)) = some r := H
      have A74 := Aside0.mk A740
      clear A740
      by_cases c75 : t234 = 2
      ·rw [if_pos c75] at H
       have c75b0 : (t234 == 2) = true := beq_iff_eq.mpr c75
       have c75b1 : (t234 != 2) = false := bne_eq_false_iff_eq.mpr c75
       clear c75
       obtain ⟨y235, hy235⟩ : ∃ y_ : List (S54), y_ = (([(⟨0, 5, 0⟩ : S54)] : List (S54))) := ⟨_, rfl⟩
       replace H : ((binding_CheckTerms.f kj5 t183 t186 t187 t190 t193 t196 0 y235).bind fun t238 => (petrinetlaw40_lives.j1 kj5 t183 (t238 != 9) t186 t187 t190 t193 t196)) = some r := by first | (rw [hy235]; with_reducible exact H) | (have H2_ := (Option.bind_some _ _).symm.trans H; rw [hy235]; with_reducible exact H2_) | (have H2_ := (Option.bind_some _ _).symm.trans H; with_reducible exact H2_) | with_reducible exact H | (rw [hy235]; exact H) | exact H
       have Ny235 := Aside0.mk hy235
       clear hy235
       replace H := Option.bind_eq_some_iff.mp H
       obtain ⟨t238, A760, H⟩ := H
       replace H : (petrinetlaw40_lives.j1 kj5 t183 (t238 != 9) t186 t187 t190 t193 t196) = some r := H
       have A76 := Aside0.mk A760
       clear A760
       have H' := Aside0.mk H
       clear H
       have hcz77_0 : wc.cell? ⟨gb199, 0, none⟩ = some (.string t186) := (blk_cell BK199.out 0).trans rfl
       have hcz77_1 : wc.cell? ⟨gb199, 1, none⟩ = some (.slice Ao11 t187.length co11) := (blk_cell BK199.out 1).trans rfl
       have hcz77_2 : wc.cell? ⟨gb199, 2, none⟩ = some (.slice Ao12 t190.length co12) := (blk_cell BK199.out 2).trans rfl
       have hcz77_3 : wc.cell? ⟨gb199, 3, none⟩ = some (.slice Ao13 t193.length co13) := (blk_cell BK199.out 3).trans rfl
       have hcz77_4 : wc.cell? ⟨gb199, 4, none⟩ = some (.slice Ao14 t196.length co14) := (blk_cell BK199.out 4).trans rfl
       have hfz77_0 := blk_frozen BK199.out 0
       have hfz77_1 := blk_frozen BK199.out 1
       have hfz77_2 := blk_frozen BK199.out 2
       have hfz77_3 := blk_frozen BK199.out 3
       have hfz77_4 := blk_frozen BK199.out 4
       go_wp2_with (first | ((with_reducible refine gate_callee (f := 11) rfl ?_); refine goesL_ (some 112) rfl rfl Try.func11 (by kernel_rfl) rfl #[.slice Ao15 t183.length co15, .agg #[.string t186, .slice Ao11 t187.length co11, .slice Ao12 t190.length co12, .slice Ao13 t193.length co13, .slice Ao14 t196.length co14]] rfl (by (try simp only [List.map_toArray, List.map_cons, List.map_nil]); first | done | rfl | (simp only [List.length_drop, List.length_take]; rfl)) ?_; (with_reducible refine (binding_Check.calls _ _ t183 t186 _ _ t187 _ _ t190 _ _ t193 _ _ t196 t233 _ ?side1 ?side2 ?side3 ?side4 ?side5 ?side6 ?side7 ?side8 ?side9 ?side10 A72.out).mono ?_); (case side1 => repeat (first | exact (Kd.N_reads' HO_1.out).2.2 | (with_reducible refine Kd.C_alloc ?_ _) | (with_reducible refine Kd.C_drewN ?_ _) | (with_reducible refine Kd.C_drew ?_))); (case side2 => exact (Kd.N_reads' HO_1.out).2.1); (case side3 => repeat (first | exact (Kd.R_reads' HO_200001.out).2.2 | (with_reducible refine Kd.C_alloc ?_ _) | (with_reducible refine Kd.C_drewN ?_ _) | (with_reducible refine Kd.C_drew ?_))); (case side4 => exact (Kd.R_reads' HO_200001.out).2.1); (case side5 => repeat (first | exact (Kd.R_reads' HO_200002.out).2.2 | (with_reducible refine Kd.C_alloc ?_ _) | (with_reducible refine Kd.C_drewN ?_ _) | (with_reducible refine Kd.C_drew ?_))); (case side6 => exact (Kd.R_reads' HO_200002.out).2.1); (case side7 => repeat (first | exact (Kd.N_reads' HO_200003.out).2.2 | (with_reducible refine Kd.C_alloc ?_ _) | (with_reducible refine Kd.C_drewN ?_ _) | (with_reducible refine Kd.C_drew ?_))); (case side8 => exact (Kd.N_reads' HO_200003.out).2.1); (case side9 => repeat (first | exact (Kd.N_reads' HO_200004.out).2.2 | (with_reducible refine Kd.C_alloc ?_ _) | (with_reducible refine Kd.C_drewN ?_ _) | (with_reducible refine Kd.C_drew ?_))); (case side10 => exact (Kd.N_reads' HO_200004.out).2.1); rintro e w78 ⟨rfl, hb⟩; refine ⟨_, rfl, ?_⟩; have n0_ := Aside0.mk (Kd.N_below (by (with_reducible repeat (first | apply Kd.N_alloc | apply Kd.N_drewN | apply Kd.N_drew)); exact HO_1.out) hb); have n1_ := Aside0.mk (Kd.R_below (by (with_reducible repeat (first | apply Kd.R_alloc | apply Kd.R_drewN | apply Kd.R_drew)); exact HO_200001.out) hb); have n2_ := Aside0.mk (Kd.R_below (by (with_reducible repeat (first | apply Kd.R_alloc | apply Kd.R_drewN | apply Kd.R_drew)); exact HO_200002.out) hb); have n3_ := Aside0.mk (Kd.N_below (by (with_reducible repeat (first | apply Kd.N_alloc | apply Kd.N_drewN | apply Kd.N_drew)); exact HO_200003.out) hb); have n4_ := Aside0.mk (Kd.N_below (by (with_reducible repeat (first | apply Kd.N_alloc | apply Kd.N_drewN | apply Kd.N_drew)); exact HO_200004.out) hb); have n5_ := Aside0.mk (blk_below (g := gb199) (o := .cells #[.string t186, .slice Ao11 t187.length co11, .slice Ao12 t190.length co12, .slice Ao13 t193.length co13, .slice Ao14 t196.length co14] 27 (0, 0)) (by (with_reducible repeat (first | refine blk_drewN ?_ _ | refine blk_drew ?_ | refine blk_alloc ?_ _)); exact BK199.out) hb); have n6_ := Aside0.mk (below_step (by repeat (first | (with_reducible first | exact HB.out | apply below_alloc | apply pw_below_drewN | apply below_drew1 | refine below_set ?_ GE199.out) | exact HB.out)) hb); clear HO_1; clear HO_200001; clear HO_200002; clear HO_200003; clear HO_200004; clear BK199; clear HB; have HO_1 := n0_; have HO_200001 := n1_; have HO_200002 := n2_; have HO_200003 := n3_; have HO_200004 := n4_; have BK199 := n5_; have HB := n6_; clear n0_ n1_ n2_ n3_ n4_ n5_ n6_; (try clear hb); (try clear hb2); (try clear hk); (try clear hi); have hcz79_0 : w78.cell? ⟨gb199, 0, none⟩ = some (.string t186) := (blk_cell BK199.out 0).trans rfl; have hcz79_1 : w78.cell? ⟨gb199, 1, none⟩ = some (.slice Ao11 t187.length co11) := (blk_cell BK199.out 1).trans rfl; have hcz79_2 : w78.cell? ⟨gb199, 2, none⟩ = some (.slice Ao12 t190.length co12) := (blk_cell BK199.out 2).trans rfl; have hcz79_3 : w78.cell? ⟨gb199, 3, none⟩ = some (.slice Ao13 t193.length co13) := (blk_cell BK199.out 3).trans rfl; have hcz79_4 : w78.cell? ⟨gb199, 4, none⟩ = some (.slice Ao14 t196.length co14) := (blk_cell BK199.out 4).trans rfl; have hfz79_0 := blk_frozen BK199.out 0; have hfz79_1 := blk_frozen BK199.out 1; have hfz79_2 := blk_frozen BK199.out 2; have hfz79_3 := blk_frozen BK199.out 3; have hfz79_4 := blk_frozen BK199.out 4) | (go_at_call 11; (refine (binding_Check.calls _ _ ([] : List (S51)) t186 _ _ t187 _ _ t190 _ _ t193 _ _ t196 t234 _ ?side1 ?side2 ?side3 ?side4 ?side5 ?side6 ?side7 ?side8 ?side9 ?side10 A74.out).mono ?_); (case side1 => exact Kd.C_nil _ _); (case side2 => exact Nat.le_refl _); (case side3 => repeat (first | exact (Kd.R_reads' HO_200001.out).2.2 | (with_reducible refine Kd.C_alloc ?_ _) | (with_reducible refine Kd.C_drewN ?_ _) | (with_reducible refine Kd.C_drew ?_))); (case side4 => exact (Kd.R_reads' HO_200001.out).2.1); (case side5 => repeat (first | exact (Kd.R_reads' HO_200002.out).2.2 | (with_reducible refine Kd.C_alloc ?_ _) | (with_reducible refine Kd.C_drewN ?_ _) | (with_reducible refine Kd.C_drew ?_))); (case side6 => exact (Kd.R_reads' HO_200002.out).2.1); (case side7 => repeat (first | exact (Kd.N_reads' HO_200003.out).2.2 | (with_reducible refine Kd.C_alloc ?_ _) | (with_reducible refine Kd.C_drewN ?_ _) | (with_reducible refine Kd.C_drew ?_))); (case side8 => exact (Kd.N_reads' HO_200003.out).2.1); (case side9 => repeat (first | exact (Kd.N_reads' HO_200004.out).2.2 | (with_reducible refine Kd.C_alloc ?_ _) | (with_reducible refine Kd.C_drewN ?_ _) | (with_reducible refine Kd.C_drew ?_))); (case side10 => exact (Kd.N_reads' HO_200004.out).2.1); rintro e w80 ⟨rfl, hb⟩; have n0_ := Aside0.mk (Kd.N_below (by (with_reducible repeat (first | apply Kd.N_alloc | apply Kd.N_drewN | apply Kd.N_drew)); exact HO_1.out) hb); have n1_ := Aside0.mk (Kd.R_below (by (with_reducible repeat (first | apply Kd.R_alloc | apply Kd.R_drewN | apply Kd.R_drew)); exact HO_200001.out) hb); have n2_ := Aside0.mk (Kd.R_below (by (with_reducible repeat (first | apply Kd.R_alloc | apply Kd.R_drewN | apply Kd.R_drew)); exact HO_200002.out) hb); have n3_ := Aside0.mk (Kd.N_below (by (with_reducible repeat (first | apply Kd.N_alloc | apply Kd.N_drewN | apply Kd.N_drew)); exact HO_200003.out) hb); have n4_ := Aside0.mk (Kd.N_below (by (with_reducible repeat (first | apply Kd.N_alloc | apply Kd.N_drewN | apply Kd.N_drew)); exact HO_200004.out) hb); have n5_ := Aside0.mk (blk_below (g := gb199) (o := .cells #[.string t186, .slice Ao11 t187.length co11, .slice Ao12 t190.length co12, .slice Ao13 t193.length co13, .slice Ao14 t196.length co14] 27 (0, 0)) (by (with_reducible repeat (first | refine blk_drewN ?_ _ | refine blk_drew ?_ | refine blk_alloc ?_ _)); exact BK199.out) hb); have n6_ := Aside0.mk (below_step (by repeat (first | (with_reducible first | exact HB.out | apply below_alloc | apply pw_below_drewN | apply below_drew1 | refine below_set ?_ GE199.out) | exact HB.out)) hb); clear HO_1; clear HO_200001; clear HO_200002; clear HO_200003; clear HO_200004; clear BK199; clear HB; have HO_1 := n0_; have HO_200001 := n1_; have HO_200002 := n2_; have HO_200003 := n3_; have HO_200004 := n4_; have BK199 := n5_; have HB := n6_; clear n0_ n1_ n2_ n3_ n4_ n5_ n6_; (try clear hb); (try clear hb2); (try clear hk); (try clear hi); have hcz81_0 : w80.cell? ⟨gb199, 0, none⟩ = some (.string t186) := (blk_cell BK199.out 0).trans rfl; have hcz81_1 : w80.cell? ⟨gb199, 1, none⟩ = some (.slice Ao11 t187.length co11) := (blk_cell BK199.out 1).trans rfl; have hcz81_2 : w80.cell? ⟨gb199, 2, none⟩ = some (.slice Ao12 t190.length co12) := (blk_cell BK199.out 2).trans rfl; have hcz81_3 : w80.cell? ⟨gb199, 3, none⟩ = some (.slice Ao13 t193.length co13) := (blk_cell BK199.out 3).trans rfl; have hcz81_4 : w80.cell? ⟨gb199, 4, none⟩ = some (.slice Ao14 t196.length co14) := (blk_cell BK199.out 4).trans rfl; have hfz81_0 := blk_frozen BK199.out 0; have hfz81_1 := blk_frozen BK199.out 1; have hfz81_2 := blk_frozen BK199.out 2; have hfz81_3 := blk_frozen BK199.out 3; have hfz81_4 := blk_frozen BK199.out 4) | ((with_reducible refine gate_dst (N := 123) rfl ?_); (try (refine gate_guard (by rfl) ?_; dsimp only)); refine Kd.R_lit k54 _ 54 ?hg (N := 123) ?hd (xs := ([(⟨0, 5, 0⟩ : S54)] : List (S54))) (inner := [.int .i64 0, .int .i64 5, .int .i64 0]) (ok := fun _ => True) (okp := fun _ => True) ?hr ?hp (fun _ hk => hk) trivial (Below.refl _ _) (Nat.le_refl _) (by simp) ?_; (case hd => rfl); (case hg => rfl); (case hr => first | (go_simp; done) | (go_simp; rfl)); (case hp => exact (Reps.c3 (show Kd.M k54 _ _ _ (⟨0, 5, 0⟩ : S54) [.int .i64 0, .int .i64 5, .int .i64 0] from (k54_mkM _ _ _ (⟨0, 5, 0⟩ : S54) )) (Reps.none _ _))); intro v236 w82 ho83 hb hg_ hnew_; clear hg_ hnew_; (first | rw [← Ny235.out] at ho83 | (simp only [Int.reduceToNat] at ho83; rw [← Ny235.out] at ho83)); have n0_ := Aside0.mk (Kd.N_elder' (by (with_reducible repeat (first | apply Kd.N_alloc | apply Kd.N_drewN | apply Kd.N_drew)); exact HO_1.out) (Kd.R_base ho83) hb); have n1_ := Aside0.mk (Kd.R_below (by (with_reducible repeat (first | apply Kd.R_alloc | apply Kd.R_drewN | apply Kd.R_drew)); exact HO_200001.out) hb); have n2_ := Aside0.mk (Kd.R_below (by (with_reducible repeat (first | apply Kd.R_alloc | apply Kd.R_drewN | apply Kd.R_drew)); exact HO_200002.out) hb); have n3_ := Aside0.mk (Kd.N_elder' (by (with_reducible repeat (first | apply Kd.N_alloc | apply Kd.N_drewN | apply Kd.N_drew)); exact HO_200003.out) (Kd.R_base ho83) hb); have n4_ := Aside0.mk (Kd.N_elder' (by (with_reducible repeat (first | apply Kd.N_alloc | apply Kd.N_drewN | apply Kd.N_drew)); exact HO_200004.out) (Kd.R_base ho83) hb); have n5_ := Aside0.mk (Kd.R_lower ho83 (below_size (by repeat (first | (with_reducible first | exact HB.out | apply below_alloc | apply pw_below_drewN | apply below_drew1 | refine below_set ?_ GE199.out) | exact HB.out)))); have n6_ := Aside0.mk (blk_below (g := gb199) (o := .cells #[.string t186, .slice Ao11 t187.length co11, .slice Ao12 t190.length co12, .slice Ao13 t193.length co13, .slice Ao14 t196.length co14] 27 (0, 0)) (by (with_reducible repeat (first | refine blk_drewN ?_ _ | refine blk_drew ?_ | refine blk_alloc ?_ _)); exact BK199.out) hb); have n7_ := Aside0.mk (below_step (by repeat (first | (with_reducible first | exact HB.out | apply below_alloc | apply pw_below_drewN | apply below_drew1 | refine below_set ?_ GE199.out) | exact HB.out)) hb); clear HO_1; clear HO_200001; clear HO_200002; clear HO_200003; clear HO_200004; clear BK199; clear HB; have HO_1 := n0_; have HO_200001 := n1_; have HO_200002 := n2_; have HO_200003 := n3_; have HO_200004 := n4_; have HO237 := n5_; have BK199 := n6_; have HB := n7_; clear n0_ n1_ n2_ n3_ n4_ n5_ n6_ n7_; clear hb ho83; obtain ⟨Ao84, co84, eo84⟩ := Kd.R_slice HO237.out; subst eo84) | (go_at_call 13; (with_reducible refine (binding_CheckTerms.calls kj5 _ _ t183 t186 _ _ t187 _ _ t190 _ _ t193 _ _ t196 0 _ _ y235 t238 _ ?side1 ?side2 ?side3 ?side4 ?side5 ?side6 ?side7 ?side8 ?side9 ?side10 ?side11 ?side12 A76.out).mono ?_); (case side1 => repeat (first | exact (Kd.N_reads' HO_1.out).2.2 | (with_reducible refine Kd.C_alloc ?_ _) | (with_reducible refine Kd.C_drewN ?_ _) | (with_reducible refine Kd.C_drew ?_))); (case side2 => exact (Kd.N_reads' HO_1.out).2.1); (case side3 => repeat (first | exact (Kd.R_reads' HO_200001.out).2.2 | (with_reducible refine Kd.C_alloc ?_ _) | (with_reducible refine Kd.C_drewN ?_ _) | (with_reducible refine Kd.C_drew ?_))); (case side4 => exact (Kd.R_reads' HO_200001.out).2.1); (case side5 => repeat (first | exact (Kd.R_reads' HO_200002.out).2.2 | (with_reducible refine Kd.C_alloc ?_ _) | (with_reducible refine Kd.C_drewN ?_ _) | (with_reducible refine Kd.C_drew ?_))); (case side6 => exact (Kd.R_reads' HO_200002.out).2.1); (case side7 => repeat (first | exact (Kd.N_reads' HO_200003.out).2.2 | (with_reducible refine Kd.C_alloc ?_ _) | (with_reducible refine Kd.C_drewN ?_ _) | (with_reducible refine Kd.C_drew ?_))); (case side8 => exact (Kd.N_reads' HO_200003.out).2.1); (case side9 => repeat (first | exact (Kd.N_reads' HO_200004.out).2.2 | (with_reducible refine Kd.C_alloc ?_ _) | (with_reducible refine Kd.C_drewN ?_ _) | (with_reducible refine Kd.C_drew ?_))); (case side10 => exact (Kd.N_reads' HO_200004.out).2.1); (case side11 => repeat (first | exact (Kd.R_reads' HO237.out).2.2 | (with_reducible refine Kd.C_alloc ?_ _) | (with_reducible refine Kd.C_drewN ?_ _) | (with_reducible refine Kd.C_drew ?_))); (case side12 => exact (Kd.R_reads' HO237.out).2.1); rintro e w85 ⟨rfl, hb⟩; have n0_ := Aside0.mk (Kd.N_below (by (with_reducible repeat (first | apply Kd.N_alloc | apply Kd.N_drewN | apply Kd.N_drew)); exact HO_1.out) hb); have n1_ := Aside0.mk (Kd.R_below (by (with_reducible repeat (first | apply Kd.R_alloc | apply Kd.R_drewN | apply Kd.R_drew)); exact HO_200001.out) hb); have n2_ := Aside0.mk (Kd.R_below (by (with_reducible repeat (first | apply Kd.R_alloc | apply Kd.R_drewN | apply Kd.R_drew)); exact HO_200002.out) hb); have n3_ := Aside0.mk (Kd.N_below (by (with_reducible repeat (first | apply Kd.N_alloc | apply Kd.N_drewN | apply Kd.N_drew)); exact HO_200003.out) hb); have n4_ := Aside0.mk (Kd.N_below (by (with_reducible repeat (first | apply Kd.N_alloc | apply Kd.N_drewN | apply Kd.N_drew)); exact HO_200004.out) hb); have n5_ := Aside0.mk (Kd.R_below (by (with_reducible repeat (first | apply Kd.R_alloc | apply Kd.R_drewN | apply Kd.R_drew)); exact HO237.out) hb); have n6_ := Aside0.mk (blk_below (g := gb199) (o := .cells #[.string t186, .slice Ao11 t187.length co11, .slice Ao12 t190.length co12, .slice Ao13 t193.length co13, .slice Ao14 t196.length co14] 27 (0, 0)) (by (with_reducible repeat (first | refine blk_drewN ?_ _ | refine blk_drew ?_ | refine blk_alloc ?_ _)); exact BK199.out) hb); have n7_ := Aside0.mk (below_step (by repeat (first | (with_reducible first | exact HB.out | apply below_alloc | apply pw_below_drewN | apply below_drew1 | refine below_set ?_ GE199.out) | exact HB.out)) hb); clear HO_1; clear HO_200001; clear HO_200002; clear HO_200003; clear HO_200004; clear HO237; clear BK199; clear HB; have HO_1 := n0_; have HO_200001 := n1_; have HO_200002 := n2_; have HO_200003 := n3_; have HO_200004 := n4_; have HO237 := n5_; have BK199 := n6_; have HB := n7_; clear n0_ n1_ n2_ n3_ n4_ n5_ n6_ n7_; (try clear hb); (try clear hb2); (try clear hk); (try clear hi)))
       go_meet
       case rel => exact ⟨_, ((t238 != 9)), (by first | rfl | (simp; done) | (simp [*]; done) | (simp [i64_w]; done)), H', ⟨by have := HJ5.out; first | omega | exact Nat.le_refl _⟩, ⟨by (with_reducible repeat (first | apply Kd.N_alloc | apply Kd.N_drewN | apply Kd.N_drew)); exact Kd.N_mono HO_1.out (fun _ hk => ⟨hk.1.1, ⟨hk.1.2.1, ⟨hk.1.2.2.1, ⟨hk.1.2.2.2.1, hk.1.2.2.2.2⟩⟩⟩⟩)⟩, ⟨by (with_reducible repeat (first | apply Kd.R_alloc | apply Kd.R_drewN | apply Kd.R_drew)); exact HO_200001.out⟩, ⟨by (with_reducible repeat (first | apply Kd.R_alloc | apply Kd.R_drewN | apply Kd.R_drew)); exact HO_200002.out⟩, ⟨by (with_reducible repeat (first | apply Kd.N_alloc | apply Kd.N_drewN | apply Kd.N_drew)); exact Kd.N_mono HO_200003.out (fun _ hk => ⟨hk.1.1, ⟨hk.1.2.1, ⟨hk.1.2.2.1, ⟨hk.1.2.2.2.1, hk.1.2.2.2.2⟩⟩⟩⟩)⟩, ⟨by (with_reducible repeat (first | apply Kd.N_alloc | apply Kd.N_drewN | apply Kd.N_drew)); exact Kd.N_mono HO_200004.out (fun _ hk => ⟨hk.1.1, ⟨hk.1.2.1, ⟨hk.1.2.2.1, ⟨hk.1.2.2.2.1, hk.1.2.2.2.2⟩⟩⟩⟩)⟩, ⟨by (with_reducible repeat (first | refine blk_drewN ?_ _ | refine blk_drew ?_ | refine blk_alloc ?_ _)); exact BK199.out⟩, ⟨by repeat (first | (with_reducible first | exact HB.out | apply below_alloc | apply pw_below_drewN | apply below_drew1 | refine below_set ?_ GE199.out) | exact HB.out)⟩⟩
      ·rw [if_neg c75] at H
       exact absurd (H.trans (congrArg some hrT_.out)) (petrinetlaw40_lives.j1_no _ _ _ _ _ _ _)
     ·rw [if_neg c73] at H
      exact absurd (H.trans (congrArg some hrT_.out)) (petrinetlaw40_lives.j1_no _ _ _ _ _ _ _)
    case rest =>
     clear HC71
     try clear c1
     try clear c2
     try clear p2
     try clear q2
     try clear hx2
     try clear qi2
     try clear c3
     try clear c4
     try clear c7
     try clear c11
     try clear c22
     try clear p22
     try clear q22
     try clear hx22
     try clear qi22
     try clear c30
     try clear c30b0
     try clear c30b1
     try clear c31
     try clear c32
     try clear c32b0
     try clear c32b1
     try clear c33
     try clear c34
     try clear c34b0
     try clear c34b1
     try clear c35
     try clear c36
     try clear c36b0
     try clear c36b1
     try clear c37
     try clear c38
     try clear c38b0
     try clear c38b1
     try clear c39
     try clear c40
     try clear c40b0
     try clear c40b1
     try clear c41
     try clear c70
     try clear c73
     try clear c73b0
     try clear c73b1
     try clear c75
     try clear c75b0
     try clear c75b1
     try clear hcz77_0
     try clear hcz77_1
     try clear hcz77_2
     try clear hcz77_3
     try clear hcz77_4
     try clear hcz79_0
     try clear hcz79_1
     try clear hcz79_2
     try clear hcz79_3
     try clear hcz79_4
     try clear hcz81_0
     try clear hcz81_1
     try clear hcz81_2
     try clear hcz81_3
     try clear hcz81_4
     try clear hcz86_0
     try clear hcz86_1
     try clear hcz86_2
     try clear hcz86_3
     try clear hcz86_4
     try clear hcz88_0
     try clear hcz88_1
     try clear hcz88_2
     try clear hcz88_3
     try clear hcz88_4
     try clear hcz90_0
     try clear hcz90_1
     try clear hcz90_2
     try clear hcz90_3
     try clear hcz90_4
     try clear hfz77_0
     try clear hfz77_1
     try clear hfz77_2
     try clear hfz77_3
     try clear hfz77_4
     try clear hfz79_0
     try clear hfz79_1
     try clear hfz79_2
     try clear hfz79_3
     try clear hfz79_4
     try clear hfz81_0
     try clear hfz81_1
     try clear hfz81_2
     try clear hfz81_3
     try clear hfz81_4
     try clear hfz86_0
     try clear hfz86_1
     try clear hfz86_2
     try clear hfz86_3
     try clear hfz86_4
     try clear hfz88_0
     try clear hfz88_1
     try clear hfz88_2
     try clear hfz88_3
     try clear hfz88_4
     try clear hfz90_0
     try clear hfz90_1
     try clear hfz90_2
     try clear hfz90_3
     try clear hfz90_4
     try clear hx220_0
     try clear hx221_0
     try clear hx222_0
     try clear hx223_0
     try clear hx224_0
     try clear hx225_0
     try clear hx226_0
     try clear hx227_0
     try clear hx228_0
     try clear hx229_0
     try clear p2
     try clear p22
     try clear p220
     try clear p221
     try clear p222
     try clear p223
     try clear p224
     try clear p225
     try clear p226
     try clear p227
     try clear p228
     try clear p229
     try clear q2
     try clear q22
     try clear q220
     try clear q221
     try clear q222
     try clear q223
     try clear q224
     try clear q225
     try clear q226
     try clear q227
     try clear q228
     try clear q229
     obtain ⟨kq, x126_70, rfl, HA, HJ70, HO_1, HO_200001, HO_200002, HO_200003, HO_200004, BK199, HB⟩ := hcut
     cases kq with
     | zero => exact absurd HA.out (by simp [petrinetlaw40_lives.j1])
     | succ kj70 =>
      have H := HA.out
      clear HA
      simp only [petrinetlaw40_lives.j1] at H
      by_cases c92 : x126_70 = true
      ·subst c92
       have H1 : (some false) = some r := by rw [if_pos rfl] at H; exact H
       clear H
       have H := H1
       clear H1
       exact absurd ((Option.some.inj H).trans hrT_.out) Bool.false_ne_true
      ·replace c92 := Bool.eq_false_iff.mpr c92
       subst c92
       have H1 : ((binding_Holds.f kj70 t183 t186 t187 t190 t193 t196 (([0, 1] : List Int))).bind fun t242 => (if t242 = true then ((binding_Holds.f kj70 t183 t186 t187 t190 t193 t196 (([1, 1] : List Int))).bind fun t246 => (if t246 = true then (some false) else ((binding_Text.f kj70 t183 t186 t187 t190 t193 t196 (([0, 2] : List Int))).bind fun t250 => (some (t250.toList == ([120, 61, 97, 44, 121, 61, 99] : List UInt8)))))) else (some false))) = some r := by rw [if_neg (show ¬ (false = true) by decide)] at H; exact H
       clear H
       have H := H1
       clear H1
       obtain ⟨y239, hy239⟩ : ∃ y_ : List Int, y_ = (([0, 1] : List Int)) := ⟨_, rfl⟩
       replace H : ((binding_Holds.f kj70 t183 t186 t187 t190 t193 t196 y239).bind fun t242 => (if t242 = true then ((binding_Holds.f kj70 t183 t186 t187 t190 t193 t196 (([1, 1] : List Int))).bind fun t246 => (if t246 = true then (some false) else ((binding_Text.f kj70 t183 t186 t187 t190 t193 t196 (([0, 2] : List Int))).bind fun t250 => (some (t250.toList == ([120, 61, 97, 44, 121, 61, 99] : List UInt8)))))) else (some false))) = some r := by first | (rw [hy239]; with_reducible exact H) | (have H2_ := (Option.bind_some _ _).symm.trans H; rw [hy239]; with_reducible exact H2_) | (have H2_ := (Option.bind_some _ _).symm.trans H; with_reducible exact H2_) | with_reducible exact H | (rw [hy239]; exact H) | exact H
       have Ny239 := Aside0.mk hy239
       clear hy239
       replace H := Option.bind_eq_some_iff.mp H
       obtain ⟨t242, A930, H⟩ := H
       replace H : (if t242 = true then ((binding_Holds.f kj70 t183 t186 t187 t190 t193 t196 (([1, 1] : List Int))).bind fun t246 => (if t246 = true then (some false) else ((binding_Text.f kj70 t183 t186 t187 t190 t193 t196 (([0, 2] : List Int))).bind fun t250 => (some (t250.toList == ([120, 61, 97, 44, 121, 61, 99] : List UInt8)))))) else (some false)) = some r := H
       have A93 := Aside0.mk A930
       clear A930
       by_cases c94 : t242 = true
       ·subst c94
        have H1 : ((binding_Holds.f kj70 t183 t186 t187 t190 t193 t196 (([1, 1] : List Int))).bind fun t246 => (if t246 = true then (some false) else ((binding_Text.f kj70 t183 t186 t187 t190 t193 t196 (([0, 2] : List Int))).bind fun t250 => (some (t250.toList == ([120, 61, 97, 44, 121, 61, 99] : List UInt8)))))) = some r := by rw [if_pos rfl] at H; exact H
        clear H
        have H := H1
        clear H1
        obtain ⟨y243, hy243⟩ : ∃ y_ : List Int, y_ = (([1, 1] : List Int)) := ⟨_, rfl⟩
        replace H : ((binding_Holds.f kj70 t183 t186 t187 t190 t193 t196 y243).bind fun t246 => (if t246 = true then (some false) else ((binding_Text.f kj70 t183 t186 t187 t190 t193 t196 (([0, 2] : List Int))).bind fun t250 => (some (t250.toList == ([120, 61, 97, 44, 121, 61, 99] : List UInt8)))))) = some r := by first | (rw [hy243]; with_reducible exact H) | (have H2_ := (Option.bind_some _ _).symm.trans H; rw [hy243]; with_reducible exact H2_) | (have H2_ := (Option.bind_some _ _).symm.trans H; with_reducible exact H2_) | with_reducible exact H | (rw [hy243]; exact H) | exact H
        have Ny243 := Aside0.mk hy243
        clear hy243
        replace H := Option.bind_eq_some_iff.mp H
        obtain ⟨t246, A950, H⟩ := H
        replace H : (if t246 = true then (some false) else ((binding_Text.f kj70 t183 t186 t187 t190 t193 t196 (([0, 2] : List Int))).bind fun t250 => (some (t250.toList == ([120, 61, 97, 44, 121, 61, 99] : List UInt8))))) = some r := H
        have A95 := Aside0.mk A950
        clear A950
        by_cases c96 : t246 = true
        ·subst c96
         have H1 : (some false) = some r := by rw [if_pos rfl] at H; exact H
         clear H
         have H := H1
         clear H1
         exact absurd ((Option.some.inj H).trans hrT_.out) Bool.false_ne_true
        ·replace c96 := Bool.eq_false_iff.mpr c96
         subst c96
         have H1 : ((binding_Text.f kj70 t183 t186 t187 t190 t193 t196 (([0, 2] : List Int))).bind fun t250 => (some (t250.toList == ([120, 61, 97, 44, 121, 61, 99] : List UInt8)))) = some r := by rw [if_neg (show ¬ (false = true) by decide)] at H; exact H
         clear H
         have H := H1
         clear H1
         obtain ⟨y247, hy247⟩ : ∃ y_ : List Int, y_ = (([0, 2] : List Int)) := ⟨_, rfl⟩
         replace H : ((binding_Text.f kj70 t183 t186 t187 t190 t193 t196 y247).bind fun t250 => (some (t250.toList == ([120, 61, 97, 44, 121, 61, 99] : List UInt8)))) = some r := by first | (rw [hy247]; with_reducible exact H) | (have H2_ := (Option.bind_some _ _).symm.trans H; rw [hy247]; with_reducible exact H2_) | (have H2_ := (Option.bind_some _ _).symm.trans H; with_reducible exact H2_) | with_reducible exact H | (rw [hy247]; exact H) | exact H
         have Ny247 := Aside0.mk hy247
         clear hy247
         replace H := Option.bind_eq_some_iff.mp H
         obtain ⟨t250, A970, H⟩ := H
         replace H : (some (t250.toList == ([120, 61, 97, 44, 121, 61, 99] : List UInt8))) = some r := H
         have A97 := Aside0.mk A970
         clear A970
         obtain rfl := Option.some.inj H
         have hcz98_0 : wc.cell? ⟨gb199, 0, none⟩ = some (.string t186) := (blk_cell BK199.out 0).trans rfl
         have hcz98_1 : wc.cell? ⟨gb199, 1, none⟩ = some (.slice Ao11 t187.length co11) := (blk_cell BK199.out 1).trans rfl
         have hcz98_2 : wc.cell? ⟨gb199, 2, none⟩ = some (.slice Ao12 t190.length co12) := (blk_cell BK199.out 2).trans rfl
         have hcz98_3 : wc.cell? ⟨gb199, 3, none⟩ = some (.slice Ao13 t193.length co13) := (blk_cell BK199.out 3).trans rfl
         have hcz98_4 : wc.cell? ⟨gb199, 4, none⟩ = some (.slice Ao14 t196.length co14) := (blk_cell BK199.out 4).trans rfl
         have hfz98_0 := blk_frozen BK199.out 0
         have hfz98_1 := blk_frozen BK199.out 1
         have hfz98_2 := blk_frozen BK199.out 2
         have hfz98_3 := blk_frozen BK199.out 3
         have hfz98_4 := blk_frozen BK199.out 4
         go_wp2_with (first | ((with_reducible refine gate_dst (N := 129) rfl ?_); (try (refine gate_guard (by rfl) ?_; dsimp only)); refine Kd.R_lit (Kd.int .i64) _ 3 ?hg (N := 129) ?hd (xs := ([0, 1] : List Int)) (inner := [.int .i64 0, .int .i64 1]) (ok := fun _ => True) (okp := fun _ => True) ?hr ?hp (fun _ hk => hk) trivial (Below.refl _ _) (Nat.le_refl _) (by simp) ?_; (case hd => rfl); (case hg => rfl); (case hr => first | (go_simp; done) | (go_simp; rfl)); (case hp => exact (Reps.one (show Kd.M (Kd.int .i64) _ _ _ 0 [.int .i64 0] from rfl) (Reps.one (show Kd.M (Kd.int .i64) _ _ _ 1 [.int .i64 1] from rfl) (Reps.none _ _)))); intro v240 w99 ho100 hb hg_ hnew_; clear hg_ hnew_; (first | rw [← Ny239.out] at ho100 | (simp only [Int.reduceToNat] at ho100; rw [← Ny239.out] at ho100)); have n0_ := Aside0.mk (Kd.N_elder' (by (with_reducible repeat (first | apply Kd.N_alloc | apply Kd.N_drewN | apply Kd.N_drew)); exact HO_1.out) (Kd.R_base ho100) hb); have n1_ := Aside0.mk (Kd.R_below (by (with_reducible repeat (first | apply Kd.R_alloc | apply Kd.R_drewN | apply Kd.R_drew)); exact HO_200001.out) hb); have n2_ := Aside0.mk (Kd.R_below (by (with_reducible repeat (first | apply Kd.R_alloc | apply Kd.R_drewN | apply Kd.R_drew)); exact HO_200002.out) hb); have n3_ := Aside0.mk (Kd.N_elder' (by (with_reducible repeat (first | apply Kd.N_alloc | apply Kd.N_drewN | apply Kd.N_drew)); exact HO_200003.out) (Kd.R_base ho100) hb); have n4_ := Aside0.mk (Kd.N_elder' (by (with_reducible repeat (first | apply Kd.N_alloc | apply Kd.N_drewN | apply Kd.N_drew)); exact HO_200004.out) (Kd.R_base ho100) hb); have n5_ := Aside0.mk (Kd.R_lower ho100 (below_size (by repeat (first | (with_reducible first | exact HB.out | apply below_alloc | apply pw_below_drewN | apply below_drew1 | refine below_set ?_ GE199.out) | exact HB.out)))); have n6_ := Aside0.mk (blk_below (g := gb199) (o := .cells #[.string t186, .slice Ao11 t187.length co11, .slice Ao12 t190.length co12, .slice Ao13 t193.length co13, .slice Ao14 t196.length co14] 27 (0, 0)) (by (with_reducible repeat (first | refine blk_drewN ?_ _ | refine blk_drew ?_ | refine blk_alloc ?_ _)); exact BK199.out) hb); have n7_ := Aside0.mk (below_step (by repeat (first | (with_reducible first | exact HB.out | apply below_alloc | apply pw_below_drewN | apply below_drew1 | refine below_set ?_ GE199.out) | exact HB.out)) hb); clear HO_1; clear HO_200001; clear HO_200002; clear HO_200003; clear HO_200004; clear BK199; clear HB; have HO_1 := n0_; have HO_200001 := n1_; have HO_200002 := n2_; have HO_200003 := n3_; have HO_200004 := n4_; have HO241 := n5_; have BK199 := n6_; have HB := n7_; clear n0_ n1_ n2_ n3_ n4_ n5_ n6_ n7_; clear hb ho100; obtain ⟨Ao101, co101, eo101⟩ := Kd.R_slice HO241.out; subst eo101) | ((with_reducible refine gate_callee (f := 18) rfl ?_); refine goesL_ (some 130) rfl rfl Try.func18 (by kernel_rfl) rfl #[.slice Ao15 t183.length co15, .agg #[.string t186, .slice Ao11 t187.length co11, .slice Ao12 t190.length co12, .slice Ao13 t193.length co13, .slice Ao14 t196.length co14], .slice Ao101 y239.length co101] rfl (by (try simp only [List.map_toArray, List.map_cons, List.map_nil]); first | done | rfl | (simp only [List.length_drop, List.length_take]; rfl)) ?_; (with_reducible refine (binding_Holds.calls kj70 _ _ t183 t186 _ _ t187 _ _ t190 _ _ t193 _ _ t196 _ _ y239 true _ ?side1 ?side2 ?side3 ?side4 ?side5 ?side6 ?side7 ?side8 ?side9 ?side10 ?side11 ?side12 A93.out).mono ?_); (case side1 => repeat (first | exact (Kd.N_reads' HO_1.out).2.2 | (with_reducible refine Kd.C_alloc ?_ _) | (with_reducible refine Kd.C_drewN ?_ _) | (with_reducible refine Kd.C_drew ?_))); (case side2 => exact (Kd.N_reads' HO_1.out).2.1); (case side3 => repeat (first | exact (Kd.R_reads' HO_200001.out).2.2 | (with_reducible refine Kd.C_alloc ?_ _) | (with_reducible refine Kd.C_drewN ?_ _) | (with_reducible refine Kd.C_drew ?_))); (case side4 => exact (Kd.R_reads' HO_200001.out).2.1); (case side5 => repeat (first | exact (Kd.R_reads' HO_200002.out).2.2 | (with_reducible refine Kd.C_alloc ?_ _) | (with_reducible refine Kd.C_drewN ?_ _) | (with_reducible refine Kd.C_drew ?_))); (case side6 => exact (Kd.R_reads' HO_200002.out).2.1); (case side7 => repeat (first | exact (Kd.N_reads' HO_200003.out).2.2 | (with_reducible refine Kd.C_alloc ?_ _) | (with_reducible refine Kd.C_drewN ?_ _) | (with_reducible refine Kd.C_drew ?_))); (case side8 => exact (Kd.N_reads' HO_200003.out).2.1); (case side9 => repeat (first | exact (Kd.N_reads' HO_200004.out).2.2 | (with_reducible refine Kd.C_alloc ?_ _) | (with_reducible refine Kd.C_drewN ?_ _) | (with_reducible refine Kd.C_drew ?_))); (case side10 => exact (Kd.N_reads' HO_200004.out).2.1); (case side11 => repeat (first | exact (Kd.R_reads' HO241.out).2.2 | (with_reducible refine Kd.C_alloc ?_ _) | (with_reducible refine Kd.C_drewN ?_ _) | (with_reducible refine Kd.C_drew ?_))); (case side12 => exact (Kd.R_reads' HO241.out).2.1); rintro e w102 ⟨rfl, hb⟩; refine ⟨_, rfl, ?_⟩; have n0_ := Aside0.mk (Kd.N_below (by (with_reducible repeat (first | apply Kd.N_alloc | apply Kd.N_drewN | apply Kd.N_drew)); exact HO_1.out) hb); have n1_ := Aside0.mk (Kd.R_below (by (with_reducible repeat (first | apply Kd.R_alloc | apply Kd.R_drewN | apply Kd.R_drew)); exact HO_200001.out) hb); have n2_ := Aside0.mk (Kd.R_below (by (with_reducible repeat (first | apply Kd.R_alloc | apply Kd.R_drewN | apply Kd.R_drew)); exact HO_200002.out) hb); have n3_ := Aside0.mk (Kd.N_below (by (with_reducible repeat (first | apply Kd.N_alloc | apply Kd.N_drewN | apply Kd.N_drew)); exact HO_200003.out) hb); have n4_ := Aside0.mk (Kd.N_below (by (with_reducible repeat (first | apply Kd.N_alloc | apply Kd.N_drewN | apply Kd.N_drew)); exact HO_200004.out) hb); have n5_ := Aside0.mk (Kd.R_below (by (with_reducible repeat (first | apply Kd.R_alloc | apply Kd.R_drewN | apply Kd.R_drew)); exact HO241.out) hb); have n6_ := Aside0.mk (blk_below (g := gb199) (o := .cells #[.string t186, .slice Ao11 t187.length co11, .slice Ao12 t190.length co12, .slice Ao13 t193.length co13, .slice Ao14 t196.length co14] 27 (0, 0)) (by (with_reducible repeat (first | refine blk_drewN ?_ _ | refine blk_drew ?_ | refine blk_alloc ?_ _)); exact BK199.out) hb); have n7_ := Aside0.mk (below_step (by repeat (first | (with_reducible first | exact HB.out | apply below_alloc | apply pw_below_drewN | apply below_drew1 | refine below_set ?_ GE199.out) | exact HB.out)) hb); clear HO_1; clear HO_200001; clear HO_200002; clear HO_200003; clear HO_200004; clear HO241; clear BK199; clear HB; have HO_1 := n0_; have HO_200001 := n1_; have HO_200002 := n2_; have HO_200003 := n3_; have HO_200004 := n4_; have HO241 := n5_; have BK199 := n6_; have HB := n7_; clear n0_ n1_ n2_ n3_ n4_ n5_ n6_ n7_; (try clear hb); (try clear hb2); (try clear hk); (try clear hi); have hcz103_0 : w102.cell? ⟨gb199, 0, none⟩ = some (.string t186) := (blk_cell BK199.out 0).trans rfl; have hcz103_1 : w102.cell? ⟨gb199, 1, none⟩ = some (.slice Ao11 t187.length co11) := (blk_cell BK199.out 1).trans rfl; have hcz103_2 : w102.cell? ⟨gb199, 2, none⟩ = some (.slice Ao12 t190.length co12) := (blk_cell BK199.out 2).trans rfl; have hcz103_3 : w102.cell? ⟨gb199, 3, none⟩ = some (.slice Ao13 t193.length co13) := (blk_cell BK199.out 3).trans rfl; have hcz103_4 : w102.cell? ⟨gb199, 4, none⟩ = some (.slice Ao14 t196.length co14) := (blk_cell BK199.out 4).trans rfl; have hfz103_0 := blk_frozen BK199.out 0; have hfz103_1 := blk_frozen BK199.out 1; have hfz103_2 := blk_frozen BK199.out 2; have hfz103_3 := blk_frozen BK199.out 3; have hfz103_4 := blk_frozen BK199.out 4) | ((with_reducible refine gate_dst (N := 134) rfl ?_); (try (refine gate_guard (by rfl) ?_; dsimp only)); refine Kd.R_lit (Kd.int .i64) _ 3 ?hg (N := 134) ?hd (xs := ([1, 1] : List Int)) (inner := [.int .i64 1, .int .i64 1]) (ok := fun _ => True) (okp := fun _ => True) ?hr ?hp (fun _ hk => hk) trivial (Below.refl _ _) (Nat.le_refl _) (by simp) ?_; (case hd => rfl); (case hg => rfl); (case hr => first | (go_simp; done) | (go_simp; rfl)); (case hp => exact (Reps.one (show Kd.M (Kd.int .i64) _ _ _ 1 [.int .i64 1] from rfl) (Reps.one (show Kd.M (Kd.int .i64) _ _ _ 1 [.int .i64 1] from rfl) (Reps.none _ _)))); intro v244 w104 ho105 hb hg_ hnew_; clear hg_ hnew_; (first | rw [← Ny243.out] at ho105 | (simp only [Int.reduceToNat] at ho105; rw [← Ny243.out] at ho105)); have n0_ := Aside0.mk (Kd.N_elder' (by (with_reducible repeat (first | apply Kd.N_alloc | apply Kd.N_drewN | apply Kd.N_drew)); exact HO_1.out) (Kd.R_base ho105) hb); have n1_ := Aside0.mk (Kd.R_below (by (with_reducible repeat (first | apply Kd.R_alloc | apply Kd.R_drewN | apply Kd.R_drew)); exact HO_200001.out) hb); have n2_ := Aside0.mk (Kd.R_below (by (with_reducible repeat (first | apply Kd.R_alloc | apply Kd.R_drewN | apply Kd.R_drew)); exact HO_200002.out) hb); have n3_ := Aside0.mk (Kd.N_elder' (by (with_reducible repeat (first | apply Kd.N_alloc | apply Kd.N_drewN | apply Kd.N_drew)); exact HO_200003.out) (Kd.R_base ho105) hb); have n4_ := Aside0.mk (Kd.N_elder' (by (with_reducible repeat (first | apply Kd.N_alloc | apply Kd.N_drewN | apply Kd.N_drew)); exact HO_200004.out) (Kd.R_base ho105) hb); have n5_ := Aside0.mk (Kd.R_elder' (by (with_reducible repeat (first | apply Kd.R_alloc | apply Kd.R_drewN | apply Kd.R_drew)); exact HO241.out) (Kd.R_base ho105) hb); have n6_ := Aside0.mk (Kd.R_lower (Kd.R_new' ho105 (Kd.R_lt (by (with_reducible repeat (first | apply Kd.R_alloc | apply Kd.R_drewN | apply Kd.R_drew)); exact HO241.out))) (below_size (by repeat (first | (with_reducible first | exact HB.out | apply below_alloc | apply pw_below_drewN | apply below_drew1 | refine below_set ?_ GE199.out) | exact HB.out)))); have n7_ := Aside0.mk (blk_below (g := gb199) (o := .cells #[.string t186, .slice Ao11 t187.length co11, .slice Ao12 t190.length co12, .slice Ao13 t193.length co13, .slice Ao14 t196.length co14] 27 (0, 0)) (by (with_reducible repeat (first | refine blk_drewN ?_ _ | refine blk_drew ?_ | refine blk_alloc ?_ _)); exact BK199.out) hb); have n8_ := Aside0.mk (below_step (by repeat (first | (with_reducible first | exact HB.out | apply below_alloc | apply pw_below_drewN | apply below_drew1 | refine below_set ?_ GE199.out) | exact HB.out)) hb); clear HO_1; clear HO_200001; clear HO_200002; clear HO_200003; clear HO_200004; clear HO241; clear BK199; clear HB; have HO_1 := n0_; have HO_200001 := n1_; have HO_200002 := n2_; have HO_200003 := n3_; have HO_200004 := n4_; have HO241 := n5_; have HO245 := n6_; have BK199 := n7_; have HB := n8_; clear n0_ n1_ n2_ n3_ n4_ n5_ n6_ n7_ n8_; clear hb ho105; obtain ⟨Ao106, co106, eo106⟩ := Kd.R_slice HO245.out; subst eo106) | (go_at_call 18; (with_reducible refine (binding_Holds.calls kj70 _ _ t183 t186 _ _ t187 _ _ t190 _ _ t193 _ _ t196 _ _ y243 false _ ?side1 ?side2 ?side3 ?side4 ?side5 ?side6 ?side7 ?side8 ?side9 ?side10 ?side11 ?side12 A95.out).mono ?_); (case side1 => repeat (first | exact (Kd.N_reads' HO_1.out).2.2 | (with_reducible refine Kd.C_alloc ?_ _) | (with_reducible refine Kd.C_drewN ?_ _) | (with_reducible refine Kd.C_drew ?_))); (case side2 => exact (Kd.N_reads' HO_1.out).2.1); (case side3 => repeat (first | exact (Kd.R_reads' HO_200001.out).2.2 | (with_reducible refine Kd.C_alloc ?_ _) | (with_reducible refine Kd.C_drewN ?_ _) | (with_reducible refine Kd.C_drew ?_))); (case side4 => exact (Kd.R_reads' HO_200001.out).2.1); (case side5 => repeat (first | exact (Kd.R_reads' HO_200002.out).2.2 | (with_reducible refine Kd.C_alloc ?_ _) | (with_reducible refine Kd.C_drewN ?_ _) | (with_reducible refine Kd.C_drew ?_))); (case side6 => exact (Kd.R_reads' HO_200002.out).2.1); (case side7 => repeat (first | exact (Kd.N_reads' HO_200003.out).2.2 | (with_reducible refine Kd.C_alloc ?_ _) | (with_reducible refine Kd.C_drewN ?_ _) | (with_reducible refine Kd.C_drew ?_))); (case side8 => exact (Kd.N_reads' HO_200003.out).2.1); (case side9 => repeat (first | exact (Kd.N_reads' HO_200004.out).2.2 | (with_reducible refine Kd.C_alloc ?_ _) | (with_reducible refine Kd.C_drewN ?_ _) | (with_reducible refine Kd.C_drew ?_))); (case side10 => exact (Kd.N_reads' HO_200004.out).2.1); (case side11 => repeat (first | exact (Kd.R_reads' HO245.out).2.2 | (with_reducible refine Kd.C_alloc ?_ _) | (with_reducible refine Kd.C_drewN ?_ _) | (with_reducible refine Kd.C_drew ?_))); (case side12 => exact (Kd.R_reads' HO245.out).2.1); rintro e w107 ⟨rfl, hb⟩; have n0_ := Aside0.mk (Kd.N_below (by (with_reducible repeat (first | apply Kd.N_alloc | apply Kd.N_drewN | apply Kd.N_drew)); exact HO_1.out) hb); have n1_ := Aside0.mk (Kd.R_below (by (with_reducible repeat (first | apply Kd.R_alloc | apply Kd.R_drewN | apply Kd.R_drew)); exact HO_200001.out) hb); have n2_ := Aside0.mk (Kd.R_below (by (with_reducible repeat (first | apply Kd.R_alloc | apply Kd.R_drewN | apply Kd.R_drew)); exact HO_200002.out) hb); have n3_ := Aside0.mk (Kd.N_below (by (with_reducible repeat (first | apply Kd.N_alloc | apply Kd.N_drewN | apply Kd.N_drew)); exact HO_200003.out) hb); have n4_ := Aside0.mk (Kd.N_below (by (with_reducible repeat (first | apply Kd.N_alloc | apply Kd.N_drewN | apply Kd.N_drew)); exact HO_200004.out) hb); have n5_ := Aside0.mk (Kd.R_below (by (with_reducible repeat (first | apply Kd.R_alloc | apply Kd.R_drewN | apply Kd.R_drew)); exact HO241.out) hb); have n6_ := Aside0.mk (Kd.R_below (by (with_reducible repeat (first | apply Kd.R_alloc | apply Kd.R_drewN | apply Kd.R_drew)); exact HO245.out) hb); have n7_ := Aside0.mk (blk_below (g := gb199) (o := .cells #[.string t186, .slice Ao11 t187.length co11, .slice Ao12 t190.length co12, .slice Ao13 t193.length co13, .slice Ao14 t196.length co14] 27 (0, 0)) (by (with_reducible repeat (first | refine blk_drewN ?_ _ | refine blk_drew ?_ | refine blk_alloc ?_ _)); exact BK199.out) hb); have n8_ := Aside0.mk (below_step (by repeat (first | (with_reducible first | exact HB.out | apply below_alloc | apply pw_below_drewN | apply below_drew1 | refine below_set ?_ GE199.out) | exact HB.out)) hb); clear HO_1; clear HO_200001; clear HO_200002; clear HO_200003; clear HO_200004; clear HO241; clear HO245; clear BK199; clear HB; have HO_1 := n0_; have HO_200001 := n1_; have HO_200002 := n2_; have HO_200003 := n3_; have HO_200004 := n4_; have HO241 := n5_; have HO245 := n6_; have BK199 := n7_; have HB := n8_; clear n0_ n1_ n2_ n3_ n4_ n5_ n6_ n7_ n8_; (try clear hb); (try clear hb2); (try clear hk); (try clear hi); have hcz108_0 : w107.cell? ⟨gb199, 0, none⟩ = some (.string t186) := (blk_cell BK199.out 0).trans rfl; have hcz108_1 : w107.cell? ⟨gb199, 1, none⟩ = some (.slice Ao11 t187.length co11) := (blk_cell BK199.out 1).trans rfl; have hcz108_2 : w107.cell? ⟨gb199, 2, none⟩ = some (.slice Ao12 t190.length co12) := (blk_cell BK199.out 2).trans rfl; have hcz108_3 : w107.cell? ⟨gb199, 3, none⟩ = some (.slice Ao13 t193.length co13) := (blk_cell BK199.out 3).trans rfl; have hcz108_4 : w107.cell? ⟨gb199, 4, none⟩ = some (.slice Ao14 t196.length co14) := (blk_cell BK199.out 4).trans rfl; have hfz108_0 := blk_frozen BK199.out 0; have hfz108_1 := blk_frozen BK199.out 1; have hfz108_2 := blk_frozen BK199.out 2; have hfz108_3 := blk_frozen BK199.out 3; have hfz108_4 := blk_frozen BK199.out 4) | ((with_reducible refine gate_dst (N := 141) rfl ?_); (try (refine gate_guard (by rfl) ?_; dsimp only)); refine Kd.R_lit (Kd.int .i64) _ 3 ?hg (N := 141) ?hd (xs := ([0, 2] : List Int)) (inner := [.int .i64 0, .int .i64 2]) (ok := fun _ => True) (okp := fun _ => True) ?hr ?hp (fun _ hk => hk) trivial (Below.refl _ _) (Nat.le_refl _) (by simp) ?_; (case hd => rfl); (case hg => rfl); (case hr => first | (go_simp; done) | (go_simp; rfl)); (case hp => exact (Reps.one (show Kd.M (Kd.int .i64) _ _ _ 0 [.int .i64 0] from rfl) (Reps.one (show Kd.M (Kd.int .i64) _ _ _ 2 [.int .i64 2] from rfl) (Reps.none _ _)))); intro v248 w109 ho110 hb hg_ hnew_; clear hg_ hnew_; (first | rw [← Ny247.out] at ho110 | (simp only [Int.reduceToNat] at ho110; rw [← Ny247.out] at ho110)); have n0_ := Aside0.mk (Kd.N_elder' (by (with_reducible repeat (first | apply Kd.N_alloc | apply Kd.N_drewN | apply Kd.N_drew)); exact HO_1.out) (Kd.R_base ho110) hb); have n1_ := Aside0.mk (Kd.R_below (by (with_reducible repeat (first | apply Kd.R_alloc | apply Kd.R_drewN | apply Kd.R_drew)); exact HO_200001.out) hb); have n2_ := Aside0.mk (Kd.R_below (by (with_reducible repeat (first | apply Kd.R_alloc | apply Kd.R_drewN | apply Kd.R_drew)); exact HO_200002.out) hb); have n3_ := Aside0.mk (Kd.N_elder' (by (with_reducible repeat (first | apply Kd.N_alloc | apply Kd.N_drewN | apply Kd.N_drew)); exact HO_200003.out) (Kd.R_base ho110) hb); have n4_ := Aside0.mk (Kd.N_elder' (by (with_reducible repeat (first | apply Kd.N_alloc | apply Kd.N_drewN | apply Kd.N_drew)); exact HO_200004.out) (Kd.R_base ho110) hb); have n5_ := Aside0.mk (Kd.R_elder' (by (with_reducible repeat (first | apply Kd.R_alloc | apply Kd.R_drewN | apply Kd.R_drew)); exact HO241.out) (Kd.R_base ho110) hb); have n6_ := Aside0.mk (Kd.R_elder' (by (with_reducible repeat (first | apply Kd.R_alloc | apply Kd.R_drewN | apply Kd.R_drew)); exact HO245.out) (Kd.R_base ho110) hb); have n7_ := Aside0.mk (Kd.R_lower (Kd.R_new' (Kd.R_new' ho110 (Kd.R_lt (by (with_reducible repeat (first | apply Kd.R_alloc | apply Kd.R_drewN | apply Kd.R_drew)); exact HO241.out))) (Kd.R_lt (by (with_reducible repeat (first | apply Kd.R_alloc | apply Kd.R_drewN | apply Kd.R_drew)); exact HO245.out))) (below_size (by repeat (first | (with_reducible first | exact HB.out | apply below_alloc | apply pw_below_drewN | apply below_drew1 | refine below_set ?_ GE199.out) | exact HB.out)))); have n8_ := Aside0.mk (blk_below (g := gb199) (o := .cells #[.string t186, .slice Ao11 t187.length co11, .slice Ao12 t190.length co12, .slice Ao13 t193.length co13, .slice Ao14 t196.length co14] 27 (0, 0)) (by (with_reducible repeat (first | refine blk_drewN ?_ _ | refine blk_drew ?_ | refine blk_alloc ?_ _)); exact BK199.out) hb); have n9_ := Aside0.mk (below_step (by repeat (first | (with_reducible first | exact HB.out | apply below_alloc | apply pw_below_drewN | apply below_drew1 | refine below_set ?_ GE199.out) | exact HB.out)) hb); clear HO_1; clear HO_200001; clear HO_200002; clear HO_200003; clear HO_200004; clear HO241; clear HO245; clear BK199; clear HB; have HO_1 := n0_; have HO_200001 := n1_; have HO_200002 := n2_; have HO_200003 := n3_; have HO_200004 := n4_; have HO241 := n5_; have HO245 := n6_; have HO249 := n7_; have BK199 := n8_; have HB := n9_; clear n0_ n1_ n2_ n3_ n4_ n5_ n6_ n7_ n8_ n9_; clear hb ho110; obtain ⟨Ao111, co111, eo111⟩ := Kd.R_slice HO249.out; subst eo111) | (go_at_call 20; (with_reducible refine (binding_Text.calls kj70 _ _ t183 t186 _ _ t187 _ _ t190 _ _ t193 _ _ t196 _ _ y247 t250 _ ?side1 ?side2 ?side3 ?side4 ?side5 ?side6 ?side7 ?side8 ?side9 ?side10 ?side11 ?side12 A97.out).mono ?_); (case side1 => repeat (first | exact (Kd.N_reads' HO_1.out).2.2 | (with_reducible refine Kd.C_alloc ?_ _) | (with_reducible refine Kd.C_drewN ?_ _) | (with_reducible refine Kd.C_drew ?_))); (case side2 => exact (Kd.N_reads' HO_1.out).2.1); (case side3 => repeat (first | exact (Kd.R_reads' HO_200001.out).2.2 | (with_reducible refine Kd.C_alloc ?_ _) | (with_reducible refine Kd.C_drewN ?_ _) | (with_reducible refine Kd.C_drew ?_))); (case side4 => exact (Kd.R_reads' HO_200001.out).2.1); (case side5 => repeat (first | exact (Kd.R_reads' HO_200002.out).2.2 | (with_reducible refine Kd.C_alloc ?_ _) | (with_reducible refine Kd.C_drewN ?_ _) | (with_reducible refine Kd.C_drew ?_))); (case side6 => exact (Kd.R_reads' HO_200002.out).2.1); (case side7 => repeat (first | exact (Kd.N_reads' HO_200003.out).2.2 | (with_reducible refine Kd.C_alloc ?_ _) | (with_reducible refine Kd.C_drewN ?_ _) | (with_reducible refine Kd.C_drew ?_))); (case side8 => exact (Kd.N_reads' HO_200003.out).2.1); (case side9 => repeat (first | exact (Kd.N_reads' HO_200004.out).2.2 | (with_reducible refine Kd.C_alloc ?_ _) | (with_reducible refine Kd.C_drewN ?_ _) | (with_reducible refine Kd.C_drew ?_))); (case side10 => exact (Kd.N_reads' HO_200004.out).2.1); (case side11 => repeat (first | exact (Kd.R_reads' HO249.out).2.2 | (with_reducible refine Kd.C_alloc ?_ _) | (with_reducible refine Kd.C_drewN ?_ _) | (with_reducible refine Kd.C_drew ?_))); (case side12 => exact (Kd.R_reads' HO249.out).2.1); rintro e w112 ⟨rfl, hb⟩; have n0_ := Aside0.mk (Kd.N_below (by (with_reducible repeat (first | apply Kd.N_alloc | apply Kd.N_drewN | apply Kd.N_drew)); exact HO_1.out) hb); have n1_ := Aside0.mk (Kd.R_below (by (with_reducible repeat (first | apply Kd.R_alloc | apply Kd.R_drewN | apply Kd.R_drew)); exact HO_200001.out) hb); have n2_ := Aside0.mk (Kd.R_below (by (with_reducible repeat (first | apply Kd.R_alloc | apply Kd.R_drewN | apply Kd.R_drew)); exact HO_200002.out) hb); have n3_ := Aside0.mk (Kd.N_below (by (with_reducible repeat (first | apply Kd.N_alloc | apply Kd.N_drewN | apply Kd.N_drew)); exact HO_200003.out) hb); have n4_ := Aside0.mk (Kd.N_below (by (with_reducible repeat (first | apply Kd.N_alloc | apply Kd.N_drewN | apply Kd.N_drew)); exact HO_200004.out) hb); have n5_ := Aside0.mk (Kd.R_below (by (with_reducible repeat (first | apply Kd.R_alloc | apply Kd.R_drewN | apply Kd.R_drew)); exact HO241.out) hb); have n6_ := Aside0.mk (Kd.R_below (by (with_reducible repeat (first | apply Kd.R_alloc | apply Kd.R_drewN | apply Kd.R_drew)); exact HO245.out) hb); have n7_ := Aside0.mk (Kd.R_below (by (with_reducible repeat (first | apply Kd.R_alloc | apply Kd.R_drewN | apply Kd.R_drew)); exact HO249.out) hb); have n8_ := Aside0.mk (blk_below (g := gb199) (o := .cells #[.string t186, .slice Ao11 t187.length co11, .slice Ao12 t190.length co12, .slice Ao13 t193.length co13, .slice Ao14 t196.length co14] 27 (0, 0)) (by (with_reducible repeat (first | refine blk_drewN ?_ _ | refine blk_drew ?_ | refine blk_alloc ?_ _)); exact BK199.out) hb); have n9_ := Aside0.mk (below_step (by repeat (first | (with_reducible first | exact HB.out | apply below_alloc | apply pw_below_drewN | apply below_drew1 | refine below_set ?_ GE199.out) | exact HB.out)) hb); clear HO_1; clear HO_200001; clear HO_200002; clear HO_200003; clear HO_200004; clear HO241; clear HO245; clear HO249; clear BK199; clear HB; have HO_1 := n0_; have HO_200001 := n1_; have HO_200002 := n2_; have HO_200003 := n3_; have HO_200004 := n4_; have HO241 := n5_; have HO245 := n6_; have HO249 := n7_; have BK199 := n8_; have HB := n9_; clear n0_ n1_ n2_ n3_ n4_ n5_ n6_ n7_ n8_ n9_; (try clear hb); (try clear hb2); (try clear hk); (try clear hi)))
         go_ret
         exact ⟨by first | rfl | (simp [errW_none, errW_some] <;> rfl) | (simp [*, errW_none, errW_some] <;> rfl), by repeat (first | (with_reducible first | exact HB.out | apply below_alloc | apply pw_below_drewN | apply below_drew1 | refine below_set ?_ GE199.out) | exact HB.out)⟩
       ·replace c94 := Bool.eq_false_iff.mpr c94
        subst c94
        have H1 : (some false) = some r := by rw [if_neg (show ¬ (false = true) by decide)] at H; exact H
        clear H
        have H := H1
        clear H1
        exact absurd ((Option.some.inj H).trans hrT_.out) Bool.false_ne_true




/-! ### petrinetref39_Name: function 49 -/
mutual
def petrinetref39_Name.j0 : Nat → ByteArray → Bool → Option (Bool)
 | 0, _, _ => none
 | k + 1, x0, x13 => if x13 = true then (some false) else (petrinetref39_Name.l0 k x0 0)
def petrinetref39_Name.l0 : Nat → ByteArray → Int → Option (Bool)
 | 0, _, _ => none
 | k + 1, x0, x3 => if x3 < (x0.size : Int) then (if 0 ≤ x3 then (if (bt x0 x3) ≥ 97 then (if (bt x0 x3) ≤ 122 then (if (bt x0 x3) ≥ 48 then (if (bt x0 x3) ≤ 57 then (petrinetref39_Name.l0 k x0 (wrap64 (x3 + 1))) else (petrinetref39_Name.l0 k x0 (wrap64 (x3 + 1)))) else (petrinetref39_Name.l0 k x0 (wrap64 (x3 + 1)))) else (if (bt x0 x3) ≥ 48 then (if (bt x0 x3) ≤ 57 then (if ((bt x0 x3) = 95) then (petrinetref39_Name.l0 k x0 (wrap64 (x3 + 1))) else (if x3 = 0 then (some false) else (petrinetref39_Name.l0 k x0 (wrap64 (x3 + 1))))) else (if ((bt x0 x3) = 95) then (petrinetref39_Name.l0 k x0 (wrap64 (x3 + 1))) else (if x3 = 0 then (some false) else (if ((bt x0 x3) = 46) then (petrinetref39_Name.l0 k x0 (wrap64 (x3 + 1))) else (some false))))) else (if ((bt x0 x3) = 95) then (petrinetref39_Name.l0 k x0 (wrap64 (x3 + 1))) else (if x3 = 0 then (some false) else (if ((bt x0 x3) = 46) then (petrinetref39_Name.l0 k x0 (wrap64 (x3 + 1))) else (some false)))))) else (if (bt x0 x3) ≥ 48 then (if (bt x0 x3) ≤ 57 then (if ((bt x0 x3) = 95) then (petrinetref39_Name.l0 k x0 (wrap64 (x3 + 1))) else (if x3 = 0 then (some false) else (petrinetref39_Name.l0 k x0 (wrap64 (x3 + 1))))) else (if ((bt x0 x3) = 95) then (petrinetref39_Name.l0 k x0 (wrap64 (x3 + 1))) else (if x3 = 0 then (some false) else (if ((bt x0 x3) = 46) then (petrinetref39_Name.l0 k x0 (wrap64 (x3 + 1))) else (some false))))) else (if ((bt x0 x3) = 95) then (petrinetref39_Name.l0 k x0 (wrap64 (x3 + 1))) else (if x3 = 0 then (some false) else (if ((bt x0 x3) = 46) then (petrinetref39_Name.l0 k x0 (wrap64 (x3 + 1))) else (some false)))))) else (none)) else (some true)
end
def petrinetref39_Name.f (k : Nat) (a0 : ByteArray) : Option (Bool) := if (a0.size : Int) < 1 then (petrinetref39_Name.j0 k a0 true) else (petrinetref39_Name.j0 k a0 (decide ((a0.size : Int) > 16)))
theorem petrinetref39_Name.mono_l : ∀ k, (∀ y0 y1, LeO (petrinetref39_Name.j0 k y0 y1) (petrinetref39_Name.j0 (k + 1) y0 y1)) ∧ (∀ y0 y1, LeO (petrinetref39_Name.l0 k y0 y1) (petrinetref39_Name.l0 (k + 1) y0 y1))
 | 0 => ⟨fun _ _ r h => by simp [petrinetref39_Name.j0] at h, fun _ _ r h => by simp [petrinetref39_Name.l0] at h⟩
 | k + 1 => by
  obtain ⟨ih0, ih1⟩ := petrinetref39_Name.mono_l k
  refine ⟨?_, ?_⟩
  ·intro y0 y1
   unfold petrinetref39_Name.j0
   repeat' first
   | (with_reducible exact ih0 _ _)
   | (with_reducible exact ih1 _ _)
   | (with_reducible exact LeO.refl _)
   | (with_reducible exact LeO.none _)
   | (with_reducible refine LeO.ite ?_ ?_)
   | (with_reducible refine LeO.bind ?_ (fun _ => ?_))
   | exact ih0 _ _
   | exact ih1 _ _
   | exact LeO.none _
   | refine LeO.ite ?_ ?_
   | refine LeO.bind ?_ (fun _ => ?_)
  ·intro y0 y1
   unfold petrinetref39_Name.l0
   repeat' first
   | (with_reducible exact ih0 _ _)
   | (with_reducible exact ih1 _ _)
   | (with_reducible exact LeO.refl _)
   | (with_reducible exact LeO.none _)
   | (with_reducible refine LeO.ite ?_ ?_)
   | (with_reducible refine LeO.bind ?_ (fun _ => ?_))
   | exact ih0 _ _
   | exact ih1 _ _
   | exact LeO.none _
   | refine LeO.ite ?_ ?_
   | refine LeO.bind ?_ (fun _ => ?_)
theorem petrinetref39_Name.mono : ∀ a0 k, LeO (petrinetref39_Name.f k a0) (petrinetref39_Name.f (k + 1) a0) := by
 intro a0 k
 obtain ⟨ih0, ih1⟩ := petrinetref39_Name.mono_l k
 unfold petrinetref39_Name.f
 repeat' first
   | (with_reducible exact ih0 _ _)
   | (with_reducible exact ih1 _ _)
   | (with_reducible exact LeO.refl _)
   | (with_reducible exact LeO.none _)
   | (with_reducible refine LeO.ite ?_ ?_)
   | (with_reducible refine LeO.bind ?_ (fun _ => ?_))
   | exact ih0 _ _
   | exact ih1 _ _
   | exact LeO.none _
   | refine LeO.ite ?_ ?_
   | refine LeO.bind ?_ (fun _ => ?_)



/-! ### petrinetref39_Find: function 50 -/
def petrinetref39_Find.l0 : Nat → ByteArray → Int → ByteArray → List ByteArray → Option (Int)
 | 0, _, _, _, _ => none
 | k + 1, x1, x5, x252000, x252001 => if x5 < (x252001.length : Int) then (if 0 ≤ x5 then (if (rdOf ByteArray.empty x252001 x5).toList = x1.toList then (some x5) else (petrinetref39_Find.l0 k x1 (wrap64 (x5 + 1)) x252000 x252001)) else (none)) else (some (-1))
def petrinetref39_Find.f (k : Nat) (a0_0 : ByteArray) (l0_1 : List ByteArray) (a1 : ByteArray) : Option (Int) := petrinetref39_Find.l0 k a1 0 a0_0 l0_1
theorem petrinetref39_Find.mono_l : ∀ k, (∀ y0 y1 y2 y3, LeO (petrinetref39_Find.l0 k y0 y1 y2 y3) (petrinetref39_Find.l0 (k + 1) y0 y1 y2 y3))
 | 0 => fun _ _ _ _ r h => by simp [petrinetref39_Find.l0] at h
 | k + 1 => by
  have ih0 := petrinetref39_Find.mono_l k
  ·intro y0 y1 y2 y3
   unfold petrinetref39_Find.l0
   repeat' first
   | (with_reducible exact ih0 _ _ _ _)
   | (with_reducible exact LeO.refl _)
   | (with_reducible exact LeO.none _)
   | (with_reducible refine LeO.ite ?_ ?_)
   | (with_reducible refine LeO.bind ?_ (fun _ => ?_))
   | exact ih0 _ _ _ _
   | exact LeO.none _
   | refine LeO.ite ?_ ?_
   | refine LeO.bind ?_ (fun _ => ?_)
theorem petrinetref39_Find.mono : ∀ a0 a1 a2 k, LeO (petrinetref39_Find.f k a0 a1 a2) (petrinetref39_Find.f (k + 1) a0 a1 a2) := by
 intro a0 a1 a2 k
 have ih0 := petrinetref39_Find.mono_l k
 unfold petrinetref39_Find.f
 repeat' first
   | (with_reducible exact ih0 _ _ _ _)
   | (with_reducible exact LeO.refl _)
   | (with_reducible exact LeO.none _)
   | (with_reducible refine LeO.ite ?_ ?_)
   | (with_reducible refine LeO.bind ?_ (fun _ => ?_))
   | exact ih0 _ _ _ _
   | exact LeO.none _
   | refine LeO.ite ?_ ?_
   | refine LeO.bind ?_ (fun _ => ?_)

/-! ### petrinetref39_Check: function 32 -/
mutual
def petrinetref39_Check.j0 : Nat → Bool → ByteArray → List ByteArray → Option (Int)
 | 0, _, _, _ => none
 | k + 1, x17, x254000, x254001 => if x17 = true then (some 2) else (petrinetref39_Check.l0 k 0 x254000 x254001)
def petrinetref39_Check.l0 : Nat → Int → ByteArray → List ByteArray → Option (Int)
 | 0, _, _, _ => none
 | k + 1, x3, x254000, x254001 => if x3 < (x254001.length : Int) then (if 0 ≤ x3 then ((petrinetref39_Name.f k (rdOf ByteArray.empty x254001 x3)).bind fun t256 => (if t256 = true then ((petrinetref39_Find.f k x254000 x254001 (rdOf ByteArray.empty x254001 x3)).bind fun t258 => (if t258 < x3 then (some 6) else (petrinetref39_Check.l0 k (wrap64 (x3 + 1)) x254000 x254001))) else (some 5))) else (none)) else (some 0)
end
def petrinetref39_Check.f (k : Nat) (a0_0 : ByteArray) (l0_1 : List ByteArray) : Option (Int) := (petrinetref39_Name.f k a0_0).bind fun t254 => (if t254 = true then (if (l0_1.length : Int) < 1 then (petrinetref39_Check.j0 k true a0_0 l0_1) else (petrinetref39_Check.j0 k (decide ((l0_1.length : Int) > 12)) a0_0 l0_1)) else (some 5))
theorem petrinetref39_Check.mono_l : ∀ k, (∀ y0 y1 y2, LeO (petrinetref39_Check.j0 k y0 y1 y2) (petrinetref39_Check.j0 (k + 1) y0 y1 y2)) ∧ (∀ y0 y1 y2, LeO (petrinetref39_Check.l0 k y0 y1 y2) (petrinetref39_Check.l0 (k + 1) y0 y1 y2))
 | 0 => ⟨fun _ _ _ r h => by simp [petrinetref39_Check.j0] at h, fun _ _ _ r h => by simp [petrinetref39_Check.l0] at h⟩
 | k + 1 => by
  obtain ⟨ih0, ih1⟩ := petrinetref39_Check.mono_l k
  refine ⟨?_, ?_⟩
  ·intro y0 y1 y2
   unfold petrinetref39_Check.j0
   repeat' first
   | (with_reducible exact ih0 _ _ _)
   | (with_reducible exact ih1 _ _ _)
   | (with_reducible exact petrinetref39_Find.mono _ _ _ _)
   | (with_reducible exact petrinetref39_Name.mono _ _)
   | (with_reducible exact LeO.refl _)
   | (with_reducible exact LeO.none _)
   | (with_reducible refine LeO.ite ?_ ?_)
   | (with_reducible refine LeO.bind ?_ (fun _ => ?_))
   | exact ih0 _ _ _
   | exact ih1 _ _ _
   | exact petrinetref39_Find.mono _ _ _ _
   | exact petrinetref39_Name.mono _ _
   | exact LeO.none _
   | refine LeO.ite ?_ ?_
   | refine LeO.bind ?_ (fun _ => ?_)
  ·intro y0 y1 y2
   unfold petrinetref39_Check.l0
   repeat' first
   | (with_reducible exact ih0 _ _ _)
   | (with_reducible exact ih1 _ _ _)
   | (with_reducible exact petrinetref39_Find.mono _ _ _ _)
   | (with_reducible exact petrinetref39_Name.mono _ _)
   | (with_reducible exact LeO.refl _)
   | (with_reducible exact LeO.none _)
   | (with_reducible refine LeO.ite ?_ ?_)
   | (with_reducible refine LeO.bind ?_ (fun _ => ?_))
   | exact ih0 _ _ _
   | exact ih1 _ _ _
   | exact petrinetref39_Find.mono _ _ _ _
   | exact petrinetref39_Name.mono _ _
   | exact LeO.none _
   | refine LeO.ite ?_ ?_
   | refine LeO.bind ?_ (fun _ => ?_)
theorem petrinetref39_Check.mono : ∀ a0 a1 k, LeO (petrinetref39_Check.f k a0 a1) (petrinetref39_Check.f (k + 1) a0 a1) := by
 intro a0 a1 k
 obtain ⟨ih0, ih1⟩ := petrinetref39_Check.mono_l k
 unfold petrinetref39_Check.f
 repeat' first
   | (with_reducible exact ih0 _ _ _)
   | (with_reducible exact ih1 _ _ _)
   | (with_reducible exact petrinetref39_Find.mono _ _ _ _)
   | (with_reducible exact petrinetref39_Name.mono _ _)
   | (with_reducible exact LeO.refl _)
   | (with_reducible exact LeO.none _)
   | (with_reducible refine LeO.ite ?_ ?_)
   | (with_reducible refine LeO.bind ?_ (fun _ => ?_))
   | exact ih0 _ _ _
   | exact ih1 _ _ _
   | exact petrinetref39_Find.mono _ _ _ _
   | exact petrinetref39_Name.mono _ _
   | exact LeO.none _
   | refine LeO.ite ?_ ?_
   | refine LeO.bind ?_ (fun _ => ?_)



/-! ### petrinetref09_Name: function 51 -/
mutual
def petrinetref09_Name.j0 : Nat → ByteArray → Bool → Option (Bool)
 | 0, _, _ => none
 | k + 1, x0, x14 => if x14 = true then (some false) else (petrinetref09_Name.l0 k x0 0)
def petrinetref09_Name.l0 : Nat → ByteArray → Int → Option (Bool)
 | 0, _, _ => none
 | k + 1, x0, x3 => if x3 < (x0.size : Int) then (if 0 ≤ x3 then (if (bt x0 x3) ≥ 97 then (if (bt x0 x3) ≤ 122 then (if (bt x0 x3) ≥ 48 then (if (bt x0 x3) ≤ 57 then (petrinetref09_Name.l0 k x0 (wrap64 (x3 + 1))) else (petrinetref09_Name.l0 k x0 (wrap64 (x3 + 1)))) else (petrinetref09_Name.l0 k x0 (wrap64 (x3 + 1)))) else (if (bt x0 x3) ≥ 48 then (if (bt x0 x3) ≤ 57 then (if ((bt x0 x3) = 95) then (petrinetref09_Name.l0 k x0 (wrap64 (x3 + 1))) else (if x3 = 0 then (some false) else (petrinetref09_Name.l0 k x0 (wrap64 (x3 + 1))))) else (if ((bt x0 x3) = 95) then (petrinetref09_Name.l0 k x0 (wrap64 (x3 + 1))) else (if ((bt x0 x3) = 46) then (if x3 = 0 then (some false) else (petrinetref09_Name.l0 k x0 (wrap64 (x3 + 1)))) else (some false)))) else (if ((bt x0 x3) = 95) then (petrinetref09_Name.l0 k x0 (wrap64 (x3 + 1))) else (if ((bt x0 x3) = 46) then (if x3 = 0 then (some false) else (petrinetref09_Name.l0 k x0 (wrap64 (x3 + 1)))) else (some false))))) else (if (bt x0 x3) ≥ 48 then (if (bt x0 x3) ≤ 57 then (if ((bt x0 x3) = 95) then (petrinetref09_Name.l0 k x0 (wrap64 (x3 + 1))) else (if x3 = 0 then (some false) else (petrinetref09_Name.l0 k x0 (wrap64 (x3 + 1))))) else (if ((bt x0 x3) = 95) then (petrinetref09_Name.l0 k x0 (wrap64 (x3 + 1))) else (if ((bt x0 x3) = 46) then (if x3 = 0 then (some false) else (petrinetref09_Name.l0 k x0 (wrap64 (x3 + 1)))) else (some false)))) else (if ((bt x0 x3) = 95) then (petrinetref09_Name.l0 k x0 (wrap64 (x3 + 1))) else (if ((bt x0 x3) = 46) then (if x3 = 0 then (some false) else (petrinetref09_Name.l0 k x0 (wrap64 (x3 + 1)))) else (some false))))) else (none)) else (some true)
end
def petrinetref09_Name.f (k : Nat) (a0 : ByteArray) : Option (Bool) := if (a0.size : Int) < 1 then (petrinetref09_Name.j0 k a0 true) else (petrinetref09_Name.j0 k a0 (decide ((a0.size : Int) > 16)))
theorem petrinetref09_Name.mono_l : ∀ k, (∀ y0 y1, LeO (petrinetref09_Name.j0 k y0 y1) (petrinetref09_Name.j0 (k + 1) y0 y1)) ∧ (∀ y0 y1, LeO (petrinetref09_Name.l0 k y0 y1) (petrinetref09_Name.l0 (k + 1) y0 y1))
 | 0 => ⟨fun _ _ r h => by simp [petrinetref09_Name.j0] at h, fun _ _ r h => by simp [petrinetref09_Name.l0] at h⟩
 | k + 1 => by
  obtain ⟨ih0, ih1⟩ := petrinetref09_Name.mono_l k
  refine ⟨?_, ?_⟩
  ·intro y0 y1
   unfold petrinetref09_Name.j0
   repeat' first
   | (with_reducible exact ih0 _ _)
   | (with_reducible exact ih1 _ _)
   | (with_reducible exact LeO.refl _)
   | (with_reducible exact LeO.none _)
   | (with_reducible refine LeO.ite ?_ ?_)
   | (with_reducible refine LeO.bind ?_ (fun _ => ?_))
   | exact ih0 _ _
   | exact ih1 _ _
   | exact LeO.none _
   | refine LeO.ite ?_ ?_
   | refine LeO.bind ?_ (fun _ => ?_)
  ·intro y0 y1
   unfold petrinetref09_Name.l0
   repeat' first
   | (with_reducible exact ih0 _ _)
   | (with_reducible exact ih1 _ _)
   | (with_reducible exact LeO.refl _)
   | (with_reducible exact LeO.none _)
   | (with_reducible refine LeO.ite ?_ ?_)
   | (with_reducible refine LeO.bind ?_ (fun _ => ?_))
   | exact ih0 _ _
   | exact ih1 _ _
   | exact LeO.none _
   | refine LeO.ite ?_ ?_
   | refine LeO.bind ?_ (fun _ => ?_)
theorem petrinetref09_Name.mono : ∀ a0 k, LeO (petrinetref09_Name.f k a0) (petrinetref09_Name.f (k + 1) a0) := by
 intro a0 k
 obtain ⟨ih0, ih1⟩ := petrinetref09_Name.mono_l k
 unfold petrinetref09_Name.f
 repeat' first
   | (with_reducible exact ih0 _ _)
   | (with_reducible exact ih1 _ _)
   | (with_reducible exact LeO.refl _)
   | (with_reducible exact LeO.none _)
   | (with_reducible refine LeO.ite ?_ ?_)
   | (with_reducible refine LeO.bind ?_ (fun _ => ?_))
   | exact ih0 _ _
   | exact ih1 _ _
   | exact LeO.none _
   | refine LeO.ite ?_ ?_
   | refine LeO.bind ?_ (fun _ => ?_)

/-! ### petrinetref40_variable: function 33 -/
def petrinetref40_variable.l0 : Nat → List (S51) → Int → Int → ByteArray → List (S48) → List (S62) → List (S111) → List (S111) → ByteArray → Int → Option (Int)
 | 0, _, _, _, _, _, _, _, _, _, _ => none
 | k + 1, x0, x2, x8, x260000, x260001, x260002, x260003, x260004, x262000, x262001 => if x8 < x2 then (if 0 ≤ x8 then (if x8 < (x260001.length : Int) then (if ((rd_T48 x260001 x8).f0).toList = x262000.toList then (some 6) else (petrinetref40_variable.l0 k x0 x2 (wrap64 (x8 + 1)) x260000 x260001 x260002 x260003 x260004 x262000 x262001)) else (none)) else (none)) else (if x262001 < 0 then (some 1) else (if x262001 ≥ (x0.length : Int) then (some 1) else (some 0)))
def petrinetref40_variable.f (k : Nat) (l0 : List (S51)) (a1_0 : ByteArray) (l1_1 : List (S48)) (l1_2 : List (S62)) (l1_3 : List (S111)) (l1_4 : List (S111)) (a2 : Int) : Option (Int) := if 0 ≤ a2 then (if a2 < (l1_1.length : Int) then ((petrinetref09_Name.f k ((rd_T48 l1_1 a2).f0)).bind fun t262 => (if t262 = true then (petrinetref40_variable.l0 k l0 a2 0 a1_0 l1_1 l1_2 l1_3 l1_4 ((rd_T48 l1_1 a2).f0) ((rd_T48 l1_1 a2).f1)) else (some 5))) else (none)) else (none)
theorem petrinetref40_variable.mono_l : ∀ k, (∀ y0 y1 y2 y3 y4 y5 y6 y7 y8 y9, LeO (petrinetref40_variable.l0 k y0 y1 y2 y3 y4 y5 y6 y7 y8 y9) (petrinetref40_variable.l0 (k + 1) y0 y1 y2 y3 y4 y5 y6 y7 y8 y9))
 | 0 => fun _ _ _ _ _ _ _ _ _ _ r h => by simp [petrinetref40_variable.l0] at h
 | k + 1 => by
  have ih0 := petrinetref40_variable.mono_l k
  ·intro y0 y1 y2 y3 y4 y5 y6 y7 y8 y9
   unfold petrinetref40_variable.l0
   repeat' first
   | (with_reducible exact ih0 _ _ _ _ _ _ _ _ _ _)
   | (with_reducible exact petrinetref09_Name.mono _ _)
   | (with_reducible exact LeO.refl _)
   | (with_reducible exact LeO.none _)
   | (with_reducible refine LeO.ite ?_ ?_)
   | (with_reducible refine LeO.bind ?_ (fun _ => ?_))
   | exact ih0 _ _ _ _ _ _ _ _ _ _
   | exact petrinetref09_Name.mono _ _
   | exact LeO.none _
   | refine LeO.ite ?_ ?_
   | refine LeO.bind ?_ (fun _ => ?_)
theorem petrinetref40_variable.mono : ∀ a0 a1 a2 a3 a4 a5 a6 k, LeO (petrinetref40_variable.f k a0 a1 a2 a3 a4 a5 a6) (petrinetref40_variable.f (k + 1) a0 a1 a2 a3 a4 a5 a6) := by
 intro a0 a1 a2 a3 a4 a5 a6 k
 have ih0 := petrinetref40_variable.mono_l k
 unfold petrinetref40_variable.f
 repeat' first
   | (with_reducible exact ih0 _ _ _ _ _ _ _ _ _ _)
   | (with_reducible exact petrinetref09_Name.mono _ _)
   | (with_reducible exact LeO.refl _)
   | (with_reducible exact LeO.none _)
   | (with_reducible refine LeO.ite ?_ ?_)
   | (with_reducible refine LeO.bind ?_ (fun _ => ?_))
   | exact ih0 _ _ _ _ _ _ _ _ _ _
   | exact petrinetref09_Name.mono _ _
   | exact LeO.none _
   | refine LeO.ite ?_ ?_
   | refine LeO.bind ?_ (fun _ => ?_)



/-! ### petrinetref40_guard: function 34 -/
mutual
def petrinetref40_guard.j0 : Nat → Bool → ByteArray → List (S48) → List (S62) → List (S111) → List (S111) → Int → Int → Int → Option (Int)
 | 0, _, _, _, _, _, _, _, _, _ => none
 | k + 1, x12, x265000, x265001, x265002, x265003, x265004, x266000, x266001, x266002 => if x12 = true then (some 12) else (if x266001 < 0 then (petrinetref40_guard.j1 k true x265000 x265001 x265002 x265003 x265004 x266000 x266001 x266002) else (if x266001 ≥ (x265001.length : Int) then (petrinetref40_guard.j1 k true x265000 x265001 x265002 x265003 x265004 x266000 x266001 x266002) else (if x266002 < 0 then (petrinetref40_guard.j1 k true x265000 x265001 x265002 x265003 x265004 x266000 x266001 x266002) else (petrinetref40_guard.j1 k (decide (x266002 ≥ (x265001.length : Int))) x265000 x265001 x265002 x265003 x265004 x266000 x266001 x266002))))
def petrinetref40_guard.j1 : Nat → Bool → ByteArray → List (S48) → List (S62) → List (S111) → List (S111) → Int → Int → Int → Option (Int)
 | 0, _, _, _, _, _, _, _, _, _ => none
 | k + 1, x36, x265000, x265001, x265002, x265003, x265004, x266000, x266001, x266002 => if x36 = true then (some 1) else (if 0 ≤ x266001 then (if x266001 < (x265001.length : Int) then (if 0 ≤ x266002 then (if x266002 < (x265001.length : Int) then (if ((rd_T48 x265001 x266001).f1) = ((rd_T48 x265001 x266002).f1) then (some 0) else (some 17)) else (none)) else (none)) else (none)) else (none))
end
def petrinetref40_guard.f (k : Nat) (a0_0 : ByteArray) (l0_1 : List (S48)) (l0_2 : List (S62)) (l0_3 : List (S111)) (l0_4 : List (S111)) (a1_0 : Int) (a1_1 : Int) (a1_2 : Int) : Option (Int) := if a1_0 < 1 then (petrinetref40_guard.j0 k true a0_0 l0_1 l0_2 l0_3 l0_4 a1_0 a1_1 a1_2) else (petrinetref40_guard.j0 k (decide (a1_0 > 3)) a0_0 l0_1 l0_2 l0_3 l0_4 a1_0 a1_1 a1_2)
theorem petrinetref40_guard.mono_l : ∀ k, (∀ y0 y1 y2 y3 y4 y5 y6 y7 y8, LeO (petrinetref40_guard.j0 k y0 y1 y2 y3 y4 y5 y6 y7 y8) (petrinetref40_guard.j0 (k + 1) y0 y1 y2 y3 y4 y5 y6 y7 y8)) ∧ (∀ y0 y1 y2 y3 y4 y5 y6 y7 y8, LeO (petrinetref40_guard.j1 k y0 y1 y2 y3 y4 y5 y6 y7 y8) (petrinetref40_guard.j1 (k + 1) y0 y1 y2 y3 y4 y5 y6 y7 y8))
 | 0 => ⟨fun _ _ _ _ _ _ _ _ _ r h => by simp [petrinetref40_guard.j0] at h, fun _ _ _ _ _ _ _ _ _ r h => by simp [petrinetref40_guard.j1] at h⟩
 | k + 1 => by
  obtain ⟨ih0, ih1⟩ := petrinetref40_guard.mono_l k
  refine ⟨?_, ?_⟩
  ·intro y0 y1 y2 y3 y4 y5 y6 y7 y8
   unfold petrinetref40_guard.j0
   repeat' first
   | (with_reducible exact ih0 _ _ _ _ _ _ _ _ _)
   | (with_reducible exact ih1 _ _ _ _ _ _ _ _ _)
   | (with_reducible exact LeO.refl _)
   | (with_reducible exact LeO.none _)
   | (with_reducible refine LeO.ite ?_ ?_)
   | (with_reducible refine LeO.bind ?_ (fun _ => ?_))
   | exact ih0 _ _ _ _ _ _ _ _ _
   | exact ih1 _ _ _ _ _ _ _ _ _
   | exact LeO.none _
   | refine LeO.ite ?_ ?_
   | refine LeO.bind ?_ (fun _ => ?_)
  ·intro y0 y1 y2 y3 y4 y5 y6 y7 y8
   unfold petrinetref40_guard.j1
   repeat' first
   | (with_reducible exact ih0 _ _ _ _ _ _ _ _ _)
   | (with_reducible exact ih1 _ _ _ _ _ _ _ _ _)
   | (with_reducible exact LeO.refl _)
   | (with_reducible exact LeO.none _)
   | (with_reducible refine LeO.ite ?_ ?_)
   | (with_reducible refine LeO.bind ?_ (fun _ => ?_))
   | exact ih0 _ _ _ _ _ _ _ _ _
   | exact ih1 _ _ _ _ _ _ _ _ _
   | exact LeO.none _
   | refine LeO.ite ?_ ?_
   | refine LeO.bind ?_ (fun _ => ?_)
theorem petrinetref40_guard.mono : ∀ a0 a1 a2 a3 a4 a5 a6 a7 k, LeO (petrinetref40_guard.f k a0 a1 a2 a3 a4 a5 a6 a7) (petrinetref40_guard.f (k + 1) a0 a1 a2 a3 a4 a5 a6 a7) := by
 intro a0 a1 a2 a3 a4 a5 a6 a7 k
 obtain ⟨ih0, ih1⟩ := petrinetref40_guard.mono_l k
 unfold petrinetref40_guard.f
 repeat' first
   | (with_reducible exact ih0 _ _ _ _ _ _ _ _ _)
   | (with_reducible exact ih1 _ _ _ _ _ _ _ _ _)
   | (with_reducible exact LeO.refl _)
   | (with_reducible exact LeO.none _)
   | (with_reducible refine LeO.ite ?_ ?_)
   | (with_reducible refine LeO.bind ?_ (fun _ => ?_))
   | exact ih0 _ _ _ _ _ _ _ _ _
   | exact ih1 _ _ _ _ _ _ _ _ _
   | exact LeO.none _
   | refine LeO.ite ?_ ?_
   | refine LeO.bind ?_ (fun _ => ?_)



/-! ### petrinetref40_Check: function 12 -/
mutual
def petrinetref40_Check.l0 : Nat → List (S51) → Int → ByteArray → List (S48) → List (S62) → List (S111) → List (S111) → Option (Int)
 | 0, _, _, _, _, _, _, _ => none
 | k + 1, x0, x5, x269000, x269001, x269002, x269003, x269004 => if x5 < (x0.length : Int) then (if 0 ≤ x5 then ((petrinetref39_Check.f k ((rd_T51 x0 x5).f0) ((rd_T51 x0 x5).f1)).bind fun t270 => (if t270 = 0 then (petrinetref40_Check.l0 k x0 (wrap64 (x5 + 1)) x269000 x269001 x269002 x269003 x269004) else (some t270))) else (none)) else (if (x0.length : Int) < 1 then (petrinetref40_Check.j1 k x0 true x269000 x269001 x269002 x269003 x269004) else (if (x0.length : Int) > 8 then (petrinetref40_Check.j1 k x0 true x269000 x269001 x269002 x269003 x269004) else (petrinetref40_Check.j1 k x0 (decide ((x269001.length : Int) > 4)) x269000 x269001 x269002 x269003 x269004)))
def petrinetref40_Check.j1 : Nat → List (S51) → Bool → ByteArray → List (S48) → List (S62) → List (S111) → List (S111) → Option (Int)
 | 0, _, _, _, _, _, _, _ => none
 | k + 1, x0, x38, x269000, x269001, x269002, x269003, x269004 => if x38 = true then (some 2) else (petrinetref40_Check.l1 k x0 0 x269000 x269001 x269002 x269003 x269004)
def petrinetref40_Check.l1 : Nat → List (S51) → Int → ByteArray → List (S48) → List (S62) → List (S111) → List (S111) → Option (Int)
 | 0, _, _, _, _, _, _, _ => none
 | k + 1, x0, x7, x269000, x269001, x269002, x269003, x269004 => if x7 < (x269001.length : Int) then ((petrinetref40_variable.f k x0 x269000 x269001 x269002 x269003 x269004 x7).bind fun t271 => (if t271 = 0 then (petrinetref40_Check.l1 k x0 (wrap64 (x7 + 1)) x269000 x269001 x269002 x269003 x269004) else (some t271))) else (petrinetref40_Check.l2 k 0 x269000 x269001 x269002 x269003 x269004)
def petrinetref40_Check.l2 : Nat → Int → ByteArray → List (S48) → List (S62) → List (S111) → List (S111) → Option (Int)
 | 0, _, _, _, _, _, _ => none
 | k + 1, x9, x269000, x269001, x269002, x269003, x269004 => if x9 < (x269002.length : Int) then (if 0 ≤ x9 then ((petrinetref40_guard.f k x269000 x269001 x269002 x269003 x269004 ((rd_T62 x269002 x9).f0) ((rd_T62 x269002 x9).f1) ((rd_T62 x269002 x9).f2)).bind fun t273 => (if t273 = 0 then (petrinetref40_Check.l2 k (wrap64 (x9 + 1)) x269000 x269001 x269002 x269003 x269004) else (some t273))) else (none)) else (some 0)
end
def petrinetref40_Check.f (k : Nat) (l0 : List (S51)) (a1_0 : ByteArray) (l1_1 : List (S48)) (l1_2 : List (S62)) (l1_3 : List (S111)) (l1_4 : List (S111)) : Option (Int) := petrinetref40_Check.l0 k l0 0 a1_0 l1_1 l1_2 l1_3 l1_4
theorem petrinetref40_Check.mono_l : ∀ k, (∀ y0 y1 y2 y3 y4 y5 y6, LeO (petrinetref40_Check.l0 k y0 y1 y2 y3 y4 y5 y6) (petrinetref40_Check.l0 (k + 1) y0 y1 y2 y3 y4 y5 y6)) ∧ (∀ y0 y1 y2 y3 y4 y5 y6, LeO (petrinetref40_Check.j1 k y0 y1 y2 y3 y4 y5 y6) (petrinetref40_Check.j1 (k + 1) y0 y1 y2 y3 y4 y5 y6)) ∧ (∀ y0 y1 y2 y3 y4 y5 y6, LeO (petrinetref40_Check.l1 k y0 y1 y2 y3 y4 y5 y6) (petrinetref40_Check.l1 (k + 1) y0 y1 y2 y3 y4 y5 y6)) ∧ (∀ y0 y1 y2 y3 y4 y5, LeO (petrinetref40_Check.l2 k y0 y1 y2 y3 y4 y5) (petrinetref40_Check.l2 (k + 1) y0 y1 y2 y3 y4 y5))
 | 0 => ⟨fun _ _ _ _ _ _ _ r h => by simp [petrinetref40_Check.l0] at h, fun _ _ _ _ _ _ _ r h => by simp [petrinetref40_Check.j1] at h, fun _ _ _ _ _ _ _ r h => by simp [petrinetref40_Check.l1] at h, fun _ _ _ _ _ _ r h => by simp [petrinetref40_Check.l2] at h⟩
 | k + 1 => by
  obtain ⟨ih0, ih1, ih2, ih3⟩ := petrinetref40_Check.mono_l k
  refine ⟨?_, ?_, ?_, ?_⟩
  ·intro y0 y1 y2 y3 y4 y5 y6
   unfold petrinetref40_Check.l0
   repeat' first
   | (with_reducible exact ih0 _ _ _ _ _ _ _)
   | (with_reducible exact ih1 _ _ _ _ _ _ _)
   | (with_reducible exact ih2 _ _ _ _ _ _ _)
   | (with_reducible exact ih3 _ _ _ _ _ _)
   | (with_reducible exact petrinetref39_Check.mono _ _ _)
   | (with_reducible exact petrinetref40_guard.mono _ _ _ _ _ _ _ _ _)
   | (with_reducible exact petrinetref40_variable.mono _ _ _ _ _ _ _ _)
   | (with_reducible exact LeO.refl _)
   | (with_reducible exact LeO.none _)
   | (with_reducible refine LeO.ite ?_ ?_)
   | (with_reducible refine LeO.bind ?_ (fun _ => ?_))
   | exact ih0 _ _ _ _ _ _ _
   | exact ih1 _ _ _ _ _ _ _
   | exact ih2 _ _ _ _ _ _ _
   | exact ih3 _ _ _ _ _ _
   | exact petrinetref39_Check.mono _ _ _
   | exact petrinetref40_guard.mono _ _ _ _ _ _ _ _ _
   | exact petrinetref40_variable.mono _ _ _ _ _ _ _ _
   | exact LeO.none _
   | refine LeO.ite ?_ ?_
   | refine LeO.bind ?_ (fun _ => ?_)
  ·intro y0 y1 y2 y3 y4 y5 y6
   unfold petrinetref40_Check.j1
   repeat' first
   | (with_reducible exact ih0 _ _ _ _ _ _ _)
   | (with_reducible exact ih1 _ _ _ _ _ _ _)
   | (with_reducible exact ih2 _ _ _ _ _ _ _)
   | (with_reducible exact ih3 _ _ _ _ _ _)
   | (with_reducible exact petrinetref39_Check.mono _ _ _)
   | (with_reducible exact petrinetref40_guard.mono _ _ _ _ _ _ _ _ _)
   | (with_reducible exact petrinetref40_variable.mono _ _ _ _ _ _ _ _)
   | (with_reducible exact LeO.refl _)
   | (with_reducible exact LeO.none _)
   | (with_reducible refine LeO.ite ?_ ?_)
   | (with_reducible refine LeO.bind ?_ (fun _ => ?_))
   | exact ih0 _ _ _ _ _ _ _
   | exact ih1 _ _ _ _ _ _ _
   | exact ih2 _ _ _ _ _ _ _
   | exact ih3 _ _ _ _ _ _
   | exact petrinetref39_Check.mono _ _ _
   | exact petrinetref40_guard.mono _ _ _ _ _ _ _ _ _
   | exact petrinetref40_variable.mono _ _ _ _ _ _ _ _
   | exact LeO.none _
   | refine LeO.ite ?_ ?_
   | refine LeO.bind ?_ (fun _ => ?_)
  ·intro y0 y1 y2 y3 y4 y5 y6
   unfold petrinetref40_Check.l1
   repeat' first
   | (with_reducible exact ih0 _ _ _ _ _ _ _)
   | (with_reducible exact ih1 _ _ _ _ _ _ _)
   | (with_reducible exact ih2 _ _ _ _ _ _ _)
   | (with_reducible exact ih3 _ _ _ _ _ _)
   | (with_reducible exact petrinetref39_Check.mono _ _ _)
   | (with_reducible exact petrinetref40_guard.mono _ _ _ _ _ _ _ _ _)
   | (with_reducible exact petrinetref40_variable.mono _ _ _ _ _ _ _ _)
   | (with_reducible exact LeO.refl _)
   | (with_reducible exact LeO.none _)
   | (with_reducible refine LeO.ite ?_ ?_)
   | (with_reducible refine LeO.bind ?_ (fun _ => ?_))
   | exact ih0 _ _ _ _ _ _ _
   | exact ih1 _ _ _ _ _ _ _
   | exact ih2 _ _ _ _ _ _ _
   | exact ih3 _ _ _ _ _ _
   | exact petrinetref39_Check.mono _ _ _
   | exact petrinetref40_guard.mono _ _ _ _ _ _ _ _ _
   | exact petrinetref40_variable.mono _ _ _ _ _ _ _ _
   | exact LeO.none _
   | refine LeO.ite ?_ ?_
   | refine LeO.bind ?_ (fun _ => ?_)
  ·intro y0 y1 y2 y3 y4 y5
   unfold petrinetref40_Check.l2
   repeat' first
   | (with_reducible exact ih0 _ _ _ _ _ _ _)
   | (with_reducible exact ih1 _ _ _ _ _ _ _)
   | (with_reducible exact ih2 _ _ _ _ _ _ _)
   | (with_reducible exact ih3 _ _ _ _ _ _)
   | (with_reducible exact petrinetref39_Check.mono _ _ _)
   | (with_reducible exact petrinetref40_guard.mono _ _ _ _ _ _ _ _ _)
   | (with_reducible exact petrinetref40_variable.mono _ _ _ _ _ _ _ _)
   | (with_reducible exact LeO.refl _)
   | (with_reducible exact LeO.none _)
   | (with_reducible refine LeO.ite ?_ ?_)
   | (with_reducible refine LeO.bind ?_ (fun _ => ?_))
   | exact ih0 _ _ _ _ _ _ _
   | exact ih1 _ _ _ _ _ _ _
   | exact ih2 _ _ _ _ _ _ _
   | exact ih3 _ _ _ _ _ _
   | exact petrinetref39_Check.mono _ _ _
   | exact petrinetref40_guard.mono _ _ _ _ _ _ _ _ _
   | exact petrinetref40_variable.mono _ _ _ _ _ _ _ _
   | exact LeO.none _
   | refine LeO.ite ?_ ?_
   | refine LeO.bind ?_ (fun _ => ?_)
theorem petrinetref40_Check.mono : ∀ a0 a1 a2 a3 a4 a5 k, LeO (petrinetref40_Check.f k a0 a1 a2 a3 a4 a5) (petrinetref40_Check.f (k + 1) a0 a1 a2 a3 a4 a5) := by
 intro a0 a1 a2 a3 a4 a5 k
 obtain ⟨ih0, ih1, ih2, ih3⟩ := petrinetref40_Check.mono_l k
 unfold petrinetref40_Check.f
 repeat' first
   | (with_reducible exact ih0 _ _ _ _ _ _ _)
   | (with_reducible exact ih1 _ _ _ _ _ _ _)
   | (with_reducible exact ih2 _ _ _ _ _ _ _)
   | (with_reducible exact ih3 _ _ _ _ _ _)
   | (with_reducible exact petrinetref39_Check.mono _ _ _)
   | (with_reducible exact petrinetref40_guard.mono _ _ _ _ _ _ _ _ _)
   | (with_reducible exact petrinetref40_variable.mono _ _ _ _ _ _ _ _)
   | (with_reducible exact LeO.refl _)
   | (with_reducible exact LeO.none _)
   | (with_reducible refine LeO.ite ?_ ?_)
   | (with_reducible refine LeO.bind ?_ (fun _ => ?_))
   | exact ih0 _ _ _ _ _ _ _
   | exact ih1 _ _ _ _ _ _ _
   | exact ih2 _ _ _ _ _ _ _
   | exact ih3 _ _ _ _ _ _
   | exact petrinetref39_Check.mono _ _ _
   | exact petrinetref40_guard.mono _ _ _ _ _ _ _ _ _
   | exact petrinetref40_variable.mono _ _ _ _ _ _ _ _
   | exact LeO.none _
   | refine LeO.ite ?_ ?_
   | refine LeO.bind ?_ (fun _ => ?_)



/-! ### petrinetref40_term: function 36 -/
mutual
def petrinetref40_term.j0 : Nat → List (S51) → Int → Bool → ByteArray → List (S48) → List (S62) → List (S111) → List (S111) → Int → Int → Int → Option (Int)
 | 0, _, _, _, _, _, _, _, _, _, _, _ => none
 | k + 1, x0, x2, x16, x275000, x275001, x275002, x275003, x275004, x276000, x276001, x276002 => if x16 = true then (some 9) else (if x276001 < 1 then (petrinetref40_term.j1 k x0 x2 true x275000 x275001 x275002 x275003 x275004 x276000 x276001 x276002) else (petrinetref40_term.j1 k x0 x2 (decide (x276001 > 5)) x275000 x275001 x275002 x275003 x275004 x276000 x276001 x276002))
def petrinetref40_term.j1 : Nat → List (S51) → Int → Bool → ByteArray → List (S48) → List (S62) → List (S111) → List (S111) → Int → Int → Int → Option (Int)
 | 0, _, _, _, _, _, _, _, _, _, _, _ => none
 | k + 1, x0, x2, x24, x275000, x275001, x275002, x275003, x275004, x276000, x276001, x276002 => if x24 = true then (some 12) else (if x276001 = 1 then (if x276002 < 0 then (some 1) else (if 0 ≤ x2 then (if x2 < (x0.length : Int) then (if x276002 ≥ (((rd_T51 x0 x2).f1).length : Int) then (some 1) else (some 0)) else (none)) else (none))) else (if x276001 = 5 then (if x276002 = 0 then (some 0) else (some 1)) else (if x276002 < 0 then (petrinetref40_term.j2 k x2 true x275000 x275001 x275002 x275003 x275004 x276000 x276001 x276002) else (petrinetref40_term.j2 k x2 (decide (x276002 ≥ (x275001.length : Int))) x275000 x275001 x275002 x275003 x275004 x276000 x276001 x276002))))
def petrinetref40_term.j2 : Nat → Int → Bool → ByteArray → List (S48) → List (S62) → List (S111) → List (S111) → Int → Int → Int → Option (Int)
 | 0, _, _, _, _, _, _, _, _, _, _ => none
 | k + 1, x2, x58, x275000, x275001, x275002, x275003, x275004, x276000, x276001, x276002 => if x58 = true then (some 1) else (if 0 ≤ x276002 then (if x276002 < (x275001.length : Int) then (if ((rd_T48 x275001 x276002).f1) = x2 then (some 0) else (some 17)) else (none)) else (none))
end
def petrinetref40_term.f (k : Nat) (l0 : List (S51)) (a1_0 : ByteArray) (l1_1 : List (S48)) (l1_2 : List (S62)) (l1_3 : List (S111)) (l1_4 : List (S111)) (a2 : Int) (a3_0 : Int) (a3_1 : Int) (a3_2 : Int) : Option (Int) := if a3_0 < 1 then (petrinetref40_term.j0 k l0 a2 true a1_0 l1_1 l1_2 l1_3 l1_4 a3_0 a3_1 a3_2) else (petrinetref40_term.j0 k l0 a2 (decide (a3_0 > 99)) a1_0 l1_1 l1_2 l1_3 l1_4 a3_0 a3_1 a3_2)
theorem petrinetref40_term.mono_l : ∀ k, (∀ y0 y1 y2 y3 y4 y5 y6 y7 y8 y9 y10, LeO (petrinetref40_term.j0 k y0 y1 y2 y3 y4 y5 y6 y7 y8 y9 y10) (petrinetref40_term.j0 (k + 1) y0 y1 y2 y3 y4 y5 y6 y7 y8 y9 y10)) ∧ (∀ y0 y1 y2 y3 y4 y5 y6 y7 y8 y9 y10, LeO (petrinetref40_term.j1 k y0 y1 y2 y3 y4 y5 y6 y7 y8 y9 y10) (petrinetref40_term.j1 (k + 1) y0 y1 y2 y3 y4 y5 y6 y7 y8 y9 y10)) ∧ (∀ y0 y1 y2 y3 y4 y5 y6 y7 y8 y9, LeO (petrinetref40_term.j2 k y0 y1 y2 y3 y4 y5 y6 y7 y8 y9) (petrinetref40_term.j2 (k + 1) y0 y1 y2 y3 y4 y5 y6 y7 y8 y9))
 | 0 => ⟨fun _ _ _ _ _ _ _ _ _ _ _ r h => by simp [petrinetref40_term.j0] at h, fun _ _ _ _ _ _ _ _ _ _ _ r h => by simp [petrinetref40_term.j1] at h, fun _ _ _ _ _ _ _ _ _ _ r h => by simp [petrinetref40_term.j2] at h⟩
 | k + 1 => by
  obtain ⟨ih0, ih1, ih2⟩ := petrinetref40_term.mono_l k
  refine ⟨?_, ?_, ?_⟩
  ·intro y0 y1 y2 y3 y4 y5 y6 y7 y8 y9 y10
   unfold petrinetref40_term.j0
   repeat' first
   | (with_reducible exact ih0 _ _ _ _ _ _ _ _ _ _ _)
   | (with_reducible exact ih1 _ _ _ _ _ _ _ _ _ _ _)
   | (with_reducible exact ih2 _ _ _ _ _ _ _ _ _ _)
   | (with_reducible exact LeO.refl _)
   | (with_reducible exact LeO.none _)
   | (with_reducible refine LeO.ite ?_ ?_)
   | (with_reducible refine LeO.bind ?_ (fun _ => ?_))
   | exact ih0 _ _ _ _ _ _ _ _ _ _ _
   | exact ih1 _ _ _ _ _ _ _ _ _ _ _
   | exact ih2 _ _ _ _ _ _ _ _ _ _
   | exact LeO.none _
   | refine LeO.ite ?_ ?_
   | refine LeO.bind ?_ (fun _ => ?_)
  ·intro y0 y1 y2 y3 y4 y5 y6 y7 y8 y9 y10
   unfold petrinetref40_term.j1
   repeat' first
   | (with_reducible exact ih0 _ _ _ _ _ _ _ _ _ _ _)
   | (with_reducible exact ih1 _ _ _ _ _ _ _ _ _ _ _)
   | (with_reducible exact ih2 _ _ _ _ _ _ _ _ _ _)
   | (with_reducible exact LeO.refl _)
   | (with_reducible exact LeO.none _)
   | (with_reducible refine LeO.ite ?_ ?_)
   | (with_reducible refine LeO.bind ?_ (fun _ => ?_))
   | exact ih0 _ _ _ _ _ _ _ _ _ _ _
   | exact ih1 _ _ _ _ _ _ _ _ _ _ _
   | exact ih2 _ _ _ _ _ _ _ _ _ _
   | exact LeO.none _
   | refine LeO.ite ?_ ?_
   | refine LeO.bind ?_ (fun _ => ?_)
  ·intro y0 y1 y2 y3 y4 y5 y6 y7 y8 y9
   unfold petrinetref40_term.j2
   repeat' first
   | (with_reducible exact ih0 _ _ _ _ _ _ _ _ _ _ _)
   | (with_reducible exact ih1 _ _ _ _ _ _ _ _ _ _ _)
   | (with_reducible exact ih2 _ _ _ _ _ _ _ _ _ _)
   | (with_reducible exact LeO.refl _)
   | (with_reducible exact LeO.none _)
   | (with_reducible refine LeO.ite ?_ ?_)
   | (with_reducible refine LeO.bind ?_ (fun _ => ?_))
   | exact ih0 _ _ _ _ _ _ _ _ _ _ _
   | exact ih1 _ _ _ _ _ _ _ _ _ _ _
   | exact ih2 _ _ _ _ _ _ _ _ _ _
   | exact LeO.none _
   | refine LeO.ite ?_ ?_
   | refine LeO.bind ?_ (fun _ => ?_)
theorem petrinetref40_term.mono : ∀ a0 a1 a2 a3 a4 a5 a6 a7 a8 a9 k, LeO (petrinetref40_term.f k a0 a1 a2 a3 a4 a5 a6 a7 a8 a9) (petrinetref40_term.f (k + 1) a0 a1 a2 a3 a4 a5 a6 a7 a8 a9) := by
 intro a0 a1 a2 a3 a4 a5 a6 a7 a8 a9 k
 obtain ⟨ih0, ih1, ih2⟩ := petrinetref40_term.mono_l k
 unfold petrinetref40_term.f
 repeat' first
   | (with_reducible exact ih0 _ _ _ _ _ _ _ _ _ _ _)
   | (with_reducible exact ih1 _ _ _ _ _ _ _ _ _ _ _)
   | (with_reducible exact ih2 _ _ _ _ _ _ _ _ _ _)
   | (with_reducible exact LeO.refl _)
   | (with_reducible exact LeO.none _)
   | (with_reducible refine LeO.ite ?_ ?_)
   | (with_reducible refine LeO.bind ?_ (fun _ => ?_))
   | exact ih0 _ _ _ _ _ _ _ _ _ _ _
   | exact ih1 _ _ _ _ _ _ _ _ _ _ _
   | exact ih2 _ _ _ _ _ _ _ _ _ _
   | exact LeO.none _
   | refine LeO.ite ?_ ?_
   | refine LeO.bind ?_ (fun _ => ?_)



/-! ### petrinetref40_CheckTerms: function 14 -/
mutual
def petrinetref40_CheckTerms.j0 : Nat → List (S51) → Int → List (S54) → Bool → ByteArray → List (S48) → List (S62) → List (S111) → List (S111) → Option (Int)
 | 0, _, _, _, _, _, _, _, _, _ => none
 | k + 1, x0, x2, x3, x25, x279000, x279001, x279002, x279003, x279004 => if x25 = true then (some 1) else (petrinetref40_CheckTerms.l0 k x0 x2 x3 0 x279000 x279001 x279002 x279003 x279004)
def petrinetref40_CheckTerms.l0 : Nat → List (S51) → Int → List (S54) → Int → ByteArray → List (S48) → List (S62) → List (S111) → List (S111) → Option (Int)
 | 0, _, _, _, _, _, _, _, _, _ => none
 | k + 1, x0, x2, x3, x10, x279000, x279001, x279002, x279003, x279004 => if x10 < (x3.length : Int) then (if 0 ≤ x10 then ((petrinetref40_term.f k x0 x279000 x279001 x279002 x279003 x279004 x2 ((rd_T54 x3 x10).f0) ((rd_T54 x3 x10).f1) ((rd_T54 x3 x10).f2)).bind fun t281 => (if t281 = 0 then (petrinetref40_CheckTerms.l0 k x0 x2 x3 (wrap64 (x10 + 1)) x279000 x279001 x279002 x279003 x279004) else (some t281))) else (none)) else (some 0)
end
def petrinetref40_CheckTerms.f (k : Nat) (l0 : List (S51)) (a1_0 : ByteArray) (l1_1 : List (S48)) (l1_2 : List (S62)) (l1_3 : List (S111)) (l1_4 : List (S111)) (a2 : Int) (l3 : List (S54)) : Option (Int) := (petrinetref40_Check.f k l0 a1_0 l1_1 l1_2 l1_3 l1_4).bind fun t279 => (if t279 = 0 then (if a2 < 0 then (petrinetref40_CheckTerms.j0 k l0 a2 l3 true a1_0 l1_1 l1_2 l1_3 l1_4) else (petrinetref40_CheckTerms.j0 k l0 a2 l3 (decide (a2 ≥ (l0.length : Int))) a1_0 l1_1 l1_2 l1_3 l1_4)) else (some t279))
theorem petrinetref40_CheckTerms.mono_l : ∀ k, (∀ y0 y1 y2 y3 y4 y5 y6 y7 y8, LeO (petrinetref40_CheckTerms.j0 k y0 y1 y2 y3 y4 y5 y6 y7 y8) (petrinetref40_CheckTerms.j0 (k + 1) y0 y1 y2 y3 y4 y5 y6 y7 y8)) ∧ (∀ y0 y1 y2 y3 y4 y5 y6 y7 y8, LeO (petrinetref40_CheckTerms.l0 k y0 y1 y2 y3 y4 y5 y6 y7 y8) (petrinetref40_CheckTerms.l0 (k + 1) y0 y1 y2 y3 y4 y5 y6 y7 y8))
 | 0 => ⟨fun _ _ _ _ _ _ _ _ _ r h => by simp [petrinetref40_CheckTerms.j0] at h, fun _ _ _ _ _ _ _ _ _ r h => by simp [petrinetref40_CheckTerms.l0] at h⟩
 | k + 1 => by
  obtain ⟨ih0, ih1⟩ := petrinetref40_CheckTerms.mono_l k
  refine ⟨?_, ?_⟩
  ·intro y0 y1 y2 y3 y4 y5 y6 y7 y8
   unfold petrinetref40_CheckTerms.j0
   repeat' first
   | (with_reducible exact ih0 _ _ _ _ _ _ _ _ _)
   | (with_reducible exact ih1 _ _ _ _ _ _ _ _ _)
   | (with_reducible exact petrinetref40_Check.mono _ _ _ _ _ _ _)
   | (with_reducible exact petrinetref40_term.mono _ _ _ _ _ _ _ _ _ _ _)
   | (with_reducible exact LeO.refl _)
   | (with_reducible exact LeO.none _)
   | (with_reducible refine LeO.ite ?_ ?_)
   | (with_reducible refine LeO.bind ?_ (fun _ => ?_))
   | exact ih0 _ _ _ _ _ _ _ _ _
   | exact ih1 _ _ _ _ _ _ _ _ _
   | exact petrinetref40_Check.mono _ _ _ _ _ _ _
   | exact petrinetref40_term.mono _ _ _ _ _ _ _ _ _ _ _
   | exact LeO.none _
   | refine LeO.ite ?_ ?_
   | refine LeO.bind ?_ (fun _ => ?_)
  ·intro y0 y1 y2 y3 y4 y5 y6 y7 y8
   unfold petrinetref40_CheckTerms.l0
   repeat' first
   | (with_reducible exact ih0 _ _ _ _ _ _ _ _ _)
   | (with_reducible exact ih1 _ _ _ _ _ _ _ _ _)
   | (with_reducible exact petrinetref40_Check.mono _ _ _ _ _ _ _)
   | (with_reducible exact petrinetref40_term.mono _ _ _ _ _ _ _ _ _ _ _)
   | (with_reducible exact LeO.refl _)
   | (with_reducible exact LeO.none _)
   | (with_reducible refine LeO.ite ?_ ?_)
   | (with_reducible refine LeO.bind ?_ (fun _ => ?_))
   | exact ih0 _ _ _ _ _ _ _ _ _
   | exact ih1 _ _ _ _ _ _ _ _ _
   | exact petrinetref40_Check.mono _ _ _ _ _ _ _
   | exact petrinetref40_term.mono _ _ _ _ _ _ _ _ _ _ _
   | exact LeO.none _
   | refine LeO.ite ?_ ?_
   | refine LeO.bind ?_ (fun _ => ?_)
theorem petrinetref40_CheckTerms.mono : ∀ a0 a1 a2 a3 a4 a5 a6 a7 k, LeO (petrinetref40_CheckTerms.f k a0 a1 a2 a3 a4 a5 a6 a7) (petrinetref40_CheckTerms.f (k + 1) a0 a1 a2 a3 a4 a5 a6 a7) := by
 intro a0 a1 a2 a3 a4 a5 a6 a7 k
 obtain ⟨ih0, ih1⟩ := petrinetref40_CheckTerms.mono_l k
 unfold petrinetref40_CheckTerms.f
 repeat' first
   | (with_reducible exact ih0 _ _ _ _ _ _ _ _ _)
   | (with_reducible exact ih1 _ _ _ _ _ _ _ _ _)
   | (with_reducible exact petrinetref40_Check.mono _ _ _ _ _ _ _)
   | (with_reducible exact petrinetref40_term.mono _ _ _ _ _ _ _ _ _ _ _)
   | (with_reducible exact LeO.refl _)
   | (with_reducible exact LeO.none _)
   | (with_reducible refine LeO.ite ?_ ?_)
   | (with_reducible refine LeO.bind ?_ (fun _ => ?_))
   | exact ih0 _ _ _ _ _ _ _ _ _
   | exact ih1 _ _ _ _ _ _ _ _ _
   | exact petrinetref40_Check.mono _ _ _ _ _ _ _
   | exact petrinetref40_term.mono _ _ _ _ _ _ _ _ _ _ _
   | exact LeO.none _
   | refine LeO.ite ?_ ?_
   | refine LeO.bind ?_ (fun _ => ?_)



/-! ### petrinetref40_Bound: function 40 -/
def petrinetref40_Bound.l0 : Nat → List (S51) → List Int → Int → ByteArray → List (S48) → List (S62) → List (S111) → List (S111) → Option (Bool)
 | 0, _, _, _, _, _, _, _, _ => none
 | k + 1, x0, x2, x7, x292000, x292001, x292002, x292003, x292004 => if x7 < (x2.length : Int) then (if 0 ≤ x7 then (if (rd x2 x7) < 0 then (some false) else (if x7 < (x292001.length : Int) then (if 0 ≤ ((rd_T48 x292001 x7).f1) then (if ((rd_T48 x292001 x7).f1) < (x0.length : Int) then (if (rd x2 x7) ≥ (((rd_T51 x0 ((rd_T48 x292001 x7).f1)).f1).length : Int) then (some false) else (petrinetref40_Bound.l0 k x0 x2 (wrap64 (x7 + 1)) x292000 x292001 x292002 x292003 x292004)) else (none)) else (none)) else (none))) else (none)) else (some true)
def petrinetref40_Bound.f (k : Nat) (l0 : List (S51)) (a1_0 : ByteArray) (l1_1 : List (S48)) (l1_2 : List (S62)) (l1_3 : List (S111)) (l1_4 : List (S111)) (l2 : List Int) : Option (Bool) := if (l2.length : Int) = (l1_1.length : Int) then (petrinetref40_Bound.l0 k l0 l2 0 a1_0 l1_1 l1_2 l1_3 l1_4) else (some false)
theorem petrinetref40_Bound.mono_l : ∀ k, (∀ y0 y1 y2 y3 y4 y5 y6 y7, LeO (petrinetref40_Bound.l0 k y0 y1 y2 y3 y4 y5 y6 y7) (petrinetref40_Bound.l0 (k + 1) y0 y1 y2 y3 y4 y5 y6 y7))
 | 0 => fun _ _ _ _ _ _ _ _ r h => by simp [petrinetref40_Bound.l0] at h
 | k + 1 => by
  have ih0 := petrinetref40_Bound.mono_l k
  ·intro y0 y1 y2 y3 y4 y5 y6 y7
   unfold petrinetref40_Bound.l0
   repeat' first
   | (with_reducible exact ih0 _ _ _ _ _ _ _ _)
   | (with_reducible exact LeO.refl _)
   | (with_reducible exact LeO.none _)
   | (with_reducible refine LeO.ite ?_ ?_)
   | (with_reducible refine LeO.bind ?_ (fun _ => ?_))
   | exact ih0 _ _ _ _ _ _ _ _
   | exact LeO.none _
   | refine LeO.ite ?_ ?_
   | refine LeO.bind ?_ (fun _ => ?_)
theorem petrinetref40_Bound.mono : ∀ a0 a1 a2 a3 a4 a5 a6 k, LeO (petrinetref40_Bound.f k a0 a1 a2 a3 a4 a5 a6) (petrinetref40_Bound.f (k + 1) a0 a1 a2 a3 a4 a5 a6) := by
 intro a0 a1 a2 a3 a4 a5 a6 k
 have ih0 := petrinetref40_Bound.mono_l k
 unfold petrinetref40_Bound.f
 repeat' first
   | (with_reducible exact ih0 _ _ _ _ _ _ _ _)
   | (with_reducible exact LeO.refl _)
   | (with_reducible exact LeO.none _)
   | (with_reducible refine LeO.ite ?_ ?_)
   | (with_reducible refine LeO.bind ?_ (fun _ => ?_))
   | exact ih0 _ _ _ _ _ _ _ _
   | exact LeO.none _
   | refine LeO.ite ?_ ?_
   | refine LeO.bind ?_ (fun _ => ?_)

/-! ### petrinetref39_Shift: function 52 -/
def petrinetref39_Shift.j0 : Nat → Int → Int → Int → Bool → Option (Int)
 | 0, _, _, _, _ => none
 | k + 1, x1, x2, x7, x17 => if x17 = true then (some (-1)) else (if x7 = 0 then (none) else (if (Int.tmod x2 x7) < 0 then (some (Int.tmod (wrap64 (x1 + (wrap64 ((Int.tmod x2 x7) + x7)))) x7)) else (some (Int.tmod (wrap64 (x1 + (Int.tmod x2 x7))) x7))))
def petrinetref39_Shift.f (k : Nat) (a0_0 : ByteArray) (l0_1 : List ByteArray) (a1 : Int) (a2 : Int) : Option (Int) := if a1 < 0 then (petrinetref39_Shift.j0 k a1 a2 (l0_1.length : Int) true) else (petrinetref39_Shift.j0 k a1 a2 (l0_1.length : Int) (decide (a1 ≥ (l0_1.length : Int))))
theorem petrinetref39_Shift.mono_l : ∀ k, (∀ y0 y1 y2 y3, LeO (petrinetref39_Shift.j0 k y0 y1 y2 y3) (petrinetref39_Shift.j0 (k + 1) y0 y1 y2 y3))
 | 0 => fun _ _ _ _ r h => by simp [petrinetref39_Shift.j0] at h
 | k + 1 => by
  have ih0 := petrinetref39_Shift.mono_l k
  ·intro y0 y1 y2 y3
   unfold petrinetref39_Shift.j0
   repeat' first
   | (with_reducible exact ih0 _ _ _ _)
   | (with_reducible exact LeO.refl _)
   | (with_reducible exact LeO.none _)
   | (with_reducible refine LeO.ite ?_ ?_)
   | (with_reducible refine LeO.bind ?_ (fun _ => ?_))
   | exact ih0 _ _ _ _
   | exact LeO.none _
   | refine LeO.ite ?_ ?_
   | refine LeO.bind ?_ (fun _ => ?_)
theorem petrinetref39_Shift.mono : ∀ a0 a1 a2 a3 k, LeO (petrinetref39_Shift.f k a0 a1 a2 a3) (petrinetref39_Shift.f (k + 1) a0 a1 a2 a3) := by
 intro a0 a1 a2 a3 k
 have ih0 := petrinetref39_Shift.mono_l k
 unfold petrinetref39_Shift.f
 repeat' first
   | (with_reducible exact ih0 _ _ _ _)
   | (with_reducible exact LeO.refl _)
   | (with_reducible exact LeO.none _)
   | (with_reducible refine LeO.ite ?_ ?_)
   | (with_reducible refine LeO.bind ?_ (fun _ => ?_))
   | exact ih0 _ _ _ _
   | exact LeO.none _
   | refine LeO.ite ?_ ?_
   | refine LeO.bind ?_ (fun _ => ?_)



/-! ### petrinetref40_color: function 41 -/
def petrinetref40_color.f (k : Nat) (a0_0 : ByteArray) (l0_1 : List ByteArray) (a1_0 : Int) (a1_1 : Int) (a1_2 : Int) (l2 : List Int) : Option (Int) := if a1_1 = 1 then (some a1_2) else (if a1_1 = 2 then (if 0 ≤ a1_2 then (if a1_2 < (l2.length : Int) then (some (rd l2 a1_2)) else (none)) else (none)) else (if a1_1 = 3 then (if 0 ≤ a1_2 then (if a1_2 < (l2.length : Int) then ((petrinetref39_Shift.f k a0_0 l0_1 (rd l2 a1_2) 1).bind fun t301 => (some t301)) else (none)) else (none)) else (if a1_1 = 4 then (if 0 ≤ a1_2 then (if a1_2 < (l2.length : Int) then ((petrinetref39_Shift.f k a0_0 l0_1 (rd l2 a1_2) (-1)).bind fun t303 => (some t303)) else (none)) else (none)) else (some (-1)))))
theorem petrinetref40_color.mono : ∀ a0 a1 a2 a3 a4 a5 k, LeO (petrinetref40_color.f k a0 a1 a2 a3 a4 a5) (petrinetref40_color.f (k + 1) a0 a1 a2 a3 a4 a5) := by
 intro a0 a1 a2 a3 a4 a5 k
 unfold petrinetref40_color.f
 repeat' first
   | (with_reducible exact petrinetref39_Shift.mono _ _ _ _ _)
   | (with_reducible exact LeO.refl _)
   | (with_reducible exact LeO.none _)
   | (with_reducible refine LeO.ite ?_ ?_)
   | (with_reducible refine LeO.bind ?_ (fun _ => ?_))
   | exact petrinetref39_Shift.mono _ _ _ _ _
   | exact LeO.none _
   | refine LeO.ite ?_ ?_
   | refine LeO.bind ?_ (fun _ => ?_)



/-! ### petrinetref40_Eval: function 16 -/
mutual
def petrinetref40_Eval.l0 : Nat → List (S51) → Int → List (S54) → List Int → List Int → Int → Option (List Int × Int)
 | 0, _, _, _, _, _, _ => none
 | k + 1, x0, x2, x3, x4, x13, x14 => if x14 < (x3.length : Int) then (if 0 ≤ x2 then (if x2 < (x0.length : Int) then (if 0 ≤ x14 then ((petrinetref40_color.f k ((rd_T51 x0 x2).f0) ((rd_T51 x0 x2).f1) ((rd_T54 x3 x14).f0) ((rd_T54 x3 x14).f1) ((rd_T54 x3 x14).f2) x4).bind fun t313 => (petrinetref40_Eval.l1 k x0 x2 x3 x4 x13 x14 t313 0)) else (none)) else (none)) else (none)) else (some (x13, 0))
def petrinetref40_Eval.l1 : Nat → List (S51) → Int → List (S54) → List Int → List Int → Int → Int → Int → Option (List Int × Int)
 | 0, _, _, _, _, _, _, _, _ => none
 | k + 1, x0, x2, x3, x4, x13, x14, x15, x16 => if x16 < (x13.length : Int) then (if x15 = (-1) then (petrinetref40_Eval.j2 k x0 x2 x3 x4 x13 x14 x15 x16 true) else (petrinetref40_Eval.j2 k x0 x2 x3 x4 x13 x14 x15 x16 (x15 == x16))) else (petrinetref40_Eval.l0 k x0 x2 x3 x4 x13 (wrap64 (x14 + 1)))
def petrinetref40_Eval.j2 : Nat → List (S51) → Int → List (S54) → List Int → List Int → Int → Int → Int → Bool → Option (List Int × Int)
 | 0, _, _, _, _, _, _, _, _, _ => none
 | k + 1, x0, x2, x3, x4, x13, x14, x15, x16, x65 => if x65 = true then (if 0 ≤ x16 then (if x16 < (x13.length : Int) then (if 0 ≤ x14 then (if x14 < (x3.length : Int) then (if (wrap64 ((rd x13 x16) + ((rd_T54 x3 x14).f0))) > 1048576 then (some (([] : List Int), 3)) else (petrinetref40_Eval.l1 k x0 x2 x3 x4 (x13.set (x16 : Int).toNat (wrap64 ((rd x13 x16) + ((rd_T54 x3 x14).f0)))) x14 x15 (wrap64 (x16 + 1)))) else (none)) else (none)) else (none)) else (none)) else (if 0 ≤ x16 then (if x16 < (x13.length : Int) then (if (rd x13 x16) > 1048576 then (some (([] : List Int), 3)) else (petrinetref40_Eval.l1 k x0 x2 x3 x4 x13 x14 x15 (wrap64 (x16 + 1)))) else (none)) else (none))
end
def petrinetref40_Eval.f (k : Nat) (l0 : List (S51)) (a1_0 : ByteArray) (l1_1 : List (S48)) (l1_2 : List (S62)) (l1_3 : List (S111)) (l1_4 : List (S111)) (a2 : Int) (l3 : List (S54)) (l4 : List Int) : Option (List Int × Int) := (petrinetref40_CheckTerms.f k l0 a1_0 l1_1 l1_2 l1_3 l1_4 a2 l3).bind fun t305 => (if t305 = 0 then ((petrinetref40_Bound.f k l0 a1_0 l1_1 l1_2 l1_3 l1_4 l4).bind fun t306 => (if t306 = true then (if 0 ≤ a2 then (if a2 < (l0.length : Int) then (if 0 ≤ (((rd_T51 l0 a2).f1).length : Int) then (if ((((rd_T51 l0 a2).f1).length : Int) : Int).toNat ≤ 35184372088832 then (petrinetref40_Eval.l0 k l0 a2 l3 l4 (List.replicate ((((rd_T51 l0 a2).f1).length : Int) : Int).toNat 0) 0) else (none)) else (none)) else (none)) else (none)) else (some (([] : List Int), 15)))) else (some (([] : List Int), t305)))
theorem petrinetref40_Eval.mono_l : ∀ k, (∀ y0 y1 y2 y3 y4 y5, LeO (petrinetref40_Eval.l0 k y0 y1 y2 y3 y4 y5) (petrinetref40_Eval.l0 (k + 1) y0 y1 y2 y3 y4 y5)) ∧ (∀ y0 y1 y2 y3 y4 y5 y6 y7, LeO (petrinetref40_Eval.l1 k y0 y1 y2 y3 y4 y5 y6 y7) (petrinetref40_Eval.l1 (k + 1) y0 y1 y2 y3 y4 y5 y6 y7)) ∧ (∀ y0 y1 y2 y3 y4 y5 y6 y7 y8, LeO (petrinetref40_Eval.j2 k y0 y1 y2 y3 y4 y5 y6 y7 y8) (petrinetref40_Eval.j2 (k + 1) y0 y1 y2 y3 y4 y5 y6 y7 y8))
 | 0 => ⟨fun _ _ _ _ _ _ r h => by simp [petrinetref40_Eval.l0] at h, fun _ _ _ _ _ _ _ _ r h => by simp [petrinetref40_Eval.l1] at h, fun _ _ _ _ _ _ _ _ _ r h => by simp [petrinetref40_Eval.j2] at h⟩
 | k + 1 => by
  obtain ⟨ih0, ih1, ih2⟩ := petrinetref40_Eval.mono_l k
  refine ⟨?_, ?_, ?_⟩
  ·intro y0 y1 y2 y3 y4 y5
   unfold petrinetref40_Eval.l0
   repeat' first
   | (with_reducible exact ih0 _ _ _ _ _ _)
   | (with_reducible exact ih1 _ _ _ _ _ _ _ _)
   | (with_reducible exact ih2 _ _ _ _ _ _ _ _ _)
   | (with_reducible exact petrinetref40_Bound.mono _ _ _ _ _ _ _ _)
   | (with_reducible exact petrinetref40_CheckTerms.mono _ _ _ _ _ _ _ _ _)
   | (with_reducible exact petrinetref40_color.mono _ _ _ _ _ _ _)
   | (with_reducible exact LeO.refl _)
   | (with_reducible exact LeO.none _)
   | (with_reducible refine LeO.ite ?_ ?_)
   | (with_reducible refine LeO.bind ?_ (fun _ => ?_))
   | exact ih0 _ _ _ _ _ _
   | exact ih1 _ _ _ _ _ _ _ _
   | exact ih2 _ _ _ _ _ _ _ _ _
   | exact petrinetref40_Bound.mono _ _ _ _ _ _ _ _
   | exact petrinetref40_CheckTerms.mono _ _ _ _ _ _ _ _ _
   | exact petrinetref40_color.mono _ _ _ _ _ _ _
   | exact LeO.none _
   | refine LeO.ite ?_ ?_
   | refine LeO.bind ?_ (fun _ => ?_)
  ·intro y0 y1 y2 y3 y4 y5 y6 y7
   unfold petrinetref40_Eval.l1
   repeat' first
   | (with_reducible exact ih0 _ _ _ _ _ _)
   | (with_reducible exact ih1 _ _ _ _ _ _ _ _)
   | (with_reducible exact ih2 _ _ _ _ _ _ _ _ _)
   | (with_reducible exact petrinetref40_Bound.mono _ _ _ _ _ _ _ _)
   | (with_reducible exact petrinetref40_CheckTerms.mono _ _ _ _ _ _ _ _ _)
   | (with_reducible exact petrinetref40_color.mono _ _ _ _ _ _ _)
   | (with_reducible exact LeO.refl _)
   | (with_reducible exact LeO.none _)
   | (with_reducible refine LeO.ite ?_ ?_)
   | (with_reducible refine LeO.bind ?_ (fun _ => ?_))
   | exact ih0 _ _ _ _ _ _
   | exact ih1 _ _ _ _ _ _ _ _
   | exact ih2 _ _ _ _ _ _ _ _ _
   | exact petrinetref40_Bound.mono _ _ _ _ _ _ _ _
   | exact petrinetref40_CheckTerms.mono _ _ _ _ _ _ _ _ _
   | exact petrinetref40_color.mono _ _ _ _ _ _ _
   | exact LeO.none _
   | refine LeO.ite ?_ ?_
   | refine LeO.bind ?_ (fun _ => ?_)
  ·intro y0 y1 y2 y3 y4 y5 y6 y7 y8
   unfold petrinetref40_Eval.j2
   repeat' first
   | (with_reducible exact ih0 _ _ _ _ _ _)
   | (with_reducible exact ih1 _ _ _ _ _ _ _ _)
   | (with_reducible exact ih2 _ _ _ _ _ _ _ _ _)
   | (with_reducible exact petrinetref40_Bound.mono _ _ _ _ _ _ _ _)
   | (with_reducible exact petrinetref40_CheckTerms.mono _ _ _ _ _ _ _ _ _)
   | (with_reducible exact petrinetref40_color.mono _ _ _ _ _ _ _)
   | (with_reducible exact LeO.refl _)
   | (with_reducible exact LeO.none _)
   | (with_reducible refine LeO.ite ?_ ?_)
   | (with_reducible refine LeO.bind ?_ (fun _ => ?_))
   | exact ih0 _ _ _ _ _ _
   | exact ih1 _ _ _ _ _ _ _ _
   | exact ih2 _ _ _ _ _ _ _ _ _
   | exact petrinetref40_Bound.mono _ _ _ _ _ _ _ _
   | exact petrinetref40_CheckTerms.mono _ _ _ _ _ _ _ _ _
   | exact petrinetref40_color.mono _ _ _ _ _ _ _
   | exact LeO.none _
   | refine LeO.ite ?_ ?_
   | refine LeO.bind ?_ (fun _ => ?_)
theorem petrinetref40_Eval.mono : ∀ a0 a1 a2 a3 a4 a5 a6 a7 a8 k, LeO (petrinetref40_Eval.f k a0 a1 a2 a3 a4 a5 a6 a7 a8) (petrinetref40_Eval.f (k + 1) a0 a1 a2 a3 a4 a5 a6 a7 a8) := by
 intro a0 a1 a2 a3 a4 a5 a6 a7 a8 k
 obtain ⟨ih0, ih1, ih2⟩ := petrinetref40_Eval.mono_l k
 unfold petrinetref40_Eval.f
 repeat' first
   | (with_reducible exact ih0 _ _ _ _ _ _)
   | (with_reducible exact ih1 _ _ _ _ _ _ _ _)
   | (with_reducible exact ih2 _ _ _ _ _ _ _ _ _)
   | (with_reducible exact petrinetref40_Bound.mono _ _ _ _ _ _ _ _)
   | (with_reducible exact petrinetref40_CheckTerms.mono _ _ _ _ _ _ _ _ _)
   | (with_reducible exact petrinetref40_color.mono _ _ _ _ _ _ _)
   | (with_reducible exact LeO.refl _)
   | (with_reducible exact LeO.none _)
   | (with_reducible refine LeO.ite ?_ ?_)
   | (with_reducible refine LeO.bind ?_ (fun _ => ?_))
   | exact ih0 _ _ _ _ _ _
   | exact ih1 _ _ _ _ _ _ _ _
   | exact ih2 _ _ _ _ _ _ _ _ _
   | exact petrinetref40_Bound.mono _ _ _ _ _ _ _ _
   | exact petrinetref40_CheckTerms.mono _ _ _ _ _ _ _ _ _
   | exact petrinetref40_color.mono _ _ _ _ _ _ _
   | exact LeO.none _
   | refine LeO.ite ?_ ?_
   | refine LeO.bind ?_ (fun _ => ?_)



/-! ### petrinetref04_Same: function 17 -/
def petrinetref04_Same.l0 : Nat → List Int → List Int → Int → Option (Bool)
 | 0, _, _, _ => none
 | k + 1, x0, x1, x5 => if x5 < (x0.length : Int) then (if 0 ≤ x5 then (if x5 < (x1.length : Int) then (if (rd x0 x5) = (rd x1 x5) then (petrinetref04_Same.l0 k x0 x1 (wrap64 (x5 + 1))) else (some false)) else (none)) else (none)) else (some true)
def petrinetref04_Same.f (k : Nat) (l0 : List Int) (l1 : List Int) : Option (Bool) := if (l0.length : Int) = (l1.length : Int) then (petrinetref04_Same.l0 k l0 l1 0) else (some false)
theorem petrinetref04_Same.mono_l : ∀ k, (∀ y0 y1 y2, LeO (petrinetref04_Same.l0 k y0 y1 y2) (petrinetref04_Same.l0 (k + 1) y0 y1 y2))
 | 0 => fun _ _ _ r h => by simp [petrinetref04_Same.l0] at h
 | k + 1 => by
  have ih0 := petrinetref04_Same.mono_l k
  ·intro y0 y1 y2
   unfold petrinetref04_Same.l0
   repeat' first
   | (with_reducible exact ih0 _ _ _)
   | (with_reducible exact LeO.refl _)
   | (with_reducible exact LeO.none _)
   | (with_reducible refine LeO.ite ?_ ?_)
   | (with_reducible refine LeO.bind ?_ (fun _ => ?_))
   | exact ih0 _ _ _
   | exact LeO.none _
   | refine LeO.ite ?_ ?_
   | refine LeO.bind ?_ (fun _ => ?_)
theorem petrinetref04_Same.mono : ∀ a0 a1 k, LeO (petrinetref04_Same.f k a0 a1) (petrinetref04_Same.f (k + 1) a0 a1) := by
 intro a0 a1 k
 have ih0 := petrinetref04_Same.mono_l k
 unfold petrinetref04_Same.f
 repeat' first
   | (with_reducible exact ih0 _ _ _)
   | (with_reducible exact LeO.refl _)
   | (with_reducible exact LeO.none _)
   | (with_reducible refine LeO.ite ?_ ?_)
   | (with_reducible refine LeO.bind ?_ (fun _ => ?_))
   | exact ih0 _ _ _
   | exact LeO.none _
   | refine LeO.ite ?_ ?_
   | refine LeO.bind ?_ (fun _ => ?_)
set_option maxHeartbeats 8000000 in
set_option maxRecDepth 100000 in
theorem petrinetref04_Same.calls (k : Nat) (A0 : Option Addr) (c0 : Nat) (l0 : List Int) (A1 : Option Addr) (c1 : Nat) (l1 : List Int) (r : Bool) (w : World) (hr0 : Kd.C (Kd.int .i64) w A0 l0.length l0) (hc0 : l0.length ≤ c0) (hr1 : Kd.C (Kd.int .i64) w A1 l1.length l1) (hc1 : l1.length ≤ c1) (h : petrinetref04_Same.f k l0 l1 = some r) :
  Calls Try.prog 17 #[.slice A0 l0.length c0, .slice A1 l1.length c1] w fun e w' => e = .returned (.bool r) ∧ Drawn0 w w' := by
 have HR0 := Aside0.mk hr0
 have HC0 := Aside0.mk hc0
 clear hr0 hc0
 have HR1 := Aside0.mk hr1
 have HC1 := Aside0.mk hc1
 clear hr1 hc1
 have H : (if (l0.length : Int) = (l1.length : Int) then (petrinetref04_Same.l0 k l0 l1 0) else (some false)) = some r := h
 clear h
 by_cases c3 : (l0.length : Int) = (l1.length : Int)
 ·rw [if_pos c3] at H
  have c3b0 : ((l0.length : Int) == (l1.length : Int)) = true := beq_iff_eq.mpr c3
  have c3b1 : ((l0.length : Int) != (l1.length : Int)) = false := bne_eq_false_iff_eq.mpr c3
  have c3b2 : (l0.length == l1.length) = true := by first | simpa using c3 | (simp at c3 ⊢; omega)
  clear c3
  have H' := Aside0.mk H
  clear H
  go_enter Try.func17, Try.ntmps17
  go_wp2
  repeat (go_quiet (fail); try go_wp2)
  go_loopg [5] k (fun kq v5 w' => ∃ (x5_1 : Int), v5 = .int .i64 x5_1 ∧ Aside0 (petrinetref04_Same.l0 kq l0 l1 x5_1 = some r) ∧ Aside0 (kq ≤ k) ∧ Drawn0 w w')
  case atStart => exact ⟨(0), (by first | rfl | (simp; done) | (simp [*]; done) | (simp [i64_w]; done)), H', ⟨Nat.le_refl _⟩, by repeat (first | exact Drawn0.refl _ | apply Drawn0.step)⟩
  case round =>
   clear H'
   try clear c1
   try clear p2
   try clear c3
   try clear c3b0
   try clear c3b1
   try clear c3b2
   obtain ⟨x5_1, rfl, HA, HK1, ⟨m1, rfl⟩⟩ := hrel
   cases gk with
   | zero => exact absurd HA.out (by simp [petrinetref04_Same.l0])
   | succ k1 =>
    have H := HA.out
    clear HA
    simp only [petrinetref04_Same.l0] at H
    by_cases c4 : x5_1 < (l0.length : Int)
    ·rw [if_pos c4] at H
     have c4b0 : decide (x5_1 < (l0.length : Int)) = true := decide_eq_true c4
     clear c4
     by_cases c5 : 0 ≤ x5_1
     ·rw [if_pos c5] at H
      have c5b0 : decide (0 ≤ x5_1) = true := decide_eq_true c5
      clear c5
      by_cases c6 : x5_1 < (l1.length : Int)
      ·rw [if_pos c6] at H
       have c6b0 : decide (x5_1 < (l1.length : Int)) = true := decide_eq_true c6
       clear c6
       by_cases c7 : (rd l0 x5_1) = (rd l1 x5_1)
       ·rw [if_pos c7] at H
        have c7b0 : ((rd l0 x5_1) == (rd l1 x5_1)) = true := beq_iff_eq.mpr c7
        have c7b1 : ((rd l0 x5_1) != (rd l1 x5_1)) = false := bne_eq_false_iff_eq.mpr c7
        clear c7
        have H' := Aside0.mk H
        clear H
        have p319 : 0 ≤ (x5_1 : Int) := of_decide_eq_true (by first | (with_reducible assumption) | assumption)
        have q319 : x5_1 < (l0.length : Int) := of_decide_eq_true (by first | (with_reducible assumption) | assumption)
        obtain ⟨ad319, e319, hx319_0⟩ := Kd.at_int HR0.out x5_1 p319 q319
        cases e319
        replace p319 := eq_true p319
        replace q319 := eq_true q319
        have p320 : 0 ≤ (x5_1 : Int) := of_decide_eq_true (by first | (with_reducible assumption) | assumption)
        have q320 : x5_1 < (l1.length : Int) := of_decide_eq_true (by first | (with_reducible assumption) | assumption)
        obtain ⟨ad320, e320, hx320_0⟩ := Kd.at_int HR1.out x5_1 p320 q320
        cases e320
        replace p320 := eq_true p320
        replace q320 := eq_true q320
        go_wp2
        repeat (go_quiet (fail); try go_wp2)
        go_roundg k1
        case measure => have := HK1.out; omega
        case rel => exact ⟨(wrap64 (x5_1 + 1)), (by first | rfl | (simp; done) | (simp [*]; done) | (simp [i64_w]; done)), H', ⟨by have := HK1.out; omega⟩, by repeat (first | exact Drawn0.refl _ | apply Drawn0.step)⟩
       ·rw [if_neg c7] at H
        have c7b0 : ((rd l0 x5_1) == (rd l1 x5_1)) = false := beq_eq_false_iff_ne.mpr c7
        have c7b1 : ((rd l0 x5_1) != (rd l1 x5_1)) = true := bne_iff_ne.mpr c7
        obtain rfl := Option.some.inj H
        have p319 : 0 ≤ (x5_1 : Int) := of_decide_eq_true (by first | (with_reducible assumption) | assumption)
        have q319 : x5_1 < (l0.length : Int) := of_decide_eq_true (by first | (with_reducible assumption) | assumption)
        obtain ⟨ad319, e319, hx319_0⟩ := Kd.at_int HR0.out x5_1 p319 q319
        cases e319
        replace p319 := eq_true p319
        replace q319 := eq_true q319
        have p320 : 0 ≤ (x5_1 : Int) := of_decide_eq_true (by first | (with_reducible assumption) | assumption)
        have q320 : x5_1 < (l1.length : Int) := of_decide_eq_true (by first | (with_reducible assumption) | assumption)
        obtain ⟨ad320, e320, hx320_0⟩ := Kd.at_int HR1.out x5_1 p320 q320
        cases e320
        replace p320 := eq_true p320
        replace q320 := eq_true q320
        go_wp2
        repeat (go_quiet (fail); try go_wp2)
        go_ret
        exact ⟨by first | rfl | (simp; done) | (simp [*]; done), by repeat (first | exact Drawn0.refl _ | apply Drawn0.step)⟩
      ·rw [if_neg c6] at H
       exact absurd H (by simp)
     ·rw [if_neg c5] at H
      exact absurd H (by simp)
    ·rw [if_neg c4] at H
     have c4b0 : decide (x5_1 < (l0.length : Int)) = false := decide_eq_false c4
     clear c4
     obtain rfl := Option.some.inj H
     go_wp2
     repeat (go_quiet (fail); try go_wp2)
     go_ret
     exact ⟨by first | rfl | (simp; done) | (simp [*]; done), by repeat (first | exact Drawn0.refl _ | apply Drawn0.step)⟩
 ·rw [if_neg c3] at H
  have c3b0 : ((l0.length : Int) == (l1.length : Int)) = false := beq_eq_false_iff_ne.mpr c3
  have c3b1 : ((l0.length : Int) != (l1.length : Int)) = true := bne_iff_ne.mpr c3
  have c3b2 : (l0.length == l1.length) = false := by first | simpa using c3 | (simp at c3 ⊢; omega)
  obtain rfl := Option.some.inj H
  go_enter Try.func17, Try.ntmps17
  go_wp2
  repeat (go_quiet (fail); try go_wp2)
  go_ret
  exact ⟨by first | rfl | (simp; done) | (simp [*]; done), by repeat (first | exact Drawn0.refl _ | apply Drawn0.step)⟩




section
-- STUBBED 19
/-! ### petrinetref40_Holds: function 19: by hand -/
open Go.Proofs.Ytapkjfnfkalibaa.Iter

def petrinetref40_Holds.f (k : Nat) (x : List S51) (a1 : ByteArray) (b1 : List S48) (c1 : List S62) (d1 : List S111) (e1 : List S111) (l2 : List Int) : Option Bool := (petrinetref40_Check.f k x a1 b1 c1 d1 e1).bind fun e => if e = 0 then (petrinetref40_Bound.f k x a1 b1 c1 d1 e1 l2).bind fun b => if b = true then (if c1.length ≤ 1000 then holdsGo l2 c1 else none) else some false else some false
theorem petrinetref40_Holds.mono (x : List S51) (a1 : ByteArray) (b1 : List S48) (c1 : List S62) (d1 : List S111) (e1 : List S111) (l2 : List Int) (k : Nat) : LeO (petrinetref40_Holds.f k x a1 b1 c1 d1 e1 l2) (petrinetref40_Holds.f (k + 1) x a1 b1 c1 d1 e1 l2) := by
  unfold petrinetref40_Holds.f
  exact LeO.bind (petrinetref40_Check.mono _ _ _ _ _ _ _) fun e => LeO.ite (LeO.bind (petrinetref40_Bound.mono _ _ _ _ _ _ _ _) fun b => LeO.refl _) (LeO.refl _)
theorem rh5 {W : World} {g : Nat} {t : TypeId} {x y z u v : Value} (h : Blk W g t [x, y, z, u, v]) : W.cell? ⟨g, 1, none⟩ = some y ∧ W.cell? ⟨g, 2, none⟩ = some z := by
  refine ⟨?_, ?_⟩ <;> simp [World.cell?, show W.heap[g]? = _ from h]
theorem rh5all {W : World} {g : Nat} {t : TypeId} {x y z u v : Value} (h : Blk W g t [x, y, z, u, v]) : W.cell? ⟨g, 0, none⟩ = some x ∧ W.cell? ⟨g, 1, none⟩ = some y ∧ W.cell? ⟨g, 2, none⟩ = some z ∧ W.cell? ⟨g, 3, none⟩ = some u ∧ W.cell? ⟨g, 4, none⟩ = some v := by
  refine ⟨?_, ?_, ?_, ?_, ?_⟩ <;> simp [World.cell?, show W.heap[g]? = _ from h]

end







/-! ### petrinetref40_Colors: function 22 -/
def petrinetref40_Colors.l0 : Nat → List (S51) → Int → Int → ByteArray → List (S48) → List (S62) → List (S111) → List (S111) → Option (Int)
 | 0, _, _, _, _, _, _, _, _ => none
 | k + 1, x0, x5, x6, x353000, x353001, x353002, x353003, x353004 => if x6 < (x353001.length : Int) then (if 0 ≤ x6 then (if 0 ≤ ((rd_T48 x353001 x6).f1) then (if ((rd_T48 x353001 x6).f1) < (x0.length : Int) then (petrinetref40_Colors.l0 k x0 (wrap64 (x5 * (((rd_T51 x0 ((rd_T48 x353001 x6).f1)).f1).length : Int))) (wrap64 (x6 + 1)) x353000 x353001 x353002 x353003 x353004) else (none)) else (none)) else (none)) else (some x5)
def petrinetref40_Colors.f (k : Nat) (l0 : List (S51)) (a1_0 : ByteArray) (l1_1 : List (S48)) (l1_2 : List (S62)) (l1_3 : List (S111)) (l1_4 : List (S111)) : Option (Int) := petrinetref40_Colors.l0 k l0 1 0 a1_0 l1_1 l1_2 l1_3 l1_4
theorem petrinetref40_Colors.mono_l : ∀ k, (∀ y0 y1 y2 y3 y4 y5 y6 y7, LeO (petrinetref40_Colors.l0 k y0 y1 y2 y3 y4 y5 y6 y7) (petrinetref40_Colors.l0 (k + 1) y0 y1 y2 y3 y4 y5 y6 y7))
 | 0 => fun _ _ _ _ _ _ _ _ r h => by simp [petrinetref40_Colors.l0] at h
 | k + 1 => by
  have ih0 := petrinetref40_Colors.mono_l k
  ·intro y0 y1 y2 y3 y4 y5 y6 y7
   unfold petrinetref40_Colors.l0
   repeat' first
   | (with_reducible exact ih0 _ _ _ _ _ _ _ _)
   | (with_reducible exact LeO.refl _)
   | (with_reducible exact LeO.none _)
   | (with_reducible refine LeO.ite ?_ ?_)
   | (with_reducible refine LeO.bind ?_ (fun _ => ?_))
   | exact ih0 _ _ _ _ _ _ _ _
   | exact LeO.none _
   | refine LeO.ite ?_ ?_
   | refine LeO.bind ?_ (fun _ => ?_)
theorem petrinetref40_Colors.mono : ∀ a0 a1 a2 a3 a4 a5 k, LeO (petrinetref40_Colors.f k a0 a1 a2 a3 a4 a5) (petrinetref40_Colors.f (k + 1) a0 a1 a2 a3 a4 a5) := by
 intro a0 a1 a2 a3 a4 a5 k
 have ih0 := petrinetref40_Colors.mono_l k
 unfold petrinetref40_Colors.f
 repeat' first
   | (with_reducible exact ih0 _ _ _ _ _ _ _ _)
   | (with_reducible exact LeO.refl _)
   | (with_reducible exact LeO.none _)
   | (with_reducible refine LeO.ite ?_ ?_)
   | (with_reducible refine LeO.bind ?_ (fun _ => ?_))
   | exact ih0 _ _ _ _ _ _ _ _
   | exact LeO.none _
   | refine LeO.ite ?_ ?_
   | refine LeO.bind ?_ (fun _ => ?_)

end Go.Proofs.Ytapkjfnfkalibaa.Pr
