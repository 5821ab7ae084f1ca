/- Functions that the statement reaches: what each answers, and that the program answers it (written by a program of this work). -/
import Derived.Test.YtapkjfnfkalibaaProg
import Derived.Below
import Derived.Deep.Draws
import Derived.Deep.AppendLies
import Derived.Maps.AppendAt
import Derived.OwnWalk
import Derived.Laws.BytesArg
import Derived.Laws.MakeOwn
import Derived.Laws.OwnMore
import Derived.Deep.OwnRows
import Derived.Tactics
import Derived.Lib.ConvBytes
import Derived.Laws.Slices
import Derived.WalkKit
import Derived.KernelRfl
import Derived.RowKit3
import Derived.Deep.LoopGhost
import Derived.Deep.QuietTactic
import Derived.BigQuiet
import Derived.WideLaws
import Derived.Deep.DeepCutAuto
import Derived.Deep.CutBlock
import Derived.Deep.RegionHeld3
import Derived.Laws.Rows
import Derived.Lib.AppendStr
import Derived.ArgAppend
import Derived.Laws.IdiomCopy
import Derived.OrdersHeld
import Derived.Laws.BitsLemmas
import Derived.RowKit
import Derived.WalkMore
import Derived.Test.YtapkjfnfkalibaaVBindingTerms
import Derived.Test.YtapkjfnfkalibaaQBindingTerms0
import Derived.Test.YtapkjfnfkalibaaQBindingTerms1
import Derived.Test.YtapkjfnfkalibaaQBindingTerms2
namespace Go.Proofs.Ytapkjfnfkalibaa.Pr
open Go.RowKit Go.Proofs.YtapkjfnfkalibaaW.PrintWords Go.Proofs.YtapkjfnfkalibaaW.PrintLast Go.Proofs.YtapkjfnfkalibaaW.PrintMore
attribute [local go_sem] Instr.field asAgg
attribute [local go_sem] max2_int min2_int max_two min_two max_three min_three max_four min_four   -- for this text's walks alone
set_option linter.unusedVariables false
set_option linter.unusedSimpArgs false
/-! ### l40_BindingTerms: function 8 -/
mutual
def l40_BindingTerms.j0 : Nat → List (S51) → Int → Bool → ByteArray → List (S48) → List (S62) → List (S111) → List (S111) → Option (Bool)
 | 0, _, _, _, _, _, _, _, _ => none
 | k + 1, x0, x2, x46, x451000, x451001, x451002, x451003, x451004 => if x46 = true then (some true) else (if 0 < (x451001.length : Int) then (if 1 ≤ (x451001.length : Int) then ((some (x451001.take 1 : List (S48))).bind fun y455 => (if ((rd_T48 x451001 0).f1) < 0 then (l40_BindingTerms.j1 k x0 x2 ((rd_T48 x451001 0).f1) true (⟨#[]⟩ : ByteArray) y455) else (l40_BindingTerms.j1 k x0 x2 ((rd_T48 x451001 0).f1) (decide (((rd_T48 x451001 0).f1) ≥ (x0.length : Int))) (⟨#[]⟩ : ByteArray) y455))) else (none)) else (none))
def l40_BindingTerms.j1 : Nat → List (S51) → Int → Int → Bool → ByteArray → List (S48) → Option (Bool)
 | 0, _, _, _, _, _, _ => none
 | k + 1, x0, x2, x7, x63, x460000, x460001 => if x63 = true then (none) else (if 0 ≤ x7 then (if x7 < (x0.length : Int) then (l40_BindingTerms.l0 k x0 x2 x7 (((rd_T51 x0 x7).f1).length : Int) 0 x460000 x460001) else (none)) else (none))
def l40_BindingTerms.l0 : Nat → List (S51) → Int → Int → Int → Int → ByteArray → List (S48) → Option (Bool)
 | 0, _, _, _, _, _, _, _ => none
 | k + 1, x0, x2, x7, x9, x10, x460000, x460001 => if x10 < x9 then ((some (([x10] : List Int) : List Int)).bind fun y461 => ((binding_Eval.f k x0 x460000 x460001 ([] : List (S62)) ([] : List (S111)) ([] : List (S111)) x7 (([(⟨x2, 2, 0⟩ : S54)] : List (S54))) y461).bind fun bt467 => ((binding_Eval.f k x0 x460000 x460001 ([] : List (S62)) ([] : List (S111)) ([] : List (S111)) x7 (([(⟨x2, 3, 0⟩ : S54)] : List (S54))) y461).bind fun bt474 => ((binding_Eval.f k x0 x460000 x460001 ([] : List (S62)) ([] : List (S111)) ([] : List (S111)) x7 (([(⟨x2, 4, 0⟩ : S54)] : List (S54))) y461).bind fun bt481 => ((binding_Eval.f k x0 x460000 x460001 ([] : List (S62)) ([] : List (S111)) ([] : List (S111)) x7 (([(⟨x2, 5, 0⟩ : S54)] : List (S54))) y461).bind fun bt488 => (if bt467.2 = 0 then (if bt474.2 = 0 then (if bt481.2 = 0 then (if bt488.2 = 0 then (if (bt467.1.length : Int) = x9 then (if (bt474.1.length : Int) = x9 then (if (bt481.1.length : Int) = x9 then (l40_BindingTerms.j3 k x0 x2 x7 x9 x10 bt467.1 bt474.1 bt481.1 bt488.1 ((bt488.1.length : Int) != x9) x460000 x460001) else (l40_BindingTerms.j3 k x0 x2 x7 x9 x10 bt467.1 bt474.1 bt481.1 bt488.1 true x460000 x460001)) else (l40_BindingTerms.j3 k x0 x2 x7 x9 x10 bt467.1 bt474.1 bt481.1 bt488.1 true x460000 x460001)) else (l40_BindingTerms.j3 k x0 x2 x7 x9 x10 bt467.1 bt474.1 bt481.1 bt488.1 true x460000 x460001)) else (l40_BindingTerms.j3 k x0 x2 x7 x9 x10 bt467.1 bt474.1 bt481.1 bt488.1 true x460000 x460001)) else (l40_BindingTerms.j3 k x0 x2 x7 x9 x10 bt467.1 bt474.1 bt481.1 bt488.1 true x460000 x460001)) else (l40_BindingTerms.j3 k x0 x2 x7 x9 x10 bt467.1 bt474.1 bt481.1 bt488.1 true x460000 x460001)) else (l40_BindingTerms.j3 k x0 x2 x7 x9 x10 bt467.1 bt474.1 bt481.1 bt488.1 true x460000 x460001))))))) else (some true)
def l40_BindingTerms.j3 : Nat → List (S51) → Int → Int → Int → Int → List Int → List Int → List Int → List Int → Bool → ByteArray → List (S48) → Option (Bool)
 | 0, _, _, _, _, _, _, _, _, _, _, _, _ => none
 | k + 1, x0, x2, x7, x9, x10, x12, x14, x16, x18, x158, x460000, x460001 => if x158 = true then (none) else (l40_BindingTerms.l1 k x0 x2 x7 x9 x10 x12 x14 x16 x18 0 x460000 x460001)
def l40_BindingTerms.l1 : Nat → List (S51) → Int → Int → Int → Int → List Int → List Int → List Int → List Int → Int → ByteArray → List (S48) → Option (Bool)
 | 0, _, _, _, _, _, _, _, _, _, _, _, _ => none
 | k + 1, x0, x2, x7, x9, x10, x12, x14, x16, x18, x20, x460000, x460001 => if x20 < x9 then (if 0 ≤ x20 then (if x20 < (x18.length : Int) then (if (rd x18 x20) = x2 then (if x20 < (x12.length : Int) then (if (((rd x12 x20) == x2) != (x20 == x10)) = true then (none) else (if x20 < (x14.length : Int) then (if x9 = 0 then (none) else (if (((rd x14 x20) == x2) != (x20 == (Int.tmod (wrap64 (x10 + 1)) x9))) = true then (none) else (if x20 < (x16.length : Int) then (if (((rd x16 x20) == x2) != (x10 == (Int.tmod (wrap64 (x20 + 1)) x9))) = true then (none) else (if (rd x12 x20) = 0 then (if (rd x14 x20) = 0 then (if (rd x16 x20) = 0 then (l40_BindingTerms.l1 k x0 x2 x7 x9 x10 x12 x14 x16 x18 (wrap64 (x20 + 1)) x460000 x460001) else (if (rd x16 x20) = x2 then (l40_BindingTerms.l1 k x0 x2 x7 x9 x10 x12 x14 x16 x18 (wrap64 (x20 + 1)) x460000 x460001) else (none))) else (if (rd x14 x20) = x2 then (if (rd x16 x20) = 0 then (l40_BindingTerms.l1 k x0 x2 x7 x9 x10 x12 x14 x16 x18 (wrap64 (x20 + 1)) x460000 x460001) else (if (rd x16 x20) = x2 then (l40_BindingTerms.l1 k x0 x2 x7 x9 x10 x12 x14 x16 x18 (wrap64 (x20 + 1)) x460000 x460001) else (none))) else (none))) else (if (rd x12 x20) = x2 then (if (rd x14 x20) = 0 then (if (rd x16 x20) = 0 then (l40_BindingTerms.l1 k x0 x2 x7 x9 x10 x12 x14 x16 x18 (wrap64 (x20 + 1)) x460000 x460001) else (if (rd x16 x20) = x2 then (l40_BindingTerms.l1 k x0 x2 x7 x9 x10 x12 x14 x16 x18 (wrap64 (x20 + 1)) x460000 x460001) else (none))) else (if (rd x14 x20) = x2 then (if (rd x16 x20) = 0 then (l40_BindingTerms.l1 k x0 x2 x7 x9 x10 x12 x14 x16 x18 (wrap64 (x20 + 1)) x460000 x460001) else (if (rd x16 x20) = x2 then (l40_BindingTerms.l1 k x0 x2 x7 x9 x10 x12 x14 x16 x18 (wrap64 (x20 + 1)) x460000 x460001) else (none))) else (none))) else (none)))) else (none)))) else (none))) else (none)) else (none)) else (none)) else (none)) else (l40_BindingTerms.l0 k x0 x2 x7 x9 (wrap64 (x10 + 1)) x460000 x460001)
end
def l40_BindingTerms.f (k : Nat) (l0 : List (S51)) (a1_0 : ByteArray) (l1_1 : List (S48)) (l1_2 : List (S62)) (l1_3 : List (S111)) (l1_4 : List (S111)) (a2 : Int) : Option (Bool) := (l40_lives.f k).bind fun t451 => (if t451 = true then ((r40_Few.f k l0 a1_0 l1_1 l1_2 l1_3 l1_4).bind fun t452 => (if t452 = true then ((binding_Check.f l0 a1_0 l1_1 l1_2 l1_3 l1_4).bind fun t453 => (if t453 = 0 then (if (l1_1.length : Int) = 0 then (l40_BindingTerms.j0 k l0 a2 true a1_0 l1_1 l1_2 l1_3 l1_4) else (if a2 < 1 then (l40_BindingTerms.j0 k l0 a2 true a1_0 l1_1 l1_2 l1_3 l1_4) else (l40_BindingTerms.j0 k l0 a2 (decide (a2 > 99)) a1_0 l1_1 l1_2 l1_3 l1_4))) else (l40_BindingTerms.j0 k l0 a2 true a1_0 l1_1 l1_2 l1_3 l1_4))) else (l40_BindingTerms.j0 k l0 a2 true a1_0 l1_1 l1_2 l1_3 l1_4))) else (none))
theorem l40_BindingTerms.mono_l : ∀ k, (∀ y0 y1 y2 y3 y4 y5 y6 y7, LeO (l40_BindingTerms.j0 k y0 y1 y2 y3 y4 y5 y6 y7) (l40_BindingTerms.j0 (k + 1) y0 y1 y2 y3 y4 y5 y6 y7)) ∧ (∀ y0 y1 y2 y3 y4 y5, LeO (l40_BindingTerms.j1 k y0 y1 y2 y3 y4 y5) (l40_BindingTerms.j1 (k + 1) y0 y1 y2 y3 y4 y5)) ∧ (∀ y0 y1 y2 y3 y4 y5 y6, LeO (l40_BindingTerms.l0 k y0 y1 y2 y3 y4 y5 y6) (l40_BindingTerms.l0 (k + 1) y0 y1 y2 y3 y4 y5 y6)) ∧ (∀ y0 y1 y2 y3 y4 y5 y6 y7 y8 y9 y10 y11, LeO (l40_BindingTerms.j3 k y0 y1 y2 y3 y4 y5 y6 y7 y8 y9 y10 y11) (l40_BindingTerms.j3 (k + 1) y0 y1 y2 y3 y4 y5 y6 y7 y8 y9 y10 y11)) ∧ (∀ y0 y1 y2 y3 y4 y5 y6 y7 y8 y9 y10 y11, LeO (l40_BindingTerms.l1 k y0 y1 y2 y3 y4 y5 y6 y7 y8 y9 y10 y11) (l40_BindingTerms.l1 (k + 1) y0 y1 y2 y3 y4 y5 y6 y7 y8 y9 y10 y11))
 | 0 => ⟨fun _ _ _ _ _ _ _ _ r h => by simp [l40_BindingTerms.j0] at h, fun _ _ _ _ _ _ r h => by simp [l40_BindingTerms.j1] at h, fun _ _ _ _ _ _ _ r h => by simp [l40_BindingTerms.l0] at h, fun _ _ _ _ _ _ _ _ _ _ _ _ r h => by simp [l40_BindingTerms.j3] at h, fun _ _ _ _ _ _ _ _ _ _ _ _ r h => by simp [l40_BindingTerms.l1] at h⟩
 | k + 1 => by
  obtain ⟨ih0, ih1, ih2, ih3, ih4⟩ := l40_BindingTerms.mono_l k
  refine ⟨?_, ?_, ?_, ?_, ?_⟩
  ·intro y0 y1 y2 y3 y4 y5 y6 y7
   unfold l40_BindingTerms.j0
   repeat' first
   | (with_reducible first | exact ih0 _ _ _ _ _ _ _ _ | exact ih1 _ _ _ _ _ _ | exact ih2 _ _ _ _ _ _ _ | exact ih3 _ _ _ _ _ _ _ _ _ _ _ _ | exact ih4 _ _ _ _ _ _ _ _ _ _ _ _ | exact binding_Eval.mono _ _ _ _ _ _ _ _ _ _ | exact l40_lives.mono _ | exact r40_Few.mono _ _ _ _ _ _ _ | exact LeO.refl _ | exact LeO.none _ | refine LeO.ite ?_ ?_ | refine LeO.bind ?_ (fun _ => ?_))
   | exact LeO.none _
   | refine LeO.ite ?_ ?_
   | refine LeO.bind ?_ (fun _ => ?_)
  ·intro y0 y1 y2 y3 y4 y5
   unfold l40_BindingTerms.j1
   repeat' first
   | (with_reducible first | exact ih0 _ _ _ _ _ _ _ _ | exact ih1 _ _ _ _ _ _ | exact ih2 _ _ _ _ _ _ _ | exact ih3 _ _ _ _ _ _ _ _ _ _ _ _ | exact ih4 _ _ _ _ _ _ _ _ _ _ _ _ | exact binding_Eval.mono _ _ _ _ _ _ _ _ _ _ | exact l40_lives.mono _ | exact r40_Few.mono _ _ _ _ _ _ _ | exact LeO.refl _ | exact LeO.none _ | refine LeO.ite ?_ ?_ | refine LeO.bind ?_ (fun _ => ?_))
   | exact LeO.none _
   | refine LeO.ite ?_ ?_
   | refine LeO.bind ?_ (fun _ => ?_)
  ·intro y0 y1 y2 y3 y4 y5 y6
   unfold l40_BindingTerms.l0
   repeat' first
   | (with_reducible first | exact ih0 _ _ _ _ _ _ _ _ | exact ih1 _ _ _ _ _ _ | exact ih2 _ _ _ _ _ _ _ | exact ih3 _ _ _ _ _ _ _ _ _ _ _ _ | exact ih4 _ _ _ _ _ _ _ _ _ _ _ _ | exact binding_Eval.mono _ _ _ _ _ _ _ _ _ _ | exact l40_lives.mono _ | exact r40_Few.mono _ _ _ _ _ _ _ | exact LeO.refl _ | exact LeO.none _ | refine LeO.ite ?_ ?_ | refine LeO.bind ?_ (fun _ => ?_))
   | exact LeO.none _
   | refine LeO.ite ?_ ?_
   | refine LeO.bind ?_ (fun _ => ?_)
  ·intro y0 y1 y2 y3 y4 y5 y6 y7 y8 y9 y10 y11
   unfold l40_BindingTerms.j3
   repeat' first
   | (with_reducible first | exact ih0 _ _ _ _ _ _ _ _ | exact ih1 _ _ _ _ _ _ | exact ih2 _ _ _ _ _ _ _ | exact ih3 _ _ _ _ _ _ _ _ _ _ _ _ | exact ih4 _ _ _ _ _ _ _ _ _ _ _ _ | exact binding_Eval.mono _ _ _ _ _ _ _ _ _ _ | exact l40_lives.mono _ | exact r40_Few.mono _ _ _ _ _ _ _ | exact LeO.refl _ | exact LeO.none _ | refine LeO.ite ?_ ?_ | refine LeO.bind ?_ (fun _ => ?_))
   | exact LeO.none _
   | refine LeO.ite ?_ ?_
   | refine LeO.bind ?_ (fun _ => ?_)
  ·intro y0 y1 y2 y3 y4 y5 y6 y7 y8 y9 y10 y11
   unfold l40_BindingTerms.l1
   repeat' first
   | (with_reducible first | exact ih0 _ _ _ _ _ _ _ _ | exact ih1 _ _ _ _ _ _ | exact ih2 _ _ _ _ _ _ _ | exact ih3 _ _ _ _ _ _ _ _ _ _ _ _ | exact ih4 _ _ _ _ _ _ _ _ _ _ _ _ | exact binding_Eval.mono _ _ _ _ _ _ _ _ _ _ | exact l40_lives.mono _ | exact r40_Few.mono _ _ _ _ _ _ _ | exact LeO.refl _ | exact LeO.none _ | refine LeO.ite ?_ ?_ | refine LeO.bind ?_ (fun _ => ?_))
   | exact LeO.none _
   | refine LeO.ite ?_ ?_
   | refine LeO.bind ?_ (fun _ => ?_)
theorem l40_BindingTerms.mono : ∀ a0 a1 a2 a3 a4 a5 a6 k, LeO (l40_BindingTerms.f k a0 a1 a2 a3 a4 a5 a6) (l40_BindingTerms.f (k + 1) a0 a1 a2 a3 a4 a5 a6) := by
 intro a0 a1 a2 a3 a4 a5 a6 k
 obtain ⟨ih0, ih1, ih2, ih3, ih4⟩ := l40_BindingTerms.mono_l k
 unfold l40_BindingTerms.f
 repeat' first
   | (with_reducible first | exact ih0 _ _ _ _ _ _ _ _ | exact ih1 _ _ _ _ _ _ | exact ih2 _ _ _ _ _ _ _ | exact ih3 _ _ _ _ _ _ _ _ _ _ _ _ | exact ih4 _ _ _ _ _ _ _ _ _ _ _ _ | exact binding_Eval.mono _ _ _ _ _ _ _ _ _ _ | exact l40_lives.mono _ | exact r40_Few.mono _ _ _ _ _ _ _ | exact LeO.refl _ | exact LeO.none _ | refine LeO.ite ?_ ?_ | refine LeO.bind ?_ (fun _ => ?_))
   | exact LeO.none _
   | refine LeO.ite ?_ ?_
   | refine LeO.bind ?_ (fun _ => ?_)
theorem l40_BindingTerms.lex23 : Region.lexB .any (opsOf Try.f8 23) = true := by kernel_rfl
set_option maxHeartbeats 40000000 in
set_option maxRecDepth 100000 in
theorem l40_BindingTerms.calls (k : Nat) (A0 : Option Addr) (c0 : Nat) (l0 : List (S51)) (a1_0 : ByteArray) (A1_1 : Option Addr) (c1_1 : Nat) (l1_1 : List (S48)) (A1_2 : Option Addr) (c1_2 : Nat) (l1_2 : List (S62)) (A1_3 : Option Addr) (c1_3 : Nat) (l1_3 : List (S111)) (A1_4 : Option Addr) (c1_4 : Nat) (l1_4 : List (S111)) (a2 : Int) (r : Bool) (w : World) (hr0 : Kd.C k51 w A0 l0.length l0) (hc0 : l0.length ≤ c0) (hr1_1 : Kd.C k48 w A1_1 l1_1.length l1_1) (hc1_1 : l1_1.length ≤ c1_1) (hr1_2 : Kd.C k62 w A1_2 l1_2.length l1_2) (hc1_2 : l1_2.length ≤ c1_2) (hr1_3 : Kd.C k111 w A1_3 l1_3.length l1_3) (hc1_3 : l1_3.length ≤ c1_3) (hr1_4 : Kd.C k111 w A1_4 l1_4.length l1_4) (hc1_4 : l1_4.length ≤ c1_4) (h : l40_BindingTerms.f k l0 a1_0 l1_1 l1_2 l1_3 l1_4 a2 = some r) (hrT_ : Aside0 (r = true)) :
  Calls Try.prog 8 #[.slice A0 l0.length c0, .agg #[.string a1_0, .slice A1_1 l1_1.length c1_1, .slice A1_2 l1_2.length c1_2, .slice A1_3 l1_3.length c1_3, .slice A1_4 l1_4.length c1_4], .int .i64 a2] w fun e w' => e = .returned (.bool r) ∧ Below w.heap.size w w' := by
 have hu27 := Try.underlying27; have hu9 := Try.underlying9; have hu23 := Try.underlying23; have hu24 := Try.underlying24; have hu25 := Try.underlying25; have hu54 := Try.underlying54; have hu3 := Try.underlying3; have HR0 := aM hr0; have HC0 := aM hc0; clear hr0 hc0; have HR1_1 := aM hr1_1; have HC1_1 := aM hc1_1; clear hr1_1 hc1_1; have HR1_2 := aM hr1_2; have HC1_2 := aM hc1_2; clear hr1_2 hc1_2; have HR1_3 := aM hr1_3; have HC1_3 := aM hc1_3; clear hr1_3 hc1_3; have HR1_4 := aM hr1_4; have HC1_4 := aM hc1_4; clear hr1_4 hc1_4; have HB := aM (Below.refl w.heap.size w)
 have H : ((l40_lives.f k).bind fun t451 => (if t451 = true then ((r40_Few.f k l0 a1_0 l1_1 l1_2 l1_3 l1_4).bind fun t452 => (if t452 = true then ((binding_Check.f l0 a1_0 l1_1 l1_2 l1_3 l1_4).bind fun t453 => (if t453 = 0 then (if (l1_1.length : Int) = 0 then (l40_BindingTerms.j0 k l0 a2 true a1_0 l1_1 l1_2 l1_3 l1_4) else (if a2 < 1 then (l40_BindingTerms.j0 k l0 a2 true a1_0 l1_1 l1_2 l1_3 l1_4) else (l40_BindingTerms.j0 k l0 a2 (decide (a2 > 99)) a1_0 l1_1 l1_2 l1_3 l1_4))) else (l40_BindingTerms.j0 k l0 a2 true a1_0 l1_1 l1_2 l1_3 l1_4))) else (l40_BindingTerms.j0 k l0 a2 true a1_0 l1_1 l1_2 l1_3 l1_4))) else (none))) = some r := h
 clear h; replace H := Option.bind_eq_some_iff.mp H; obtain ⟨t451, A40, H⟩ := H
 replace H : (if t451 = true then ((r40_Few.f k l0 a1_0 l1_1 l1_2 l1_3 l1_4).bind fun t452 => (if t452 = true then ((binding_Check.f l0 a1_0 l1_1 l1_2 l1_3 l1_4).bind fun t453 => (if t453 = 0 then (if (l1_1.length : Int) = 0 then (l40_BindingTerms.j0 k l0 a2 true a1_0 l1_1 l1_2 l1_3 l1_4) else (if a2 < 1 then (l40_BindingTerms.j0 k l0 a2 true a1_0 l1_1 l1_2 l1_3 l1_4) else (l40_BindingTerms.j0 k l0 a2 (decide (a2 > 99)) a1_0 l1_1 l1_2 l1_3 l1_4))) else (l40_BindingTerms.j0 k l0 a2 true a1_0 l1_1 l1_2 l1_3 l1_4))) else (l40_BindingTerms.j0 k l0 a2 true a1_0 l1_1 l1_2 l1_3 l1_4))) else (none)) = some r := H
 have A4 := aM A40; clear A40
 by_cases c5 : t451 = true
 ·subst c5
  have H1 : ((r40_Few.f k l0 a1_0 l1_1 l1_2 l1_3 l1_4).bind fun t452 => (if t452 = true then ((binding_Check.f l0 a1_0 l1_1 l1_2 l1_3 l1_4).bind fun t453 => (if t453 = 0 then (if (l1_1.length : Int) = 0 then (l40_BindingTerms.j0 k l0 a2 true a1_0 l1_1 l1_2 l1_3 l1_4) else (if a2 < 1 then (l40_BindingTerms.j0 k l0 a2 true a1_0 l1_1 l1_2 l1_3 l1_4) else (l40_BindingTerms.j0 k l0 a2 (decide (a2 > 99)) a1_0 l1_1 l1_2 l1_3 l1_4))) else (l40_BindingTerms.j0 k l0 a2 true a1_0 l1_1 l1_2 l1_3 l1_4))) else (l40_BindingTerms.j0 k l0 a2 true a1_0 l1_1 l1_2 l1_3 l1_4))) = some r := by rw [if_pos rfl] at H; exact H
  clear H; have H := H1; clear H1; have HC6 := aM H; clear H
  go_enter Try.func8, Try.ntmps8
  go_upto_region 3 with (first | ((with_reducible refine gate_dst (N := 4) rfl ?_); (try (refine gate_guard (by rfl) ?_; dsimp only)); refine box_event ?hg (N := 4) ?hd (cs := #[.string a1_0, .slice A1_1 l1_1.length c1_1, .slice A1_2 l1_2.length c1_2, .slice A1_3 l1_3.length c1_3, .slice A1_4 l1_4.length c1_4]) (t := 27) ?hr ?_; (case hd => rfl); (case hg => rfl); (case hr => first | (go_simp; done) | (go_simp; rfl)); intro gb450 hg w7 hbox hb; have n0_ := aM (below_step (bB HB.out) hb); have n1_ := aM (hbox); have n2_ := aM ((by rw [hg]; exact (below_size (bB HB.out)) : w.heap.size ≤ gb450)); have n3_ := aM ((by rw [hg]; exact (below_size (bB HB.out)) : w.heap.size ≤ gb450)); clear HB; have HB := n0_; have BK450 := n1_; have GW450 := n2_; have GE450 := n3_; clear n0_ n1_ n2_ n3_; clear hb hbox hg) | (go_at_call 10; (with_reducible refine (l40_lives.calls k  true _ A4.out (by first | exact hrT_ | exact ⟨rfl⟩)).mono ?_); rintro e w8 ⟨rfl, hb⟩; have n0_ := aM (kW BK450.out hb); have n1_ := aM (below_step (bB1 HB.out GE450.out) hb); clear BK450; clear HB; have BK450 := n0_; have HB := n1_; clear n0_ n1_; (try clear hb); (try clear hb2); (try clear hk); (try clear hi)))
  repeat (go_quiet (fail); try go_wp2)
  (try simp only [Act.put, List.setIfInBounds_toArray, List.set_cons_zero, List.set_cons_succ])
  go_cut [46] (fun v46 wc => ∃ (kq : Nat) (x46_5 : Bool), v46 = .bool x46_5 ∧ Aside0 (l40_BindingTerms.j0 kq l0 a2 x46_5 a1_0 l1_1 l1_2 l1_3 l1_4 = some r) ∧ Aside0 (kq ≤ k) ∧ Aside0 (wc.heap[gb450]? = some (.cells #[.string a1_0, (.slice A1_1 l1_1.length c1_1), (.slice A1_2 l1_2.length c1_2), (.slice A1_3 l1_3.length c1_3), (.slice A1_4 l1_4.length c1_4)] 27 (0, 0))) ∧ Aside0 (Below w.heap.size w wc))
  case first =>
   as_aux_lemma =>
    have H := HC6.out; clear HC6; replace H := Option.bind_eq_some_iff.mp H; obtain ⟨t452, A90, H⟩ := H
    replace H : (if t452 = true then ((binding_Check.f l0 a1_0 l1_1 l1_2 l1_3 l1_4).bind fun t453 => (if t453 = 0 then (if (l1_1.length : Int) = 0 then (l40_BindingTerms.j0 k l0 a2 true a1_0 l1_1 l1_2 l1_3 l1_4) else (if a2 < 1 then (l40_BindingTerms.j0 k l0 a2 true a1_0 l1_1 l1_2 l1_3 l1_4) else (l40_BindingTerms.j0 k l0 a2 (decide (a2 > 99)) a1_0 l1_1 l1_2 l1_3 l1_4))) else (l40_BindingTerms.j0 k l0 a2 true a1_0 l1_1 l1_2 l1_3 l1_4))) else (l40_BindingTerms.j0 k l0 a2 true a1_0 l1_1 l1_2 l1_3 l1_4)) = some r := H
    have A9 := aM A90; clear A90
    by_cases c10 : t452 = true
    ·subst c10
     have H1 : ((binding_Check.f l0 a1_0 l1_1 l1_2 l1_3 l1_4).bind fun t453 => (if t453 = 0 then (if (l1_1.length : Int) = 0 then (l40_BindingTerms.j0 k l0 a2 true a1_0 l1_1 l1_2 l1_3 l1_4) else (if a2 < 1 then (l40_BindingTerms.j0 k l0 a2 true a1_0 l1_1 l1_2 l1_3 l1_4) else (l40_BindingTerms.j0 k l0 a2 (decide (a2 > 99)) a1_0 l1_1 l1_2 l1_3 l1_4))) else (l40_BindingTerms.j0 k l0 a2 true a1_0 l1_1 l1_2 l1_3 l1_4))) = some r := by rw [if_pos rfl] at H; exact H
     clear H; have H := H1; clear H1; replace H := Option.bind_eq_some_iff.mp H; obtain ⟨t453, A110, H⟩ := H
     replace H : (if t453 = 0 then (if (l1_1.length : Int) = 0 then (l40_BindingTerms.j0 k l0 a2 true a1_0 l1_1 l1_2 l1_3 l1_4) else (if a2 < 1 then (l40_BindingTerms.j0 k l0 a2 true a1_0 l1_1 l1_2 l1_3 l1_4) else (l40_BindingTerms.j0 k l0 a2 (decide (a2 > 99)) a1_0 l1_1 l1_2 l1_3 l1_4))) else (l40_BindingTerms.j0 k l0 a2 true a1_0 l1_1 l1_2 l1_3 l1_4)) = some r := H
     have A11 := aM A110; clear A110
     by_cases c12 : t453 = 0
     ·rw [if_pos c12] at H
      have c12b0 : (t453 == 0) = true := beq_iff_eq.mpr c12; have c12b1 : (t453 != 0) = false := bne_eq_false_iff_eq.mpr c12; clear c12
      (first | rw [c12b0] | (simp only [i64_w, i32_w]; rw [c12b0]) | skip)
      by_cases c13 : (l1_1.length : Int) = 0
      ·rw [if_pos c13] at H
       have c13b0 : ((l1_1.length : Int) == 0) = true := beq_iff_eq.mpr c13; have c13b1 : ((l1_1.length : Int) != 0) = false := bne_eq_false_iff_eq.mpr c13; clear c13
       have H' := aM H
       clear H
       have hcz14_0 : w8.cell? ⟨gb450, 0, none⟩ = some (.string a1_0) := (blk_cell BK450.out 0).trans rfl
       have hcz14_1 : w8.cell? ⟨gb450, 1, none⟩ = some (.slice A1_1 l1_1.length c1_1) := (blk_cell BK450.out 1).trans rfl
       have hcz14_2 : w8.cell? ⟨gb450, 2, none⟩ = some (.slice A1_2 l1_2.length c1_2) := (blk_cell BK450.out 2).trans rfl
       have hcz14_3 : w8.cell? ⟨gb450, 3, none⟩ = some (.slice A1_3 l1_3.length c1_3) := (blk_cell BK450.out 3).trans rfl
       have hcz14_4 : w8.cell? ⟨gb450, 4, none⟩ = some (.slice A1_4 l1_4.length c1_4) := (blk_cell BK450.out 4).trans rfl
       have hfz14_0 := blk_frozen BK450.out 0; have hfz14_1 := blk_frozen BK450.out 1; have hfz14_2 := blk_frozen BK450.out 2; have hfz14_3 := blk_frozen BK450.out 3; have hfz14_4 := blk_frozen BK450.out 4
       go_wp2_with (first | (go_at_call 9; (with_reducible refine (r40_Few.calls k _ _ l0 a1_0 _ _ l1_1 _ _ l1_2 _ _ l1_3 _ _ l1_4 true _ ?side1 ?side2 ?side3 ?side4 ?side5 ?side6 ?side7 ?side8 ?side9 ?side10 A9.out).mono ?_); (case side1 => exact cB HR0.out HB.out); (case side2 => exact HC0.out); (case side3 => exact cB HR1_1.out HB.out); (case side4 => exact HC1_1.out); (case side5 => exact cB HR1_2.out HB.out); (case side6 => exact HC1_2.out); (case side7 => exact cB HR1_3.out HB.out); (case side8 => exact HC1_3.out); (case side9 => exact cB HR1_4.out HB.out); (case side10 => exact HC1_4.out); rintro e w15 ⟨rfl, hb⟩; have n0_ := aM (kW BK450.out hb); have n1_ := aM (below_step (bB1 HB.out GE450.out) hb); clear BK450; clear HB; have BK450 := n0_; have HB := n1_; clear n0_ n1_; (try clear hb); (try clear hb2); (try clear hk); (try clear hi); have hcz16_0 : w15.cell? ⟨gb450, 0, none⟩ = some (.string a1_0) := (blk_cell BK450.out 0).trans rfl; have hcz16_1 : w15.cell? ⟨gb450, 1, none⟩ = some (.slice A1_1 l1_1.length c1_1) := (blk_cell BK450.out 1).trans rfl; have hcz16_2 : w15.cell? ⟨gb450, 2, none⟩ = some (.slice A1_2 l1_2.length c1_2) := (blk_cell BK450.out 2).trans rfl; have hcz16_3 : w15.cell? ⟨gb450, 3, none⟩ = some (.slice A1_3 l1_3.length c1_3) := (blk_cell BK450.out 3).trans rfl; have hcz16_4 : w15.cell? ⟨gb450, 4, none⟩ = some (.slice A1_4 l1_4.length c1_4) := (blk_cell BK450.out 4).trans rfl; have hfz16_0 := blk_frozen BK450.out 0; have hfz16_1 := blk_frozen BK450.out 1; have hfz16_2 := blk_frozen BK450.out 2; have hfz16_3 := blk_frozen BK450.out 3; have hfz16_4 := blk_frozen BK450.out 4) | (go_at_call 11; (with_reducible refine (binding_Check.calls _ _ l0 a1_0 _ _ l1_1 _ _ l1_2 _ _ l1_3 _ _ l1_4 t453 _ ?side1 ?side2 ?side3 ?side4 ?side5 ?side6 ?side7 ?side8 ?side9 ?side10 A11.out).mono ?_); (case side1 => exact cB HR0.out HB.out); (case side2 => exact HC0.out); (case side3 => exact cB HR1_1.out HB.out); (case side4 => exact HC1_1.out); (case side5 => exact cB HR1_2.out HB.out); (case side6 => exact HC1_2.out); (case side7 => exact cB HR1_3.out HB.out); (case side8 => exact HC1_3.out); (case side9 => exact cB HR1_4.out HB.out); (case side10 => exact HC1_4.out); rintro e w17 ⟨rfl, hb⟩; have n0_ := aM (kW BK450.out hb); have n1_ := aM (below_step (bB1 HB.out GE450.out) hb); clear BK450; clear HB; have BK450 := n0_; have HB := n1_; clear n0_ n1_; (try clear hb); (try clear hb2); (try clear hk); (try clear hi); have hcz18_0 : w17.cell? ⟨gb450, 0, none⟩ = some (.string a1_0) := (blk_cell BK450.out 0).trans rfl; have hcz18_1 : w17.cell? ⟨gb450, 1, none⟩ = some (.slice A1_1 l1_1.length c1_1) := (blk_cell BK450.out 1).trans rfl; have hcz18_2 : w17.cell? ⟨gb450, 2, none⟩ = some (.slice A1_2 l1_2.length c1_2) := (blk_cell BK450.out 2).trans rfl; have hcz18_3 : w17.cell? ⟨gb450, 3, none⟩ = some (.slice A1_3 l1_3.length c1_3) := (blk_cell BK450.out 3).trans rfl; have hcz18_4 : w17.cell? ⟨gb450, 4, none⟩ = some (.slice A1_4 l1_4.length c1_4) := (blk_cell BK450.out 4).trans rfl; have hfz18_0 := blk_frozen BK450.out 0; have hfz18_1 := blk_frozen BK450.out 1; have hfz18_2 := blk_frozen BK450.out 2; have hfz18_3 := blk_frozen BK450.out 3; have hfz18_4 := blk_frozen BK450.out 4))
       repeat (go_quiet (fail); try go_wp2)
       go_meet
       case rel => exact ⟨_, (true), eT, H', ⟨by first | omega | exact Nat.le_refl _⟩, ⟨kB BK450.out⟩, ⟨bB1 HB.out GE450.out⟩⟩
      ·rw [if_neg c13] at H
       have c13b0 : ((l1_1.length : Int) == 0) = false := beq_eq_false_iff_ne.mpr c13; have c13b1 : ((l1_1.length : Int) != 0) = true := bne_iff_ne.mpr c13
       have c13b2 : ¬ (l1_1 = []) := fun h_ => c13 (by rw [h_]; rfl)
       by_cases c19 : a2 < 1
       ·rw [if_pos c19] at H
        have c19b0 : decide (a2 < 1) = true := decide_eq_true c19; clear c19
        have H' := aM H
        clear H
        have hcz20_0 : w8.cell? ⟨gb450, 0, none⟩ = some (.string a1_0) := (blk_cell BK450.out 0).trans rfl
        have hcz20_1 : w8.cell? ⟨gb450, 1, none⟩ = some (.slice A1_1 l1_1.length c1_1) := (blk_cell BK450.out 1).trans rfl
        have hcz20_2 : w8.cell? ⟨gb450, 2, none⟩ = some (.slice A1_2 l1_2.length c1_2) := (blk_cell BK450.out 2).trans rfl
        have hcz20_3 : w8.cell? ⟨gb450, 3, none⟩ = some (.slice A1_3 l1_3.length c1_3) := (blk_cell BK450.out 3).trans rfl
        have hcz20_4 : w8.cell? ⟨gb450, 4, none⟩ = some (.slice A1_4 l1_4.length c1_4) := (blk_cell BK450.out 4).trans rfl
        have hfz20_0 := blk_frozen BK450.out 0; have hfz20_1 := blk_frozen BK450.out 1; have hfz20_2 := blk_frozen BK450.out 2; have hfz20_3 := blk_frozen BK450.out 3; have hfz20_4 := blk_frozen BK450.out 4
        go_wp2_with (first | (go_at_call 9; (with_reducible refine (r40_Few.calls k _ _ l0 a1_0 _ _ l1_1 _ _ l1_2 _ _ l1_3 _ _ l1_4 true _ ?side1 ?side2 ?side3 ?side4 ?side5 ?side6 ?side7 ?side8 ?side9 ?side10 A9.out).mono ?_); (case side1 => exact cB HR0.out HB.out); (case side2 => exact HC0.out); (case side3 => exact cB HR1_1.out HB.out); (case side4 => exact HC1_1.out); (case side5 => exact cB HR1_2.out HB.out); (case side6 => exact HC1_2.out); (case side7 => exact cB HR1_3.out HB.out); (case side8 => exact HC1_3.out); (case side9 => exact cB HR1_4.out HB.out); (case side10 => exact HC1_4.out); rintro e w21 ⟨rfl, hb⟩; have n0_ := aM (kW BK450.out hb); have n1_ := aM (below_step (bB1 HB.out GE450.out) hb); clear BK450; clear HB; have BK450 := n0_; have HB := n1_; clear n0_ n1_; (try clear hb); (try clear hb2); (try clear hk); (try clear hi); have hcz22_0 : w21.cell? ⟨gb450, 0, none⟩ = some (.string a1_0) := (blk_cell BK450.out 0).trans rfl; have hcz22_1 : w21.cell? ⟨gb450, 1, none⟩ = some (.slice A1_1 l1_1.length c1_1) := (blk_cell BK450.out 1).trans rfl; have hcz22_2 : w21.cell? ⟨gb450, 2, none⟩ = some (.slice A1_2 l1_2.length c1_2) := (blk_cell BK450.out 2).trans rfl; have hcz22_3 : w21.cell? ⟨gb450, 3, none⟩ = some (.slice A1_3 l1_3.length c1_3) := (blk_cell BK450.out 3).trans rfl; have hcz22_4 : w21.cell? ⟨gb450, 4, none⟩ = some (.slice A1_4 l1_4.length c1_4) := (blk_cell BK450.out 4).trans rfl; have hfz22_0 := blk_frozen BK450.out 0; have hfz22_1 := blk_frozen BK450.out 1; have hfz22_2 := blk_frozen BK450.out 2; have hfz22_3 := blk_frozen BK450.out 3; have hfz22_4 := blk_frozen BK450.out 4) | (go_at_call 11; (with_reducible refine (binding_Check.calls _ _ l0 a1_0 _ _ l1_1 _ _ l1_2 _ _ l1_3 _ _ l1_4 t453 _ ?side1 ?side2 ?side3 ?side4 ?side5 ?side6 ?side7 ?side8 ?side9 ?side10 A11.out).mono ?_); (case side1 => exact cB HR0.out HB.out); (case side2 => exact HC0.out); (case side3 => exact cB HR1_1.out HB.out); (case side4 => exact HC1_1.out); (case side5 => exact cB HR1_2.out HB.out); (case side6 => exact HC1_2.out); (case side7 => exact cB HR1_3.out HB.out); (case side8 => exact HC1_3.out); (case side9 => exact cB HR1_4.out HB.out); (case side10 => exact HC1_4.out); rintro e w23 ⟨rfl, hb⟩; have n0_ := aM (kW BK450.out hb); have n1_ := aM (below_step (bB1 HB.out GE450.out) hb); clear BK450; clear HB; have BK450 := n0_; have HB := n1_; clear n0_ n1_; (try clear hb); (try clear hb2); (try clear hk); (try clear hi); have hcz24_0 : w23.cell? ⟨gb450, 0, none⟩ = some (.string a1_0) := (blk_cell BK450.out 0).trans rfl; have hcz24_1 : w23.cell? ⟨gb450, 1, none⟩ = some (.slice A1_1 l1_1.length c1_1) := (blk_cell BK450.out 1).trans rfl; have hcz24_2 : w23.cell? ⟨gb450, 2, none⟩ = some (.slice A1_2 l1_2.length c1_2) := (blk_cell BK450.out 2).trans rfl; have hcz24_3 : w23.cell? ⟨gb450, 3, none⟩ = some (.slice A1_3 l1_3.length c1_3) := (blk_cell BK450.out 3).trans rfl; have hcz24_4 : w23.cell? ⟨gb450, 4, none⟩ = some (.slice A1_4 l1_4.length c1_4) := (blk_cell BK450.out 4).trans rfl; have hfz24_0 := blk_frozen BK450.out 0; have hfz24_1 := blk_frozen BK450.out 1; have hfz24_2 := blk_frozen BK450.out 2; have hfz24_3 := blk_frozen BK450.out 3; have hfz24_4 := blk_frozen BK450.out 4))
        repeat (go_quiet (fail); try go_wp2)
        go_meet
        case rel => exact ⟨_, (true), eT, H', ⟨by first | omega | exact Nat.le_refl _⟩, ⟨kB BK450.out⟩, ⟨bB1 HB.out GE450.out⟩⟩
       ·rw [if_neg c19] at H
        have c19b0 : decide (a2 < 1) = false := decide_eq_false c19; clear c19
        have H' := aM H
        clear H
        have hcz25_0 : w8.cell? ⟨gb450, 0, none⟩ = some (.string a1_0) := (blk_cell BK450.out 0).trans rfl
        have hcz25_1 : w8.cell? ⟨gb450, 1, none⟩ = some (.slice A1_1 l1_1.length c1_1) := (blk_cell BK450.out 1).trans rfl
        have hcz25_2 : w8.cell? ⟨gb450, 2, none⟩ = some (.slice A1_2 l1_2.length c1_2) := (blk_cell BK450.out 2).trans rfl
        have hcz25_3 : w8.cell? ⟨gb450, 3, none⟩ = some (.slice A1_3 l1_3.length c1_3) := (blk_cell BK450.out 3).trans rfl
        have hcz25_4 : w8.cell? ⟨gb450, 4, none⟩ = some (.slice A1_4 l1_4.length c1_4) := (blk_cell BK450.out 4).trans rfl
        have hfz25_0 := blk_frozen BK450.out 0; have hfz25_1 := blk_frozen BK450.out 1; have hfz25_2 := blk_frozen BK450.out 2; have hfz25_3 := blk_frozen BK450.out 3; have hfz25_4 := blk_frozen BK450.out 4
        go_wp2_with (first | (go_at_call 9; (with_reducible refine (r40_Few.calls k _ _ l0 a1_0 _ _ l1_1 _ _ l1_2 _ _ l1_3 _ _ l1_4 true _ ?side1 ?side2 ?side3 ?side4 ?side5 ?side6 ?side7 ?side8 ?side9 ?side10 A9.out).mono ?_); (case side1 => exact cB HR0.out HB.out); (case side2 => exact HC0.out); (case side3 => exact cB HR1_1.out HB.out); (case side4 => exact HC1_1.out); (case side5 => exact cB HR1_2.out HB.out); (case side6 => exact HC1_2.out); (case side7 => exact cB HR1_3.out HB.out); (case side8 => exact HC1_3.out); (case side9 => exact cB HR1_4.out HB.out); (case side10 => exact HC1_4.out); rintro e w26 ⟨rfl, hb⟩; have n0_ := aM (kW BK450.out hb); have n1_ := aM (below_step (bB1 HB.out GE450.out) hb); clear BK450; clear HB; have BK450 := n0_; have HB := n1_; clear n0_ n1_; (try clear hb); (try clear hb2); (try clear hk); (try clear hi); have hcz27_0 : w26.cell? ⟨gb450, 0, none⟩ = some (.string a1_0) := (blk_cell BK450.out 0).trans rfl; have hcz27_1 : w26.cell? ⟨gb450, 1, none⟩ = some (.slice A1_1 l1_1.length c1_1) := (blk_cell BK450.out 1).trans rfl; have hcz27_2 : w26.cell? ⟨gb450, 2, none⟩ = some (.slice A1_2 l1_2.length c1_2) := (blk_cell BK450.out 2).trans rfl; have hcz27_3 : w26.cell? ⟨gb450, 3, none⟩ = some (.slice A1_3 l1_3.length c1_3) := (blk_cell BK450.out 3).trans rfl; have hcz27_4 : w26.cell? ⟨gb450, 4, none⟩ = some (.slice A1_4 l1_4.length c1_4) := (blk_cell BK450.out 4).trans rfl; have hfz27_0 := blk_frozen BK450.out 0; have hfz27_1 := blk_frozen BK450.out 1; have hfz27_2 := blk_frozen BK450.out 2; have hfz27_3 := blk_frozen BK450.out 3; have hfz27_4 := blk_frozen BK450.out 4) | (go_at_call 11; (with_reducible refine (binding_Check.calls _ _ l0 a1_0 _ _ l1_1 _ _ l1_2 _ _ l1_3 _ _ l1_4 t453 _ ?side1 ?side2 ?side3 ?side4 ?side5 ?side6 ?side7 ?side8 ?side9 ?side10 A11.out).mono ?_); (case side1 => exact cB HR0.out HB.out); (case side2 => exact HC0.out); (case side3 => exact cB HR1_1.out HB.out); (case side4 => exact HC1_1.out); (case side5 => exact cB HR1_2.out HB.out); (case side6 => exact HC1_2.out); (case side7 => exact cB HR1_3.out HB.out); (case side8 => exact HC1_3.out); (case side9 => exact cB HR1_4.out HB.out); (case side10 => exact HC1_4.out); rintro e w28 ⟨rfl, hb⟩; have n0_ := aM (kW BK450.out hb); have n1_ := aM (below_step (bB1 HB.out GE450.out) hb); clear BK450; clear HB; have BK450 := n0_; have HB := n1_; clear n0_ n1_; (try clear hb); (try clear hb2); (try clear hk); (try clear hi); have hcz29_0 : w28.cell? ⟨gb450, 0, none⟩ = some (.string a1_0) := (blk_cell BK450.out 0).trans rfl; have hcz29_1 : w28.cell? ⟨gb450, 1, none⟩ = some (.slice A1_1 l1_1.length c1_1) := (blk_cell BK450.out 1).trans rfl; have hcz29_2 : w28.cell? ⟨gb450, 2, none⟩ = some (.slice A1_2 l1_2.length c1_2) := (blk_cell BK450.out 2).trans rfl; have hcz29_3 : w28.cell? ⟨gb450, 3, none⟩ = some (.slice A1_3 l1_3.length c1_3) := (blk_cell BK450.out 3).trans rfl; have hcz29_4 : w28.cell? ⟨gb450, 4, none⟩ = some (.slice A1_4 l1_4.length c1_4) := (blk_cell BK450.out 4).trans rfl; have hfz29_0 := blk_frozen BK450.out 0; have hfz29_1 := blk_frozen BK450.out 1; have hfz29_2 := blk_frozen BK450.out 2; have hfz29_3 := blk_frozen BK450.out 3; have hfz29_4 := blk_frozen BK450.out 4))
        repeat (go_quiet (fail); try go_wp2)
        go_meet
        case rel => exact ⟨_, (decide (a2 > 99)), eT, H', ⟨by first | omega | exact Nat.le_refl _⟩, ⟨kB BK450.out⟩, ⟨bB1 HB.out GE450.out⟩⟩
     ·rw [if_neg c12] at H
      have c12b0 : (t453 == 0) = false := beq_eq_false_iff_ne.mpr c12; have c12b1 : (t453 != 0) = true := bne_iff_ne.mpr c12
      (first | rw [c12b0] | (simp only [i64_w, i32_w]; rw [c12b0]) | skip)
      have H' := aM H
      clear H
      have hcz30_0 : w8.cell? ⟨gb450, 0, none⟩ = some (.string a1_0) := (blk_cell BK450.out 0).trans rfl
      have hcz30_1 : w8.cell? ⟨gb450, 1, none⟩ = some (.slice A1_1 l1_1.length c1_1) := (blk_cell BK450.out 1).trans rfl
      have hcz30_2 : w8.cell? ⟨gb450, 2, none⟩ = some (.slice A1_2 l1_2.length c1_2) := (blk_cell BK450.out 2).trans rfl
      have hcz30_3 : w8.cell? ⟨gb450, 3, none⟩ = some (.slice A1_3 l1_3.length c1_3) := (blk_cell BK450.out 3).trans rfl
      have hcz30_4 : w8.cell? ⟨gb450, 4, none⟩ = some (.slice A1_4 l1_4.length c1_4) := (blk_cell BK450.out 4).trans rfl
      have hfz30_0 := blk_frozen BK450.out 0; have hfz30_1 := blk_frozen BK450.out 1; have hfz30_2 := blk_frozen BK450.out 2; have hfz30_3 := blk_frozen BK450.out 3; have hfz30_4 := blk_frozen BK450.out 4
      go_wp2_with (first | (go_at_call 9; (with_reducible refine (r40_Few.calls k _ _ l0 a1_0 _ _ l1_1 _ _ l1_2 _ _ l1_3 _ _ l1_4 true _ ?side1 ?side2 ?side3 ?side4 ?side5 ?side6 ?side7 ?side8 ?side9 ?side10 A9.out).mono ?_); (case side1 => exact cB HR0.out HB.out); (case side2 => exact HC0.out); (case side3 => exact cB HR1_1.out HB.out); (case side4 => exact HC1_1.out); (case side5 => exact cB HR1_2.out HB.out); (case side6 => exact HC1_2.out); (case side7 => exact cB HR1_3.out HB.out); (case side8 => exact HC1_3.out); (case side9 => exact cB HR1_4.out HB.out); (case side10 => exact HC1_4.out); rintro e w31 ⟨rfl, hb⟩; have n0_ := aM (kW BK450.out hb); have n1_ := aM (below_step (bB1 HB.out GE450.out) hb); clear BK450; clear HB; have BK450 := n0_; have HB := n1_; clear n0_ n1_; (try clear hb); (try clear hb2); (try clear hk); (try clear hi); have hcz32_0 : w31.cell? ⟨gb450, 0, none⟩ = some (.string a1_0) := (blk_cell BK450.out 0).trans rfl; have hcz32_1 : w31.cell? ⟨gb450, 1, none⟩ = some (.slice A1_1 l1_1.length c1_1) := (blk_cell BK450.out 1).trans rfl; have hcz32_2 : w31.cell? ⟨gb450, 2, none⟩ = some (.slice A1_2 l1_2.length c1_2) := (blk_cell BK450.out 2).trans rfl; have hcz32_3 : w31.cell? ⟨gb450, 3, none⟩ = some (.slice A1_3 l1_3.length c1_3) := (blk_cell BK450.out 3).trans rfl; have hcz32_4 : w31.cell? ⟨gb450, 4, none⟩ = some (.slice A1_4 l1_4.length c1_4) := (blk_cell BK450.out 4).trans rfl; have hfz32_0 := blk_frozen BK450.out 0; have hfz32_1 := blk_frozen BK450.out 1; have hfz32_2 := blk_frozen BK450.out 2; have hfz32_3 := blk_frozen BK450.out 3; have hfz32_4 := blk_frozen BK450.out 4) | (go_at_call 11; (with_reducible refine (binding_Check.calls _ _ l0 a1_0 _ _ l1_1 _ _ l1_2 _ _ l1_3 _ _ l1_4 t453 _ ?side1 ?side2 ?side3 ?side4 ?side5 ?side6 ?side7 ?side8 ?side9 ?side10 A11.out).mono ?_); (case side1 => exact cB HR0.out HB.out); (case side2 => exact HC0.out); (case side3 => exact cB HR1_1.out HB.out); (case side4 => exact HC1_1.out); (case side5 => exact cB HR1_2.out HB.out); (case side6 => exact HC1_2.out); (case side7 => exact cB HR1_3.out HB.out); (case side8 => exact HC1_3.out); (case side9 => exact cB HR1_4.out HB.out); (case side10 => exact HC1_4.out); rintro e w33 ⟨rfl, hb⟩; have n0_ := aM (kW BK450.out hb); have n1_ := aM (below_step (bB1 HB.out GE450.out) hb); clear BK450; clear HB; have BK450 := n0_; have HB := n1_; clear n0_ n1_; (try clear hb); (try clear hb2); (try clear hk); (try clear hi)))
      repeat (go_quiet (fail); try go_wp2)
      go_meet
      case rel => exact ⟨_, (true), eT, H', ⟨by first | omega | exact Nat.le_refl _⟩, ⟨kB BK450.out⟩, ⟨bB1 HB.out GE450.out⟩⟩
    ·replace c10 := Bool.eq_false_iff.mpr c10
     subst c10
     have H1 : (l40_BindingTerms.j0 k l0 a2 true a1_0 l1_1 l1_2 l1_3 l1_4) = some r := by rw [if_neg (show ¬ (false = true) by decide)] at H; exact H
     clear H; have H := H1; clear H1
     have H' := aM H
     clear H
     have hcz34_0 : w8.cell? ⟨gb450, 0, none⟩ = some (.string a1_0) := (blk_cell BK450.out 0).trans rfl
     have hcz34_1 : w8.cell? ⟨gb450, 1, none⟩ = some (.slice A1_1 l1_1.length c1_1) := (blk_cell BK450.out 1).trans rfl
     have hcz34_2 : w8.cell? ⟨gb450, 2, none⟩ = some (.slice A1_2 l1_2.length c1_2) := (blk_cell BK450.out 2).trans rfl
     have hcz34_3 : w8.cell? ⟨gb450, 3, none⟩ = some (.slice A1_3 l1_3.length c1_3) := (blk_cell BK450.out 3).trans rfl
     have hcz34_4 : w8.cell? ⟨gb450, 4, none⟩ = some (.slice A1_4 l1_4.length c1_4) := (blk_cell BK450.out 4).trans rfl
     have hfz34_0 := blk_frozen BK450.out 0; have hfz34_1 := blk_frozen BK450.out 1; have hfz34_2 := blk_frozen BK450.out 2; have hfz34_3 := blk_frozen BK450.out 3; have hfz34_4 := blk_frozen BK450.out 4
     go_wp2_with (first | (go_at_call 9; (with_reducible refine (r40_Few.calls k _ _ l0 a1_0 _ _ l1_1 _ _ l1_2 _ _ l1_3 _ _ l1_4 false _ ?side1 ?side2 ?side3 ?side4 ?side5 ?side6 ?side7 ?side8 ?side9 ?side10 A9.out).mono ?_); (case side1 => exact cB HR0.out HB.out); (case side2 => exact HC0.out); (case side3 => exact cB HR1_1.out HB.out); (case side4 => exact HC1_1.out); (case side5 => exact cB HR1_2.out HB.out); (case side6 => exact HC1_2.out); (case side7 => exact cB HR1_3.out HB.out); (case side8 => exact HC1_3.out); (case side9 => exact cB HR1_4.out HB.out); (case side10 => exact HC1_4.out); rintro e w35 ⟨rfl, hb⟩; have n0_ := aM (kW BK450.out hb); have n1_ := aM (below_step (bB1 HB.out GE450.out) hb); clear BK450; clear HB; have BK450 := n0_; have HB := n1_; clear n0_ n1_; (try clear hb); (try clear hb2); (try clear hk); (try clear hi)))
     repeat (go_quiet (fail); try go_wp2)
     go_meet
     case rel => exact ⟨_, (true), eT, H', ⟨by first | omega | exact Nat.le_refl _⟩, ⟨kB BK450.out⟩, ⟨bB1 HB.out GE450.out⟩⟩
  case rest =>
   as_aux_lemma =>
    clear HC6; obtain ⟨kq, x46_5, rfl, HA, HJ5, BK450, HB⟩ := hcut
    cases kq with
    | zero => exact absurd HA.out (by simp [l40_BindingTerms.j0])
    | succ kj5 =>
     have H := HA.out; clear HA
     simp only [l40_BindingTerms.j0] at H
     by_cases c36 : x46_5 = true
     ·subst c36
      have H1 : (some true) = some r := by rw [if_pos rfl] at H; exact H
      clear H; have H := H1; clear H1
      obtain rfl := Option.some.inj H
      go_wp2
      repeat (go_quiet (fail); try go_wp2)
      go_ret
      exact ⟨rT, bB1 HB.out GE450.out⟩
     ·replace c36 := Bool.eq_false_iff.mpr c36
      subst c36
      have H1 : (if 0 < (l1_1.length : Int) then (if 1 ≤ (l1_1.length : Int) then ((some (l1_1.take 1 : List (S48))).bind fun y455 => (if ((rd_T48 l1_1 0).f1) < 0 then (l40_BindingTerms.j1 kj5 l0 a2 ((rd_T48 l1_1 0).f1) true (⟨#[]⟩ : ByteArray) y455) else (l40_BindingTerms.j1 kj5 l0 a2 ((rd_T48 l1_1 0).f1) (decide (((rd_T48 l1_1 0).f1) ≥ (l0.length : Int))) (⟨#[]⟩ : ByteArray) y455))) else (none)) else (none)) = some r := by rw [if_neg (show ¬ (false = true) by decide)] at H; exact H
      clear H; have H := H1; clear H1
      by_cases c37 : 0 < (l1_1.length : Int)
      ·rw [if_pos c37] at H
       have c37b0 : decide (0 < (l1_1.length : Int)) = true := decide_eq_true c37; have c37b1 : decide (0 < l1_1.length) = true := decide_eq_true (by omega); clear c37
       by_cases c38 : 1 ≤ (l1_1.length : Int)
       ·rw [if_pos c38] at H
        have c38b0 := eq_true c38; have c38b1 : decide (1 ≤ (l1_1.length : Int)) = true := decide_eq_true c38; clear c38
        obtain ⟨y455, hy455⟩ : ∃ y_ : List (S48), y_ = (l1_1.take 1) := ⟨_, rfl⟩
        replace H : (if ((rd_T48 l1_1 0).f1) < 0 then (l40_BindingTerms.j1 kj5 l0 a2 ((rd_T48 l1_1 0).f1) true (⟨#[]⟩ : ByteArray) y455) else (l40_BindingTerms.j1 kj5 l0 a2 ((rd_T48 l1_1 0).f1) (decide (((rd_T48 l1_1 0).f1) ≥ (l0.length : Int))) (⟨#[]⟩ : ByteArray) y455)) = some r := by first | (rw [hy455]; with_reducible exact H) | (have H2_ := (Option.bind_some _ _).symm.trans H; rw [hy455]; with_reducible exact H2_) | (have H2_ := (Option.bind_some _ _).symm.trans H; with_reducible exact H2_) | with_reducible exact H | (rw [hy455]; exact H) | exact H
        have Ny455 := aM hy455; clear hy455; have HC39 := aM H; clear H
        have hcz40_0 : wc.cell? ⟨gb450, 0, none⟩ = some (.string a1_0) := (blk_cell BK450.out 0).trans rfl
        have hcz40_1 : wc.cell? ⟨gb450, 1, none⟩ = some (.slice A1_1 l1_1.length c1_1) := (blk_cell BK450.out 1).trans rfl
        have hcz40_2 : wc.cell? ⟨gb450, 2, none⟩ = some (.slice A1_2 l1_2.length c1_2) := (blk_cell BK450.out 2).trans rfl
        have hcz40_3 : wc.cell? ⟨gb450, 3, none⟩ = some (.slice A1_3 l1_3.length c1_3) := (blk_cell BK450.out 3).trans rfl
        have hcz40_4 : wc.cell? ⟨gb450, 4, none⟩ = some (.slice A1_4 l1_4.length c1_4) := (blk_cell BK450.out 4).trans rfl
        have hfz40_0 := blk_frozen BK450.out 0; have hfz40_1 := blk_frozen BK450.out 1; have hfz40_2 := blk_frozen BK450.out 2; have hfz40_3 := blk_frozen BK450.out 3; have hfz40_4 := blk_frozen BK450.out 4; have p454 : 0 ≤ (0 : Int) := (by omega); have q454 : 0 < (l1_1.length : Int) := dT; obtain ⟨ad454, e454, hx454_0, hx454_1⟩ := at_T48 HR1_1.out 0 p454 q454; cases e454; have qi454 : (0 < l1_1.length) = True := eq_true (by omega)
        (try rw [show ((0 : Int)).toNat = 0 from rfl] at hx454_0)
        (try rw [show 0 * 2 = 0 from rfl] at hx454_0)
        (try rw [Addr.add_zero'] at hx454_0)
        (try rw [show ((0 : Int)).toNat = 0 from rfl] at hx454_1)
        (try rw [show 0 * 2 = 0 from rfl] at hx454_1)
        (try rw [Addr.add_zero'] at hx454_1)
        try replace hx454_0 := (HB.out.cell (World.block_lt_of_cell? w _ hx454_0)).trans hx454_0
        try replace hx454_1 := (HB.out.cell (World.block_lt_of_cell? w _ hx454_1)).trans hx454_1
        replace p454 := eq_true p454; replace q454 := eq_true q454; have q41 : (1 : Int) ≤ ((l1_1.length : Int) : Int) := dT; obtain ⟨i041, hi041, _, hsz41, _⟩ := info_parts info48; have hroom41 : l1_1.length ≤ c1_1 := HC1_1.out; have hC41 : Kd.C k48 _ (some ad454) l1_1.length l1_1 := HR1_1.out; have hcut41 := cut_to (P := Try.prog) 23 48 .i64 Try.underlying23 hi041 (some ad454) l1_1.length c1_1 1 (by omega) q41 hroom41; have hr41 := Kd.C_take (m := 1) hC41 (by omega); have hy41 : y455.length = (1 : Int).toNat := (by rw [Ny455.out, List.length_take]; omega); rw [← Ny455.out] at hr41; rw [← hy41] at hcut41; have HR458 := aM hr41; have HC458 := aM (show y455.length ≤ c1_1 from by omega); clear hr41 hC41 hroom41 hi041 hsz41; have KY41 := aM hy41; clear hy41; replace q41 := eq_true q41
        go_upto_region 7 with (first | ((with_reducible refine gate_dst (N := 8) rfl ?_); (try (refine gate_guard (by rfl) ?_; dsimp only)); refine box_event ?hg (N := 8) ?hd (cs := #[.string (⟨#[]⟩ : ByteArray), .slice none 0 0, .slice none 0 0, .slice none 0 0, .slice none 0 0]) (t := 27) ?hr ?_; (case hd => rfl); (case hg => rfl); (case hr => first | (go_simp; done) | (go_simp; rfl)); intro gb459 hg w42 hbox hb; have n0_ := aM (kW BK450.out hb); have n1_ := aM (below_step (bB1 HB.out GE450.out) hb); have n2_ := aM (hbox); have n3_ := aM ((by rw [hg]; exact (below_size (bB1 HB.out GE450.out)) : w.heap.size ≤ gb459)); have n4_ := aM ((by rw [hg]; exact (below_size (bB1 HB.out GE450.out)) : w.heap.size ≤ gb459)); have n5_ := aM ((by rw [hg]; exact Nat.ne_of_lt (kL BK450.out) : gb450 ≠ gb459)); have n6_ := aM ((by rw [hg]; exact Nat.ne_of_gt (kL BK450.out) : gb459 ≠ gb450)); clear BK450; clear HB; have BK450 := n0_; have HB := n1_; have BK459 := n2_; have GW459 := n3_; have GE459 := n4_; have NB450_459 := n5_; have NB459_450 := n6_; clear n0_ n1_ n2_ n3_ n4_ n5_ n6_; clear hb hbox hg; have hnb43 := NB459_450.out; have hnc43 := NB450_459.out; have hcz44_0 : w42.cell? ⟨gb459, 0, none⟩ = some (.string (⟨#[]⟩ : ByteArray)) := (blk_cell BK459.out 0).trans rfl; have hcz44_1 : w42.cell? ⟨gb459, 1, none⟩ = some (.slice none 0 0) := (blk_cell BK459.out 1).trans rfl; have hcz44_2 : w42.cell? ⟨gb459, 2, none⟩ = some (.slice none 0 0) := (blk_cell BK459.out 2).trans rfl; have hcz44_3 : w42.cell? ⟨gb459, 3, none⟩ = some (.slice none 0 0) := (blk_cell BK459.out 3).trans rfl; have hcz44_4 : w42.cell? ⟨gb459, 4, none⟩ = some (.slice none 0 0) := (blk_cell BK459.out 4).trans rfl; have hfz44_0 := blk_frozen BK459.out 0; have hfz44_1 := blk_frozen BK459.out 1; have hfz44_2 := blk_frozen BK459.out 2; have hfz44_3 := blk_frozen BK459.out 3; have hfz44_4 := blk_frozen BK459.out 4))
        repeat (go_quiet (fail); try go_wp2)
        (try simp only [Act.put, List.setIfInBounds_toArray, List.set_cons_zero, List.set_cons_succ])
        go_cut [63] (fun v63 wc => ∃ (kq : Nat) (x63_38 : Bool), v63 = .bool x63_38 ∧ Aside0 (l40_BindingTerms.j1 kq l0 a2 ((rd_T48 l1_1 0).f1) x63_38 (⟨#[]⟩ : ByteArray) y455 = some r) ∧ Aside0 (kq ≤ kj5) ∧ Aside0 (wc.heap[gb450]? = some (.cells #[.string a1_0, (.slice (some ad454) l1_1.length c1_1), (.slice A1_2 l1_2.length c1_2), (.slice A1_3 l1_3.length c1_3), (.slice A1_4 l1_4.length c1_4)] 27 (0, 0))) ∧ Aside0 (wc.heap[gb459]? = some (.cells #[.string (⟨#[]⟩ : ByteArray), (.slice (some ad454) y455.length c1_1), (.slice none 0 0), (.slice none 0 0), (.slice none 0 0)] 27 (0, 0))) ∧ Aside0 (Below w.heap.size w wc))
        case first =>
         as_aux_lemma =>
          have H := HC39.out; clear HC39
          by_cases c45 : ((rd_T48 l1_1 0).f1) < 0
          ·rw [if_pos c45] at H
           have c45b0 : decide (((rd_T48 l1_1 0).f1) < 0) = true := decide_eq_true c45; clear c45
           (first | rw [c45b0] | (simp only [i64_w, i32_w]; rw [c45b0]) | skip)
           have H' := aM H
           clear H
           go_wp2
           repeat (go_quiet (fail); try go_wp2)
           go_meet
           case rel => exact ⟨_, (true), eT, H', ⟨by have := HJ5.out; first | omega | exact Nat.le_refl _⟩, ⟨by refine kR ?_; refine blk_far ?_ NB450_459.out _; refine kR ?_; refine blk_far ?_ NB450_459.out _; refine kR ?_; refine blk_far ?_ NB450_459.out _; refine kR ?_; refine blk_far ?_ NB450_459.out _; refine kR ?_; refine blk_far ?_ NB450_459.out _; refine kR ?_; exact BK450.out⟩, ⟨by refine kR ?_; refine blk_put (cs := #[.string (⟨#[]⟩ : ByteArray), .slice (some ad454) y455.length c1_1, .slice none 0 0, .slice none 0 0, .slice none 0 0]) ?_ 4 _ rfl; refine kR ?_; refine blk_put (cs := #[.string (⟨#[]⟩ : ByteArray), .slice (some ad454) y455.length c1_1, .slice none 0 0, .slice none 0 0, .slice none 0 0]) ?_ 3 _ rfl; refine kR ?_; refine blk_put (cs := #[.string (⟨#[]⟩ : ByteArray), .slice (some ad454) y455.length c1_1, .slice none 0 0, .slice none 0 0, .slice none 0 0]) ?_ 2 _ rfl; refine kR ?_; refine blk_put (cs := #[.string (⟨#[]⟩ : ByteArray), .slice none 0 0, .slice none 0 0, .slice none 0 0, .slice none 0 0]) ?_ 1 _ rfl; refine kR ?_; refine blk_put (cs := #[.string (⟨#[]⟩ : ByteArray), .slice none 0 0, .slice none 0 0, .slice none 0 0, .slice none 0 0]) ?_ 0 _ rfl; refine kR ?_; exact BK459.out⟩, ⟨bB2 HB.out GE450.out GE459.out⟩⟩
          ·rw [if_neg c45] at H
           have c45b0 : decide (((rd_T48 l1_1 0).f1) < 0) = false := decide_eq_false c45; clear c45
           (first | rw [c45b0] | (simp only [i64_w, i32_w]; rw [c45b0]) | skip)
           have H' := aM H
           clear H
           go_wp2
           repeat (go_quiet (fail); try go_wp2)
           go_meet
           case rel => exact ⟨_, (decide (((rd_T48 l1_1 0).f1) ≥ (l0.length : Int))), eT, H', ⟨by have := HJ5.out; first | omega | exact Nat.le_refl _⟩, ⟨by refine kR ?_; refine blk_far ?_ NB450_459.out _; refine kR ?_; refine blk_far ?_ NB450_459.out _; refine kR ?_; refine blk_far ?_ NB450_459.out _; refine kR ?_; refine blk_far ?_ NB450_459.out _; refine kR ?_; refine blk_far ?_ NB450_459.out _; refine kR ?_; exact BK450.out⟩, ⟨by refine kR ?_; refine blk_put (cs := #[.string (⟨#[]⟩ : ByteArray), .slice (some ad454) y455.length c1_1, .slice none 0 0, .slice none 0 0, .slice none 0 0]) ?_ 4 _ rfl; refine kR ?_; refine blk_put (cs := #[.string (⟨#[]⟩ : ByteArray), .slice (some ad454) y455.length c1_1, .slice none 0 0, .slice none 0 0, .slice none 0 0]) ?_ 3 _ rfl; refine kR ?_; refine blk_put (cs := #[.string (⟨#[]⟩ : ByteArray), .slice (some ad454) y455.length c1_1, .slice none 0 0, .slice none 0 0, .slice none 0 0]) ?_ 2 _ rfl; refine kR ?_; refine blk_put (cs := #[.string (⟨#[]⟩ : ByteArray), .slice none 0 0, .slice none 0 0, .slice none 0 0, .slice none 0 0]) ?_ 1 _ rfl; refine kR ?_; refine blk_put (cs := #[.string (⟨#[]⟩ : ByteArray), .slice none 0 0, .slice none 0 0, .slice none 0 0, .slice none 0 0]) ?_ 0 _ rfl; refine kR ?_; exact BK459.out⟩, ⟨bB2 HB.out GE450.out GE459.out⟩⟩
        case rest =>
         as_aux_lemma =>
          clear HC39
          try clear hx4
          try clear qi4
          try clear hx45
          try clear qi45
          try clear hx454_0
          try clear hx454_1
          obtain ⟨kq, x63_38, rfl, HA, HJ38, BK450, BK459, HB⟩ := hcut
          cases kq with
          | zero => exact absurd HA.out (by simp [l40_BindingTerms.j1])
          | succ kj38 =>
           have H := HA.out; clear HA
           simp only [l40_BindingTerms.j1] at H
           by_cases c46 : x63_38 = true
           ·subst c46
            have H1 : (none) = some r := by rw [if_pos rfl] at H; exact H
            clear H; have H := H1; clear H1
            exact absurd H (by simp)
           ·replace c46 := Bool.eq_false_iff.mpr c46
            subst c46
            have H1 : (if 0 ≤ ((rd_T48 l1_1 0).f1) then (if ((rd_T48 l1_1 0).f1) < (l0.length : Int) then (l40_BindingTerms.l0 kj38 l0 a2 ((rd_T48 l1_1 0).f1) (((rd_T51 l0 ((rd_T48 l1_1 0).f1)).f1).length : Int) 0 (⟨#[]⟩ : ByteArray) y455) else (none)) else (none)) = some r := by rw [if_neg (show ¬ (false = true) by decide)] at H; exact H
            clear H; have H := H1; clear H1
            by_cases c47 : 0 ≤ ((rd_T48 l1_1 0).f1)
            ·rw [if_pos c47] at H
             have c47b0 : decide (0 ≤ ((rd_T48 l1_1 0).f1)) = true := decide_eq_true c47; clear c47
             by_cases c48 : ((rd_T48 l1_1 0).f1) < (l0.length : Int)
             ·rw [if_pos c48] at H
              have c48b0 : decide (((rd_T48 l1_1 0).f1) < (l0.length : Int)) = true := decide_eq_true c48; clear c48
              as_aux_lemma =>
               have H' := aM H
               clear H; have p460 : 0 ≤ (((rd_T48 l1_1 0).f1) : Int) := dT; have q460 : ((rd_T48 l1_1 0).f1) < (l0.length : Int) := dT; obtain ⟨ad460, A460_1, c460_1, e460, hx460_0, hx460_1, hl460_1, hi460_1⟩ := at_T51 HR0.out ((rd_T48 l1_1 0).f1) p460 q460; cases e460
               try replace hx460_0 := (HB.out.cell (World.block_lt_of_cell? w _ hx460_0)).trans hx460_0
               try replace hx460_1 := (HB.out.cell (World.block_lt_of_cell? w _ hx460_1)).trans hx460_1
               have HR460_1 := aM hi460_1; have HC460_1 := aM hl460_1; clear hi460_1 hl460_1; replace p460 := eq_true p460; replace q460 := eq_true q460
               go_wp2
               repeat (go_quiet (fail); try go_wp2)
               go_loopg [10] kj38 (fun kq v10 w' => ∃ (x10_3 : Int), v10 = .int .i64 x10_3 ∧ Aside0 (l40_BindingTerms.l0 kq l0 a2 ((rd_T48 l1_1 0).f1) (((rd_T51 l0 ((rd_T48 l1_1 0).f1)).f1).length : Int) x10_3 (⟨#[]⟩ : ByteArray) y455 = some r) ∧ Aside0 (kq ≤ kj38) ∧ Aside0 (w'.heap[gb450]? = some (.cells #[.string a1_0, (.slice (some ad454) l1_1.length c1_1), (.slice A1_2 l1_2.length c1_2), (.slice A1_3 l1_3.length c1_3), (.slice A1_4 l1_4.length c1_4)] 27 (0, 0))) ∧ Aside0 (w'.heap[gb459]? = some (.cells #[.string (⟨#[]⟩ : ByteArray), (.slice (some ad454) y455.length c1_1), (.slice none 0 0), (.slice none 0 0), (.slice none 0 0)] 27 (0, 0))) ∧ Aside0 (Below w.heap.size w w'))
               case atStart => exact ⟨(0), eT, H', ⟨Nat.le_refl _⟩, ⟨kB BK450.out⟩, ⟨kB BK459.out⟩, ⟨bB2 HB.out GE450.out GE459.out⟩⟩
               case round =>
                as_aux_lemma =>
                 clear H'
                 try clear hx4
                 try clear qi4
                 try clear hx45
                 try clear qi45
                 try clear hx46
                 try clear hx454_0
                 try clear hx454_1
                 try clear hx460_0
                 try clear hx460_1
                 obtain ⟨x10_3, rfl, HA, HK3, BK450, BK459, HB⟩ := hrel
                 cases gk with
                 | zero => exact absurd HA.out (by simp [l40_BindingTerms.l0])
                 | succ k3 =>
                  have H := HA.out; clear HA
                  simp only [l40_BindingTerms.l0] at H
                  by_cases c49 : x10_3 < (((rd_T51 l0 ((rd_T48 l1_1 0).f1)).f1).length : Int)
                  ·rw [if_pos c49] at H
                   have c49b0 : decide (x10_3 < (((rd_T51 l0 ((rd_T48 l1_1 0).f1)).f1).length : Int)) = true := decide_eq_true c49; clear c49
                   obtain ⟨y461, hy461⟩ : ∃ y_ : List Int, y_ = (([x10_3] : List Int)) := ⟨_, rfl⟩
                   replace H : ((binding_Eval.f k3 l0 (⟨#[]⟩ : ByteArray) y455 ([] : List (S62)) ([] : List (S111)) ([] : List (S111)) ((rd_T48 l1_1 0).f1) (([(⟨a2, 2, 0⟩ : S54)] : List (S54))) y461).bind fun bt467 => ((binding_Eval.f k3 l0 (⟨#[]⟩ : ByteArray) y455 ([] : List (S62)) ([] : List (S111)) ([] : List (S111)) ((rd_T48 l1_1 0).f1) (([(⟨a2, 3, 0⟩ : S54)] : List (S54))) y461).bind fun bt474 => ((binding_Eval.f k3 l0 (⟨#[]⟩ : ByteArray) y455 ([] : List (S62)) ([] : List (S111)) ([] : List (S111)) ((rd_T48 l1_1 0).f1) (([(⟨a2, 4, 0⟩ : S54)] : List (S54))) y461).bind fun bt481 => ((binding_Eval.f k3 l0 (⟨#[]⟩ : ByteArray) y455 ([] : List (S62)) ([] : List (S111)) ([] : List (S111)) ((rd_T48 l1_1 0).f1) (([(⟨a2, 5, 0⟩ : S54)] : List (S54))) y461).bind fun bt488 => (if bt467.2 = 0 then (if bt474.2 = 0 then (if bt481.2 = 0 then (if bt488.2 = 0 then (if (bt467.1.length : Int) = (((rd_T51 l0 ((rd_T48 l1_1 0).f1)).f1).length : Int) then (if (bt474.1.length : Int) = (((rd_T51 l0 ((rd_T48 l1_1 0).f1)).f1).length : Int) then (if (bt481.1.length : Int) = (((rd_T51 l0 ((rd_T48 l1_1 0).f1)).f1).length : Int) then (l40_BindingTerms.j3 k3 l0 a2 ((rd_T48 l1_1 0).f1) (((rd_T51 l0 ((rd_T48 l1_1 0).f1)).f1).length : Int) x10_3 bt467.1 bt474.1 bt481.1 bt488.1 ((bt488.1.length : Int) != (((rd_T51 l0 ((rd_T48 l1_1 0).f1)).f1).length : Int)) (⟨#[]⟩ : ByteArray) y455) else (l40_BindingTerms.j3 k3 l0 a2 ((rd_T48 l1_1 0).f1) (((rd_T51 l0 ((rd_T48 l1_1 0).f1)).f1).length : Int) x10_3 bt467.1 bt474.1 bt481.1 bt488.1 true (⟨#[]⟩ : ByteArray) y455)) else (l40_BindingTerms.j3 k3 l0 a2 ((rd_T48 l1_1 0).f1) (((rd_T51 l0 ((rd_T48 l1_1 0).f1)).f1).length : Int) x10_3 bt467.1 bt474.1 bt481.1 bt488.1 true (⟨#[]⟩ : ByteArray) y455)) else (l40_BindingTerms.j3 k3 l0 a2 ((rd_T48 l1_1 0).f1) (((rd_T51 l0 ((rd_T48 l1_1 0).f1)).f1).length : Int) x10_3 bt467.1 bt474.1 bt481.1 bt488.1 true (⟨#[]⟩ : ByteArray) y455)) else (l40_BindingTerms.j3 k3 l0 a2 ((rd_T48 l1_1 0).f1) (((rd_T51 l0 ((rd_T48 l1_1 0).f1)).f1).length : Int) x10_3 bt467.1 bt474.1 bt481.1 bt488.1 true (⟨#[]⟩ : ByteArray) y455)) else (l40_BindingTerms.j3 k3 l0 a2 ((rd_T48 l1_1 0).f1) (((rd_T51 l0 ((rd_T48 l1_1 0).f1)).f1).length : Int) x10_3 bt467.1 bt474.1 bt481.1 bt488.1 true (⟨#[]⟩ : ByteArray) y455)) else (l40_BindingTerms.j3 k3 l0 a2 ((rd_T48 l1_1 0).f1) (((rd_T51 l0 ((rd_T48 l1_1 0).f1)).f1).length : Int) x10_3 bt467.1 bt474.1 bt481.1 bt488.1 true (⟨#[]⟩ : ByteArray) y455)) else (l40_BindingTerms.j3 k3 l0 a2 ((rd_T48 l1_1 0).f1) (((rd_T51 l0 ((rd_T48 l1_1 0).f1)).f1).length : Int) x10_3 bt467.1 bt474.1 bt481.1 bt488.1 true (⟨#[]⟩ : ByteArray) y455)))))) = some r := by first | (rw [hy461]; with_reducible exact H) | (have H2_ := (Option.bind_some _ _).symm.trans H; rw [hy461]; with_reducible exact H2_) | (have H2_ := (Option.bind_some _ _).symm.trans H; with_reducible exact H2_) | with_reducible exact H | (rw [hy461]; exact H) | exact H
                   have Ny461 := aM hy461; clear hy461
                   obtain ⟨y464, hy464⟩ : ∃ y_ : List (S54), y_ = (([(⟨a2, 2, 0⟩ : S54)] : List (S54))) := ⟨_, rfl⟩
                   replace H : ((binding_Eval.f k3 l0 (⟨#[]⟩ : ByteArray) y455 ([] : List (S62)) ([] : List (S111)) ([] : List (S111)) ((rd_T48 l1_1 0).f1) y464 y461).bind fun bt467 => ((binding_Eval.f k3 l0 (⟨#[]⟩ : ByteArray) y455 ([] : List (S62)) ([] : List (S111)) ([] : List (S111)) ((rd_T48 l1_1 0).f1) (([(⟨a2, 3, 0⟩ : S54)] : List (S54))) y461).bind fun bt474 => ((binding_Eval.f k3 l0 (⟨#[]⟩ : ByteArray) y455 ([] : List (S62)) ([] : List (S111)) ([] : List (S111)) ((rd_T48 l1_1 0).f1) (([(⟨a2, 4, 0⟩ : S54)] : List (S54))) y461).bind fun bt481 => ((binding_Eval.f k3 l0 (⟨#[]⟩ : ByteArray) y455 ([] : List (S62)) ([] : List (S111)) ([] : List (S111)) ((rd_T48 l1_1 0).f1) (([(⟨a2, 5, 0⟩ : S54)] : List (S54))) y461).bind fun bt488 => (if bt467.2 = 0 then (if bt474.2 = 0 then (if bt481.2 = 0 then (if bt488.2 = 0 then (if (bt467.1.length : Int) = (((rd_T51 l0 ((rd_T48 l1_1 0).f1)).f1).length : Int) then (if (bt474.1.length : Int) = (((rd_T51 l0 ((rd_T48 l1_1 0).f1)).f1).length : Int) then (if (bt481.1.length : Int) = (((rd_T51 l0 ((rd_T48 l1_1 0).f1)).f1).length : Int) then (l40_BindingTerms.j3 k3 l0 a2 ((rd_T48 l1_1 0).f1) (((rd_T51 l0 ((rd_T48 l1_1 0).f1)).f1).length : Int) x10_3 bt467.1 bt474.1 bt481.1 bt488.1 ((bt488.1.length : Int) != (((rd_T51 l0 ((rd_T48 l1_1 0).f1)).f1).length : Int)) (⟨#[]⟩ : ByteArray) y455) else (l40_BindingTerms.j3 k3 l0 a2 ((rd_T48 l1_1 0).f1) (((rd_T51 l0 ((rd_T48 l1_1 0).f1)).f1).length : Int) x10_3 bt467.1 bt474.1 bt481.1 bt488.1 true (⟨#[]⟩ : ByteArray) y455)) else (l40_BindingTerms.j3 k3 l0 a2 ((rd_T48 l1_1 0).f1) (((rd_T51 l0 ((rd_T48 l1_1 0).f1)).f1).length : Int) x10_3 bt467.1 bt474.1 bt481.1 bt488.1 true (⟨#[]⟩ : ByteArray) y455)) else (l40_BindingTerms.j3 k3 l0 a2 ((rd_T48 l1_1 0).f1) (((rd_T51 l0 ((rd_T48 l1_1 0).f1)).f1).length : Int) x10_3 bt467.1 bt474.1 bt481.1 bt488.1 true (⟨#[]⟩ : ByteArray) y455)) else (l40_BindingTerms.j3 k3 l0 a2 ((rd_T48 l1_1 0).f1) (((rd_T51 l0 ((rd_T48 l1_1 0).f1)).f1).length : Int) x10_3 bt467.1 bt474.1 bt481.1 bt488.1 true (⟨#[]⟩ : ByteArray) y455)) else (l40_BindingTerms.j3 k3 l0 a2 ((rd_T48 l1_1 0).f1) (((rd_T51 l0 ((rd_T48 l1_1 0).f1)).f1).length : Int) x10_3 bt467.1 bt474.1 bt481.1 bt488.1 true (⟨#[]⟩ : ByteArray) y455)) else (l40_BindingTerms.j3 k3 l0 a2 ((rd_T48 l1_1 0).f1) (((rd_T51 l0 ((rd_T48 l1_1 0).f1)).f1).length : Int) x10_3 bt467.1 bt474.1 bt481.1 bt488.1 true (⟨#[]⟩ : ByteArray) y455)) else (l40_BindingTerms.j3 k3 l0 a2 ((rd_T48 l1_1 0).f1) (((rd_T51 l0 ((rd_T48 l1_1 0).f1)).f1).length : Int) x10_3 bt467.1 bt474.1 bt481.1 bt488.1 true (⟨#[]⟩ : ByteArray) y455)))))) = some r := by first | (rw [hy464]; with_reducible exact H) | (have H2_ := (Option.bind_some _ _).symm.trans H; rw [hy464]; with_reducible exact H2_) | (have H2_ := (Option.bind_some _ _).symm.trans H; with_reducible exact H2_) | with_reducible exact H | (rw [hy464]; exact H) | exact H
                   have Ny464 := aM hy464; clear hy464; replace H := Option.bind_eq_some_iff.mp H
                   obtain ⟨⟨t467, t470⟩, A500, H⟩ := H
                   replace H : ((binding_Eval.f k3 l0 (⟨#[]⟩ : ByteArray) y455 ([] : List (S62)) ([] : List (S111)) ([] : List (S111)) ((rd_T48 l1_1 0).f1) (([(⟨a2, 3, 0⟩ : S54)] : List (S54))) y461).bind fun bt474 => ((binding_Eval.f k3 l0 (⟨#[]⟩ : ByteArray) y455 ([] : List (S62)) ([] : List (S111)) ([] : List (S111)) ((rd_T48 l1_1 0).f1) (([(⟨a2, 4, 0⟩ : S54)] : List (S54))) y461).bind fun bt481 => ((binding_Eval.f k3 l0 (⟨#[]⟩ : ByteArray) y455 ([] : List (S62)) ([] : List (S111)) ([] : List (S111)) ((rd_T48 l1_1 0).f1) (([(⟨a2, 5, 0⟩ : S54)] : List (S54))) y461).bind fun bt488 => (if t470 = 0 then (if bt474.2 = 0 then (if bt481.2 = 0 then (if bt488.2 = 0 then (if (t467.length : Int) = (((rd_T51 l0 ((rd_T48 l1_1 0).f1)).f1).length : Int) then (if (bt474.1.length : Int) = (((rd_T51 l0 ((rd_T48 l1_1 0).f1)).f1).length : Int) then (if (bt481.1.length : Int) = (((rd_T51 l0 ((rd_T48 l1_1 0).f1)).f1).length : Int) then (l40_BindingTerms.j3 k3 l0 a2 ((rd_T48 l1_1 0).f1) (((rd_T51 l0 ((rd_T48 l1_1 0).f1)).f1).length : Int) x10_3 t467 bt474.1 bt481.1 bt488.1 ((bt488.1.length : Int) != (((rd_T51 l0 ((rd_T48 l1_1 0).f1)).f1).length : Int)) (⟨#[]⟩ : ByteArray) y455) else (l40_BindingTerms.j3 k3 l0 a2 ((rd_T48 l1_1 0).f1) (((rd_T51 l0 ((rd_T48 l1_1 0).f1)).f1).length : Int) x10_3 t467 bt474.1 bt481.1 bt488.1 true (⟨#[]⟩ : ByteArray) y455)) else (l40_BindingTerms.j3 k3 l0 a2 ((rd_T48 l1_1 0).f1) (((rd_T51 l0 ((rd_T48 l1_1 0).f1)).f1).length : Int) x10_3 t467 bt474.1 bt481.1 bt488.1 true (⟨#[]⟩ : ByteArray) y455)) else (l40_BindingTerms.j3 k3 l0 a2 ((rd_T48 l1_1 0).f1) (((rd_T51 l0 ((rd_T48 l1_1 0).f1)).f1).length : Int) x10_3 t467 bt474.1 bt481.1 bt488.1 true (⟨#[]⟩ : ByteArray) y455)) else (l40_BindingTerms.j3 k3 l0 a2 ((rd_T48 l1_1 0).f1) (((rd_T51 l0 ((rd_T48 l1_1 0).f1)).f1).length : Int) x10_3 t467 bt474.1 bt481.1 bt488.1 true (⟨#[]⟩ : ByteArray) y455)) else (l40_BindingTerms.j3 k3 l0 a2 ((rd_T48 l1_1 0).f1) (((rd_T51 l0 ((rd_T48 l1_1 0).f1)).f1).length : Int) x10_3 t467 bt474.1 bt481.1 bt488.1 true (⟨#[]⟩ : ByteArray) y455)) else (l40_BindingTerms.j3 k3 l0 a2 ((rd_T48 l1_1 0).f1) (((rd_T51 l0 ((rd_T48 l1_1 0).f1)).f1).length : Int) x10_3 t467 bt474.1 bt481.1 bt488.1 true (⟨#[]⟩ : ByteArray) y455)) else (l40_BindingTerms.j3 k3 l0 a2 ((rd_T48 l1_1 0).f1) (((rd_T51 l0 ((rd_T48 l1_1 0).f1)).f1).length : Int) x10_3 t467 bt474.1 bt481.1 bt488.1 true (⟨#[]⟩ : ByteArray) y455))))) = some r := H
                   have A50 := aM A500; clear A500
                   obtain ⟨y471, hy471⟩ : ∃ y_ : List (S54), y_ = (([(⟨a2, 3, 0⟩ : S54)] : List (S54))) := ⟨_, rfl⟩
                   replace H : ((binding_Eval.f k3 l0 (⟨#[]⟩ : ByteArray) y455 ([] : List (S62)) ([] : List (S111)) ([] : List (S111)) ((rd_T48 l1_1 0).f1) y471 y461).bind fun bt474 => ((binding_Eval.f k3 l0 (⟨#[]⟩ : ByteArray) y455 ([] : List (S62)) ([] : List (S111)) ([] : List (S111)) ((rd_T48 l1_1 0).f1) (([(⟨a2, 4, 0⟩ : S54)] : List (S54))) y461).bind fun bt481 => ((binding_Eval.f k3 l0 (⟨#[]⟩ : ByteArray) y455 ([] : List (S62)) ([] : List (S111)) ([] : List (S111)) ((rd_T48 l1_1 0).f1) (([(⟨a2, 5, 0⟩ : S54)] : List (S54))) y461).bind fun bt488 => (if t470 = 0 then (if bt474.2 = 0 then (if bt481.2 = 0 then (if bt488.2 = 0 then (if (t467.length : Int) = (((rd_T51 l0 ((rd_T48 l1_1 0).f1)).f1).length : Int) then (if (bt474.1.length : Int) = (((rd_T51 l0 ((rd_T48 l1_1 0).f1)).f1).length : Int) then (if (bt481.1.length : Int) = (((rd_T51 l0 ((rd_T48 l1_1 0).f1)).f1).length : Int) then (l40_BindingTerms.j3 k3 l0 a2 ((rd_T48 l1_1 0).f1) (((rd_T51 l0 ((rd_T48 l1_1 0).f1)).f1).length : Int) x10_3 t467 bt474.1 bt481.1 bt488.1 ((bt488.1.length : Int) != (((rd_T51 l0 ((rd_T48 l1_1 0).f1)).f1).length : Int)) (⟨#[]⟩ : ByteArray) y455) else (l40_BindingTerms.j3 k3 l0 a2 ((rd_T48 l1_1 0).f1) (((rd_T51 l0 ((rd_T48 l1_1 0).f1)).f1).length : Int) x10_3 t467 bt474.1 bt481.1 bt488.1 true (⟨#[]⟩ : ByteArray) y455)) else (l40_BindingTerms.j3 k3 l0 a2 ((rd_T48 l1_1 0).f1) (((rd_T51 l0 ((rd_T48 l1_1 0).f1)).f1).length : Int) x10_3 t467 bt474.1 bt481.1 bt488.1 true (⟨#[]⟩ : ByteArray) y455)) else (l40_BindingTerms.j3 k3 l0 a2 ((rd_T48 l1_1 0).f1) (((rd_T51 l0 ((rd_T48 l1_1 0).f1)).f1).length : Int) x10_3 t467 bt474.1 bt481.1 bt488.1 true (⟨#[]⟩ : ByteArray) y455)) else (l40_BindingTerms.j3 k3 l0 a2 ((rd_T48 l1_1 0).f1) (((rd_T51 l0 ((rd_T48 l1_1 0).f1)).f1).length : Int) x10_3 t467 bt474.1 bt481.1 bt488.1 true (⟨#[]⟩ : ByteArray) y455)) else (l40_BindingTerms.j3 k3 l0 a2 ((rd_T48 l1_1 0).f1) (((rd_T51 l0 ((rd_T48 l1_1 0).f1)).f1).length : Int) x10_3 t467 bt474.1 bt481.1 bt488.1 true (⟨#[]⟩ : ByteArray) y455)) else (l40_BindingTerms.j3 k3 l0 a2 ((rd_T48 l1_1 0).f1) (((rd_T51 l0 ((rd_T48 l1_1 0).f1)).f1).length : Int) x10_3 t467 bt474.1 bt481.1 bt488.1 true (⟨#[]⟩ : ByteArray) y455)) else (l40_BindingTerms.j3 k3 l0 a2 ((rd_T48 l1_1 0).f1) (((rd_T51 l0 ((rd_T48 l1_1 0).f1)).f1).length : Int) x10_3 t467 bt474.1 bt481.1 bt488.1 true (⟨#[]⟩ : ByteArray) y455))))) = some r := by first | (rw [hy471]; with_reducible exact H) | (have H2_ := (Option.bind_some _ _).symm.trans H; rw [hy471]; with_reducible exact H2_) | (have H2_ := (Option.bind_some _ _).symm.trans H; with_reducible exact H2_) | with_reducible exact H | (rw [hy471]; exact H) | exact H
                   have Ny471 := aM hy471; clear hy471; replace H := Option.bind_eq_some_iff.mp H
                   obtain ⟨⟨t474, t477⟩, A510, H⟩ := H
                   replace H : ((binding_Eval.f k3 l0 (⟨#[]⟩ : ByteArray) y455 ([] : List (S62)) ([] : List (S111)) ([] : List (S111)) ((rd_T48 l1_1 0).f1) (([(⟨a2, 4, 0⟩ : S54)] : List (S54))) y461).bind fun bt481 => ((binding_Eval.f k3 l0 (⟨#[]⟩ : ByteArray) y455 ([] : List (S62)) ([] : List (S111)) ([] : List (S111)) ((rd_T48 l1_1 0).f1) (([(⟨a2, 5, 0⟩ : S54)] : List (S54))) y461).bind fun bt488 => (if t470 = 0 then (if t477 = 0 then (if bt481.2 = 0 then (if bt488.2 = 0 then (if (t467.length : Int) = (((rd_T51 l0 ((rd_T48 l1_1 0).f1)).f1).length : Int) then (if (t474.length : Int) = (((rd_T51 l0 ((rd_T48 l1_1 0).f1)).f1).length : Int) then (if (bt481.1.length : Int) = (((rd_T51 l0 ((rd_T48 l1_1 0).f1)).f1).length : Int) then (l40_BindingTerms.j3 k3 l0 a2 ((rd_T48 l1_1 0).f1) (((rd_T51 l0 ((rd_T48 l1_1 0).f1)).f1).length : Int) x10_3 t467 t474 bt481.1 bt488.1 ((bt488.1.length : Int) != (((rd_T51 l0 ((rd_T48 l1_1 0).f1)).f1).length : Int)) (⟨#[]⟩ : ByteArray) y455) else (l40_BindingTerms.j3 k3 l0 a2 ((rd_T48 l1_1 0).f1) (((rd_T51 l0 ((rd_T48 l1_1 0).f1)).f1).length : Int) x10_3 t467 t474 bt481.1 bt488.1 true (⟨#[]⟩ : ByteArray) y455)) else (l40_BindingTerms.j3 k3 l0 a2 ((rd_T48 l1_1 0).f1) (((rd_T51 l0 ((rd_T48 l1_1 0).f1)).f1).length : Int) x10_3 t467 t474 bt481.1 bt488.1 true (⟨#[]⟩ : ByteArray) y455)) else (l40_BindingTerms.j3 k3 l0 a2 ((rd_T48 l1_1 0).f1) (((rd_T51 l0 ((rd_T48 l1_1 0).f1)).f1).length : Int) x10_3 t467 t474 bt481.1 bt488.1 true (⟨#[]⟩ : ByteArray) y455)) else (l40_BindingTerms.j3 k3 l0 a2 ((rd_T48 l1_1 0).f1) (((rd_T51 l0 ((rd_T48 l1_1 0).f1)).f1).length : Int) x10_3 t467 t474 bt481.1 bt488.1 true (⟨#[]⟩ : ByteArray) y455)) else (l40_BindingTerms.j3 k3 l0 a2 ((rd_T48 l1_1 0).f1) (((rd_T51 l0 ((rd_T48 l1_1 0).f1)).f1).length : Int) x10_3 t467 t474 bt481.1 bt488.1 true (⟨#[]⟩ : ByteArray) y455)) else (l40_BindingTerms.j3 k3 l0 a2 ((rd_T48 l1_1 0).f1) (((rd_T51 l0 ((rd_T48 l1_1 0).f1)).f1).length : Int) x10_3 t467 t474 bt481.1 bt488.1 true (⟨#[]⟩ : ByteArray) y455)) else (l40_BindingTerms.j3 k3 l0 a2 ((rd_T48 l1_1 0).f1) (((rd_T51 l0 ((rd_T48 l1_1 0).f1)).f1).length : Int) x10_3 t467 t474 bt481.1 bt488.1 true (⟨#[]⟩ : ByteArray) y455)))) = some r := H
                   have A51 := aM A510; clear A510
                   obtain ⟨y478, hy478⟩ : ∃ y_ : List (S54), y_ = (([(⟨a2, 4, 0⟩ : S54)] : List (S54))) := ⟨_, rfl⟩
                   replace H : ((binding_Eval.f k3 l0 (⟨#[]⟩ : ByteArray) y455 ([] : List (S62)) ([] : List (S111)) ([] : List (S111)) ((rd_T48 l1_1 0).f1) y478 y461).bind fun bt481 => ((binding_Eval.f k3 l0 (⟨#[]⟩ : ByteArray) y455 ([] : List (S62)) ([] : List (S111)) ([] : List (S111)) ((rd_T48 l1_1 0).f1) (([(⟨a2, 5, 0⟩ : S54)] : List (S54))) y461).bind fun bt488 => (if t470 = 0 then (if t477 = 0 then (if bt481.2 = 0 then (if bt488.2 = 0 then (if (t467.length : Int) = (((rd_T51 l0 ((rd_T48 l1_1 0).f1)).f1).length : Int) then (if (t474.length : Int) = (((rd_T51 l0 ((rd_T48 l1_1 0).f1)).f1).length : Int) then (if (bt481.1.length : Int) = (((rd_T51 l0 ((rd_T48 l1_1 0).f1)).f1).length : Int) then (l40_BindingTerms.j3 k3 l0 a2 ((rd_T48 l1_1 0).f1) (((rd_T51 l0 ((rd_T48 l1_1 0).f1)).f1).length : Int) x10_3 t467 t474 bt481.1 bt488.1 ((bt488.1.length : Int) != (((rd_T51 l0 ((rd_T48 l1_1 0).f1)).f1).length : Int)) (⟨#[]⟩ : ByteArray) y455) else (l40_BindingTerms.j3 k3 l0 a2 ((rd_T48 l1_1 0).f1) (((rd_T51 l0 ((rd_T48 l1_1 0).f1)).f1).length : Int) x10_3 t467 t474 bt481.1 bt488.1 true (⟨#[]⟩ : ByteArray) y455)) else (l40_BindingTerms.j3 k3 l0 a2 ((rd_T48 l1_1 0).f1) (((rd_T51 l0 ((rd_T48 l1_1 0).f1)).f1).length : Int) x10_3 t467 t474 bt481.1 bt488.1 true (⟨#[]⟩ : ByteArray) y455)) else (l40_BindingTerms.j3 k3 l0 a2 ((rd_T48 l1_1 0).f1) (((rd_T51 l0 ((rd_T48 l1_1 0).f1)).f1).length : Int) x10_3 t467 t474 bt481.1 bt488.1 true (⟨#[]⟩ : ByteArray) y455)) else (l40_BindingTerms.j3 k3 l0 a2 ((rd_T48 l1_1 0).f1) (((rd_T51 l0 ((rd_T48 l1_1 0).f1)).f1).length : Int) x10_3 t467 t474 bt481.1 bt488.1 true (⟨#[]⟩ : ByteArray) y455)) else (l40_BindingTerms.j3 k3 l0 a2 ((rd_T48 l1_1 0).f1) (((rd_T51 l0 ((rd_T48 l1_1 0).f1)).f1).length : Int) x10_3 t467 t474 bt481.1 bt488.1 true (⟨#[]⟩ : ByteArray) y455)) else (l40_BindingTerms.j3 k3 l0 a2 ((rd_T48 l1_1 0).f1) (((rd_T51 l0 ((rd_T48 l1_1 0).f1)).f1).length : Int) x10_3 t467 t474 bt481.1 bt488.1 true (⟨#[]⟩ : ByteArray) y455)) else (l40_BindingTerms.j3 k3 l0 a2 ((rd_T48 l1_1 0).f1) (((rd_T51 l0 ((rd_T48 l1_1 0).f1)).f1).length : Int) x10_3 t467 t474 bt481.1 bt488.1 true (⟨#[]⟩ : ByteArray) y455)))) = some r := by first | (rw [hy478]; with_reducible exact H) | (have H2_ := (Option.bind_some _ _).symm.trans H; rw [hy478]; with_reducible exact H2_) | (have H2_ := (Option.bind_some _ _).symm.trans H; with_reducible exact H2_) | with_reducible exact H | (rw [hy478]; exact H) | exact H
                   have Ny478 := aM hy478; clear hy478; replace H := Option.bind_eq_some_iff.mp H
                   obtain ⟨⟨t481, t484⟩, A520, H⟩ := H
                   replace H : ((binding_Eval.f k3 l0 (⟨#[]⟩ : ByteArray) y455 ([] : List (S62)) ([] : List (S111)) ([] : List (S111)) ((rd_T48 l1_1 0).f1) (([(⟨a2, 5, 0⟩ : S54)] : List (S54))) y461).bind fun bt488 => (if t470 = 0 then (if t477 = 0 then (if t484 = 0 then (if bt488.2 = 0 then (if (t467.length : Int) = (((rd_T51 l0 ((rd_T48 l1_1 0).f1)).f1).length : Int) then (if (t474.length : Int) = (((rd_T51 l0 ((rd_T48 l1_1 0).f1)).f1).length : Int) then (if (t481.length : Int) = (((rd_T51 l0 ((rd_T48 l1_1 0).f1)).f1).length : Int) then (l40_BindingTerms.j3 k3 l0 a2 ((rd_T48 l1_1 0).f1) (((rd_T51 l0 ((rd_T48 l1_1 0).f1)).f1).length : Int) x10_3 t467 t474 t481 bt488.1 ((bt488.1.length : Int) != (((rd_T51 l0 ((rd_T48 l1_1 0).f1)).f1).length : Int)) (⟨#[]⟩ : ByteArray) y455) else (l40_BindingTerms.j3 k3 l0 a2 ((rd_T48 l1_1 0).f1) (((rd_T51 l0 ((rd_T48 l1_1 0).f1)).f1).length : Int) x10_3 t467 t474 t481 bt488.1 true (⟨#[]⟩ : ByteArray) y455)) else (l40_BindingTerms.j3 k3 l0 a2 ((rd_T48 l1_1 0).f1) (((rd_T51 l0 ((rd_T48 l1_1 0).f1)).f1).length : Int) x10_3 t467 t474 t481 bt488.1 true (⟨#[]⟩ : ByteArray) y455)) else (l40_BindingTerms.j3 k3 l0 a2 ((rd_T48 l1_1 0).f1) (((rd_T51 l0 ((rd_T48 l1_1 0).f1)).f1).length : Int) x10_3 t467 t474 t481 bt488.1 true (⟨#[]⟩ : ByteArray) y455)) else (l40_BindingTerms.j3 k3 l0 a2 ((rd_T48 l1_1 0).f1) (((rd_T51 l0 ((rd_T48 l1_1 0).f1)).f1).length : Int) x10_3 t467 t474 t481 bt488.1 true (⟨#[]⟩ : ByteArray) y455)) else (l40_BindingTerms.j3 k3 l0 a2 ((rd_T48 l1_1 0).f1) (((rd_T51 l0 ((rd_T48 l1_1 0).f1)).f1).length : Int) x10_3 t467 t474 t481 bt488.1 true (⟨#[]⟩ : ByteArray) y455)) else (l40_BindingTerms.j3 k3 l0 a2 ((rd_T48 l1_1 0).f1) (((rd_T51 l0 ((rd_T48 l1_1 0).f1)).f1).length : Int) x10_3 t467 t474 t481 bt488.1 true (⟨#[]⟩ : ByteArray) y455)) else (l40_BindingTerms.j3 k3 l0 a2 ((rd_T48 l1_1 0).f1) (((rd_T51 l0 ((rd_T48 l1_1 0).f1)).f1).length : Int) x10_3 t467 t474 t481 bt488.1 true (⟨#[]⟩ : ByteArray) y455))) = some r := H
                   have A52 := aM A520; clear A520
                   obtain ⟨y485, hy485⟩ : ∃ y_ : List (S54), y_ = (([(⟨a2, 5, 0⟩ : S54)] : List (S54))) := ⟨_, rfl⟩
                   replace H : ((binding_Eval.f k3 l0 (⟨#[]⟩ : ByteArray) y455 ([] : List (S62)) ([] : List (S111)) ([] : List (S111)) ((rd_T48 l1_1 0).f1) y485 y461).bind fun bt488 => (if t470 = 0 then (if t477 = 0 then (if t484 = 0 then (if bt488.2 = 0 then (if (t467.length : Int) = (((rd_T51 l0 ((rd_T48 l1_1 0).f1)).f1).length : Int) then (if (t474.length : Int) = (((rd_T51 l0 ((rd_T48 l1_1 0).f1)).f1).length : Int) then (if (t481.length : Int) = (((rd_T51 l0 ((rd_T48 l1_1 0).f1)).f1).length : Int) then (l40_BindingTerms.j3 k3 l0 a2 ((rd_T48 l1_1 0).f1) (((rd_T51 l0 ((rd_T48 l1_1 0).f1)).f1).length : Int) x10_3 t467 t474 t481 bt488.1 ((bt488.1.length : Int) != (((rd_T51 l0 ((rd_T48 l1_1 0).f1)).f1).length : Int)) (⟨#[]⟩ : ByteArray) y455) else (l40_BindingTerms.j3 k3 l0 a2 ((rd_T48 l1_1 0).f1) (((rd_T51 l0 ((rd_T48 l1_1 0).f1)).f1).length : Int) x10_3 t467 t474 t481 bt488.1 true (⟨#[]⟩ : ByteArray) y455)) else (l40_BindingTerms.j3 k3 l0 a2 ((rd_T48 l1_1 0).f1) (((rd_T51 l0 ((rd_T48 l1_1 0).f1)).f1).length : Int) x10_3 t467 t474 t481 bt488.1 true (⟨#[]⟩ : ByteArray) y455)) else (l40_BindingTerms.j3 k3 l0 a2 ((rd_T48 l1_1 0).f1) (((rd_T51 l0 ((rd_T48 l1_1 0).f1)).f1).length : Int) x10_3 t467 t474 t481 bt488.1 true (⟨#[]⟩ : ByteArray) y455)) else (l40_BindingTerms.j3 k3 l0 a2 ((rd_T48 l1_1 0).f1) (((rd_T51 l0 ((rd_T48 l1_1 0).f1)).f1).length : Int) x10_3 t467 t474 t481 bt488.1 true (⟨#[]⟩ : ByteArray) y455)) else (l40_BindingTerms.j3 k3 l0 a2 ((rd_T48 l1_1 0).f1) (((rd_T51 l0 ((rd_T48 l1_1 0).f1)).f1).length : Int) x10_3 t467 t474 t481 bt488.1 true (⟨#[]⟩ : ByteArray) y455)) else (l40_BindingTerms.j3 k3 l0 a2 ((rd_T48 l1_1 0).f1) (((rd_T51 l0 ((rd_T48 l1_1 0).f1)).f1).length : Int) x10_3 t467 t474 t481 bt488.1 true (⟨#[]⟩ : ByteArray) y455)) else (l40_BindingTerms.j3 k3 l0 a2 ((rd_T48 l1_1 0).f1) (((rd_T51 l0 ((rd_T48 l1_1 0).f1)).f1).length : Int) x10_3 t467 t474 t481 bt488.1 true (⟨#[]⟩ : ByteArray) y455))) = some r := by first | (rw [hy485]; with_reducible exact H) | (have H2_ := (Option.bind_some _ _).symm.trans H; rw [hy485]; with_reducible exact H2_) | (have H2_ := (Option.bind_some _ _).symm.trans H; with_reducible exact H2_) | with_reducible exact H | (rw [hy485]; exact H) | exact H
                   have Ny485 := aM hy485; clear hy485; replace H := Option.bind_eq_some_iff.mp H
                   obtain ⟨⟨t488, t491⟩, A530, H⟩ := H
                   replace H : (if t470 = 0 then (if t477 = 0 then (if t484 = 0 then (if t491 = 0 then (if (t467.length : Int) = (((rd_T51 l0 ((rd_T48 l1_1 0).f1)).f1).length : Int) then (if (t474.length : Int) = (((rd_T51 l0 ((rd_T48 l1_1 0).f1)).f1).length : Int) then (if (t481.length : Int) = (((rd_T51 l0 ((rd_T48 l1_1 0).f1)).f1).length : Int) then (l40_BindingTerms.j3 k3 l0 a2 ((rd_T48 l1_1 0).f1) (((rd_T51 l0 ((rd_T48 l1_1 0).f1)).f1).length : Int) x10_3 t467 t474 t481 t488 ((t488.length : Int) != (((rd_T51 l0 ((rd_T48 l1_1 0).f1)).f1).length : Int)) (⟨#[]⟩ : ByteArray) y455) else (l40_BindingTerms.j3 k3 l0 a2 ((rd_T48 l1_1 0).f1) (((rd_T51 l0 ((rd_T48 l1_1 0).f1)).f1).length : Int) x10_3 t467 t474 t481 t488 true (⟨#[]⟩ : ByteArray) y455)) else (l40_BindingTerms.j3 k3 l0 a2 ((rd_T48 l1_1 0).f1) (((rd_T51 l0 ((rd_T48 l1_1 0).f1)).f1).length : Int) x10_3 t467 t474 t481 t488 true (⟨#[]⟩ : ByteArray) y455)) else (l40_BindingTerms.j3 k3 l0 a2 ((rd_T48 l1_1 0).f1) (((rd_T51 l0 ((rd_T48 l1_1 0).f1)).f1).length : Int) x10_3 t467 t474 t481 t488 true (⟨#[]⟩ : ByteArray) y455)) else (l40_BindingTerms.j3 k3 l0 a2 ((rd_T48 l1_1 0).f1) (((rd_T51 l0 ((rd_T48 l1_1 0).f1)).f1).length : Int) x10_3 t467 t474 t481 t488 true (⟨#[]⟩ : ByteArray) y455)) else (l40_BindingTerms.j3 k3 l0 a2 ((rd_T48 l1_1 0).f1) (((rd_T51 l0 ((rd_T48 l1_1 0).f1)).f1).length : Int) x10_3 t467 t474 t481 t488 true (⟨#[]⟩ : ByteArray) y455)) else (l40_BindingTerms.j3 k3 l0 a2 ((rd_T48 l1_1 0).f1) (((rd_T51 l0 ((rd_T48 l1_1 0).f1)).f1).length : Int) x10_3 t467 t474 t481 t488 true (⟨#[]⟩ : ByteArray) y455)) else (l40_BindingTerms.j3 k3 l0 a2 ((rd_T48 l1_1 0).f1) (((rd_T51 l0 ((rd_T48 l1_1 0).f1)).f1).length : Int) x10_3 t467 t474 t481 t488 true (⟨#[]⟩ : ByteArray) y455)) = some r := H
                   have A53 := aM A530; clear A530; have HC54 := aM H; clear H
                   go_upto_region 18 with (first | ((with_reducible refine gate_dst (N := 76) rfl ?_); (try (refine gate_guard (by rfl) ?_; dsimp only)); refine Kd.R_lit (Kd.int .i64) _ 3 ?hg (N := 76) ?hd (xs := ([x10_3] : List Int)) (inner := [.int .i64 x10_3]) (ok := fun _ => True) (okp := fun _ => True) ?hr ?hp (fun _ hk => hk) trivial (Below.refl _ _) (Nat.le_refl _) (by simp) ?_; (case hd => rfl); (case hg => rfl); (case hr => first | (go_simp; done) | (go_simp; rfl)); (case hp => exact (Reps.one (show Kd.M (Kd.int .i64) _ _ _ x10_3 [.int .i64 x10_3] from rfl) (Reps.none _ _))); intro v462 w55 ho56 hb hg_ hnew_; clear hg_ hnew_; (first | rw [← Ny461.out] at ho56 | (simp only [Int.reduceToNat] at ho56; rw [← Ny461.out] at ho56)); have n0_ := aM (Kd.R_lower ho56 (below_size (bB2 HB.out GE450.out GE459.out))); have n1_ := aM (kW BK450.out hb); have n2_ := aM (kW BK459.out hb); have n3_ := aM (below_step (bB2 HB.out GE450.out GE459.out) hb); clear BK450; clear BK459; clear HB; have HO463 := n0_; have BK450 := n1_; have BK459 := n2_; have HB := n3_; clear n0_ n1_ n2_ n3_; clear hb ho56; have hnb57 := NB459_450.out; have hnc57 := NB450_459.out; have hcz58_0 : w55.cell? ⟨gb459, 0, none⟩ = some (.string (⟨#[]⟩ : ByteArray)) := (blk_cell BK459.out 0).trans rfl; have hcz58_1 : w55.cell? ⟨gb459, 1, none⟩ = some (.slice (some ad454) y455.length c1_1) := (blk_cell BK459.out 1).trans rfl; have hcz58_2 : w55.cell? ⟨gb459, 2, none⟩ = some (.slice none 0 0) := (blk_cell BK459.out 2).trans rfl; have hcz58_3 : w55.cell? ⟨gb459, 3, none⟩ = some (.slice none 0 0) := (blk_cell BK459.out 3).trans rfl; have hcz58_4 : w55.cell? ⟨gb459, 4, none⟩ = some (.slice none 0 0) := (blk_cell BK459.out 4).trans rfl; have hfz58_0 := blk_frozen BK459.out 0; have hfz58_1 := blk_frozen BK459.out 1; have hfz58_2 := blk_frozen BK459.out 2; have hfz58_3 := blk_frozen BK459.out 3; have hfz58_4 := blk_frozen BK459.out 4) | ((with_reducible refine gate_dst (N := 83) rfl ?_); (try (refine gate_guard (by rfl) ?_; dsimp only)); refine Kd.R_lit k54 _ 54 ?hg (N := 83) ?hd (xs := ([(⟨a2, 2, 0⟩ : S54)] : List (S54))) (inner := [.int .i64 a2, .int .i64 2, .int .i64 0]) (ok := fun _ => True) (okp := fun _ => True) ?hr ?hp (fun _ hk => hk) trivial (Below.refl _ _) (Nat.le_refl _) (by simp) ?_; (case hd => rfl); (case hg => rfl); (case hr => first | (go_simp; done) | (go_simp; rfl)); (case hp => exact (Reps.c3 (show Kd.M k54 _ _ _ (⟨a2, 2, 0⟩ : S54) [.int .i64 a2, .int .i64 2, .int .i64 0] from (k54_mkM _ _ _ (⟨a2, 2, 0⟩ : S54) )) (Reps.none _ _))); intro v465 w59 ho60 hb hg_ hnew_; clear hg_ hnew_; (first | rw [← Ny464.out] at ho60 | (simp only [Int.reduceToNat] at ho60; rw [← Ny464.out] at ho60)); have n0_ := aM (Kd.R_below (oR HO463.out) hb); have n1_ := aM (Kd.R_lower ho60 (below_size (bB2 HB.out GE450.out GE459.out))); have n2_ := aM (kW BK450.out hb); have n3_ := aM (kW BK459.out hb); have n4_ := aM (below_step (bB2 HB.out GE450.out GE459.out) hb); clear HO463; clear BK450; clear BK459; clear HB; have HO463 := n0_; have HO466 := n1_; have BK450 := n2_; have BK459 := n3_; have HB := n4_; clear n0_ n1_ n2_ n3_ n4_; clear hb ho60; obtain ⟨Ao61, co61, eo61⟩ := Kd.R_slice HO466.out; subst eo61; obtain ⟨Ao62, co62, eo62⟩ := Kd.R_slice HO463.out; subst eo62) | (go_at_call 15; (refine (binding_Eval.calls k3 _ _ l0 (⟨#[]⟩ : ByteArray) _ _ y455 _ _ ([] : List (S62)) _ _ ([] : List (S111)) _ _ ([] : List (S111)) ((rd_T48 l1_1 0).f1) _ _ y464 _ _ y461 t467 t470 _ ?side1 ?side2 ?side3 ?side4 ?side5 ?side6 ?side7 ?side8 ?side9 ?side10 ?side11 ?side12 ?side13 ?side14 A50.out).mono ?_); (case side1 => exact cB HR0.out HB.out); (case side2 => exact HC0.out); (case side3 => exact cB HR458.out HB.out); (case side4 => exact HC458.out); (case side5 => exact Kd.C_nil _ _); (case side6 => exact Nat.le_refl _); (case side7 => exact Kd.C_nil _ _); (case side8 => exact Nat.le_refl _); (case side9 => exact Kd.C_nil _ _); (case side10 => exact Nat.le_refl _); (case side11 => repeat (first | exact (Kd.R_reads' HO466.out).2.2 | (with_reducible refine Kd.C_alloc ?_ _) | (with_reducible refine Kd.C_drewN ?_ _) | (with_reducible refine Kd.C_drew ?_))); (case side12 => exact (Kd.R_reads' HO466.out).2.1); (case side13 => repeat (first | exact (Kd.R_reads' HO463.out).2.2 | (with_reducible refine Kd.C_alloc ?_ _) | (with_reducible refine Kd.C_drewN ?_ _) | (with_reducible refine Kd.C_drew ?_))); (case side14 => exact (Kd.R_reads' HO463.out).2.1); rintro e w63 ⟨v468, rfl, ho0, hb⟩; clear A50; have n0_ := aM (Kd.R_elder' (oR HO463.out) (Kd.R_base ho0) hb); have n1_ := aM (Kd.R_below (oR HO466.out) hb); have n2_ := aM (Kd.R_lower (Kd.R_new' ho0 (Kd.R_lt (oR HO463.out))) (below_size (bB2 HB.out GE450.out GE459.out))); have n3_ := aM (kW BK450.out hb); have n4_ := aM (kW BK459.out hb); have n5_ := aM (below_step (bB2 HB.out GE450.out GE459.out) hb); clear HO463; clear HO466; clear BK450; clear BK459; clear HB; have HO463 := n0_; have HO466 := n1_; have HO469 := n2_; have BK450 := n3_; have BK459 := n4_; have HB := n5_; clear n0_ n1_ n2_ n3_ n4_ n5_; (try clear hb); (try clear hb2); (try clear hk); (try clear hi); (try clear ho0); have hcz64_0 : w63.cell? ⟨gb459, 0, none⟩ = some (.string (⟨#[]⟩ : ByteArray)) := (blk_cell BK459.out 0).trans rfl; have hcz64_1 : w63.cell? ⟨gb459, 1, none⟩ = some (.slice (some ad454) y455.length c1_1) := (blk_cell BK459.out 1).trans rfl; have hcz64_2 : w63.cell? ⟨gb459, 2, none⟩ = some (.slice none 0 0) := (blk_cell BK459.out 2).trans rfl; have hcz64_3 : w63.cell? ⟨gb459, 3, none⟩ = some (.slice none 0 0) := (blk_cell BK459.out 3).trans rfl; have hcz64_4 : w63.cell? ⟨gb459, 4, none⟩ = some (.slice none 0 0) := (blk_cell BK459.out 4).trans rfl; have hfz64_0 := blk_frozen BK459.out 0; have hfz64_1 := blk_frozen BK459.out 1; have hfz64_2 := blk_frozen BK459.out 2; have hfz64_3 := blk_frozen BK459.out 3; have hfz64_4 := blk_frozen BK459.out 4) | ((with_reducible refine gate_dst (N := 94) rfl ?_); (try (refine gate_guard (by rfl) ?_; dsimp only)); refine Kd.R_lit k54 _ 54 ?hg (N := 94) ?hd (xs := ([(⟨a2, 3, 0⟩ : S54)] : List (S54))) (inner := [.int .i64 a2, .int .i64 3, .int .i64 0]) (ok := fun _ => True) (okp := fun _ => True) ?hr ?hp (fun _ hk => hk) trivial (Below.refl _ _) (Nat.le_refl _) (by simp) ?_; (case hd => rfl); (case hg => rfl); (case hr => first | (go_simp; done) | (go_simp; rfl)); (case hp => exact (Reps.c3 (show Kd.M k54 _ _ _ (⟨a2, 3, 0⟩ : S54) [.int .i64 a2, .int .i64 3, .int .i64 0] from (k54_mkM _ _ _ (⟨a2, 3, 0⟩ : S54) )) (Reps.none _ _))); intro v472 w65 ho66 hb hg_ hnew_; clear hg_ hnew_; (first | rw [← Ny471.out] at ho66 | (simp only [Int.reduceToNat] at ho66; rw [← Ny471.out] at ho66)); have n0_ := aM (Kd.R_below (oR HO463.out) hb); have n1_ := aM (Kd.R_elder' (oR HO466.out) (Kd.R_base ho66) hb); have n2_ := aM (Kd.R_below (oR HO469.out) hb); have n3_ := aM (Kd.R_lower (Kd.R_new' ho66 (Kd.R_lt (oR HO466.out))) (below_size (bB2 HB.out GE450.out GE459.out))); have n4_ := aM (kW BK450.out hb); have n5_ := aM (kW BK459.out hb); have n6_ := aM (below_step (bB2 HB.out GE450.out GE459.out) hb); clear HO463; clear HO466; clear HO469; clear BK450; clear BK459; clear HB; have HO463 := n0_; have HO466 := n1_; have HO469 := n2_; have HO473 := n3_; have BK450 := n4_; have BK459 := n5_; have HB := n6_; clear n0_ n1_ n2_ n3_ n4_ n5_ n6_; clear hb ho66; obtain ⟨Ao67, co67, eo67⟩ := Kd.R_slice HO473.out; subst eo67) | (go_at_call 15; (refine (binding_Eval.calls k3 _ _ l0 (⟨#[]⟩ : ByteArray) _ _ y455 _ _ ([] : List (S62)) _ _ ([] : List (S111)) _ _ ([] : List (S111)) ((rd_T48 l1_1 0).f1) _ _ y471 _ _ y461 t474 t477 _ ?side1 ?side2 ?side3 ?side4 ?side5 ?side6 ?side7 ?side8 ?side9 ?side10 ?side11 ?side12 ?side13 ?side14 A51.out).mono ?_); (case side1 => exact cB HR0.out HB.out); (case side2 => exact HC0.out); (case side3 => exact cB HR458.out HB.out); (case side4 => exact HC458.out); (case side5 => exact Kd.C_nil _ _); (case side6 => exact Nat.le_refl _); (case side7 => exact Kd.C_nil _ _); (case side8 => exact Nat.le_refl _); (case side9 => exact Kd.C_nil _ _); (case side10 => exact Nat.le_refl _); (case side11 => repeat (first | exact (Kd.R_reads' HO473.out).2.2 | (with_reducible refine Kd.C_alloc ?_ _) | (with_reducible refine Kd.C_drewN ?_ _) | (with_reducible refine Kd.C_drew ?_))); (case side12 => exact (Kd.R_reads' HO473.out).2.1); (case side13 => repeat (first | exact (Kd.R_reads' HO463.out).2.2 | (with_reducible refine Kd.C_alloc ?_ _) | (with_reducible refine Kd.C_drewN ?_ _) | (with_reducible refine Kd.C_drew ?_))); (case side14 => exact (Kd.R_reads' HO463.out).2.1); rintro e w68 ⟨v475, rfl, ho0, hb⟩; clear A51; have n0_ := aM (Kd.R_elder' (oR HO463.out) (Kd.R_base ho0) hb); have n1_ := aM (Kd.R_below (oR HO466.out) hb); have n2_ := aM (Kd.R_elder' (oR HO469.out) (Kd.R_base ho0) hb); have n3_ := aM (Kd.R_below (oR HO473.out) hb); have n4_ := aM (Kd.R_lower (Kd.R_new' (Kd.R_new' ho0 (Kd.R_lt (oR HO463.out))) (Kd.R_lt (oR HO469.out))) (below_size (bB2 HB.out GE450.out GE459.out))); have n5_ := aM (kW BK450.out hb); have n6_ := aM (kW BK459.out hb); have n7_ := aM (below_step (bB2 HB.out GE450.out GE459.out) hb); clear HO463; clear HO466; clear HO469; clear HO473; clear BK450; clear BK459; clear HB; have HO463 := n0_; have HO466 := n1_; have HO469 := n2_; have HO473 := n3_; have HO476 := n4_; have BK450 := n5_; have BK459 := n6_; have HB := n7_; clear n0_ n1_ n2_ n3_ n4_ n5_ n6_ n7_; (try clear hb); (try clear hb2); (try clear hk); (try clear hi); (try clear ho0); have hcz69_0 : w68.cell? ⟨gb459, 0, none⟩ = some (.string (⟨#[]⟩ : ByteArray)) := (blk_cell BK459.out 0).trans rfl; have hcz69_1 : w68.cell? ⟨gb459, 1, none⟩ = some (.slice (some ad454) y455.length c1_1) := (blk_cell BK459.out 1).trans rfl; have hcz69_2 : w68.cell? ⟨gb459, 2, none⟩ = some (.slice none 0 0) := (blk_cell BK459.out 2).trans rfl; have hcz69_3 : w68.cell? ⟨gb459, 3, none⟩ = some (.slice none 0 0) := (blk_cell BK459.out 3).trans rfl; have hcz69_4 : w68.cell? ⟨gb459, 4, none⟩ = some (.slice none 0 0) := (blk_cell BK459.out 4).trans rfl; have hfz69_0 := blk_frozen BK459.out 0; have hfz69_1 := blk_frozen BK459.out 1; have hfz69_2 := blk_frozen BK459.out 2; have hfz69_3 := blk_frozen BK459.out 3; have hfz69_4 := blk_frozen BK459.out 4) | ((with_reducible refine gate_dst (N := 105) rfl ?_); (try (refine gate_guard (by rfl) ?_; dsimp only)); refine Kd.R_lit k54 _ 54 ?hg (N := 105) ?hd (xs := ([(⟨a2, 4, 0⟩ : S54)] : List (S54))) (inner := [.int .i64 a2, .int .i64 4, .int .i64 0]) (ok := fun _ => True) (okp := fun _ => True) ?hr ?hp (fun _ hk => hk) trivial (Below.refl _ _) (Nat.le_refl _) (by simp) ?_; (case hd => rfl); (case hg => rfl); (case hr => first | (go_simp; done) | (go_simp; rfl)); (case hp => exact (Reps.c3 (show Kd.M k54 _ _ _ (⟨a2, 4, 0⟩ : S54) [.int .i64 a2, .int .i64 4, .int .i64 0] from (k54_mkM _ _ _ (⟨a2, 4, 0⟩ : S54) )) (Reps.none _ _))); intro v479 w70 ho71 hb hg_ hnew_; clear hg_ hnew_; (first | rw [← Ny478.out] at ho71 | (simp only [Int.reduceToNat] at ho71; rw [← Ny478.out] at ho71)); have n0_ := aM (Kd.R_below (oR HO463.out) hb); have n1_ := aM (Kd.R_elder' (oR HO466.out) (Kd.R_base ho71) hb); have n2_ := aM (Kd.R_below (oR HO469.out) hb); have n3_ := aM (Kd.R_elder' (oR HO473.out) (Kd.R_base ho71) hb); have n4_ := aM (Kd.R_below (oR HO476.out) hb); have n5_ := aM (Kd.R_lower (Kd.R_new' (Kd.R_new' ho71 (Kd.R_lt (oR HO466.out))) (Kd.R_lt (oR HO473.out))) (below_size (bB2 HB.out GE450.out GE459.out))); have n6_ := aM (kW BK450.out hb); have n7_ := aM (kW BK459.out hb); have n8_ := aM (below_step (bB2 HB.out GE450.out GE459.out) hb); clear HO463; clear HO466; clear HO469; clear HO473; clear HO476; clear BK450; clear BK459; clear HB; have HO463 := n0_; have HO466 := n1_; have HO469 := n2_; have HO473 := n3_; have HO476 := n4_; have HO480 := n5_; have BK450 := n6_; have BK459 := n7_; have HB := n8_; clear n0_ n1_ n2_ n3_ n4_ n5_ n6_ n7_ n8_; clear hb ho71; obtain ⟨Ao72, co72, eo72⟩ := Kd.R_slice HO480.out; subst eo72) | (go_at_call 15; (refine (binding_Eval.calls k3 _ _ l0 (⟨#[]⟩ : ByteArray) _ _ y455 _ _ ([] : List (S62)) _ _ ([] : List (S111)) _ _ ([] : List (S111)) ((rd_T48 l1_1 0).f1) _ _ y478 _ _ y461 t481 t484 _ ?side1 ?side2 ?side3 ?side4 ?side5 ?side6 ?side7 ?side8 ?side9 ?side10 ?side11 ?side12 ?side13 ?side14 A52.out).mono ?_); (case side1 => exact cB HR0.out HB.out); (case side2 => exact HC0.out); (case side3 => exact cB HR458.out HB.out); (case side4 => exact HC458.out); (case side5 => exact Kd.C_nil _ _); (case side6 => exact Nat.le_refl _); (case side7 => exact Kd.C_nil _ _); (case side8 => exact Nat.le_refl _); (case side9 => exact Kd.C_nil _ _); (case side10 => exact Nat.le_refl _); (case side11 => repeat (first | exact (Kd.R_reads' HO480.out).2.2 | (with_reducible refine Kd.C_alloc ?_ _) | (with_reducible refine Kd.C_drewN ?_ _) | (with_reducible refine Kd.C_drew ?_))); (case side12 => exact (Kd.R_reads' HO480.out).2.1); (case side13 => repeat (first | exact (Kd.R_reads' HO463.out).2.2 | (with_reducible refine Kd.C_alloc ?_ _) | (with_reducible refine Kd.C_drewN ?_ _) | (with_reducible refine Kd.C_drew ?_))); (case side14 => exact (Kd.R_reads' HO463.out).2.1); rintro e w73 ⟨v482, rfl, ho0, hb⟩; clear A52; have n0_ := aM (Kd.R_elder' (oR HO463.out) (Kd.R_base ho0) hb); have n1_ := aM (Kd.R_below (oR HO466.out) hb); have n2_ := aM (Kd.R_elder' (oR HO469.out) (Kd.R_base ho0) hb); have n3_ := aM (Kd.R_below (oR HO473.out) hb); have n4_ := aM (Kd.R_elder' (oR HO476.out) (Kd.R_base ho0) hb); have n5_ := aM (Kd.R_below (oR HO480.out) hb); have n6_ := aM (Kd.R_lower (Kd.R_new' (Kd.R_new' (Kd.R_new' ho0 (Kd.R_lt (oR HO463.out))) (Kd.R_lt (oR HO469.out))) (Kd.R_lt (oR HO476.out))) (below_size (bB2 HB.out GE450.out GE459.out))); have n7_ := aM (kW BK450.out hb); have n8_ := aM (kW BK459.out hb); have n9_ := aM (below_step (bB2 HB.out GE450.out GE459.out) hb); clear HO463; clear HO466; clear HO469; clear HO473; clear HO476; clear HO480; clear BK450; clear BK459; clear HB; have HO463 := n0_; have HO466 := n1_; have HO469 := n2_; have HO473 := n3_; have HO476 := n4_; have HO480 := n5_; have HO483 := n6_; have BK450 := n7_; have BK459 := n8_; have HB := n9_; clear n0_ n1_ n2_ n3_ n4_ n5_ n6_ n7_ n8_ n9_; (try clear hb); (try clear hb2); (try clear hk); (try clear hi); (try clear ho0); have hcz74_0 : w73.cell? ⟨gb459, 0, none⟩ = some (.string (⟨#[]⟩ : ByteArray)) := (blk_cell BK459.out 0).trans rfl; have hcz74_1 : w73.cell? ⟨gb459, 1, none⟩ = some (.slice (some ad454) y455.length c1_1) := (blk_cell BK459.out 1).trans rfl; have hcz74_2 : w73.cell? ⟨gb459, 2, none⟩ = some (.slice none 0 0) := (blk_cell BK459.out 2).trans rfl; have hcz74_3 : w73.cell? ⟨gb459, 3, none⟩ = some (.slice none 0 0) := (blk_cell BK459.out 3).trans rfl; have hcz74_4 : w73.cell? ⟨gb459, 4, none⟩ = some (.slice none 0 0) := (blk_cell BK459.out 4).trans rfl; have hfz74_0 := blk_frozen BK459.out 0; have hfz74_1 := blk_frozen BK459.out 1; have hfz74_2 := blk_frozen BK459.out 2; have hfz74_3 := blk_frozen BK459.out 3; have hfz74_4 := blk_frozen BK459.out 4) | ((with_reducible refine gate_dst (N := 116) rfl ?_); (try (refine gate_guard (by rfl) ?_; dsimp only)); refine Kd.R_lit k54 _ 54 ?hg (N := 116) ?hd (xs := ([(⟨a2, 5, 0⟩ : S54)] : List (S54))) (inner := [.int .i64 a2, .int .i64 5, .int .i64 0]) (ok := fun _ => True) (okp := fun _ => True) ?hr ?hp (fun _ hk => hk) trivial (Below.refl _ _) (Nat.le_refl _) (by simp) ?_; (case hd => rfl); (case hg => rfl); (case hr => first | (go_simp; done) | (go_simp; rfl)); (case hp => exact (Reps.c3 (show Kd.M k54 _ _ _ (⟨a2, 5, 0⟩ : S54) [.int .i64 a2, .int .i64 5, .int .i64 0] from (k54_mkM _ _ _ (⟨a2, 5, 0⟩ : S54) )) (Reps.none _ _))); intro v486 w75 ho76 hb hg_ hnew_; clear hg_ hnew_; (first | rw [← Ny485.out] at ho76 | (simp only [Int.reduceToNat] at ho76; rw [← Ny485.out] at ho76)); have n0_ := aM (Kd.R_below (oR HO463.out) hb); have n1_ := aM (Kd.R_elder' (oR HO466.out) (Kd.R_base ho76) hb); have n2_ := aM (Kd.R_below (oR HO469.out) hb); have n3_ := aM (Kd.R_elder' (oR HO473.out) (Kd.R_base ho76) hb); have n4_ := aM (Kd.R_below (oR HO476.out) hb); have n5_ := aM (Kd.R_elder' (oR HO480.out) (Kd.R_base ho76) hb); have n6_ := aM (Kd.R_below (oR HO483.out) hb); have n7_ := aM (Kd.R_lower (Kd.R_new' (Kd.R_new' (Kd.R_new' ho76 (Kd.R_lt (oR HO466.out))) (Kd.R_lt (oR HO473.out))) (Kd.R_lt (oR HO480.out))) (below_size (bB2 HB.out GE450.out GE459.out))); have n8_ := aM (kW BK450.out hb); have n9_ := aM (kW BK459.out hb); have n10_ := aM (below_step (bB2 HB.out GE450.out GE459.out) hb); clear HO463; clear HO466; clear HO469; clear HO473; clear HO476; clear HO480; clear HO483; clear BK450; clear BK459; clear HB; have HO463 := n0_; have HO466 := n1_; have HO469 := n2_; have HO473 := n3_; have HO476 := n4_; have HO480 := n5_; have HO483 := n6_; have HO487 := n7_; have BK450 := n8_; have BK459 := n9_; have HB := n10_; clear n0_ n1_ n2_ n3_ n4_ n5_ n6_ n7_ n8_ n9_ n10_; clear hb ho76; obtain ⟨Ao77, co77, eo77⟩ := Kd.R_slice HO487.out; subst eo77) | (go_at_call 15; (refine (binding_Eval.calls k3 _ _ l0 (⟨#[]⟩ : ByteArray) _ _ y455 _ _ ([] : List (S62)) _ _ ([] : List (S111)) _ _ ([] : List (S111)) ((rd_T48 l1_1 0).f1) _ _ y485 _ _ y461 t488 t491 _ ?side1 ?side2 ?side3 ?side4 ?side5 ?side6 ?side7 ?side8 ?side9 ?side10 ?side11 ?side12 ?side13 ?side14 A53.out).mono ?_); (case side1 => exact cB HR0.out HB.out); (case side2 => exact HC0.out); (case side3 => exact cB HR458.out HB.out); (case side4 => exact HC458.out); (case side5 => exact Kd.C_nil _ _); (case side6 => exact Nat.le_refl _); (case side7 => exact Kd.C_nil _ _); (case side8 => exact Nat.le_refl _); (case side9 => exact Kd.C_nil _ _); (case side10 => exact Nat.le_refl _); (case side11 => repeat (first | exact (Kd.R_reads' HO487.out).2.2 | (with_reducible refine Kd.C_alloc ?_ _) | (with_reducible refine Kd.C_drewN ?_ _) | (with_reducible refine Kd.C_drew ?_))); (case side12 => exact (Kd.R_reads' HO487.out).2.1); (case side13 => repeat (first | exact (Kd.R_reads' HO463.out).2.2 | (with_reducible refine Kd.C_alloc ?_ _) | (with_reducible refine Kd.C_drewN ?_ _) | (with_reducible refine Kd.C_drew ?_))); (case side14 => exact (Kd.R_reads' HO463.out).2.1); rintro e w78 ⟨v489, rfl, ho0, hb⟩; clear A53; have n0_ := aM (Kd.R_elder' (oR HO463.out) (Kd.R_base ho0) hb); have n1_ := aM (Kd.R_below (oR HO466.out) hb); have n2_ := aM (Kd.R_elder' (oR HO469.out) (Kd.R_base ho0) hb); have n3_ := aM (Kd.R_below (oR HO473.out) hb); have n4_ := aM (Kd.R_elder' (oR HO476.out) (Kd.R_base ho0) hb); have n5_ := aM (Kd.R_below (oR HO480.out) hb); have n6_ := aM (Kd.R_elder' (oR HO483.out) (Kd.R_base ho0) hb); have n7_ := aM (Kd.R_below (oR HO487.out) hb); have n8_ := aM (Kd.R_lower (Kd.R_new' (Kd.R_new' (Kd.R_new' (Kd.R_new' ho0 (Kd.R_lt (oR HO463.out))) (Kd.R_lt (oR HO469.out))) (Kd.R_lt (oR HO476.out))) (Kd.R_lt (oR HO483.out))) (below_size (bB2 HB.out GE450.out GE459.out))); have n9_ := aM (kW BK450.out hb); have n10_ := aM (kW BK459.out hb); have n11_ := aM (below_step (bB2 HB.out GE450.out GE459.out) hb); clear HO463; clear HO466; clear HO469; clear HO473; clear HO476; clear HO480; clear HO483; clear HO487; clear BK450; clear BK459; clear HB; have HO463 := n0_; have HO466 := n1_; have HO469 := n2_; have HO473 := n3_; have HO476 := n4_; have HO480 := n5_; have HO483 := n6_; have HO487 := n7_; have HO490 := n8_; have BK450 := n9_; have BK459 := n10_; have HB := n11_; clear n0_ n1_ n2_ n3_ n4_ n5_ n6_ n7_ n8_ n9_ n10_ n11_; (try clear hb); (try clear hb2); (try clear hk); (try clear hi); (try clear ho0)))
                   repeat (go_quiet (fail); try go_wp2)
                   (try simp only [Act.put, List.setIfInBounds_toArray, List.set_cons_zero, List.set_cons_succ])
                   go_cut [158] (fun v158 wc => ∃ (kq : Nat) (x158_53 : Bool), v158 = .bool x158_53 ∧ Aside0 (l40_BindingTerms.j3 kq l0 a2 ((rd_T48 l1_1 0).f1) (((rd_T51 l0 ((rd_T48 l1_1 0).f1)).f1).length : Int) x10_3 t467 t474 t481 t488 x158_53 (⟨#[]⟩ : ByteArray) y455 = some r) ∧ Aside0 (kq ≤ k3) ∧ Aside0 (Kd.R (Kd.int .i64) 3 wc w.heap.size (fun k_ => some k_ ≠ (v475 : Value).ownBlock ∧ some k_ ≠ (v482 : Value).ownBlock ∧ some k_ ≠ (v489 : Value).ownBlock) v468 t467) ∧ Aside0 (Kd.R (Kd.int .i64) 3 wc w.heap.size (fun k_ => some k_ ≠ (v468 : Value).ownBlock ∧ some k_ ≠ (v482 : Value).ownBlock ∧ some k_ ≠ (v489 : Value).ownBlock) v475 t474) ∧ Aside0 (Kd.R (Kd.int .i64) 3 wc w.heap.size (fun k_ => some k_ ≠ (v468 : Value).ownBlock ∧ some k_ ≠ (v475 : Value).ownBlock ∧ some k_ ≠ (v489 : Value).ownBlock) v482 t481) ∧ Aside0 (Kd.R (Kd.int .i64) 3 wc w.heap.size (fun k_ => some k_ ≠ (v468 : Value).ownBlock ∧ some k_ ≠ (v475 : Value).ownBlock ∧ some k_ ≠ (v482 : Value).ownBlock) v489 t488) ∧ Aside0 (wc.heap[gb450]? = some (.cells #[.string a1_0, (.slice (some ad454) l1_1.length c1_1), (.slice A1_2 l1_2.length c1_2), (.slice A1_3 l1_3.length c1_3), (.slice A1_4 l1_4.length c1_4)] 27 (0, 0))) ∧ Aside0 (wc.heap[gb459]? = some (.cells #[.string (⟨#[]⟩ : ByteArray), (.slice (some ad454) y455.length c1_1), (.slice none 0 0), (.slice none 0 0), (.slice none 0 0)] 27 (0, 0))) ∧ Aside0 (Below w.heap.size w wc))
                   case first =>
                    as_aux_lemma =>
                     have H := HC54.out; clear HC54
                     by_cases c79 : t470 = 0
                     ·rw [if_pos c79] at H
                      have c79b0 : (t470 == 0) = true := beq_iff_eq.mpr c79; have c79b1 : (t470 != 0) = false := bne_eq_false_iff_eq.mpr c79; clear c79
                      (first | rw [c79b0] | (simp only [i64_w, i32_w]; rw [c79b0]) | skip)
                      by_cases c80 : t477 = 0
                      ·rw [if_pos c80] at H
                       have c80b0 : (t477 == 0) = true := beq_iff_eq.mpr c80; have c80b1 : (t477 != 0) = false := bne_eq_false_iff_eq.mpr c80; clear c80
                       by_cases c81 : t484 = 0
                       ·rw [if_pos c81] at H
                        have c81b0 : (t484 == 0) = true := beq_iff_eq.mpr c81; have c81b1 : (t484 != 0) = false := bne_eq_false_iff_eq.mpr c81; clear c81
                        by_cases c82 : t491 = 0
                        ·rw [if_pos c82] at H
                         have c82b0 : (t491 == 0) = true := beq_iff_eq.mpr c82; have c82b1 : (t491 != 0) = false := bne_eq_false_iff_eq.mpr c82; clear c82
                         by_cases c83 : (t467.length : Int) = (((rd_T51 l0 ((rd_T48 l1_1 0).f1)).f1).length : Int)
                         ·rw [if_pos c83] at H
                          have c83b0 : ((t467.length : Int) == (((rd_T51 l0 ((rd_T48 l1_1 0).f1)).f1).length : Int)) = true := beq_iff_eq.mpr c83; have c83b1 : ((t467.length : Int) != (((rd_T51 l0 ((rd_T48 l1_1 0).f1)).f1).length : Int)) = false := bne_eq_false_iff_eq.mpr c83
                          have c83b2 : (t467.length == ((rd_T51 l0 ((rd_T48 l1_1 0).f1)).f1).length) = true := by first | simpa using c83 | (simp at c83 ⊢; omega)
                          clear c83
                          by_cases c84 : (t474.length : Int) = (((rd_T51 l0 ((rd_T48 l1_1 0).f1)).f1).length : Int)
                          ·rw [if_pos c84] at H
                           have c84b0 : ((t474.length : Int) == (((rd_T51 l0 ((rd_T48 l1_1 0).f1)).f1).length : Int)) = true := beq_iff_eq.mpr c84; have c84b1 : ((t474.length : Int) != (((rd_T51 l0 ((rd_T48 l1_1 0).f1)).f1).length : Int)) = false := bne_eq_false_iff_eq.mpr c84
                           have c84b2 : (t474.length == ((rd_T51 l0 ((rd_T48 l1_1 0).f1)).f1).length) = true := by first | simpa using c84 | (simp at c84 ⊢; omega)
                           clear c84
                           by_cases c85 : (t481.length : Int) = (((rd_T51 l0 ((rd_T48 l1_1 0).f1)).f1).length : Int)
                           ·rw [if_pos c85] at H
                            have c85b0 : ((t481.length : Int) == (((rd_T51 l0 ((rd_T48 l1_1 0).f1)).f1).length : Int)) = true := beq_iff_eq.mpr c85; have c85b1 : ((t481.length : Int) != (((rd_T51 l0 ((rd_T48 l1_1 0).f1)).f1).length : Int)) = false := bne_eq_false_iff_eq.mpr c85
                            have c85b2 : (t481.length == ((rd_T51 l0 ((rd_T48 l1_1 0).f1)).f1).length) = true := by first | simpa using c85 | (simp at c85 ⊢; omega)
                            clear c85
                            have H' := aM H
                            clear H; obtain ⟨Ao86, co86, eo86⟩ := Kd.R_slice HO469.out; subst eo86; obtain ⟨Ao87, co87, eo87⟩ := Kd.R_slice HO476.out; subst eo87; obtain ⟨Ao88, co88, eo88⟩ := Kd.R_slice HO483.out; subst eo88; obtain ⟨Ao89, co89, eo89⟩ := Kd.R_slice HO490.out; subst eo89
                            go_wp2
                            repeat (go_quiet (fail); try go_wp2)
                            go_meet
                            case rel => exact ⟨_, (((t488.length : Int) != (((rd_T51 l0 ((rd_T48 l1_1 0).f1)).f1).length : Int))), eT, H', ⟨by have := HJ5.out; have := HJ38.out; have := HK3.out; first | omega | exact Nat.le_refl _⟩, ⟨by refine oR ?_; exact Kd.R_mono HO469.out (fun _ hk => ⟨hk.1.1.2, ⟨hk.1.2, hk.2⟩⟩)⟩, ⟨by refine oR ?_; exact Kd.R_mono HO476.out (fun _ hk => ⟨hk.1.1.2, ⟨hk.1.2, hk.2⟩⟩)⟩, ⟨by refine oR ?_; exact Kd.R_mono HO483.out (fun _ hk => ⟨hk.1.1.2, ⟨hk.1.2, hk.2⟩⟩)⟩, ⟨by refine oR ?_; exact Kd.R_mono HO490.out (fun _ hk => ⟨hk.1.1.2, ⟨hk.1.2, hk.2⟩⟩)⟩, ⟨kB BK450.out⟩, ⟨kB BK459.out⟩, ⟨bB2 HB.out GE450.out GE459.out⟩⟩
                           ·rw [if_neg c85] at H
                            have c85b0 : ((t481.length : Int) == (((rd_T51 l0 ((rd_T48 l1_1 0).f1)).f1).length : Int)) = false := beq_eq_false_iff_ne.mpr c85; have c85b1 : ((t481.length : Int) != (((rd_T51 l0 ((rd_T48 l1_1 0).f1)).f1).length : Int)) = true := bne_iff_ne.mpr c85
                            have c85b2 : (t481.length == ((rd_T51 l0 ((rd_T48 l1_1 0).f1)).f1).length) = false := by first | simpa using c85 | (simp at c85 ⊢; omega)
                            have H' := aM H
                            clear H; obtain ⟨Ao90, co90, eo90⟩ := Kd.R_slice HO469.out; subst eo90; obtain ⟨Ao91, co91, eo91⟩ := Kd.R_slice HO476.out; subst eo91; obtain ⟨Ao92, co92, eo92⟩ := Kd.R_slice HO483.out; subst eo92
                            go_wp2
                            repeat (go_quiet (fail); try go_wp2)
                            go_meet
                            case rel => exact ⟨_, (true), eT, H', ⟨by have := HJ5.out; have := HJ38.out; have := HK3.out; first | omega | exact Nat.le_refl _⟩, ⟨by refine oR ?_; exact Kd.R_mono HO469.out (fun _ hk => ⟨hk.1.1.2, ⟨hk.1.2, hk.2⟩⟩)⟩, ⟨by refine oR ?_; exact Kd.R_mono HO476.out (fun _ hk => ⟨hk.1.1.2, ⟨hk.1.2, hk.2⟩⟩)⟩, ⟨by refine oR ?_; exact Kd.R_mono HO483.out (fun _ hk => ⟨hk.1.1.2, ⟨hk.1.2, hk.2⟩⟩)⟩, ⟨by refine oR ?_; exact Kd.R_mono HO490.out (fun _ hk => ⟨hk.1.1.2, ⟨hk.1.2, hk.2⟩⟩)⟩, ⟨kB BK450.out⟩, ⟨kB BK459.out⟩, ⟨bB2 HB.out GE450.out GE459.out⟩⟩
                          ·rw [if_neg c84] at H
                           have c84b0 : ((t474.length : Int) == (((rd_T51 l0 ((rd_T48 l1_1 0).f1)).f1).length : Int)) = false := beq_eq_false_iff_ne.mpr c84; have c84b1 : ((t474.length : Int) != (((rd_T51 l0 ((rd_T48 l1_1 0).f1)).f1).length : Int)) = true := bne_iff_ne.mpr c84
                           have c84b2 : (t474.length == ((rd_T51 l0 ((rd_T48 l1_1 0).f1)).f1).length) = false := by first | simpa using c84 | (simp at c84 ⊢; omega)
                           have H' := aM H
                           clear H; obtain ⟨Ao93, co93, eo93⟩ := Kd.R_slice HO469.out; subst eo93; obtain ⟨Ao94, co94, eo94⟩ := Kd.R_slice HO476.out; subst eo94
                           go_wp2
                           repeat (go_quiet (fail); try go_wp2)
                           go_meet
                           case rel => exact ⟨_, (true), eT, H', ⟨by have := HJ5.out; have := HJ38.out; have := HK3.out; first | omega | exact Nat.le_refl _⟩, ⟨by refine oR ?_; exact Kd.R_mono HO469.out (fun _ hk => ⟨hk.1.1.2, ⟨hk.1.2, hk.2⟩⟩)⟩, ⟨by refine oR ?_; exact Kd.R_mono HO476.out (fun _ hk => ⟨hk.1.1.2, ⟨hk.1.2, hk.2⟩⟩)⟩, ⟨by refine oR ?_; exact Kd.R_mono HO483.out (fun _ hk => ⟨hk.1.1.2, ⟨hk.1.2, hk.2⟩⟩)⟩, ⟨by refine oR ?_; exact Kd.R_mono HO490.out (fun _ hk => ⟨hk.1.1.2, ⟨hk.1.2, hk.2⟩⟩)⟩, ⟨kB BK450.out⟩, ⟨kB BK459.out⟩, ⟨bB2 HB.out GE450.out GE459.out⟩⟩
                         ·rw [if_neg c83] at H
                          have c83b0 : ((t467.length : Int) == (((rd_T51 l0 ((rd_T48 l1_1 0).f1)).f1).length : Int)) = false := beq_eq_false_iff_ne.mpr c83; have c83b1 : ((t467.length : Int) != (((rd_T51 l0 ((rd_T48 l1_1 0).f1)).f1).length : Int)) = true := bne_iff_ne.mpr c83
                          have c83b2 : (t467.length == ((rd_T51 l0 ((rd_T48 l1_1 0).f1)).f1).length) = false := by first | simpa using c83 | (simp at c83 ⊢; omega)
                          have H' := aM H
                          clear H; obtain ⟨Ao95, co95, eo95⟩ := Kd.R_slice HO469.out; subst eo95
                          go_wp2
                          repeat (go_quiet (fail); try go_wp2)
                          go_meet
                          case rel => exact ⟨_, (true), eT, H', ⟨by have := HJ5.out; have := HJ38.out; have := HK3.out; first | omega | exact Nat.le_refl _⟩, ⟨by refine oR ?_; exact Kd.R_mono HO469.out (fun _ hk => ⟨hk.1.1.2, ⟨hk.1.2, hk.2⟩⟩)⟩, ⟨by refine oR ?_; exact Kd.R_mono HO476.out (fun _ hk => ⟨hk.1.1.2, ⟨hk.1.2, hk.2⟩⟩)⟩, ⟨by refine oR ?_; exact Kd.R_mono HO483.out (fun _ hk => ⟨hk.1.1.2, ⟨hk.1.2, hk.2⟩⟩)⟩, ⟨by refine oR ?_; exact Kd.R_mono HO490.out (fun _ hk => ⟨hk.1.1.2, ⟨hk.1.2, hk.2⟩⟩)⟩, ⟨kB BK450.out⟩, ⟨kB BK459.out⟩, ⟨bB2 HB.out GE450.out GE459.out⟩⟩
                        ·rw [if_neg c82] at H
                         have c82b0 : (t491 == 0) = false := beq_eq_false_iff_ne.mpr c82; have c82b1 : (t491 != 0) = true := bne_iff_ne.mpr c82
                         have H' := aM H
                         clear H
                         go_wp2
                         repeat (go_quiet (fail); try go_wp2)
                         go_meet
                         case rel => exact ⟨_, (true), eT, H', ⟨by have := HJ5.out; have := HJ38.out; have := HK3.out; first | omega | exact Nat.le_refl _⟩, ⟨by refine oR ?_; exact Kd.R_mono HO469.out (fun _ hk => ⟨hk.1.1.2, ⟨hk.1.2, hk.2⟩⟩)⟩, ⟨by refine oR ?_; exact Kd.R_mono HO476.out (fun _ hk => ⟨hk.1.1.2, ⟨hk.1.2, hk.2⟩⟩)⟩, ⟨by refine oR ?_; exact Kd.R_mono HO483.out (fun _ hk => ⟨hk.1.1.2, ⟨hk.1.2, hk.2⟩⟩)⟩, ⟨by refine oR ?_; exact Kd.R_mono HO490.out (fun _ hk => ⟨hk.1.1.2, ⟨hk.1.2, hk.2⟩⟩)⟩, ⟨kB BK450.out⟩, ⟨kB BK459.out⟩, ⟨bB2 HB.out GE450.out GE459.out⟩⟩
                       ·rw [if_neg c81] at H
                        have c81b0 : (t484 == 0) = false := beq_eq_false_iff_ne.mpr c81; have c81b1 : (t484 != 0) = true := bne_iff_ne.mpr c81
                        have H' := aM H
                        clear H
                        go_wp2
                        repeat (go_quiet (fail); try go_wp2)
                        go_meet
                        case rel => exact ⟨_, (true), eT, H', ⟨by have := HJ5.out; have := HJ38.out; have := HK3.out; first | omega | exact Nat.le_refl _⟩, ⟨by refine oR ?_; exact Kd.R_mono HO469.out (fun _ hk => ⟨hk.1.1.2, ⟨hk.1.2, hk.2⟩⟩)⟩, ⟨by refine oR ?_; exact Kd.R_mono HO476.out (fun _ hk => ⟨hk.1.1.2, ⟨hk.1.2, hk.2⟩⟩)⟩, ⟨by refine oR ?_; exact Kd.R_mono HO483.out (fun _ hk => ⟨hk.1.1.2, ⟨hk.1.2, hk.2⟩⟩)⟩, ⟨by refine oR ?_; exact Kd.R_mono HO490.out (fun _ hk => ⟨hk.1.1.2, ⟨hk.1.2, hk.2⟩⟩)⟩, ⟨kB BK450.out⟩, ⟨kB BK459.out⟩, ⟨bB2 HB.out GE450.out GE459.out⟩⟩
                      ·rw [if_neg c80] at H
                       have c80b0 : (t477 == 0) = false := beq_eq_false_iff_ne.mpr c80; have c80b1 : (t477 != 0) = true := bne_iff_ne.mpr c80
                       have H' := aM H
                       clear H
                       go_wp2
                       repeat (go_quiet (fail); try go_wp2)
                       go_meet
                       case rel => exact ⟨_, (true), eT, H', ⟨by have := HJ5.out; have := HJ38.out; have := HK3.out; first | omega | exact Nat.le_refl _⟩, ⟨by refine oR ?_; exact Kd.R_mono HO469.out (fun _ hk => ⟨hk.1.1.2, ⟨hk.1.2, hk.2⟩⟩)⟩, ⟨by refine oR ?_; exact Kd.R_mono HO476.out (fun _ hk => ⟨hk.1.1.2, ⟨hk.1.2, hk.2⟩⟩)⟩, ⟨by refine oR ?_; exact Kd.R_mono HO483.out (fun _ hk => ⟨hk.1.1.2, ⟨hk.1.2, hk.2⟩⟩)⟩, ⟨by refine oR ?_; exact Kd.R_mono HO490.out (fun _ hk => ⟨hk.1.1.2, ⟨hk.1.2, hk.2⟩⟩)⟩, ⟨kB BK450.out⟩, ⟨kB BK459.out⟩, ⟨bB2 HB.out GE450.out GE459.out⟩⟩
                     ·rw [if_neg c79] at H
                      have c79b0 : (t470 == 0) = false := beq_eq_false_iff_ne.mpr c79; have c79b1 : (t470 != 0) = true := bne_iff_ne.mpr c79
                      (first | rw [c79b0] | (simp only [i64_w, i32_w]; rw [c79b0]) | skip)
                      have H' := aM H
                      clear H
                      go_wp2
                      repeat (go_quiet (fail); try go_wp2)
                      go_meet
                      case rel => exact ⟨_, (true), eT, H', ⟨by have := HJ5.out; have := HJ38.out; have := HK3.out; first | omega | exact Nat.le_refl _⟩, ⟨by refine oR ?_; exact Kd.R_mono HO469.out (fun _ hk => ⟨hk.1.1.2, ⟨hk.1.2, hk.2⟩⟩)⟩, ⟨by refine oR ?_; exact Kd.R_mono HO476.out (fun _ hk => ⟨hk.1.1.2, ⟨hk.1.2, hk.2⟩⟩)⟩, ⟨by refine oR ?_; exact Kd.R_mono HO483.out (fun _ hk => ⟨hk.1.1.2, ⟨hk.1.2, hk.2⟩⟩)⟩, ⟨by refine oR ?_; exact Kd.R_mono HO490.out (fun _ hk => ⟨hk.1.1.2, ⟨hk.1.2, hk.2⟩⟩)⟩, ⟨kB BK450.out⟩, ⟨kB BK459.out⟩, ⟨bB2 HB.out GE450.out GE459.out⟩⟩
                   case rest =>
                    as_aux_lemma =>
                     clear HC54
                     try clear hx4
                     try clear qi4
                     try clear hx45
                     try clear qi45
                     try clear hx46
                     try clear hx454_0
                     try clear hx454_1
                     try clear hx460_0
                     try clear hx460_1
                     obtain ⟨kq, x158_53, rfl, HA, HJ53, HO_12, HO_14, HO_16, HO_18, BK450, BK459, HB⟩ := hcut
                     cases kq with
                     | zero => exact absurd HA.out (by simp [l40_BindingTerms.j3])
                     | succ kj53 =>
                      have H := HA.out; clear HA
                      simp only [l40_BindingTerms.j3] at H
                      by_cases c96 : x158_53 = true
                      ·subst c96
                       have H1 : (none) = some r := by rw [if_pos rfl] at H; exact H
                       clear H; have H := H1; clear H1
                       exact absurd H (by simp)
                      ·replace c96 := Bool.eq_false_iff.mpr c96
                       subst c96
                       have H1 : (l40_BindingTerms.l1 kj53 l0 a2 ((rd_T48 l1_1 0).f1) (((rd_T51 l0 ((rd_T48 l1_1 0).f1)).f1).length : Int) x10_3 t467 t474 t481 t488 0 (⟨#[]⟩ : ByteArray) y455) = some r := by rw [if_neg (show ¬ (false = true) by decide)] at H; exact H
                       clear H; have H := H1; clear H1
                       as_aux_lemma =>
                        have H' := aM H
                        clear H
                        go_wp2
                        repeat (go_quiet (fail); try go_wp2)
                        go_loopg [20] kj53 (fun kq v20 w' => ∃ (x20_5 : Int), v20 = .int .i64 x20_5 ∧ Aside0 (l40_BindingTerms.l1 kq l0 a2 ((rd_T48 l1_1 0).f1) (((rd_T51 l0 ((rd_T48 l1_1 0).f1)).f1).length : Int) x10_3 t467 t474 t481 t488 x20_5 (⟨#[]⟩ : ByteArray) y455 = some r) ∧ Aside0 (kq ≤ kj53) ∧ Aside0 (Kd.R (Kd.int .i64) 3 w' w.heap.size (fun k_ => some k_ ≠ (v475 : Value).ownBlock ∧ some k_ ≠ (v482 : Value).ownBlock ∧ some k_ ≠ (v489 : Value).ownBlock) v468 t467) ∧ Aside0 (Kd.R (Kd.int .i64) 3 w' w.heap.size (fun k_ => some k_ ≠ (v468 : Value).ownBlock ∧ some k_ ≠ (v482 : Value).ownBlock ∧ some k_ ≠ (v489 : Value).ownBlock) v475 t474) ∧ Aside0 (Kd.R (Kd.int .i64) 3 w' w.heap.size (fun k_ => some k_ ≠ (v468 : Value).ownBlock ∧ some k_ ≠ (v475 : Value).ownBlock ∧ some k_ ≠ (v489 : Value).ownBlock) v482 t481) ∧ Aside0 (Kd.R (Kd.int .i64) 3 w' w.heap.size (fun k_ => some k_ ≠ (v468 : Value).ownBlock ∧ some k_ ≠ (v475 : Value).ownBlock ∧ some k_ ≠ (v482 : Value).ownBlock) v489 t488) ∧ Aside0 (w'.heap[gb450]? = some (.cells #[.string a1_0, (.slice (some ad454) l1_1.length c1_1), (.slice A1_2 l1_2.length c1_2), (.slice A1_3 l1_3.length c1_3), (.slice A1_4 l1_4.length c1_4)] 27 (0, 0))) ∧ Aside0 (w'.heap[gb459]? = some (.cells #[.string (⟨#[]⟩ : ByteArray), (.slice (some ad454) y455.length c1_1), (.slice none 0 0), (.slice none 0 0), (.slice none 0 0)] 27 (0, 0))) ∧ Aside0 (Below w.heap.size w w'))
                        case atStart => exact ⟨(0), eT, H', ⟨Nat.le_refl _⟩, ⟨oR HO_12.out⟩, ⟨oR HO_14.out⟩, ⟨oR HO_16.out⟩, ⟨oR HO_18.out⟩, ⟨kB BK450.out⟩, ⟨kB BK459.out⟩, ⟨bB2 HB.out GE450.out GE459.out⟩⟩
                        case round =>
                         as_aux_lemma =>
                          clear H'
                          try clear hx4
                          try clear qi4
                          try clear hx45
                          try clear qi45
                          try clear hx46
                          try clear hx454_0
                          try clear hx454_1
                          try clear hx460_0
                          try clear hx460_1
                          obtain ⟨x20_5, rfl, HA, HK5, HO_12, HO_14, HO_16, HO_18, BK450, BK459, HB⟩ := hrel
                          cases gk with
                          | zero => exact absurd HA.out (by simp [l40_BindingTerms.l1])
                          | succ k5 =>
                           have H := HA.out; clear HA
                           simp only [l40_BindingTerms.l1] at H
                           by_cases c97 : x20_5 < (((rd_T51 l0 ((rd_T48 l1_1 0).f1)).f1).length : Int)
                           ·rw [if_pos c97] at H
                            have c97b0 : decide (x20_5 < (((rd_T51 l0 ((rd_T48 l1_1 0).f1)).f1).length : Int)) = true := decide_eq_true c97; clear c97
                            by_cases c98 : 0 ≤ x20_5
                            ·rw [if_pos c98] at H
                             have c98b0 : decide (0 ≤ x20_5) = true := decide_eq_true c98; clear c98
                             by_cases c99 : x20_5 < (t488.length : Int)
                             ·rw [if_pos c99] at H
                              have c99b0 : decide (x20_5 < (t488.length : Int)) = true := decide_eq_true c99; clear c99
                              by_cases c100 : (rd t488 x20_5) = a2
                              ·rw [if_pos c100] at H
                               have c100b0 : ((rd t488 x20_5) == a2) = true := beq_iff_eq.mpr c100; have c100b1 : ((rd t488 x20_5) != a2) = false := bne_eq_false_iff_eq.mpr c100; clear c100
                               by_cases c101 : x20_5 < (t467.length : Int)
                               ·rw [if_pos c101] at H
                                have c101b0 : decide (x20_5 < (t467.length : Int)) = true := decide_eq_true c101; clear c101
                                by_cases c102 : (((rd t467 x20_5) == a2) != (x20_5 == x10_3)) = true
                                ·rw [if_pos c102] at H
                                 exact absurd H (by simp)
                                ·rw [if_neg c102] at H
                                 have c102b0 : (((rd t467 x20_5) == a2) != (x20_5 == x10_3)) = false := by simpa using c102
                                 (try (have c102b1 : decide (((rd t467 x20_5) == a2) = (x20_5 == x10_3)) = true := by simpa using c102))
                                 (try (have c102b2 : (((rd t467 x20_5) == a2) == (x20_5 == x10_3)) = true := by simpa using c102))
                                 clear c102
                                 by_cases c103 : x20_5 < (t474.length : Int)
                                 ·rw [if_pos c103] at H
                                  have c103b0 : decide (x20_5 < (t474.length : Int)) = true := decide_eq_true c103; clear c103
                                  by_cases c104 : (((rd_T51 l0 ((rd_T48 l1_1 0).f1)).f1).length : Int) = 0
                                  ·rw [if_pos c104] at H
                                   exact absurd H (by simp)
                                  ·rw [if_neg c104] at H
                                   have c104b0 : ((((rd_T51 l0 ((rd_T48 l1_1 0).f1)).f1).length : Int) == 0) = false := beq_eq_false_iff_ne.mpr c104; have c104b1 : ((((rd_T51 l0 ((rd_T48 l1_1 0).f1)).f1).length : Int) != 0) = true := bne_iff_ne.mpr c104
                                   have c104b2 : ¬ (((rd_T51 l0 ((rd_T48 l1_1 0).f1)).f1) = []) := fun h_ => c104 (by rw [h_]; rfl)
                                   by_cases c105 : (((rd t474 x20_5) == a2) != (x20_5 == (Int.tmod (wrap64 (x10_3 + 1)) (((rd_T51 l0 ((rd_T48 l1_1 0).f1)).f1).length : Int)))) = true
                                   ·rw [if_pos c105] at H
                                    exact absurd H (by simp)
                                   ·rw [if_neg c105] at H
                                    have c105b0 : (((rd t474 x20_5) == a2) != (x20_5 == (Int.tmod (wrap64 (x10_3 + 1)) (((rd_T51 l0 ((rd_T48 l1_1 0).f1)).f1).length : Int)))) = false := by simpa using c105
                                    (try (have c105b1 : decide (((rd t474 x20_5) == a2) = (x20_5 == (Int.tmod (wrap64 (x10_3 + 1)) (((rd_T51 l0 ((rd_T48 l1_1 0).f1)).f1).length : Int)))) = true := by simpa using c105))
                                    (try (have c105b2 : (((rd t474 x20_5) == a2) == (x20_5 == (Int.tmod (wrap64 (x10_3 + 1)) (((rd_T51 l0 ((rd_T48 l1_1 0).f1)).f1).length : Int)))) = true := by simpa using c105))
                                    clear c105
                                    by_cases c106 : x20_5 < (t481.length : Int)
                                    ·rw [if_pos c106] at H
                                     have c106b0 : decide (x20_5 < (t481.length : Int)) = true := decide_eq_true c106; clear c106
                                     by_cases c107 : (((rd t481 x20_5) == a2) != (x10_3 == (Int.tmod (wrap64 (x20_5 + 1)) (((rd_T51 l0 ((rd_T48 l1_1 0).f1)).f1).length : Int)))) = true
                                     ·rw [if_pos c107] at H
                                      exact absurd H (by simp)
                                     ·rw [if_neg c107] at H
                                      have c107b0 : (((rd t481 x20_5) == a2) != (x10_3 == (Int.tmod (wrap64 (x20_5 + 1)) (((rd_T51 l0 ((rd_T48 l1_1 0).f1)).f1).length : Int)))) = false := by simpa using c107
                                      (try (have c107b1 : decide (((rd t481 x20_5) == a2) = (x10_3 == (Int.tmod (wrap64 (x20_5 + 1)) (((rd_T51 l0 ((rd_T48 l1_1 0).f1)).f1).length : Int)))) = true := by simpa using c107))
                                      (try (have c107b2 : (((rd t481 x20_5) == a2) == (x10_3 == (Int.tmod (wrap64 (x20_5 + 1)) (((rd_T51 l0 ((rd_T48 l1_1 0).f1)).f1).length : Int)))) = true := by simpa using c107))
                                      clear c107
                                      by_cases c108 : (rd t467 x20_5) = 0
                                      ·rw [if_pos c108] at H
                                       have c108b0 : ((rd t467 x20_5) == 0) = true := beq_iff_eq.mpr c108; have c108b1 : ((rd t467 x20_5) != 0) = false := bne_eq_false_iff_eq.mpr c108; clear c108
                                       by_cases c109 : (rd t474 x20_5) = 0
                                       ·rw [if_pos c109] at H
                                        have c109b0 : ((rd t474 x20_5) == 0) = true := beq_iff_eq.mpr c109; have c109b1 : ((rd t474 x20_5) != 0) = false := bne_eq_false_iff_eq.mpr c109; clear c109
                                        by_cases c110 : (rd t481 x20_5) = 0
                                        ·rw [if_pos c110] at H
                                         have c110b0 : ((rd t481 x20_5) == 0) = true := beq_iff_eq.mpr c110; have c110b1 : ((rd t481 x20_5) != 0) = false := bne_eq_false_iff_eq.mpr c110; clear c110
                                         as_aux_lemma =>
                                          have H' := aM H
                                          clear H; obtain ⟨Ao111, co111, eo111⟩ := Kd.R_slice HO_18.out; subst eo111; have p492 : 0 ≤ (x20_5 : Int) := dT; have q492 : x20_5 < (t488.length : Int) := dT
                                          try (obtain ⟨Aoz492, coz492, eoz492⟩ := Kd.R_slice HO_18.out; subst eoz492)
                                          obtain ⟨ad492, e492, hx492_0⟩ := Kd.at_int (Kd.R_reads' HO_18.out).2.2 x20_5 p492 q492; cases e492; replace p492 := eq_true p492; replace q492 := eq_true q492; obtain ⟨Ao112, co112, eo112⟩ := Kd.R_slice HO_12.out; subst eo112; have p493 : 0 ≤ (x20_5 : Int) := dT; have q493 : x20_5 < (t467.length : Int) := dT
                                          try (obtain ⟨Aoz493, coz493, eoz493⟩ := Kd.R_slice HO_12.out; subst eoz493)
                                          obtain ⟨ad493, e493, hx493_0⟩ := Kd.at_int (Kd.R_reads' HO_12.out).2.2 x20_5 p493 q493; cases e493; replace p493 := eq_true p493; replace q493 := eq_true q493; obtain ⟨Ao113, co113, eo113⟩ := Kd.R_slice HO_14.out; subst eo113; have p494 : 0 ≤ (x20_5 : Int) := dT; have q494 : x20_5 < (t474.length : Int) := dT
                                          try (obtain ⟨Aoz494, coz494, eoz494⟩ := Kd.R_slice HO_14.out; subst eoz494)
                                          obtain ⟨ad494, e494, hx494_0⟩ := Kd.at_int (Kd.R_reads' HO_14.out).2.2 x20_5 p494 q494; cases e494; replace p494 := eq_true p494; replace q494 := eq_true q494; obtain ⟨Ao114, co114, eo114⟩ := Kd.R_slice HO_16.out; subst eo114; have p495 : 0 ≤ (x20_5 : Int) := dT; have q495 : x20_5 < (t481.length : Int) := dT
                                          try (obtain ⟨Aoz495, coz495, eoz495⟩ := Kd.R_slice HO_16.out; subst eoz495)
                                          obtain ⟨ad495, e495, hx495_0⟩ := Kd.at_int (Kd.R_reads' HO_16.out).2.2 x20_5 p495 q495; cases e495; replace p495 := eq_true p495; replace q495 := eq_true q495; have p496 : 0 ≤ (x20_5 : Int) := dT; have q496 : x20_5 < (t467.length : Int) := dT
                                          try (obtain ⟨Aoz496, coz496, eoz496⟩ := Kd.R_slice HO_12.out; subst eoz496)
                                          obtain ⟨ad496, e496, hx496_0⟩ := Kd.at_int (Kd.R_reads' HO_12.out).2.2 x20_5 p496 q496; obtain rfl : ad493 = ad496 := (by injection e496); replace p496 := eq_true p496; replace q496 := eq_true q496; have p497 : 0 ≤ (x20_5 : Int) := dT; have q497 : x20_5 < (t474.length : Int) := dT
                                          try (obtain ⟨Aoz497, coz497, eoz497⟩ := Kd.R_slice HO_14.out; subst eoz497)
                                          obtain ⟨ad497, e497, hx497_0⟩ := Kd.at_int (Kd.R_reads' HO_14.out).2.2 x20_5 p497 q497; obtain rfl : ad494 = ad497 := (by injection e497); replace p497 := eq_true p497; replace q497 := eq_true q497; have p498 : 0 ≤ (x20_5 : Int) := dT; have q498 : x20_5 < (t481.length : Int) := dT
                                          try (obtain ⟨Aoz498, coz498, eoz498⟩ := Kd.R_slice HO_16.out; subst eoz498)
                                          obtain ⟨ad498, e498, hx498_0⟩ := Kd.at_int (Kd.R_reads' HO_16.out).2.2 x20_5 p498 q498; obtain rfl : ad495 = ad498 := (by injection e498); replace p498 := eq_true p498; replace q498 := eq_true q498
                                          go_wp2
                                          (first | (refine wp_region_quiet_lit (by kernel_rfl) (by exact l40_BindingTerms.lex23) ?_; (repeat (go_big_quiet_step (fail))); refine wpQuiet_nil ?_) | (refine wp_region_quiet_lit (by kernel_rfl) (by exact l40_BindingTerms.lex23) ?_; (repeat (quiet_step (fail))); refine wpQuiet_nil ?_)); intro _ hw'; obtain ⟨nq, hw''⟩ := hw'; subst hw''; (try go_wp2)
                                          go_roundg k5
                                          case measure => have := HJ5.out; have := HJ38.out; have := HK3.out; have := HJ53.out; have := HK5.out; omega
                                          case rel => exact ⟨(wrap64 (x20_5 + 1)), eT, H', ⟨by have := HJ5.out; have := HJ38.out; have := HK3.out; have := HJ53.out; have := HK5.out; omega⟩, ⟨oR HO_12.out⟩, ⟨oR HO_14.out⟩, ⟨oR HO_16.out⟩, ⟨oR HO_18.out⟩, ⟨kB BK450.out⟩, ⟨kB BK459.out⟩, ⟨bB2 HB.out GE450.out GE459.out⟩⟩
                                        ·rw [if_neg c110] at H
                                         have c110b0 : ((rd t481 x20_5) == 0) = false := beq_eq_false_iff_ne.mpr c110; have c110b1 : ((rd t481 x20_5) != 0) = true := bne_iff_ne.mpr c110
                                         by_cases c115 : (rd t481 x20_5) = a2
                                         ·rw [if_pos c115] at H
                                          have c115b0 : ((rd t481 x20_5) == a2) = true := beq_iff_eq.mpr c115
                                          have d115 : (x10_3 == (Int.tmod (wrap64 (x20_5 + 1)) ((((rd_T51 l0 ((rd_T48 l1_1 0).f1)).f1).length : Int)))) = true := by have h_ := c107b0; rw [c115b0] at h_; simpa using h_
                                          clear c107b0; (try clear c107b1); (try clear c107b2); have c115b1 : ((rd t481 x20_5) != a2) = false := bne_eq_false_iff_eq.mpr c115; clear c115
                                          as_aux_lemma =>
                                           have H' := aM H
                                           clear H; obtain ⟨Ao116, co116, eo116⟩ := Kd.R_slice HO_18.out; subst eo116; have p492 : 0 ≤ (x20_5 : Int) := dT; have q492 : x20_5 < (t488.length : Int) := dT
                                           try (obtain ⟨Aoz492, coz492, eoz492⟩ := Kd.R_slice HO_18.out; subst eoz492)
                                           obtain ⟨ad492, e492, hx492_0⟩ := Kd.at_int (Kd.R_reads' HO_18.out).2.2 x20_5 p492 q492; cases e492; replace p492 := eq_true p492; replace q492 := eq_true q492; obtain ⟨Ao117, co117, eo117⟩ := Kd.R_slice HO_12.out; subst eo117; have p493 : 0 ≤ (x20_5 : Int) := dT; have q493 : x20_5 < (t467.length : Int) := dT
                                           try (obtain ⟨Aoz493, coz493, eoz493⟩ := Kd.R_slice HO_12.out; subst eoz493)
                                           obtain ⟨ad493, e493, hx493_0⟩ := Kd.at_int (Kd.R_reads' HO_12.out).2.2 x20_5 p493 q493; cases e493; replace p493 := eq_true p493; replace q493 := eq_true q493; obtain ⟨Ao118, co118, eo118⟩ := Kd.R_slice HO_14.out; subst eo118; have p494 : 0 ≤ (x20_5 : Int) := dT; have q494 : x20_5 < (t474.length : Int) := dT
                                           try (obtain ⟨Aoz494, coz494, eoz494⟩ := Kd.R_slice HO_14.out; subst eoz494)
                                           obtain ⟨ad494, e494, hx494_0⟩ := Kd.at_int (Kd.R_reads' HO_14.out).2.2 x20_5 p494 q494; cases e494; replace p494 := eq_true p494; replace q494 := eq_true q494; obtain ⟨Ao119, co119, eo119⟩ := Kd.R_slice HO_16.out; subst eo119; have p495 : 0 ≤ (x20_5 : Int) := dT; have q495 : x20_5 < (t481.length : Int) := dT
                                           try (obtain ⟨Aoz495, coz495, eoz495⟩ := Kd.R_slice HO_16.out; subst eoz495)
                                           obtain ⟨ad495, e495, hx495_0⟩ := Kd.at_int (Kd.R_reads' HO_16.out).2.2 x20_5 p495 q495; cases e495; replace p495 := eq_true p495; replace q495 := eq_true q495; have p496 : 0 ≤ (x20_5 : Int) := dT; have q496 : x20_5 < (t467.length : Int) := dT
                                           try (obtain ⟨Aoz496, coz496, eoz496⟩ := Kd.R_slice HO_12.out; subst eoz496)
                                           obtain ⟨ad496, e496, hx496_0⟩ := Kd.at_int (Kd.R_reads' HO_12.out).2.2 x20_5 p496 q496; obtain rfl : ad493 = ad496 := (by injection e496); replace p496 := eq_true p496; replace q496 := eq_true q496; have p497 : 0 ≤ (x20_5 : Int) := dT; have q497 : x20_5 < (t474.length : Int) := dT
                                           try (obtain ⟨Aoz497, coz497, eoz497⟩ := Kd.R_slice HO_14.out; subst eoz497)
                                           obtain ⟨ad497, e497, hx497_0⟩ := Kd.at_int (Kd.R_reads' HO_14.out).2.2 x20_5 p497 q497; obtain rfl : ad494 = ad497 := (by injection e497); replace p497 := eq_true p497; replace q497 := eq_true q497; have p498 : 0 ≤ (x20_5 : Int) := dT; have q498 : x20_5 < (t481.length : Int) := dT
                                           try (obtain ⟨Aoz498, coz498, eoz498⟩ := Kd.R_slice HO_16.out; subst eoz498)
                                           obtain ⟨ad498, e498, hx498_0⟩ := Kd.at_int (Kd.R_reads' HO_16.out).2.2 x20_5 p498 q498; obtain rfl : ad495 = ad498 := (by injection e498); replace p498 := eq_true p498; replace q498 := eq_true q498; have p499 : 0 ≤ (x20_5 : Int) := dT; have q499 : x20_5 < (t481.length : Int) := dT
                                           try (obtain ⟨Aoz499, coz499, eoz499⟩ := Kd.R_slice HO_16.out; subst eoz499)
                                           obtain ⟨ad499, e499, hx499_0⟩ := Kd.at_int (Kd.R_reads' HO_16.out).2.2 x20_5 p499 q499; obtain rfl : ad495 = ad499 := (by injection e499); replace p499 := eq_true p499; replace q499 := eq_true q499
                                           go_wp2
                                           (first | (refine wp_region_quiet_lit (by kernel_rfl) (by exact l40_BindingTerms.lex23) ?_; (repeat (go_big_quiet_step (fail))); refine wpQuiet_nil ?_) | (refine wp_region_quiet_lit (by kernel_rfl) (by exact l40_BindingTerms.lex23) ?_; (repeat (quiet_step (fail))); refine wpQuiet_nil ?_)); intro _ hw'; obtain ⟨nq, hw''⟩ := hw'; subst hw''; (try go_wp2)
                                           go_roundg k5
                                           case measure => have := HJ5.out; have := HJ38.out; have := HK3.out; have := HJ53.out; have := HK5.out; omega
                                           case rel => exact ⟨(wrap64 (x20_5 + 1)), eT, H', ⟨by have := HJ5.out; have := HJ38.out; have := HK3.out; have := HJ53.out; have := HK5.out; omega⟩, ⟨oR HO_12.out⟩, ⟨oR HO_14.out⟩, ⟨oR HO_16.out⟩, ⟨oR HO_18.out⟩, ⟨kB BK450.out⟩, ⟨kB BK459.out⟩, ⟨bB2 HB.out GE450.out GE459.out⟩⟩
                                         ·rw [if_neg c115] at H
                                          exact absurd H (by simp)
                                       ·rw [if_neg c109] at H
                                        have c109b0 : ((rd t474 x20_5) == 0) = false := beq_eq_false_iff_ne.mpr c109; have c109b1 : ((rd t474 x20_5) != 0) = true := bne_iff_ne.mpr c109
                                        by_cases c120 : (rd t474 x20_5) = a2
                                        ·rw [if_pos c120] at H
                                         have c120b0 : ((rd t474 x20_5) == a2) = true := beq_iff_eq.mpr c120
                                         have d120 : (x20_5 == (Int.tmod (wrap64 (x10_3 + 1)) ((((rd_T51 l0 ((rd_T48 l1_1 0).f1)).f1).length : Int)))) = true := by have h_ := c105b0; rw [c120b0] at h_; simpa using h_
                                         clear c105b0; (try clear c105b1); (try clear c105b2); have c120b1 : ((rd t474 x20_5) != a2) = false := bne_eq_false_iff_eq.mpr c120; clear c120
                                         by_cases c121 : (rd t481 x20_5) = 0
                                         ·rw [if_pos c121] at H
                                          have c121b0 : ((rd t481 x20_5) == 0) = true := beq_iff_eq.mpr c121; have c121b1 : ((rd t481 x20_5) != 0) = false := bne_eq_false_iff_eq.mpr c121; clear c121
                                          as_aux_lemma =>
                                           have H' := aM H
                                           clear H; obtain ⟨Ao122, co122, eo122⟩ := Kd.R_slice HO_18.out; subst eo122; have p492 : 0 ≤ (x20_5 : Int) := dT; have q492 : x20_5 < (t488.length : Int) := dT
                                           try (obtain ⟨Aoz492, coz492, eoz492⟩ := Kd.R_slice HO_18.out; subst eoz492)
                                           obtain ⟨ad492, e492, hx492_0⟩ := Kd.at_int (Kd.R_reads' HO_18.out).2.2 x20_5 p492 q492; cases e492; replace p492 := eq_true p492; replace q492 := eq_true q492; obtain ⟨Ao123, co123, eo123⟩ := Kd.R_slice HO_12.out; subst eo123; have p493 : 0 ≤ (x20_5 : Int) := dT; have q493 : x20_5 < (t467.length : Int) := dT
                                           try (obtain ⟨Aoz493, coz493, eoz493⟩ := Kd.R_slice HO_12.out; subst eoz493)
                                           obtain ⟨ad493, e493, hx493_0⟩ := Kd.at_int (Kd.R_reads' HO_12.out).2.2 x20_5 p493 q493; cases e493; replace p493 := eq_true p493; replace q493 := eq_true q493; obtain ⟨Ao124, co124, eo124⟩ := Kd.R_slice HO_14.out; subst eo124; have p494 : 0 ≤ (x20_5 : Int) := dT; have q494 : x20_5 < (t474.length : Int) := dT
                                           try (obtain ⟨Aoz494, coz494, eoz494⟩ := Kd.R_slice HO_14.out; subst eoz494)
                                           obtain ⟨ad494, e494, hx494_0⟩ := Kd.at_int (Kd.R_reads' HO_14.out).2.2 x20_5 p494 q494; cases e494; replace p494 := eq_true p494; replace q494 := eq_true q494; obtain ⟨Ao125, co125, eo125⟩ := Kd.R_slice HO_16.out; subst eo125; have p495 : 0 ≤ (x20_5 : Int) := dT; have q495 : x20_5 < (t481.length : Int) := dT
                                           try (obtain ⟨Aoz495, coz495, eoz495⟩ := Kd.R_slice HO_16.out; subst eoz495)
                                           obtain ⟨ad495, e495, hx495_0⟩ := Kd.at_int (Kd.R_reads' HO_16.out).2.2 x20_5 p495 q495; cases e495; replace p495 := eq_true p495; replace q495 := eq_true q495; have p496 : 0 ≤ (x20_5 : Int) := dT; have q496 : x20_5 < (t467.length : Int) := dT
                                           try (obtain ⟨Aoz496, coz496, eoz496⟩ := Kd.R_slice HO_12.out; subst eoz496)
                                           obtain ⟨ad496, e496, hx496_0⟩ := Kd.at_int (Kd.R_reads' HO_12.out).2.2 x20_5 p496 q496; obtain rfl : ad493 = ad496 := (by injection e496); replace p496 := eq_true p496; replace q496 := eq_true q496; have p497 : 0 ≤ (x20_5 : Int) := dT; have q497 : x20_5 < (t474.length : Int) := dT
                                           try (obtain ⟨Aoz497, coz497, eoz497⟩ := Kd.R_slice HO_14.out; subst eoz497)
                                           obtain ⟨ad497, e497, hx497_0⟩ := Kd.at_int (Kd.R_reads' HO_14.out).2.2 x20_5 p497 q497; obtain rfl : ad494 = ad497 := (by injection e497); replace p497 := eq_true p497; replace q497 := eq_true q497; have p500 : 0 ≤ (x20_5 : Int) := dT; have q500 : x20_5 < (t474.length : Int) := dT
                                           try (obtain ⟨Aoz500, coz500, eoz500⟩ := Kd.R_slice HO_14.out; subst eoz500)
                                           obtain ⟨ad500, e500, hx500_0⟩ := Kd.at_int (Kd.R_reads' HO_14.out).2.2 x20_5 p500 q500; obtain rfl : ad494 = ad500 := (by injection e500); replace p500 := eq_true p500; replace q500 := eq_true q500; have p501 : 0 ≤ (x20_5 : Int) := dT; have q501 : x20_5 < (t481.length : Int) := dT
                                           try (obtain ⟨Aoz501, coz501, eoz501⟩ := Kd.R_slice HO_16.out; subst eoz501)
                                           obtain ⟨ad501, e501, hx501_0⟩ := Kd.at_int (Kd.R_reads' HO_16.out).2.2 x20_5 p501 q501; obtain rfl : ad495 = ad501 := (by injection e501); replace p501 := eq_true p501; replace q501 := eq_true q501
                                           go_wp2
                                           (first | (refine wp_region_quiet_lit (by kernel_rfl) (by exact l40_BindingTerms.lex23) ?_; (repeat (go_big_quiet_step (fail))); refine wpQuiet_nil ?_) | (refine wp_region_quiet_lit (by kernel_rfl) (by exact l40_BindingTerms.lex23) ?_; (repeat (quiet_step (fail))); refine wpQuiet_nil ?_)); intro _ hw'; obtain ⟨nq, hw''⟩ := hw'; subst hw''; (try go_wp2)
                                           go_roundg k5
                                           case measure => have := HJ5.out; have := HJ38.out; have := HK3.out; have := HJ53.out; have := HK5.out; omega
                                           case rel => exact ⟨(wrap64 (x20_5 + 1)), eT, H', ⟨by have := HJ5.out; have := HJ38.out; have := HK3.out; have := HJ53.out; have := HK5.out; omega⟩, ⟨oR HO_12.out⟩, ⟨oR HO_14.out⟩, ⟨oR HO_16.out⟩, ⟨oR HO_18.out⟩, ⟨kB BK450.out⟩, ⟨kB BK459.out⟩, ⟨bB2 HB.out GE450.out GE459.out⟩⟩
                                         ·rw [if_neg c121] at H
                                          have c121b0 : ((rd t481 x20_5) == 0) = false := beq_eq_false_iff_ne.mpr c121; have c121b1 : ((rd t481 x20_5) != 0) = true := bne_iff_ne.mpr c121
                                          by_cases c126 : (rd t481 x20_5) = a2
                                          ·rw [if_pos c126] at H
                                           have c126b0 : ((rd t481 x20_5) == a2) = true := beq_iff_eq.mpr c126
                                           have d126 : (x10_3 == (Int.tmod (wrap64 (x20_5 + 1)) ((((rd_T51 l0 ((rd_T48 l1_1 0).f1)).f1).length : Int)))) = true := by have h_ := c107b0; rw [c126b0] at h_; simpa using h_
                                           clear c107b0; (try clear c107b1); (try clear c107b2); have c126b1 : ((rd t481 x20_5) != a2) = false := bne_eq_false_iff_eq.mpr c126; clear c126
                                           as_aux_lemma =>
                                            have H' := aM H
                                            clear H; obtain ⟨Ao127, co127, eo127⟩ := Kd.R_slice HO_18.out; subst eo127; have p492 : 0 ≤ (x20_5 : Int) := dT; have q492 : x20_5 < (t488.length : Int) := dT
                                            try (obtain ⟨Aoz492, coz492, eoz492⟩ := Kd.R_slice HO_18.out; subst eoz492)
                                            obtain ⟨ad492, e492, hx492_0⟩ := Kd.at_int (Kd.R_reads' HO_18.out).2.2 x20_5 p492 q492; cases e492; replace p492 := eq_true p492; replace q492 := eq_true q492; obtain ⟨Ao128, co128, eo128⟩ := Kd.R_slice HO_12.out; subst eo128; have p493 : 0 ≤ (x20_5 : Int) := dT; have q493 : x20_5 < (t467.length : Int) := dT
                                            try (obtain ⟨Aoz493, coz493, eoz493⟩ := Kd.R_slice HO_12.out; subst eoz493)
                                            obtain ⟨ad493, e493, hx493_0⟩ := Kd.at_int (Kd.R_reads' HO_12.out).2.2 x20_5 p493 q493; cases e493; replace p493 := eq_true p493; replace q493 := eq_true q493; obtain ⟨Ao129, co129, eo129⟩ := Kd.R_slice HO_14.out; subst eo129; have p494 : 0 ≤ (x20_5 : Int) := dT; have q494 : x20_5 < (t474.length : Int) := dT
                                            try (obtain ⟨Aoz494, coz494, eoz494⟩ := Kd.R_slice HO_14.out; subst eoz494)
                                            obtain ⟨ad494, e494, hx494_0⟩ := Kd.at_int (Kd.R_reads' HO_14.out).2.2 x20_5 p494 q494; cases e494; replace p494 := eq_true p494; replace q494 := eq_true q494; obtain ⟨Ao130, co130, eo130⟩ := Kd.R_slice HO_16.out; subst eo130; have p495 : 0 ≤ (x20_5 : Int) := dT; have q495 : x20_5 < (t481.length : Int) := dT
                                            try (obtain ⟨Aoz495, coz495, eoz495⟩ := Kd.R_slice HO_16.out; subst eoz495)
                                            obtain ⟨ad495, e495, hx495_0⟩ := Kd.at_int (Kd.R_reads' HO_16.out).2.2 x20_5 p495 q495; cases e495; replace p495 := eq_true p495; replace q495 := eq_true q495; have p496 : 0 ≤ (x20_5 : Int) := dT; have q496 : x20_5 < (t467.length : Int) := dT
                                            try (obtain ⟨Aoz496, coz496, eoz496⟩ := Kd.R_slice HO_12.out; subst eoz496)
                                            obtain ⟨ad496, e496, hx496_0⟩ := Kd.at_int (Kd.R_reads' HO_12.out).2.2 x20_5 p496 q496; obtain rfl : ad493 = ad496 := (by injection e496); replace p496 := eq_true p496; replace q496 := eq_true q496; have p497 : 0 ≤ (x20_5 : Int) := dT; have q497 : x20_5 < (t474.length : Int) := dT
                                            try (obtain ⟨Aoz497, coz497, eoz497⟩ := Kd.R_slice HO_14.out; subst eoz497)
                                            obtain ⟨ad497, e497, hx497_0⟩ := Kd.at_int (Kd.R_reads' HO_14.out).2.2 x20_5 p497 q497; obtain rfl : ad494 = ad497 := (by injection e497); replace p497 := eq_true p497; replace q497 := eq_true q497; have p500 : 0 ≤ (x20_5 : Int) := dT; have q500 : x20_5 < (t474.length : Int) := dT
                                            try (obtain ⟨Aoz500, coz500, eoz500⟩ := Kd.R_slice HO_14.out; subst eoz500)
                                            obtain ⟨ad500, e500, hx500_0⟩ := Kd.at_int (Kd.R_reads' HO_14.out).2.2 x20_5 p500 q500; obtain rfl : ad494 = ad500 := (by injection e500); replace p500 := eq_true p500; replace q500 := eq_true q500; have p501 : 0 ≤ (x20_5 : Int) := dT; have q501 : x20_5 < (t481.length : Int) := dT
                                            try (obtain ⟨Aoz501, coz501, eoz501⟩ := Kd.R_slice HO_16.out; subst eoz501)
                                            obtain ⟨ad501, e501, hx501_0⟩ := Kd.at_int (Kd.R_reads' HO_16.out).2.2 x20_5 p501 q501; obtain rfl : ad495 = ad501 := (by injection e501); replace p501 := eq_true p501; replace q501 := eq_true q501; have p502 : 0 ≤ (x20_5 : Int) := dT; have q502 : x20_5 < (t481.length : Int) := dT
                                            try (obtain ⟨Aoz502, coz502, eoz502⟩ := Kd.R_slice HO_16.out; subst eoz502)
                                            obtain ⟨ad502, e502, hx502_0⟩ := Kd.at_int (Kd.R_reads' HO_16.out).2.2 x20_5 p502 q502; obtain rfl : ad495 = ad502 := (by injection e502); replace p502 := eq_true p502; replace q502 := eq_true q502
                                            go_wp2
                                            (first | (refine wp_region_quiet_lit (by kernel_rfl) (by exact l40_BindingTerms.lex23) ?_; (repeat (go_big_quiet_step (fail))); refine wpQuiet_nil ?_) | (refine wp_region_quiet_lit (by kernel_rfl) (by exact l40_BindingTerms.lex23) ?_; (repeat (quiet_step (fail))); refine wpQuiet_nil ?_)); intro _ hw'; obtain ⟨nq, hw''⟩ := hw'; subst hw''; (try go_wp2)
                                            go_roundg k5
                                            case measure => have := HJ5.out; have := HJ38.out; have := HK3.out; have := HJ53.out; have := HK5.out; omega
                                            case rel => exact ⟨(wrap64 (x20_5 + 1)), eT, H', ⟨by have := HJ5.out; have := HJ38.out; have := HK3.out; have := HJ53.out; have := HK5.out; omega⟩, ⟨oR HO_12.out⟩, ⟨oR HO_14.out⟩, ⟨oR HO_16.out⟩, ⟨oR HO_18.out⟩, ⟨kB BK450.out⟩, ⟨kB BK459.out⟩, ⟨bB2 HB.out GE450.out GE459.out⟩⟩
                                          ·rw [if_neg c126] at H
                                           exact absurd H (by simp)
                                        ·rw [if_neg c120] at H
                                         exact absurd H (by simp)
                                      ·rw [if_neg c108] at H
                                       have c108b0 : ((rd t467 x20_5) == 0) = false := beq_eq_false_iff_ne.mpr c108; have c108b1 : ((rd t467 x20_5) != 0) = true := bne_iff_ne.mpr c108
                                       by_cases c131 : (rd t467 x20_5) = a2
                                       ·rw [if_pos c131] at H
                                        have c131b0 : ((rd t467 x20_5) == a2) = true := beq_iff_eq.mpr c131
                                        have d131 : (x20_5 == x10_3) = true := by have h_ := c102b0; rw [c131b0] at h_; simpa using h_
                                        clear c102b0; (try clear c102b1); (try clear c102b2); have c131b1 : ((rd t467 x20_5) != a2) = false := bne_eq_false_iff_eq.mpr c131; clear c131
                                        by_cases c132 : (rd t474 x20_5) = 0
                                        ·rw [if_pos c132] at H
                                         have c132b0 : ((rd t474 x20_5) == 0) = true := beq_iff_eq.mpr c132; have c132b1 : ((rd t474 x20_5) != 0) = false := bne_eq_false_iff_eq.mpr c132; clear c132
                                         by_cases c133 : (rd t481 x20_5) = 0
                                         ·rw [if_pos c133] at H
                                          have c133b0 : ((rd t481 x20_5) == 0) = true := beq_iff_eq.mpr c133; have c133b1 : ((rd t481 x20_5) != 0) = false := bne_eq_false_iff_eq.mpr c133; clear c133
                                          as_aux_lemma =>
                                           have H' := aM H
                                           clear H; obtain ⟨Ao134, co134, eo134⟩ := Kd.R_slice HO_18.out; subst eo134; have p492 : 0 ≤ (x20_5 : Int) := dT; have q492 : x20_5 < (t488.length : Int) := dT
                                           try (obtain ⟨Aoz492, coz492, eoz492⟩ := Kd.R_slice HO_18.out; subst eoz492)
                                           obtain ⟨ad492, e492, hx492_0⟩ := Kd.at_int (Kd.R_reads' HO_18.out).2.2 x20_5 p492 q492; cases e492; replace p492 := eq_true p492; replace q492 := eq_true q492; obtain ⟨Ao135, co135, eo135⟩ := Kd.R_slice HO_12.out; subst eo135; have p493 : 0 ≤ (x20_5 : Int) := dT; have q493 : x20_5 < (t467.length : Int) := dT
                                           try (obtain ⟨Aoz493, coz493, eoz493⟩ := Kd.R_slice HO_12.out; subst eoz493)
                                           obtain ⟨ad493, e493, hx493_0⟩ := Kd.at_int (Kd.R_reads' HO_12.out).2.2 x20_5 p493 q493; cases e493; replace p493 := eq_true p493; replace q493 := eq_true q493; obtain ⟨Ao136, co136, eo136⟩ := Kd.R_slice HO_14.out; subst eo136; have p494 : 0 ≤ (x20_5 : Int) := dT; have q494 : x20_5 < (t474.length : Int) := dT
                                           try (obtain ⟨Aoz494, coz494, eoz494⟩ := Kd.R_slice HO_14.out; subst eoz494)
                                           obtain ⟨ad494, e494, hx494_0⟩ := Kd.at_int (Kd.R_reads' HO_14.out).2.2 x20_5 p494 q494; cases e494; replace p494 := eq_true p494; replace q494 := eq_true q494; obtain ⟨Ao137, co137, eo137⟩ := Kd.R_slice HO_16.out; subst eo137; have p495 : 0 ≤ (x20_5 : Int) := dT; have q495 : x20_5 < (t481.length : Int) := dT
                                           try (obtain ⟨Aoz495, coz495, eoz495⟩ := Kd.R_slice HO_16.out; subst eoz495)
                                           obtain ⟨ad495, e495, hx495_0⟩ := Kd.at_int (Kd.R_reads' HO_16.out).2.2 x20_5 p495 q495; cases e495; replace p495 := eq_true p495; replace q495 := eq_true q495; have p496 : 0 ≤ (x20_5 : Int) := dT; have q496 : x20_5 < (t467.length : Int) := dT
                                           try (obtain ⟨Aoz496, coz496, eoz496⟩ := Kd.R_slice HO_12.out; subst eoz496)
                                           obtain ⟨ad496, e496, hx496_0⟩ := Kd.at_int (Kd.R_reads' HO_12.out).2.2 x20_5 p496 q496; obtain rfl : ad493 = ad496 := (by injection e496); replace p496 := eq_true p496; replace q496 := eq_true q496; have p503 : 0 ≤ (x20_5 : Int) := dT; have q503 : x20_5 < (t467.length : Int) := dT
                                           try (obtain ⟨Aoz503, coz503, eoz503⟩ := Kd.R_slice HO_12.out; subst eoz503)
                                           obtain ⟨ad503, e503, hx503_0⟩ := Kd.at_int (Kd.R_reads' HO_12.out).2.2 x20_5 p503 q503; obtain rfl : ad493 = ad503 := (by injection e503); replace p503 := eq_true p503; replace q503 := eq_true q503; have p504 : 0 ≤ (x20_5 : Int) := dT; have q504 : x20_5 < (t474.length : Int) := dT
                                           try (obtain ⟨Aoz504, coz504, eoz504⟩ := Kd.R_slice HO_14.out; subst eoz504)
                                           obtain ⟨ad504, e504, hx504_0⟩ := Kd.at_int (Kd.R_reads' HO_14.out).2.2 x20_5 p504 q504; obtain rfl : ad494 = ad504 := (by injection e504); replace p504 := eq_true p504; replace q504 := eq_true q504; have p505 : 0 ≤ (x20_5 : Int) := dT; have q505 : x20_5 < (t481.length : Int) := dT
                                           try (obtain ⟨Aoz505, coz505, eoz505⟩ := Kd.R_slice HO_16.out; subst eoz505)
                                           obtain ⟨ad505, e505, hx505_0⟩ := Kd.at_int (Kd.R_reads' HO_16.out).2.2 x20_5 p505 q505; obtain rfl : ad495 = ad505 := (by injection e505); replace p505 := eq_true p505; replace q505 := eq_true q505
                                           go_wp2
                                           (first | (refine wp_region_quiet_lit (by kernel_rfl) (by exact l40_BindingTerms.lex23) ?_; (repeat (go_big_quiet_step (fail))); refine wpQuiet_nil ?_) | (refine wp_region_quiet_lit (by kernel_rfl) (by exact l40_BindingTerms.lex23) ?_; (repeat (quiet_step (fail))); refine wpQuiet_nil ?_)); intro _ hw'; obtain ⟨nq, hw''⟩ := hw'; subst hw''; (try go_wp2)
                                           go_roundg k5
                                           case measure => have := HJ5.out; have := HJ38.out; have := HK3.out; have := HJ53.out; have := HK5.out; omega
                                           case rel => exact ⟨(wrap64 (x20_5 + 1)), eT, H', ⟨by have := HJ5.out; have := HJ38.out; have := HK3.out; have := HJ53.out; have := HK5.out; omega⟩, ⟨oR HO_12.out⟩, ⟨oR HO_14.out⟩, ⟨oR HO_16.out⟩, ⟨oR HO_18.out⟩, ⟨kB BK450.out⟩, ⟨kB BK459.out⟩, ⟨bB2 HB.out GE450.out GE459.out⟩⟩
                                         ·rw [if_neg c133] at H
                                          have c133b0 : ((rd t481 x20_5) == 0) = false := beq_eq_false_iff_ne.mpr c133; have c133b1 : ((rd t481 x20_5) != 0) = true := bne_iff_ne.mpr c133
                                          by_cases c138 : (rd t481 x20_5) = a2
                                          ·rw [if_pos c138] at H
                                           have c138b0 : ((rd t481 x20_5) == a2) = true := beq_iff_eq.mpr c138
                                           have d138 : (x10_3 == (Int.tmod (wrap64 (x20_5 + 1)) ((((rd_T51 l0 ((rd_T48 l1_1 0).f1)).f1).length : Int)))) = true := by have h_ := c107b0; rw [c138b0] at h_; simpa using h_
                                           clear c107b0; (try clear c107b1); (try clear c107b2); have c138b1 : ((rd t481 x20_5) != a2) = false := bne_eq_false_iff_eq.mpr c138; clear c138
                                           as_aux_lemma =>
                                            have H' := aM H
                                            clear H; obtain ⟨Ao139, co139, eo139⟩ := Kd.R_slice HO_18.out; subst eo139; have p492 : 0 ≤ (x20_5 : Int) := dT; have q492 : x20_5 < (t488.length : Int) := dT
                                            try (obtain ⟨Aoz492, coz492, eoz492⟩ := Kd.R_slice HO_18.out; subst eoz492)
                                            obtain ⟨ad492, e492, hx492_0⟩ := Kd.at_int (Kd.R_reads' HO_18.out).2.2 x20_5 p492 q492; cases e492; replace p492 := eq_true p492; replace q492 := eq_true q492; obtain ⟨Ao140, co140, eo140⟩ := Kd.R_slice HO_12.out; subst eo140; have p493 : 0 ≤ (x20_5 : Int) := dT; have q493 : x20_5 < (t467.length : Int) := dT
                                            try (obtain ⟨Aoz493, coz493, eoz493⟩ := Kd.R_slice HO_12.out; subst eoz493)
                                            obtain ⟨ad493, e493, hx493_0⟩ := Kd.at_int (Kd.R_reads' HO_12.out).2.2 x20_5 p493 q493; cases e493; replace p493 := eq_true p493; replace q493 := eq_true q493; obtain ⟨Ao141, co141, eo141⟩ := Kd.R_slice HO_14.out; subst eo141; have p494 : 0 ≤ (x20_5 : Int) := dT; have q494 : x20_5 < (t474.length : Int) := dT
                                            try (obtain ⟨Aoz494, coz494, eoz494⟩ := Kd.R_slice HO_14.out; subst eoz494)
                                            obtain ⟨ad494, e494, hx494_0⟩ := Kd.at_int (Kd.R_reads' HO_14.out).2.2 x20_5 p494 q494; cases e494; replace p494 := eq_true p494; replace q494 := eq_true q494; obtain ⟨Ao142, co142, eo142⟩ := Kd.R_slice HO_16.out; subst eo142; have p495 : 0 ≤ (x20_5 : Int) := dT; have q495 : x20_5 < (t481.length : Int) := dT
                                            try (obtain ⟨Aoz495, coz495, eoz495⟩ := Kd.R_slice HO_16.out; subst eoz495)
                                            obtain ⟨ad495, e495, hx495_0⟩ := Kd.at_int (Kd.R_reads' HO_16.out).2.2 x20_5 p495 q495; cases e495; replace p495 := eq_true p495; replace q495 := eq_true q495; have p496 : 0 ≤ (x20_5 : Int) := dT; have q496 : x20_5 < (t467.length : Int) := dT
                                            try (obtain ⟨Aoz496, coz496, eoz496⟩ := Kd.R_slice HO_12.out; subst eoz496)
                                            obtain ⟨ad496, e496, hx496_0⟩ := Kd.at_int (Kd.R_reads' HO_12.out).2.2 x20_5 p496 q496; obtain rfl : ad493 = ad496 := (by injection e496); replace p496 := eq_true p496; replace q496 := eq_true q496; have p503 : 0 ≤ (x20_5 : Int) := dT; have q503 : x20_5 < (t467.length : Int) := dT
                                            try (obtain ⟨Aoz503, coz503, eoz503⟩ := Kd.R_slice HO_12.out; subst eoz503)
                                            obtain ⟨ad503, e503, hx503_0⟩ := Kd.at_int (Kd.R_reads' HO_12.out).2.2 x20_5 p503 q503; obtain rfl : ad493 = ad503 := (by injection e503); replace p503 := eq_true p503; replace q503 := eq_true q503; have p504 : 0 ≤ (x20_5 : Int) := dT; have q504 : x20_5 < (t474.length : Int) := dT
                                            try (obtain ⟨Aoz504, coz504, eoz504⟩ := Kd.R_slice HO_14.out; subst eoz504)
                                            obtain ⟨ad504, e504, hx504_0⟩ := Kd.at_int (Kd.R_reads' HO_14.out).2.2 x20_5 p504 q504; obtain rfl : ad494 = ad504 := (by injection e504); replace p504 := eq_true p504; replace q504 := eq_true q504; have p505 : 0 ≤ (x20_5 : Int) := dT; have q505 : x20_5 < (t481.length : Int) := dT
                                            try (obtain ⟨Aoz505, coz505, eoz505⟩ := Kd.R_slice HO_16.out; subst eoz505)
                                            obtain ⟨ad505, e505, hx505_0⟩ := Kd.at_int (Kd.R_reads' HO_16.out).2.2 x20_5 p505 q505; obtain rfl : ad495 = ad505 := (by injection e505); replace p505 := eq_true p505; replace q505 := eq_true q505; have p506 : 0 ≤ (x20_5 : Int) := dT; have q506 : x20_5 < (t481.length : Int) := dT
                                            try (obtain ⟨Aoz506, coz506, eoz506⟩ := Kd.R_slice HO_16.out; subst eoz506)
                                            obtain ⟨ad506, e506, hx506_0⟩ := Kd.at_int (Kd.R_reads' HO_16.out).2.2 x20_5 p506 q506; obtain rfl : ad495 = ad506 := (by injection e506); replace p506 := eq_true p506; replace q506 := eq_true q506
                                            go_wp2
                                            (first | (refine wp_region_quiet_lit (by kernel_rfl) (by exact l40_BindingTerms.lex23) ?_; (repeat (go_big_quiet_step (fail))); refine wpQuiet_nil ?_) | (refine wp_region_quiet_lit (by kernel_rfl) (by exact l40_BindingTerms.lex23) ?_; (repeat (quiet_step (fail))); refine wpQuiet_nil ?_)); intro _ hw'; obtain ⟨nq, hw''⟩ := hw'; subst hw''; (try go_wp2)
                                            go_roundg k5
                                            case measure => have := HJ5.out; have := HJ38.out; have := HK3.out; have := HJ53.out; have := HK5.out; omega
                                            case rel => exact ⟨(wrap64 (x20_5 + 1)), eT, H', ⟨by have := HJ5.out; have := HJ38.out; have := HK3.out; have := HJ53.out; have := HK5.out; omega⟩, ⟨oR HO_12.out⟩, ⟨oR HO_14.out⟩, ⟨oR HO_16.out⟩, ⟨oR HO_18.out⟩, ⟨kB BK450.out⟩, ⟨kB BK459.out⟩, ⟨bB2 HB.out GE450.out GE459.out⟩⟩
                                          ·rw [if_neg c138] at H
                                           exact absurd H (by simp)
                                        ·rw [if_neg c132] at H
                                         have c132b0 : ((rd t474 x20_5) == 0) = false := beq_eq_false_iff_ne.mpr c132; have c132b1 : ((rd t474 x20_5) != 0) = true := bne_iff_ne.mpr c132
                                         by_cases c143 : (rd t474 x20_5) = a2
                                         ·rw [if_pos c143] at H
                                          have c143b0 : ((rd t474 x20_5) == a2) = true := beq_iff_eq.mpr c143
                                          have d143 : (x20_5 == (Int.tmod (wrap64 (x10_3 + 1)) ((((rd_T51 l0 ((rd_T48 l1_1 0).f1)).f1).length : Int)))) = true := by have h_ := c105b0; rw [c143b0] at h_; simpa using h_
                                          clear c105b0; (try clear c105b1); (try clear c105b2); have c143b1 : ((rd t474 x20_5) != a2) = false := bne_eq_false_iff_eq.mpr c143; clear c143
                                          by_cases c144 : (rd t481 x20_5) = 0
                                          ·rw [if_pos c144] at H
                                           have c144b0 : ((rd t481 x20_5) == 0) = true := beq_iff_eq.mpr c144; have c144b1 : ((rd t481 x20_5) != 0) = false := bne_eq_false_iff_eq.mpr c144; clear c144
                                           as_aux_lemma =>
                                            have H' := aM H
                                            clear H; obtain ⟨Ao145, co145, eo145⟩ := Kd.R_slice HO_18.out; subst eo145; have p492 : 0 ≤ (x20_5 : Int) := dT; have q492 : x20_5 < (t488.length : Int) := dT
                                            try (obtain ⟨Aoz492, coz492, eoz492⟩ := Kd.R_slice HO_18.out; subst eoz492)
                                            obtain ⟨ad492, e492, hx492_0⟩ := Kd.at_int (Kd.R_reads' HO_18.out).2.2 x20_5 p492 q492; cases e492; replace p492 := eq_true p492; replace q492 := eq_true q492; obtain ⟨Ao146, co146, eo146⟩ := Kd.R_slice HO_12.out; subst eo146; have p493 : 0 ≤ (x20_5 : Int) := dT; have q493 : x20_5 < (t467.length : Int) := dT
                                            try (obtain ⟨Aoz493, coz493, eoz493⟩ := Kd.R_slice HO_12.out; subst eoz493)
                                            obtain ⟨ad493, e493, hx493_0⟩ := Kd.at_int (Kd.R_reads' HO_12.out).2.2 x20_5 p493 q493; cases e493; replace p493 := eq_true p493; replace q493 := eq_true q493; obtain ⟨Ao147, co147, eo147⟩ := Kd.R_slice HO_14.out; subst eo147; have p494 : 0 ≤ (x20_5 : Int) := dT; have q494 : x20_5 < (t474.length : Int) := dT
                                            try (obtain ⟨Aoz494, coz494, eoz494⟩ := Kd.R_slice HO_14.out; subst eoz494)
                                            obtain ⟨ad494, e494, hx494_0⟩ := Kd.at_int (Kd.R_reads' HO_14.out).2.2 x20_5 p494 q494; cases e494; replace p494 := eq_true p494; replace q494 := eq_true q494; obtain ⟨Ao148, co148, eo148⟩ := Kd.R_slice HO_16.out; subst eo148; have p495 : 0 ≤ (x20_5 : Int) := dT; have q495 : x20_5 < (t481.length : Int) := dT
                                            try (obtain ⟨Aoz495, coz495, eoz495⟩ := Kd.R_slice HO_16.out; subst eoz495)
                                            obtain ⟨ad495, e495, hx495_0⟩ := Kd.at_int (Kd.R_reads' HO_16.out).2.2 x20_5 p495 q495; cases e495; replace p495 := eq_true p495; replace q495 := eq_true q495; have p496 : 0 ≤ (x20_5 : Int) := dT; have q496 : x20_5 < (t467.length : Int) := dT
                                            try (obtain ⟨Aoz496, coz496, eoz496⟩ := Kd.R_slice HO_12.out; subst eoz496)
                                            obtain ⟨ad496, e496, hx496_0⟩ := Kd.at_int (Kd.R_reads' HO_12.out).2.2 x20_5 p496 q496; obtain rfl : ad493 = ad496 := (by injection e496); replace p496 := eq_true p496; replace q496 := eq_true q496; have p503 : 0 ≤ (x20_5 : Int) := dT; have q503 : x20_5 < (t467.length : Int) := dT
                                            try (obtain ⟨Aoz503, coz503, eoz503⟩ := Kd.R_slice HO_12.out; subst eoz503)
                                            obtain ⟨ad503, e503, hx503_0⟩ := Kd.at_int (Kd.R_reads' HO_12.out).2.2 x20_5 p503 q503; obtain rfl : ad493 = ad503 := (by injection e503); replace p503 := eq_true p503; replace q503 := eq_true q503; have p504 : 0 ≤ (x20_5 : Int) := dT; have q504 : x20_5 < (t474.length : Int) := dT
                                            try (obtain ⟨Aoz504, coz504, eoz504⟩ := Kd.R_slice HO_14.out; subst eoz504)
                                            obtain ⟨ad504, e504, hx504_0⟩ := Kd.at_int (Kd.R_reads' HO_14.out).2.2 x20_5 p504 q504; obtain rfl : ad494 = ad504 := (by injection e504); replace p504 := eq_true p504; replace q504 := eq_true q504; have p507 : 0 ≤ (x20_5 : Int) := dT; have q507 : x20_5 < (t474.length : Int) := dT
                                            try (obtain ⟨Aoz507, coz507, eoz507⟩ := Kd.R_slice HO_14.out; subst eoz507)
                                            obtain ⟨ad507, e507, hx507_0⟩ := Kd.at_int (Kd.R_reads' HO_14.out).2.2 x20_5 p507 q507; obtain rfl : ad494 = ad507 := (by injection e507); replace p507 := eq_true p507; replace q507 := eq_true q507; have p508 : 0 ≤ (x20_5 : Int) := dT; have q508 : x20_5 < (t481.length : Int) := dT
                                            try (obtain ⟨Aoz508, coz508, eoz508⟩ := Kd.R_slice HO_16.out; subst eoz508)
                                            obtain ⟨ad508, e508, hx508_0⟩ := Kd.at_int (Kd.R_reads' HO_16.out).2.2 x20_5 p508 q508; obtain rfl : ad495 = ad508 := (by injection e508); replace p508 := eq_true p508; replace q508 := eq_true q508
                                            go_wp2
                                            (first | (refine wp_region_quiet_lit (by kernel_rfl) (by exact l40_BindingTerms.lex23) ?_; (repeat (go_big_quiet_step (fail))); refine wpQuiet_nil ?_) | (refine wp_region_quiet_lit (by kernel_rfl) (by exact l40_BindingTerms.lex23) ?_; (repeat (quiet_step (fail))); refine wpQuiet_nil ?_)); intro _ hw'; obtain ⟨nq, hw''⟩ := hw'; subst hw''; (try go_wp2)
                                            go_roundg k5
                                            case measure => have := HJ5.out; have := HJ38.out; have := HK3.out; have := HJ53.out; have := HK5.out; omega
                                            case rel => exact ⟨(wrap64 (x20_5 + 1)), eT, H', ⟨by have := HJ5.out; have := HJ38.out; have := HK3.out; have := HJ53.out; have := HK5.out; omega⟩, ⟨oR HO_12.out⟩, ⟨oR HO_14.out⟩, ⟨oR HO_16.out⟩, ⟨oR HO_18.out⟩, ⟨kB BK450.out⟩, ⟨kB BK459.out⟩, ⟨bB2 HB.out GE450.out GE459.out⟩⟩
                                          ·rw [if_neg c144] at H
                                           have c144b0 : ((rd t481 x20_5) == 0) = false := beq_eq_false_iff_ne.mpr c144; have c144b1 : ((rd t481 x20_5) != 0) = true := bne_iff_ne.mpr c144
                                           by_cases c149 : (rd t481 x20_5) = a2
                                           ·rw [if_pos c149] at H
                                            have c149b0 : ((rd t481 x20_5) == a2) = true := beq_iff_eq.mpr c149
                                            have d149 : (x10_3 == (Int.tmod (wrap64 (x20_5 + 1)) ((((rd_T51 l0 ((rd_T48 l1_1 0).f1)).f1).length : Int)))) = true := by have h_ := c107b0; rw [c149b0] at h_; simpa using h_
                                            clear c107b0; (try clear c107b1); (try clear c107b2); have c149b1 : ((rd t481 x20_5) != a2) = false := bne_eq_false_iff_eq.mpr c149; clear c149
                                            as_aux_lemma =>
                                             have H' := aM H
                                             clear H; obtain ⟨Ao150, co150, eo150⟩ := Kd.R_slice HO_18.out; subst eo150; have p492 : 0 ≤ (x20_5 : Int) := dT; have q492 : x20_5 < (t488.length : Int) := dT
                                             try (obtain ⟨Aoz492, coz492, eoz492⟩ := Kd.R_slice HO_18.out; subst eoz492)
                                             obtain ⟨ad492, e492, hx492_0⟩ := Kd.at_int (Kd.R_reads' HO_18.out).2.2 x20_5 p492 q492; cases e492; replace p492 := eq_true p492; replace q492 := eq_true q492; obtain ⟨Ao151, co151, eo151⟩ := Kd.R_slice HO_12.out; subst eo151; have p493 : 0 ≤ (x20_5 : Int) := dT; have q493 : x20_5 < (t467.length : Int) := dT
                                             try (obtain ⟨Aoz493, coz493, eoz493⟩ := Kd.R_slice HO_12.out; subst eoz493)
                                             obtain ⟨ad493, e493, hx493_0⟩ := Kd.at_int (Kd.R_reads' HO_12.out).2.2 x20_5 p493 q493; cases e493; replace p493 := eq_true p493; replace q493 := eq_true q493; obtain ⟨Ao152, co152, eo152⟩ := Kd.R_slice HO_14.out; subst eo152; have p494 : 0 ≤ (x20_5 : Int) := dT; have q494 : x20_5 < (t474.length : Int) := dT
                                             try (obtain ⟨Aoz494, coz494, eoz494⟩ := Kd.R_slice HO_14.out; subst eoz494)
                                             obtain ⟨ad494, e494, hx494_0⟩ := Kd.at_int (Kd.R_reads' HO_14.out).2.2 x20_5 p494 q494; cases e494; replace p494 := eq_true p494; replace q494 := eq_true q494; obtain ⟨Ao153, co153, eo153⟩ := Kd.R_slice HO_16.out; subst eo153; have p495 : 0 ≤ (x20_5 : Int) := dT; have q495 : x20_5 < (t481.length : Int) := dT
                                             try (obtain ⟨Aoz495, coz495, eoz495⟩ := Kd.R_slice HO_16.out; subst eoz495)
                                             obtain ⟨ad495, e495, hx495_0⟩ := Kd.at_int (Kd.R_reads' HO_16.out).2.2 x20_5 p495 q495; cases e495; replace p495 := eq_true p495; replace q495 := eq_true q495; have p496 : 0 ≤ (x20_5 : Int) := dT; have q496 : x20_5 < (t467.length : Int) := dT
                                             try (obtain ⟨Aoz496, coz496, eoz496⟩ := Kd.R_slice HO_12.out; subst eoz496)
                                             obtain ⟨ad496, e496, hx496_0⟩ := Kd.at_int (Kd.R_reads' HO_12.out).2.2 x20_5 p496 q496; obtain rfl : ad493 = ad496 := (by injection e496); replace p496 := eq_true p496; replace q496 := eq_true q496; have p503 : 0 ≤ (x20_5 : Int) := dT; have q503 : x20_5 < (t467.length : Int) := dT
                                             try (obtain ⟨Aoz503, coz503, eoz503⟩ := Kd.R_slice HO_12.out; subst eoz503)
                                             obtain ⟨ad503, e503, hx503_0⟩ := Kd.at_int (Kd.R_reads' HO_12.out).2.2 x20_5 p503 q503; obtain rfl : ad493 = ad503 := (by injection e503); replace p503 := eq_true p503; replace q503 := eq_true q503; have p504 : 0 ≤ (x20_5 : Int) := dT; have q504 : x20_5 < (t474.length : Int) := dT
                                             try (obtain ⟨Aoz504, coz504, eoz504⟩ := Kd.R_slice HO_14.out; subst eoz504)
                                             obtain ⟨ad504, e504, hx504_0⟩ := Kd.at_int (Kd.R_reads' HO_14.out).2.2 x20_5 p504 q504; obtain rfl : ad494 = ad504 := (by injection e504); replace p504 := eq_true p504; replace q504 := eq_true q504; have p507 : 0 ≤ (x20_5 : Int) := dT; have q507 : x20_5 < (t474.length : Int) := dT
                                             try (obtain ⟨Aoz507, coz507, eoz507⟩ := Kd.R_slice HO_14.out; subst eoz507)
                                             obtain ⟨ad507, e507, hx507_0⟩ := Kd.at_int (Kd.R_reads' HO_14.out).2.2 x20_5 p507 q507; obtain rfl : ad494 = ad507 := (by injection e507); replace p507 := eq_true p507; replace q507 := eq_true q507; have p508 : 0 ≤ (x20_5 : Int) := dT; have q508 : x20_5 < (t481.length : Int) := dT
                                             try (obtain ⟨Aoz508, coz508, eoz508⟩ := Kd.R_slice HO_16.out; subst eoz508)
                                             obtain ⟨ad508, e508, hx508_0⟩ := Kd.at_int (Kd.R_reads' HO_16.out).2.2 x20_5 p508 q508; obtain rfl : ad495 = ad508 := (by injection e508); replace p508 := eq_true p508; replace q508 := eq_true q508; have p509 : 0 ≤ (x20_5 : Int) := dT; have q509 : x20_5 < (t481.length : Int) := dT
                                             try (obtain ⟨Aoz509, coz509, eoz509⟩ := Kd.R_slice HO_16.out; subst eoz509)
                                             obtain ⟨ad509, e509, hx509_0⟩ := Kd.at_int (Kd.R_reads' HO_16.out).2.2 x20_5 p509 q509; obtain rfl : ad495 = ad509 := (by injection e509); replace p509 := eq_true p509; replace q509 := eq_true q509
                                             go_wp2
                                             (first | (refine wp_region_quiet_lit (by kernel_rfl) (by exact l40_BindingTerms.lex23) ?_; (repeat (go_big_quiet_step (fail))); refine wpQuiet_nil ?_) | (refine wp_region_quiet_lit (by kernel_rfl) (by exact l40_BindingTerms.lex23) ?_; (repeat (quiet_step (fail))); refine wpQuiet_nil ?_)); intro _ hw'; obtain ⟨nq, hw''⟩ := hw'; subst hw''; (try go_wp2)
                                             go_roundg k5
                                             case measure => have := HJ5.out; have := HJ38.out; have := HK3.out; have := HJ53.out; have := HK5.out; omega
                                             case rel => exact ⟨(wrap64 (x20_5 + 1)), eT, H', ⟨by have := HJ5.out; have := HJ38.out; have := HK3.out; have := HJ53.out; have := HK5.out; omega⟩, ⟨oR HO_12.out⟩, ⟨oR HO_14.out⟩, ⟨oR HO_16.out⟩, ⟨oR HO_18.out⟩, ⟨kB BK450.out⟩, ⟨kB BK459.out⟩, ⟨bB2 HB.out GE450.out GE459.out⟩⟩
                                           ·rw [if_neg c149] at H
                                            exact absurd H (by simp)
                                         ·rw [if_neg c143] at H
                                          exact absurd H (by simp)
                                       ·rw [if_neg c131] at H
                                        exact absurd H (by simp)
                                    ·rw [if_neg c106] at H
                                     exact absurd H (by simp)
                                 ·rw [if_neg c103] at H
                                  exact absurd H (by simp)
                               ·rw [if_neg c101] at H
                                exact absurd H (by simp)
                              ·rw [if_neg c100] at H
                               exact absurd H (by simp)
                             ·rw [if_neg c99] at H
                              exact absurd H (by simp)
                            ·rw [if_neg c98] at H
                             exact absurd H (by simp)
                           ·rw [if_neg c97] at H
                            have c97b0 : decide (x20_5 < (((rd_T51 l0 ((rd_T48 l1_1 0).f1)).f1).length : Int)) = false := decide_eq_false c97; clear c97
                            as_aux_lemma =>
                             have H' := aM H
                             clear H
                             go_wp2
                             repeat (go_quiet (fail); try go_wp2)
                             go_roundg k5
                             case measure => have := HJ5.out; have := HJ38.out; have := HK3.out; have := HJ53.out; have := HK5.out; omega
                             case rel => exact ⟨(wrap64 (x10_3 + 1)), eT, H', ⟨by have := HJ5.out; have := HJ38.out; have := HK3.out; have := HJ53.out; have := HK5.out; omega⟩, ⟨kB BK450.out⟩, ⟨kB BK459.out⟩, ⟨bB2 HB.out GE450.out GE459.out⟩⟩
                  ·rw [if_neg c49] at H
                   have c49b0 : decide (x10_3 < (((rd_T51 l0 ((rd_T48 l1_1 0).f1)).f1).length : Int)) = false := decide_eq_false c49; clear c49
                   obtain rfl := Option.some.inj H
                   go_wp2
                   repeat (go_quiet (fail); try go_wp2)
                   go_ret
                   exact ⟨rT, bB2 HB.out GE450.out GE459.out⟩
             ·rw [if_neg c48] at H
              exact absurd H (by simp)
            ·rw [if_neg c47] at H
             exact absurd H (by simp)
       ·rw [if_neg c38] at H
        exact absurd H (by simp)
      ·rw [if_neg c37] at H
       exact absurd H (by simp)
 ·replace c5 := Bool.eq_false_iff.mpr c5
  subst c5
  have H1 : (none) = some r := by rw [if_neg (show ¬ (false = true) by decide)] at H; exact H
  clear H; have H := H1; clear H1
  exact absurd H (by simp)


end Go.Proofs.Ytapkjfnfkalibaa.Pr
