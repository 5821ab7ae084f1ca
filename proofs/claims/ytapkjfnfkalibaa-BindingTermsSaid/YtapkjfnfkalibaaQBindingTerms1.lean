/- Functions that the statement reaches: what each answers, and that the program answers it (written by a program of this work). -/
import Derived.Test.YtapkjfnfkalibaaProg
import Derived.Below
import Derived.Deep.Draws
import Derived.Deep.AppendLies
import Derived.Maps.AppendAt
import Derived.OwnWalk
import Derived.Laws.BytesArg
import Derived.Laws.MakeOwn
import Derived.Laws.OwnMore
import Derived.Deep.OwnRows
import Derived.Tactics
import Derived.Lib.ConvBytes
import Derived.Laws.Slices
import Derived.WalkKit
import Derived.KernelRfl
import Derived.RowKit3
import Derived.Deep.LoopGhost
import Derived.Deep.QuietTactic
import Derived.BigQuiet
import Derived.WideLaws
import Derived.Deep.DeepCutAuto
import Derived.Deep.CutBlock
import Derived.Deep.RegionHeld3
import Derived.Laws.Rows
import Derived.Lib.AppendStr
import Derived.ArgAppend
import Derived.Laws.IdiomCopy
import Derived.OrdersHeld
import Derived.Laws.BitsLemmas
import Derived.RowKit
import Derived.WalkMore
import Derived.Test.YtapkjfnfkalibaaVBindingTerms
import Derived.Test.YtapkjfnfkalibaaBBindingTerms
import Derived.Shelf.Strings.OnBuilder
import Derived.Sort.QuietIn
import Derived.Sort.LoopGhostIn
import Derived.Shelf.RegionOpen
import Derived.Test.YtapkjfnfkalibaaQBindingTerms0
namespace Go.Proofs.Ytapkjfnfkalibaa.Pr
open Go.RowKit Go.Proofs.YtapkjfnfkalibaaW.PrintWords Go.Proofs.YtapkjfnfkalibaaW.PrintLast Go.Proofs.YtapkjfnfkalibaaW.PrintMore
attribute [local go_sem] Instr.field asAgg
attribute [local go_sem] max2_int min2_int max_two min_two max_three min_three max_four min_four   -- for this text's walks alone
set_option linter.unusedVariables false
set_option linter.unusedSimpArgs false
/-! ### binding_Eval: function 15 -/
mutual
def binding_Eval.l0 : Nat → List (S51) → Int → List Int → List Int → List (S54) → Int → Int → Option (List Int × Int)
 | 0, _, _, _, _, _, _, _ => none
 | k + 1, x0, x2, x4, x13, x38, x39, x40 => if x40 < x39 then (if 0 ≤ x40 then (if x40 < (x38.length : Int) then (if ((rd_T54 x38 x40).f1) = 5 then (binding_Eval.l1 k x0 x2 x4 x13 x38 x39 x40 (x13.length : Int) 0 ((rd_T54 x38 x40).f0) ((rd_T54 x38 x40).f1) ((rd_T54 x38 x40).f2)) else (if ((rd_T54 x38 x40).f1) = 1 then (if 0 ≤ ((rd_T54 x38 x40).f2) then (if ((rd_T54 x38 x40).f2) < (x13.length : Int) then (binding_Eval.l0 k x0 x2 x4 (x13.set (((rd_T54 x38 x40).f2) : Int).toNat (wrap64 ((rd x13 ((rd_T54 x38 x40).f2)) + ((rd_T54 x38 x40).f0)))) x38 x39 (wrap64 (x40 + 1))) else (none)) else (none)) else (if ((rd_T54 x38 x40).f1) = 3 then (if 0 ≤ x2 then (if x2 < (x0.length : Int) then (if 0 ≤ ((rd_T54 x38 x40).f2) then (if ((rd_T54 x38 x40).f2) < (x4.length : Int) then ((colorset_Shift.f ((rd_T51 x0 x2).f0) ((rd_T51 x0 x2).f1) (rd x4 ((rd_T54 x38 x40).f2)) (2 - 1)).bind fun t139 => (if 0 ≤ t139 then (if t139 < (x13.length : Int) then (binding_Eval.l0 k x0 x2 x4 (x13.set (t139 : Int).toNat (wrap64 ((rd x13 t139) + ((rd_T54 x38 x40).f0)))) x38 x39 (wrap64 (x40 + 1))) else (none)) else (none))) else (none)) else (none)) else (none)) else (none)) else (if ((rd_T54 x38 x40).f1) = 4 then (if 0 ≤ x2 then (if x2 < (x0.length : Int) then (if 0 ≤ ((rd_T54 x38 x40).f2) then (if ((rd_T54 x38 x40).f2) < (x4.length : Int) then ((colorset_Shift.f ((rd_T51 x0 x2).f0) ((rd_T51 x0 x2).f1) (rd x4 ((rd_T54 x38 x40).f2)) (-1)).bind fun t144 => (if 0 ≤ t144 then (if t144 < (x13.length : Int) then (binding_Eval.l0 k x0 x2 x4 (x13.set (t144 : Int).toNat (wrap64 ((rd x13 t144) + ((rd_T54 x38 x40).f0)))) x38 x39 (wrap64 (x40 + 1))) else (none)) else (none))) else (none)) else (none)) else (none)) else (none)) else (if 0 ≤ x2 then (if x2 < (x0.length : Int) then (if 0 ≤ ((rd_T54 x38 x40).f2) then (if ((rd_T54 x38 x40).f2) < (x4.length : Int) then ((colorset_Shift.f ((rd_T51 x0 x2).f0) ((rd_T51 x0 x2).f1) (rd x4 ((rd_T54 x38 x40).f2)) 0).bind fun t149 => (if 0 ≤ t149 then (if t149 < (x13.length : Int) then (binding_Eval.l0 k x0 x2 x4 (x13.set (t149 : Int).toNat (wrap64 ((rd x13 t149) + ((rd_T54 x38 x40).f0)))) x38 x39 (wrap64 (x40 + 1))) else (none)) else (none))) else (none)) else (none)) else (none)) else (none)))))) else (none)) else (none)) else ((slices_Max_int_int.f x13).bind fun t132 => (if t132 > 1048576 then (some (([] : List Int), 3)) else (some (x13, 0))))
def binding_Eval.l1 : Nat → List (S51) → Int → List Int → List Int → List (S54) → Int → Int → Int → Int → Int → Int → Int → Option (List Int × Int)
 | 0, _, _, _, _, _, _, _, _, _, _, _, _ => none
 | k + 1, x0, x2, x4, x13, x38, x39, x40, x55, x56, x135000, x135001, x135002 => if x56 < x55 then (if 0 ≤ x56 then (if x56 < (x13.length : Int) then (binding_Eval.l1 k x0 x2 x4 (x13.set (x56 : Int).toNat (wrap64 ((rd x13 x56) + x135000))) x38 x39 x40 x55 (wrap64 (x56 + 1)) x135000 x135001 x135002) else (none)) else (none)) else (binding_Eval.l0 k x0 x2 x4 x13 x38 x39 (wrap64 (x40 + 1)))
end
def binding_Eval.f (k : Nat) (l0 : List (S51)) (a1_0 : ByteArray) (l1_1 : List (S48)) (l1_2 : List (S62)) (l1_3 : List (S111)) (l1_4 : List (S111)) (a2 : Int) (l3 : List (S54)) (l4 : List Int) : Option (List Int × Int) := (binding_CheckTerms.f k l0 a1_0 l1_1 l1_2 l1_3 l1_4 a2 l3).bind fun t126 => (if t126 = 0 then ((binding_is.f k l0 a1_0 l1_1 l1_2 l1_3 l1_4 l4).bind fun t127 => (if t127 = true then (if 0 ≤ a2 then (if a2 < (l0.length : Int) then (if 0 ≤ (((rd_T51 l0 a2).f1).length : Int) then (if ((((rd_T51 l0 a2).f1).length : Int) : Int).toNat ≤ 35184372088832 then (binding_Eval.l0 k l0 a2 l4 (List.replicate ((((rd_T51 l0 a2).f1).length : Int) : Int).toNat 0) l3 (l3.length : Int) 0) else (none)) else (none)) else (none)) else (none)) else (some (([] : List Int), 15)))) else (some (([] : List Int), t126)))
theorem binding_Eval.mono_l : ∀ k, (∀ y0 y1 y2 y3 y4 y5 y6, LeO (binding_Eval.l0 k y0 y1 y2 y3 y4 y5 y6) (binding_Eval.l0 (k + 1) y0 y1 y2 y3 y4 y5 y6)) ∧ (∀ y0 y1 y2 y3 y4 y5 y6 y7 y8 y9 y10 y11, LeO (binding_Eval.l1 k y0 y1 y2 y3 y4 y5 y6 y7 y8 y9 y10 y11) (binding_Eval.l1 (k + 1) y0 y1 y2 y3 y4 y5 y6 y7 y8 y9 y10 y11))
 | 0 => ⟨fun _ _ _ _ _ _ _ r h => by simp [binding_Eval.l0] at h, fun _ _ _ _ _ _ _ _ _ _ _ _ r h => by simp [binding_Eval.l1] at h⟩
 | k + 1 => by
  obtain ⟨ih0, ih1⟩ := binding_Eval.mono_l k
  refine ⟨?_, ?_⟩
  ·intro y0 y1 y2 y3 y4 y5 y6
   unfold binding_Eval.l0
   repeat' first
   | (with_reducible first | exact ih0 _ _ _ _ _ _ _ | exact ih1 _ _ _ _ _ _ _ _ _ _ _ _ | exact binding_CheckTerms.mono _ _ _ _ _ _ _ _ _ | exact binding_is.mono _ _ _ _ _ _ _ _ | exact LeO.refl _ | exact LeO.none _ | refine LeO.ite ?_ ?_ | refine LeO.bind ?_ (fun _ => ?_))
   | exact LeO.none _
   | refine LeO.ite ?_ ?_
   | refine LeO.bind ?_ (fun _ => ?_)
  ·intro y0 y1 y2 y3 y4 y5 y6 y7 y8 y9 y10 y11
   unfold binding_Eval.l1
   repeat' first
   | (with_reducible first | exact ih0 _ _ _ _ _ _ _ | exact ih1 _ _ _ _ _ _ _ _ _ _ _ _ | exact binding_CheckTerms.mono _ _ _ _ _ _ _ _ _ | exact binding_is.mono _ _ _ _ _ _ _ _ | exact LeO.refl _ | exact LeO.none _ | refine LeO.ite ?_ ?_ | refine LeO.bind ?_ (fun _ => ?_))
   | exact LeO.none _
   | refine LeO.ite ?_ ?_
   | refine LeO.bind ?_ (fun _ => ?_)
theorem binding_Eval.mono : ∀ a0 a1 a2 a3 a4 a5 a6 a7 a8 k, LeO (binding_Eval.f k a0 a1 a2 a3 a4 a5 a6 a7 a8) (binding_Eval.f (k + 1) a0 a1 a2 a3 a4 a5 a6 a7 a8) := by
 intro a0 a1 a2 a3 a4 a5 a6 a7 a8 k
 obtain ⟨ih0, ih1⟩ := binding_Eval.mono_l k
 unfold binding_Eval.f
 repeat' first
   | (with_reducible first | exact ih0 _ _ _ _ _ _ _ | exact ih1 _ _ _ _ _ _ _ _ _ _ _ _ | exact binding_CheckTerms.mono _ _ _ _ _ _ _ _ _ | exact binding_is.mono _ _ _ _ _ _ _ _ | exact LeO.refl _ | exact LeO.none _ | refine LeO.ite ?_ ?_ | refine LeO.bind ?_ (fun _ => ?_))
   | exact LeO.none _
   | refine LeO.ite ?_ ?_
   | refine LeO.bind ?_ (fun _ => ?_)
def binding_Eval.T19 : Bool × List (List Nat × List Nat) := (true, [([], []), ([], []), ([0, 1], [0, 1]), ([2], [2]), ([], []), ([4], [4]), ([3, 5], [3, 5]), ([0, 1, 0, 1, 2, 3, 4, 5, 6], [0, 1]), ([7, 6, 0, 1, 2, 3, 4, 5, 6], [6, 7])])
def binding_Eval.B19 : List Nat := [0, 0, 3, 7, 0, 16, 63, 127, 255]
theorem binding_Eval.tab19 : rtab .any (opsOf Try.f15 19) = binding_Eval.T19 := by kernel_rfl
theorem binding_Eval.bits19 : waitsOk binding_Eval.T19.2 binding_Eval.B19 = true := by kernel_rfl
def binding_Eval.T21 : Bool × List (List Nat × List Nat) := (true, [([], []), ([], []), ([1], [1]), ([0, 2], [0, 2]), ([3], [3]), ([], []), ([5], [5]), ([4, 6], [4, 6]), ([0, 2, 0, 1, 2, 3, 4, 5, 6, 7], [0, 2]), ([8, 7, 0, 1, 2, 3, 4, 5, 6, 7], [7, 8])])
def binding_Eval.B21 : List Nat := [0, 0, 2, 7, 15, 0, 32, 127, 255, 511]
theorem binding_Eval.tab21 : rtab .any (opsOf Try.f15 21) = binding_Eval.T21 := by kernel_rfl
theorem binding_Eval.bits21 : waitsOk binding_Eval.T21.2 binding_Eval.B21 = true := by kernel_rfl
def binding_Eval.T24 : Bool × List (List Nat × List Nat) := (true, [([], []), ([], []), ([], []), ([1, 2], [1, 2]), ([3], [3]), ([], []), ([], []), ([6], [6]), ([5, 7], [5, 7]), ([8], [8]), ([], []), ([4, 9, 10], [4, 9, 10]), ([0, 11], [0, 11]), ([12], [12]), ([], []), ([14], [14]), ([13, 15], [13, 15]), ([0, 11, 0, 1, 2, 3, 4, 5, 6, 7, 8, 9, 10, 11, 12, 13, 14, 15, 16], [0, 11]), ([17, 16, 11, 0, 1, 2, 3, 4, 5, 6, 7, 8, 9, 10, 11, 12, 13, 14, 15, 16], [16, 17])])
def binding_Eval.B24 : List Nat := [0, 0, 0, 6, 14, 0, 0, 64, 224, 480, 0, 2046, 4095, 8191, 0, 16384, 65535, 131071, 262143]
theorem binding_Eval.tab24 : rtab .any (opsOf Try.f15 24) = binding_Eval.T24 := by kernel_rfl
theorem binding_Eval.bits24 : waitsOk binding_Eval.T24.2 binding_Eval.B24 = true := by kernel_rfl
set_option maxHeartbeats 8000000 in
set_option maxRecDepth 100000 in
theorem binding_Eval.calls (k : Nat) (A0 : Option Addr) (c0 : Nat) (l0 : List (S51)) (a1_0 : ByteArray) (A1_1 : Option Addr) (c1_1 : Nat) (l1_1 : List (S48)) (A1_2 : Option Addr) (c1_2 : Nat) (l1_2 : List (S62)) (A1_3 : Option Addr) (c1_3 : Nat) (l1_3 : List (S111)) (A1_4 : Option Addr) (c1_4 : Nat) (l1_4 : List (S111)) (a2 : Int) (A3 : Option Addr) (c3 : Nat) (l3 : List (S54)) (A4 : Option Addr) (c4 : Nat) (l4 : List Int) (r1 : List Int) (r2 : Int) (w : World) (hr0 : Kd.C k51 w A0 l0.length l0) (hc0 : l0.length ≤ c0) (hr1_1 : Kd.C k48 w A1_1 l1_1.length l1_1) (hc1_1 : l1_1.length ≤ c1_1) (hr1_2 : Kd.C k62 w A1_2 l1_2.length l1_2) (hc1_2 : l1_2.length ≤ c1_2) (hr1_3 : Kd.C k111 w A1_3 l1_3.length l1_3) (hc1_3 : l1_3.length ≤ c1_3) (hr1_4 : Kd.C k111 w A1_4 l1_4.length l1_4) (hc1_4 : l1_4.length ≤ c1_4) (hr3 : Kd.C k54 w A3 l3.length l3) (hc3 : l3.length ≤ c3) (hr4 : Kd.C (Kd.int .i64) w A4 l4.length l4) (hc4 : l4.length ≤ c4) (h : binding_Eval.f k l0 a1_0 l1_1 l1_2 l1_3 l1_4 a2 l3 l4 = some (r1, r2)) :
  Calls Try.prog 15 #[.slice A0 l0.length c0, .agg #[.string a1_0, .slice A1_1 l1_1.length c1_1, .slice A1_2 l1_2.length c1_2, .slice A1_3 l1_3.length c1_3, .slice A1_4 l1_4.length c1_4], .int .i64 a2, .slice A3 l3.length c3, .slice A4 l4.length c4] w fun e w' => ∃ v0_ : Value, e = .returned (.tuple #[v0_, .int .i64 r2]) ∧ Kd.R (Kd.int .i64) 3 w' w.heap.size (fun _ => True) v0_ r1 ∧ Below w.heap.size w w' := by
 have hu27 := Try.underlying27; have hu9 := Try.underlying9; have hu23 := Try.underlying23; have hu24 := Try.underlying24; have hu25 := Try.underlying25; have hu54 := Try.underlying54; have hu3 := Try.underlying3; have hu51 := Try.underlying51; have hu9 := Try.underlying9; have hu49 := Try.underlying49; have HR0 := aM hr0; have HC0 := aM hc0; clear hr0 hc0; have HR1_1 := aM hr1_1; have HC1_1 := aM hc1_1; clear hr1_1 hc1_1; have HR1_2 := aM hr1_2; have HC1_2 := aM hc1_2; clear hr1_2 hc1_2; have HR1_3 := aM hr1_3; have HC1_3 := aM hc1_3; clear hr1_3 hc1_3; have HR1_4 := aM hr1_4; have HC1_4 := aM hc1_4; clear hr1_4 hc1_4; have HR3 := aM hr3; have HC3 := aM hc3; clear hr3 hc3; have HR4 := aM hr4; have HC4 := aM hc4; clear hr4 hc4; have HB := aM (Below.refl w.heap.size w)
 have H : ((binding_CheckTerms.f k l0 a1_0 l1_1 l1_2 l1_3 l1_4 a2 l3).bind fun t126 => (if t126 = 0 then ((binding_is.f k l0 a1_0 l1_1 l1_2 l1_3 l1_4 l4).bind fun t127 => (if t127 = true then (if 0 ≤ a2 then (if a2 < (l0.length : Int) then (if 0 ≤ (((rd_T51 l0 a2).f1).length : Int) then (if ((((rd_T51 l0 a2).f1).length : Int) : Int).toNat ≤ 35184372088832 then (binding_Eval.l0 k l0 a2 l4 (List.replicate ((((rd_T51 l0 a2).f1).length : Int) : Int).toNat 0) l3 (l3.length : Int) 0) else (none)) else (none)) else (none)) else (none)) else (some (([] : List Int), 15)))) else (some (([] : List Int), t126)))) = some (r1, r2) := h
 clear h; replace H := Option.bind_eq_some_iff.mp H; obtain ⟨t126, A60, H⟩ := H
 replace H : (if t126 = 0 then ((binding_is.f k l0 a1_0 l1_1 l1_2 l1_3 l1_4 l4).bind fun t127 => (if t127 = true then (if 0 ≤ a2 then (if a2 < (l0.length : Int) then (if 0 ≤ (((rd_T51 l0 a2).f1).length : Int) then (if ((((rd_T51 l0 a2).f1).length : Int) : Int).toNat ≤ 35184372088832 then (binding_Eval.l0 k l0 a2 l4 (List.replicate ((((rd_T51 l0 a2).f1).length : Int) : Int).toNat 0) l3 (l3.length : Int) 0) else (none)) else (none)) else (none)) else (none)) else (some (([] : List Int), 15)))) else (some (([] : List Int), t126))) = some (r1, r2) := H
 have A6 := aM A60; clear A60
 by_cases c7 : t126 = 0
 ·rw [if_pos c7] at H
  have c7b0 : (t126 == 0) = true := beq_iff_eq.mpr c7; have c7b1 : (t126 != 0) = false := bne_eq_false_iff_eq.mpr c7; clear c7; replace H := Option.bind_eq_some_iff.mp H; obtain ⟨t127, A80, H⟩ := H
  replace H : (if t127 = true then (if 0 ≤ a2 then (if a2 < (l0.length : Int) then (if 0 ≤ (((rd_T51 l0 a2).f1).length : Int) then (if ((((rd_T51 l0 a2).f1).length : Int) : Int).toNat ≤ 35184372088832 then (binding_Eval.l0 k l0 a2 l4 (List.replicate ((((rd_T51 l0 a2).f1).length : Int) : Int).toNat 0) l3 (l3.length : Int) 0) else (none)) else (none)) else (none)) else (none)) else (some (([] : List Int), 15))) = some (r1, r2) := H
  have A8 := aM A80; clear A80
  by_cases c9 : t127 = true
  ·subst c9
   have H1 : (if 0 ≤ a2 then (if a2 < (l0.length : Int) then (if 0 ≤ (((rd_T51 l0 a2).f1).length : Int) then (if ((((rd_T51 l0 a2).f1).length : Int) : Int).toNat ≤ 35184372088832 then (binding_Eval.l0 k l0 a2 l4 (List.replicate ((((rd_T51 l0 a2).f1).length : Int) : Int).toNat 0) l3 (l3.length : Int) 0) else (none)) else (none)) else (none)) else (none)) = some (r1, r2) := by rw [if_pos rfl] at H; exact H
   clear H; have H := H1; clear H1
   by_cases c10 : 0 ≤ a2
   ·rw [if_pos c10] at H
    have c10b0 : decide (0 ≤ a2) = true := decide_eq_true c10; clear c10
    by_cases c11 : a2 < (l0.length : Int)
    ·rw [if_pos c11] at H
     have c11b0 : decide (a2 < (l0.length : Int)) = true := decide_eq_true c11; clear c11
     by_cases c12 : 0 ≤ (((rd_T51 l0 a2).f1).length : Int)
     ·rw [if_pos c12] at H
      have c12b0 := eq_true c12; have c12b1 : decide (0 ≤ (((rd_T51 l0 a2).f1).length : Int)) = true := decide_eq_true c12; clear c12
      by_cases c13 : ((((rd_T51 l0 a2).f1).length : Int) : Int).toNat ≤ 35184372088832
      ·rw [if_pos c13] at H
       have c13b0 := eq_true c13; have c13b1 : decide (((((rd_T51 l0 a2).f1).length : Int) : Int).toNat ≤ 35184372088832) = true := decide_eq_true c13; clear c13
       obtain ⟨y129, hy129⟩ : ∃ y_ : List Int, y_ = (List.replicate ((((rd_T51 l0 a2).f1).length : Int) : Int).toNat 0) := ⟨_, rfl⟩
       replace H : (binding_Eval.l0 k l0 a2 l4 y129 l3 (l3.length : Int) 0) = some (r1, r2) := by first | (rw [hy129]; with_reducible exact H) | (have H2_ := (Option.bind_some _ _).symm.trans H; rw [hy129]; with_reducible exact H2_) | (have H2_ := (Option.bind_some _ _).symm.trans H; with_reducible exact H2_) | with_reducible exact H | (rw [hy129]; exact H) | exact H
       have Ny129 := aM hy129; clear hy129
       have H' := aM H
       clear H
       go_enter Try.func15, Try.ntmps15
       go_wp2_with (first | ((with_reducible refine gate_dst (N := 6) rfl ?_); refine box_event ?hg (N := 6) ?hd (cs := #[.string a1_0, .slice A1_1 l1_1.length c1_1, .slice A1_2 l1_2.length c1_2, .slice A1_3 l1_3.length c1_3, .slice A1_4 l1_4.length c1_4]) (t := 27) ?hr ?_; (case hd => rfl); (case hg => rfl); (case hr => first | (go_simp; done) | (go_simp; rfl)); intro gb125 hg w14 hbox hb; have n0_ := aM (below_step (bB HB.out) hb); have n1_ := aM (hbox); have n2_ := aM ((by rw [hg]; exact (below_size (bB HB.out)) : w.heap.size ≤ gb125)); have n3_ := aM ((by rw [hg]; exact (below_size (bB HB.out)) : w.heap.size ≤ gb125)); clear HB; have HB := n0_; have BK125 := n1_; have GW125 := n2_; have GE125 := n3_; clear n0_ n1_ n2_ n3_; clear hb hbox hg; have hcz15_0 : w14.cell? ⟨gb125, 0, none⟩ = some (.string a1_0) := (blk_cell BK125.out 0).trans rfl; have hcz15_1 : w14.cell? ⟨gb125, 1, none⟩ = some (.slice A1_1 l1_1.length c1_1) := (blk_cell BK125.out 1).trans rfl; have hcz15_2 : w14.cell? ⟨gb125, 2, none⟩ = some (.slice A1_2 l1_2.length c1_2) := (blk_cell BK125.out 2).trans rfl; have hcz15_3 : w14.cell? ⟨gb125, 3, none⟩ = some (.slice A1_3 l1_3.length c1_3) := (blk_cell BK125.out 3).trans rfl; have hcz15_4 : w14.cell? ⟨gb125, 4, none⟩ = some (.slice A1_4 l1_4.length c1_4) := (blk_cell BK125.out 4).trans rfl; have hfz15_0 := blk_frozen BK125.out 0; have hfz15_1 := blk_frozen BK125.out 1; have hfz15_2 := blk_frozen BK125.out 2; have hfz15_3 := blk_frozen BK125.out 3; have hfz15_4 := blk_frozen BK125.out 4) | ((with_reducible refine gate_callee (f := 13) rfl ?_); refine goesL_ (some 22) rfl rfl Try.func13 (by kernel_rfl) rfl #[.slice A0 l0.length c0, .agg #[.string a1_0, .slice A1_1 l1_1.length c1_1, .slice A1_2 l1_2.length c1_2, .slice A1_3 l1_3.length c1_3, .slice A1_4 l1_4.length c1_4], .int .i64 a2, .slice A3 l3.length c3] rfl mT ?_; (with_reducible refine (binding_CheckTerms.calls k _ _ l0 a1_0 _ _ l1_1 _ _ l1_2 _ _ l1_3 _ _ l1_4 a2 _ _ l3 t126 _ ?side1 ?side2 ?side3 ?side4 ?side5 ?side6 ?side7 ?side8 ?side9 ?side10 ?side11 ?side12 A6.out).mono ?_); (case side1 => exact cB HR0.out HB.out); (case side2 => exact HC0.out); (case side3 => exact cB HR1_1.out HB.out); (case side4 => exact HC1_1.out); (case side5 => exact cB HR1_2.out HB.out); (case side6 => exact HC1_2.out); (case side7 => exact cB HR1_3.out HB.out); (case side8 => exact HC1_3.out); (case side9 => exact cB HR1_4.out HB.out); (case side10 => exact HC1_4.out); (case side11 => exact cB HR3.out HB.out); (case side12 => exact HC3.out); rintro e w16 ⟨rfl, hb⟩; refine ⟨_, rfl, ?_⟩; have n0_ := aM (kW BK125.out hb); have n1_ := aM (below_step (bB1 HB.out GE125.out) hb); clear BK125; clear HB; have BK125 := n0_; have HB := n1_; clear n0_ n1_; (try clear hb); (try clear hb2); (try clear hk); (try clear hi); have hcz17_0 : w16.cell? ⟨gb125, 0, none⟩ = some (.string a1_0) := (blk_cell BK125.out 0).trans rfl; have hcz17_1 : w16.cell? ⟨gb125, 1, none⟩ = some (.slice A1_1 l1_1.length c1_1) := (blk_cell BK125.out 1).trans rfl; have hcz17_2 : w16.cell? ⟨gb125, 2, none⟩ = some (.slice A1_2 l1_2.length c1_2) := (blk_cell BK125.out 2).trans rfl; have hcz17_3 : w16.cell? ⟨gb125, 3, none⟩ = some (.slice A1_3 l1_3.length c1_3) := (blk_cell BK125.out 3).trans rfl; have hcz17_4 : w16.cell? ⟨gb125, 4, none⟩ = some (.slice A1_4 l1_4.length c1_4) := (blk_cell BK125.out 4).trans rfl; have hfz17_0 := blk_frozen BK125.out 0; have hfz17_1 := blk_frozen BK125.out 1; have hfz17_2 := blk_frozen BK125.out 2; have hfz17_3 := blk_frozen BK125.out 3; have hfz17_4 := blk_frozen BK125.out 4) | ((with_reducible refine gate_callee (f := 37) rfl ?_); refine goesL_ (some 29) rfl rfl Try.func37 (by kernel_rfl) rfl #[.slice A0 l0.length c0, .agg #[.string a1_0, .slice A1_1 l1_1.length c1_1, .slice A1_2 l1_2.length c1_2, .slice A1_3 l1_3.length c1_3, .slice A1_4 l1_4.length c1_4], .slice A4 l4.length c4] rfl mT ?_; (with_reducible refine (binding_is.calls k _ _ l0 a1_0 _ _ l1_1 _ _ l1_2 _ _ l1_3 _ _ l1_4 _ _ l4 true _ ?side1 ?side2 ?side3 ?side4 ?side5 ?side6 ?side7 ?side8 ?side9 ?side10 ?side11 ?side12 A8.out).mono ?_); (case side1 => exact cB HR0.out HB.out); (case side2 => exact HC0.out); (case side3 => exact cB HR1_1.out HB.out); (case side4 => exact HC1_1.out); (case side5 => exact cB HR1_2.out HB.out); (case side6 => exact HC1_2.out); (case side7 => exact cB HR1_3.out HB.out); (case side8 => exact HC1_3.out); (case side9 => exact cB HR1_4.out HB.out); (case side10 => exact HC1_4.out); (case side11 => exact cB HR4.out HB.out); (case side12 => exact HC4.out); rintro e w18 ⟨rfl, hb⟩; refine ⟨_, rfl, ?_⟩; have n0_ := aM (kW BK125.out hb); have n1_ := aM (below_step (bB1 HB.out GE125.out) hb); clear BK125; clear HB; have BK125 := n0_; have HB := n1_; clear n0_ n1_; (try clear hb); (try clear hb2); (try clear hk); (try clear hi); have p128 : 0 ≤ (a2 : Int) := dT; have q128 : a2 < (l0.length : Int) := dT; obtain ⟨ad128, A128_1, c128_1, e128, hx128_0, hx128_1, hl128_1, hi128_1⟩ := at_T51 HR0.out a2 p128 q128; cases e128; try replace hx128_0 := (HB.out.cell (World.block_lt_of_cell? w _ hx128_0)).trans hx128_0; try replace hx128_1 := (HB.out.cell (World.block_lt_of_cell? w _ hx128_1)).trans hx128_1; have HR128_1 := aM hi128_1; have HC128_1 := aM hl128_1; clear hi128_1 hl128_1; replace p128 := eq_true p128; replace q128 := eq_true q128) | ((with_reducible refine gate_dst (N := 37) rfl ?_); refine Kd.R_make (Kd.int .i64) _ 3 rfl (N := 37) rfl 29 _ _ rfl (((rd_T51 l0 a2).f1).length : Int) rfl rfl Try.underlying29 (.int .i64 0) 8 info3 rfl (by decide) (by omega) 0 (ok := fun _ => True) (okp := fun _ => True) rfl (fun _ hk => hk) trivial (dT) (Nat.le_trans (Nat.mul_le_mul_right _ (dT : (((rd_T51 l0 a2).f1).length : Int).toNat ≤ 35184372088832)) (by omega)) (Below.refl _ _) (Nat.le_refl _) ?_; intro v130 w19 ho20 hb hg_ hnew_; clear hg_ hnew_; (first | rw [← Ny129.out] at ho20 | (simp only [Int.reduceToNat] at ho20; rw [← Ny129.out] at ho20)); have n0_ := aM (Kd.R_lower ho20 (below_size (bB1 HB.out GE125.out))); have n1_ := aM (kW BK125.out hb); have n2_ := aM (below_step (bB1 HB.out GE125.out) hb); clear BK125; clear HB; have HO131 := n0_; have BK125 := n1_; have HB := n2_; clear n0_ n1_ n2_; clear hb ho20))
       go_loopg [40] k (fun kq v40 w' => ∃ (x13_1 : List Int) (x40_1 : Int), v40 = .int .i64 x40_1 ∧ Aside0 (binding_Eval.l0 kq l0 a2 l4 x13_1 l3 (l3.length : Int) x40_1 = some (r1, r2)) ∧ Aside0 (kq ≤ k) ∧ Aside0 (Kd.R (Kd.int .i64) 3 w' w.heap.size (fun _ => True) v130 x13_1) ∧ Aside0 (w'.heap[gb125]? = some (.cells #[.string a1_0, (.slice A1_1 l1_1.length c1_1), (.slice A1_2 l1_2.length c1_2), (.slice A1_3 l1_3.length c1_3), (.slice A1_4 l1_4.length c1_4)] 27 (0, 0))) ∧ Aside0 (Below w.heap.size w w'))
       case atStart => exact ⟨(y129), (0), eT, H', ⟨Nat.le_refl _⟩, ⟨oR HO131.out⟩, ⟨kB BK125.out⟩, ⟨bB1 HB.out GE125.out⟩⟩
       case round =>
        clear H'
        try clear hx1
        try clear hx12
        try clear hx128_0
        try clear hx128_1
        obtain ⟨x13_1, x40_1, rfl, HA, HK1, HO_13, BK125, HB⟩ := hrel
        cases gk with
        | zero => exact absurd HA.out (by simp [binding_Eval.l0])
        | succ k1 =>
         have H := HA.out; clear HA
         simp only [binding_Eval.l0] at H
         by_cases c21 : x40_1 < (l3.length : Int)
         ·rw [if_pos c21] at H
          have c21b0 : decide (x40_1 < (l3.length : Int)) = true := decide_eq_true c21; clear c21
          by_cases c22 : 0 ≤ x40_1
          ·rw [if_pos c22] at H
           have c22b0 : decide (0 ≤ x40_1) = true := decide_eq_true c22; clear c22
           by_cases c23 : x40_1 < (l3.length : Int)
           ·rw [if_pos c23] at H
            have c23b0 : decide (x40_1 < (l3.length : Int)) = true := decide_eq_true c23; clear c23
            by_cases c24 : ((rd_T54 l3 x40_1).f1) = 5
            ·rw [if_pos c24] at H
             have c24b0 : (((rd_T54 l3 x40_1).f1) == 5) = true := beq_iff_eq.mpr c24; have c24b1 : (((rd_T54 l3 x40_1).f1) != 5) = false := bne_eq_false_iff_eq.mpr c24; clear c24
             have H' := aM H
             clear H; have p133 : 0 ≤ (x40_1 : Int) := dT; have q133 : x40_1 < (l3.length : Int) := dT; obtain ⟨ad133, e133, hx133_0, hx133_1, hx133_2⟩ := at_T54 HR3.out x40_1 p133 q133; cases e133
             try replace hx133_0 := (HB.out.cell (World.block_lt_of_cell? w _ hx133_0)).trans hx133_0
             try replace hx133_1 := (HB.out.cell (World.block_lt_of_cell? w _ hx133_1)).trans hx133_1
             try replace hx133_2 := (HB.out.cell (World.block_lt_of_cell? w _ hx133_2)).trans hx133_2
             replace p133 := eq_true p133; replace q133 := eq_true q133
             go_wp2_with (first | ((with_reducible refine gate_dst (N := 15) rfl ?_); refine box_event ?hg (N := 15) ?hd (cs := #[.int .i64 0, .int .i64 0, .int .i64 0]) (t := 54) ?hr ?_; (case hd => rfl); (case hg => rfl); (case hr => first | (go_simp; done) | (go_simp; rfl)); intro gb134 hg w25 hbox hb; have n0_ := aM (Kd.R_below (oR HO_13.out) hb); have n1_ := aM (kW BK125.out hb); have n2_ := aM (below_step (bB1 HB.out GE125.out) hb); have n3_ := aM (hbox); have n4_ := aM ((by rw [hg]; exact (below_size (bB1 HB.out GE125.out)) : w.heap.size ≤ gb134)); have n5_ := aM ((by rw [hg]; exact (below_size (bB1 HB.out GE125.out)) : w.heap.size ≤ gb134)); have n6_ := aM ((by rw [hg]; exact Nat.ne_of_lt (kL BK125.out) : gb125 ≠ gb134)); have n7_ := aM ((by rw [hg]; exact Nat.ne_of_gt (kL BK125.out) : gb134 ≠ gb125)); clear HO_13; clear BK125; clear HB; have HO_13 := n0_; have BK125 := n1_; have HB := n2_; have BK134 := n3_; have GW134 := n4_; have GE134 := n5_; have NB125_134 := n6_; have NB134_125 := n7_; clear n0_ n1_ n2_ n3_ n4_ n5_ n6_ n7_; clear hb hbox hg; have hnb26 := NB134_125.out; have hnc26 := NB125_134.out; have hcz27_0 : w25.cell? ⟨gb134, 0, none⟩ = some (.int .i64 0) := (blk_cell BK134.out 0).trans rfl; have hcz27_1 : w25.cell? ⟨gb134, 1, none⟩ = some (.int .i64 0) := (blk_cell BK134.out 1).trans rfl; have hcz27_2 : w25.cell? ⟨gb134, 2, none⟩ = some (.int .i64 0) := (blk_cell BK134.out 2).trans rfl; have hfz27_0 := blk_frozen BK134.out 0; have hfz27_1 := blk_frozen BK134.out 1; have hfz27_2 := blk_frozen BK134.out 2; obtain ⟨Ao28, co28, eo28⟩ := Kd.R_slice HO_13.out; subst eo28))
             go_loopg [56] k1 (fun kq v56 w' => ∃ (x13_2 : List Int) (x56_2 : Int), v56 = .int .i64 x56_2 ∧ Aside0 (binding_Eval.l1 kq l0 a2 l4 x13_2 l3 (l3.length : Int) x40_1 (x13_1.length : Int) x56_2 ((rd_T54 l3 x40_1).f0) ((rd_T54 l3 x40_1).f1) ((rd_T54 l3 x40_1).f2) = some (r1, r2)) ∧ Aside0 (kq ≤ k1) ∧ Aside0 (Kd.R (Kd.int .i64) 3 w' w.heap.size (fun _ => True) (.slice Ao28 x13_1.length co28) x13_2) ∧ Aside0 (w'.heap[gb125]? = some (.cells #[.string a1_0, (.slice A1_1 l1_1.length c1_1), (.slice A1_2 l1_2.length c1_2), (.slice A1_3 l1_3.length c1_3), (.slice A1_4 l1_4.length c1_4)] 27 (0, 0))) ∧ Aside0 (w'.heap[gb134]? = some (.cells #[.int .i64 ((rd_T54 l3 x40_1).f0), .int .i64 ((rd_T54 l3 x40_1).f1), .int .i64 ((rd_T54 l3 x40_1).f2)] 54 (0, 0))) ∧ Aside0 (Below w.heap.size w w'))
             case atStart => exact ⟨(x13_1), (0), eT, H', ⟨Nat.le_refl _⟩, ⟨by refine oR ?_; exact Kd.R_mono (Kd.R_far (p := ⟨gb134, 2, none⟩) (Kd.R_far (p := ⟨gb134, 1, none⟩) (Kd.R_far (p := ⟨gb134, 0, none⟩) (Kd.R_types HO_13.out BK134.out (by decide)) (fun _ hk => hk.2) (.int .i64 ((rd_T54 l3 x40_1).f0))) (fun _ hk => hk.2) (.int .i64 ((rd_T54 l3 x40_1).f1))) (fun _ hk => hk.2) (.int .i64 ((rd_T54 l3 x40_1).f2))) (fun _ hk => trivial)⟩, ⟨by refine kR ?_; refine blk_far ?_ NB125_134.out _; refine kR ?_; refine blk_far ?_ NB125_134.out _; refine kR ?_; refine blk_far ?_ NB125_134.out _; refine kR ?_; exact BK125.out⟩, ⟨by refine kR ?_; refine blk_put (cs := #[.int .i64 ((rd_T54 l3 x40_1).f0), .int .i64 ((rd_T54 l3 x40_1).f1), .int .i64 0]) ?_ 2 _ rfl; refine kR ?_; refine blk_put (cs := #[.int .i64 ((rd_T54 l3 x40_1).f0), .int .i64 0, .int .i64 0]) ?_ 1 _ rfl; refine kR ?_; refine blk_put (cs := #[.int .i64 0, .int .i64 0, .int .i64 0]) ?_ 0 _ rfl; refine kR ?_; exact BK134.out⟩, ⟨bB2 HB.out GE125.out GE134.out⟩⟩
             case round =>
              clear H'
              try clear hx1
              try clear hx12
              try clear hx13
              try clear hx128_0
              try clear hx128_1
              try clear hx133_0
              try clear hx133_1
              try clear hx133_2
              obtain ⟨x13_2, x56_2, rfl, HA, HK2, HO_13, BK125, BK134, HB⟩ := hrel; have hl13_2 := (Kd.R_reads' HO_13.out).1; rw [hl13_2] at HO_13
              (try simp only [hl13_2])
              (try simp only [hl13_2] at BK125)
              (try simp only [hl13_2] at BK134)
              cases gk with
              | zero => exact absurd HA.out (by simp [binding_Eval.l1])
              | succ k2 =>
               have H := HA.out; clear HA
               simp only [binding_Eval.l1] at H
               by_cases c29 : x56_2 < (x13_1.length : Int)
               ·rw [if_pos c29] at H
                have c29b0 : decide (x56_2 < (x13_1.length : Int)) = true := decide_eq_true c29
                try have c29b9 := c29b0
                try rw [hl13_2] at c29b9
                clear c29
                by_cases c30 : 0 ≤ x56_2
                ·rw [if_pos c30] at H
                 have c30b0 : decide (0 ≤ x56_2) = true := decide_eq_true c30; clear c30
                 by_cases c31 : x56_2 < (x13_2.length : Int)
                 ·rw [if_pos c31] at H
                  have c31b0 : decide (x56_2 < (x13_2.length : Int)) = true := decide_eq_true c31; clear c31
                  obtain ⟨y153, hy153⟩ : ∃ y_ : List Int, y_ = (x13_2.set (x56_2 : Int).toNat (wrap64 ((rd x13_2 x56_2) + ((rd_T54 l3 x40_1).f0)))) := ⟨_, rfl⟩
                  replace H : (binding_Eval.l1 k2 l0 a2 l4 y153 l3 (l3.length : Int) x40_1 (x13_1.length : Int) (wrap64 (x56_2 + 1)) ((rd_T54 l3 x40_1).f0) ((rd_T54 l3 x40_1).f1) ((rd_T54 l3 x40_1).f2)) = some (r1, r2) := by first | (rw [hy153]; with_reducible exact H) | (have H2_ := (Option.bind_some _ _).symm.trans H; rw [hy153]; with_reducible exact H2_) | (have H2_ := (Option.bind_some _ _).symm.trans H; with_reducible exact H2_) | with_reducible exact H | (rw [hy153]; exact H) | exact H
                  have Ny153 := aM hy153; clear hy153
                  have H' := aM H
                  clear H
                  try go_wp2
                  have n0_ := aM (Kd.R_drew HO_13.out); have n1_ := aM (blk_drew BK125.out); have n2_ := aM (blk_drew BK134.out); have n3_ := aM (below_drew1 HB.out); clear HO_13; clear BK125; clear BK134; clear HB; have HO_13 := n0_; have BK125 := n1_; have BK134 := n2_; have HB := n3_; clear n0_ n1_ n2_ n3_; have p152 : 0 ≤ (x56_2 : Int) := dT; have q152 : x56_2 < (x13_2.length : Int) := dT
                  try (obtain ⟨Aoz152, coz152, eoz152⟩ := Kd.R_slice HO_13.out; subst eoz152)
                  obtain ⟨ad152, e152, hx152_0⟩ := Kd.at_int (Kd.R_reads' HO_13.out).2.2 x56_2 p152 q152; cases e152; replace p152 := eq_true p152; replace q152 := eq_true q152; have p32 : 0 ≤ (x56_2 : Int) := dT; have q32 : (x56_2 : Int) < ((x13_2.length : Int) : Int) := dT; obtain ⟨go32, co32, eo32, gb32, gl32, cl32, HG32⟩ := Kd.R_form HO_13.out (by omega)
                  (first | cases eo32 | (injection eo32 with ea_ en_ ec_; (first | subst ea_ | (injection ea_ with ea_; subst ea_)); subst ec_; clear en_))
                  have GB32 := aM gb32; have GG32 := aM HG32; clear gb32 gl32 HG32
                  (first | simp only [add_plain] at hx152_0 | skip)
                  obtain ⟨hx32_0, hf32_0⟩ := Kd.R_celln 0 HO_13.out (x56_2 : Int) p32 q32; replace p32 := eq_true p32; replace q32 := eq_true q32; have HP34 := Kd.R_putn HO_13.out (x56_2 : Int) (wrap64 ((rd x13_2 x56_2) + ((rd_T54 l3 x40_1).f0))); rw [← Ny153.out] at HP34; have HQ34 := aM HP34; clear HP34
                  refine start_ (n := 9) (S := fun w' => w'.cell? ⟨gb134, 0, none⟩ = some (.int .i64 ((rd_T54 l3 x40_1).f0)) ∧ w'.cell? ⟨gb134, 1, none⟩ = some (.int .i64 ((rd_T54 l3 x40_1).f1)) ∧ w'.cell? ⟨gb134, 2, none⟩ = some (.int .i64 ((rd_T54 l3 x40_1).f2)) ∧ w'.cell? ⟨go32, (x56_2).toNat, none⟩ = some (.int .i64 (rd x13_2 x56_2))) (ds := [8]) #[false, false, false, false, false, false, false, false, false] (by kernel_rfl) rfl rfl ⟨(blk_cell BK134.out 0).trans rfl, (blk_cell BK134.out 1).trans rfl, (blk_cell BK134.out 2).trans rfl, hx152_0⟩ (fun hHeld => ?_); refine with_tabW binding_Eval.tab19 binding_Eval.bits19 (fun HT_ HW_ => ?_)
                  generalize wr.drew = w33 at HO_13 BK125 BK134 HB GG32 HQ34 hf32_0 hx152_0 hx32_0 hHeld ⊢
                  refine pure_ (i := 0) (N := some 59) (v := ?_) (a' := ?_) #[true, false, false, false, false, false, false, false, false] rfl rfl (any_of HT_.out (by kernel_rfl)) (fun _ _ _ h => h) (Or.inl ⟨by rfl, ?_⟩) ?_ ?_; rotate_left; exact qT; rotate_left; exact pT
                  refine pure_ (i := 1) (N := some 60) (v := ?_) (a' := ?_) #[true, true, false, false, false, false, false, false, false] rfl rfl (any_of HT_.out (by kernel_rfl)) (fun _ _ _ h => h) (Or.inl ⟨by rfl, ?_⟩) ?_ ?_; rotate_left; exact qT; rotate_left; exact pT
                  refine pure_ (i := 2) (N := some 61) (v := ?_) (a' := ?_) #[true, true, true, false, false, false, false, false, false] rfl rfl (any_of HT_.out (by kernel_rfl)) (fun _ _ _ h => h) (Or.inl ⟨by rfl, ?_⟩) ?_ ?_; rotate_left; exact qT; rotate_left; exact pT
                  refine pure_ (i := 4) (N := some 63) (v := ?_) (a' := ?_) #[true, true, true, false, true, false, false, false, false] rfl rfl (any_of HT_.out (by kernel_rfl)) (fun _ _ _ h => h) (Or.inl ⟨by rfl, ?_⟩) ?_ ?_; rotate_left; exact qT; rotate_left; exact pT
                  refine take_ (i := 3) (N := some 62) (v := ?_) (a' := ?_) #[true, true, true, true, true, false, false, false, false] rfl rfl (take_ofW HT_.out HW_.out (by kernel_rfl)) (fun _ _ _ h => h) (Or.inl ⟨by rfl, ?_⟩) hHeld ?_ ?_; rotate_left; rintro w' ⟨s0, s1, s2, s3⟩; go_simp; with_reducible rfl; rotate_left; exact pT
                  refine take_ (i := 5) (N := some 64) (v := ?_) (a' := ?_) #[true, true, true, true, true, true, false, false, false] rfl rfl (take_ofW HT_.out HW_.out (by kernel_rfl)) (fun _ _ _ h => h) (Or.inl ⟨by rfl, ?_⟩) hHeld ?_ ?_; rotate_left; rintro w' ⟨s0, s1, s2, s3⟩; go_simp; with_reducible rfl; rotate_left; exact pT
                  refine pure_ (i := 6) (N := some 65) (v := ?_) (a' := ?_) #[true, true, true, true, true, true, true, false, false] rfl rfl (any_of HT_.out (by kernel_rfl)) (fun _ _ _ h => h) (Or.inl ⟨by rfl, ?_⟩) ?_ ?_; rotate_left; exact qT; rotate_left; exact pT
                  refine pure_ (i := 7) (N := some 66) (v := ?_) (a' := ?_) #[true, true, true, true, true, true, true, true, false] rfl rfl (any_of HT_.out (by kernel_rfl)) (fun _ _ _ h => h) (Or.inl ⟨by rfl, ?_⟩) ?_ ?_; rotate_left; exact qT; rotate_left; exact pT
                  refine last_ (i := 8) (N := none) #[true, true, true, true, true, true, true, true, true] rfl rfl (one_of HT_.out (by kernel_rfl)) (by decide) (fun K hK => ?_)
                  refine skip_ (w1 := ?_) (by rfl) rfl ?_ ?_
                  rotate_left
                  ·go_simp
                   rfl
                  refine hK.out _ _ ?_
                  clear hK K
                  refine done_ (done_of HT_.out (by kernel_rfl)) ?_
                  try go_wp2
                  (try simp only [← hl13_2])
                  go_roundg k2
                  case measure => have := HK1.out; have := HK2.out; omega
                  case rel => exact ⟨(y153), (wrap64 (x56_2 + 1)), eT, H', ⟨by have := HK1.out; have := HK2.out; omega⟩, ⟨by (try simp only [hl13_2]); refine oR ?_; exact HQ34.out⟩, ⟨by (try simp only [hl13_2]); refine kR ?_; refine blk_far ?_ (by have h_ := Kd.R_ne HO_13.out BK125.out (by decide); intro e_; exact h_ (by rw [e_]; rfl)) _; refine kR ?_; exact BK125.out⟩, ⟨by (try simp only [hl13_2]); refine kR ?_; refine blk_far ?_ (by have h_ := Kd.R_ne HO_13.out BK134.out (by decide); intro e_; exact h_ (by rw [e_]; rfl)) _; refine kR ?_; exact BK134.out⟩, ⟨by repeat (first | (with_reducible first | exact HB.out | apply below_alloc | apply pw_below_drewN | apply below_drew1 | refine below_set ?_ GB32.out | refine below_set ?_ GE125.out | refine below_set ?_ GE134.out) | exact HB.out)⟩⟩
                 ·rw [if_neg c31] at H
                  exact absurd H (by simp)
                ·rw [if_neg c30] at H
                 exact absurd H (by simp)
               ·rw [if_neg c29] at H
                have c29b0 : decide (x56_2 < (x13_1.length : Int)) = false := decide_eq_false c29
                try have c29b9 := c29b0
                try rw [hl13_2] at c29b9
                clear c29
                have H' := aM H
                clear H
                go_wp2
                (try simp only [← hl13_2])
                go_roundg k2
                case measure => have := HK1.out; have := HK2.out; omega
                case rel => exact ⟨(x13_2), (wrap64 (x40_1 + 1)), eT, H', ⟨by have := HK1.out; have := HK2.out; omega⟩, ⟨by (try simp only [hl13_2]); refine oR ?_; exact HO_13.out⟩, ⟨by (try simp only [hl13_2]); refine kR ?_; exact BK125.out⟩, ⟨bB2 HB.out GE125.out GE134.out⟩⟩
            ·rw [if_neg c24] at H
             have c24b0 : (((rd_T54 l3 x40_1).f1) == 5) = false := beq_eq_false_iff_ne.mpr c24; have c24b1 : (((rd_T54 l3 x40_1).f1) != 5) = true := bne_iff_ne.mpr c24
             by_cases c35 : ((rd_T54 l3 x40_1).f1) = 1
             ·rw [if_pos c35] at H
              have c35b0 : (((rd_T54 l3 x40_1).f1) == 1) = true := beq_iff_eq.mpr c35; have c35b1 : (((rd_T54 l3 x40_1).f1) != 1) = false := bne_eq_false_iff_eq.mpr c35; clear c35
              by_cases c36 : 0 ≤ ((rd_T54 l3 x40_1).f2)
              ·rw [if_pos c36] at H
               have c36b0 : decide (0 ≤ ((rd_T54 l3 x40_1).f2)) = true := decide_eq_true c36; clear c36
               by_cases c37 : ((rd_T54 l3 x40_1).f2) < (x13_1.length : Int)
               ·rw [if_pos c37] at H
                have c37b0 : decide (((rd_T54 l3 x40_1).f2) < (x13_1.length : Int)) = true := decide_eq_true c37
                try have c37b9 := c37b0
                try rw [hl13_2] at c37b9
                clear c37
                obtain ⟨y136, hy136⟩ : ∃ y_ : List Int, y_ = (x13_1.set (((rd_T54 l3 x40_1).f2) : Int).toNat (wrap64 ((rd x13_1 ((rd_T54 l3 x40_1).f2)) + ((rd_T54 l3 x40_1).f0)))) := ⟨_, rfl⟩
                replace H : (binding_Eval.l0 k1 l0 a2 l4 y136 l3 (l3.length : Int) (wrap64 (x40_1 + 1))) = some (r1, r2) := by first | (rw [hy136]; with_reducible exact H) | (have H2_ := (Option.bind_some _ _).symm.trans H; rw [hy136]; with_reducible exact H2_) | (have H2_ := (Option.bind_some _ _).symm.trans H; with_reducible exact H2_) | with_reducible exact H | (rw [hy136]; exact H) | exact H
                have Ny136 := aM hy136; clear hy136
                have H' := aM H
                clear H; have p133 : 0 ≤ (x40_1 : Int) := dT; have q133 : x40_1 < (l3.length : Int) := dT; obtain ⟨ad133, e133, hx133_0, hx133_1, hx133_2⟩ := at_T54 HR3.out x40_1 p133 q133; cases e133
                try replace hx133_0 := (HB.out.cell (World.block_lt_of_cell? w _ hx133_0)).trans hx133_0
                try replace hx133_1 := (HB.out.cell (World.block_lt_of_cell? w _ hx133_1)).trans hx133_1
                try replace hx133_2 := (HB.out.cell (World.block_lt_of_cell? w _ hx133_2)).trans hx133_2
                replace p133 := eq_true p133; replace q133 := eq_true q133
                try go_wp2_with (first | ((with_reducible refine gate_dst (N := 15) rfl ?_); refine box_event ?hg (N := 15) ?hd (cs := #[.int .i64 0, .int .i64 0, .int .i64 0]) (t := 54) ?hr ?_; (case hd => rfl); (case hg => rfl); (case hr => first | (go_simp; done) | (go_simp; rfl)); intro gb134 hg w39 hbox hb; have n0_ := aM (Kd.R_below (oR HO_13.out) hb); have n1_ := aM (kW BK125.out hb); have n2_ := aM (below_step (bB1 HB.out GE125.out) hb); have n3_ := aM (hbox); have n4_ := aM ((by rw [hg]; exact (below_size (bB1 HB.out GE125.out)) : w.heap.size ≤ gb134)); have n5_ := aM ((by rw [hg]; exact (below_size (bB1 HB.out GE125.out)) : w.heap.size ≤ gb134)); have n6_ := aM ((by rw [hg]; exact Nat.ne_of_lt (kL BK125.out) : gb125 ≠ gb134)); have n7_ := aM ((by rw [hg]; exact Nat.ne_of_gt (kL BK125.out) : gb134 ≠ gb125)); clear HO_13; clear BK125; clear HB; have HO_13 := n0_; have BK125 := n1_; have HB := n2_; have BK134 := n3_; have GW134 := n4_; have GE134 := n5_; have NB125_134 := n6_; have NB134_125 := n7_; clear n0_ n1_ n2_ n3_ n4_ n5_ n6_ n7_; clear hb hbox hg; have hnb40 := NB134_125.out; have hnc40 := NB125_134.out; have hcz41_0 : w39.cell? ⟨gb134, 0, none⟩ = some (.int .i64 0) := (blk_cell BK134.out 0).trans rfl; have hcz41_1 : w39.cell? ⟨gb134, 1, none⟩ = some (.int .i64 0) := (blk_cell BK134.out 1).trans rfl; have hcz41_2 : w39.cell? ⟨gb134, 2, none⟩ = some (.int .i64 0) := (blk_cell BK134.out 2).trans rfl; have hfz41_0 := blk_frozen BK134.out 0; have hfz41_1 := blk_frozen BK134.out 1; have hfz41_2 := blk_frozen BK134.out 2))
                have n0_ : Aside0 (Kd.R (Kd.int .i64) 3 (((w39.setCell ⟨gb134, 0, none⟩ (.int .i64 ((rd_T54 l3 x40_1).f0))).setCell ⟨gb134, 1, none⟩ (.int .i64 ((rd_T54 l3 x40_1).f1))).setCell ⟨gb134, 2, none⟩ (.int .i64 ((rd_T54 l3 x40_1).f2))) w.heap.size (fun _ => True) v130 x13_1) := ⟨by refine oR ?_; exact Kd.R_mono (Kd.R_far (p := ⟨gb134, 2, none⟩) (Kd.R_far (p := ⟨gb134, 1, none⟩) (Kd.R_far (p := ⟨gb134, 0, none⟩) (Kd.R_types HO_13.out BK134.out (by decide)) (fun _ hk => hk.2) (.int .i64 ((rd_T54 l3 x40_1).f0))) (fun _ hk => hk.2) (.int .i64 ((rd_T54 l3 x40_1).f1))) (fun _ hk => hk.2) (.int .i64 ((rd_T54 l3 x40_1).f2))) (fun _ hk => trivial)⟩
                have n1_ : Aside0 ((((w39.setCell ⟨gb134, 0, none⟩ (.int .i64 ((rd_T54 l3 x40_1).f0))).setCell ⟨gb134, 1, none⟩ (.int .i64 ((rd_T54 l3 x40_1).f1))).setCell ⟨gb134, 2, none⟩ (.int .i64 ((rd_T54 l3 x40_1).f2))).heap[gb125]? = some (.cells #[.string a1_0, .slice A1_1 l1_1.length c1_1, .slice A1_2 l1_2.length c1_2, .slice A1_3 l1_3.length c1_3, .slice A1_4 l1_4.length c1_4] 27 (0, 0))) := ⟨by refine kR ?_; refine blk_far ?_ NB125_134.out _; refine kR ?_; refine blk_far ?_ NB125_134.out _; refine kR ?_; refine blk_far ?_ NB125_134.out _; refine kR ?_; exact BK125.out⟩
                have n2_ : Aside0 ((((w39.setCell ⟨gb134, 0, none⟩ (.int .i64 ((rd_T54 l3 x40_1).f0))).setCell ⟨gb134, 1, none⟩ (.int .i64 ((rd_T54 l3 x40_1).f1))).setCell ⟨gb134, 2, none⟩ (.int .i64 ((rd_T54 l3 x40_1).f2))).heap[gb134]? = some (.cells #[.int .i64 ((rd_T54 l3 x40_1).f0), .int .i64 ((rd_T54 l3 x40_1).f1), .int .i64 ((rd_T54 l3 x40_1).f2)] 54 (0, 0))) := ⟨by refine kR ?_; refine blk_put (cs := #[.int .i64 ((rd_T54 l3 x40_1).f0), .int .i64 ((rd_T54 l3 x40_1).f1), .int .i64 0]) ?_ 2 _ rfl; refine kR ?_; refine blk_put (cs := #[.int .i64 ((rd_T54 l3 x40_1).f0), .int .i64 0, .int .i64 0]) ?_ 1 _ rfl; refine kR ?_; refine blk_put (cs := #[.int .i64 0, .int .i64 0, .int .i64 0]) ?_ 0 _ rfl; refine kR ?_; exact BK134.out⟩
                have n3_ : Aside0 (Below w.heap.size w (((w39.setCell ⟨gb134, 0, none⟩ (.int .i64 ((rd_T54 l3 x40_1).f0))).setCell ⟨gb134, 1, none⟩ (.int .i64 ((rd_T54 l3 x40_1).f1))).setCell ⟨gb134, 2, none⟩ (.int .i64 ((rd_T54 l3 x40_1).f2)))) := ⟨bB2 HB.out GE125.out GE134.out⟩
                (try clear HO_13)
                (try clear BK125)
                (try clear BK134)
                (try clear HB)
                generalize (((w39.setCell ⟨gb134, 0, none⟩ (.int .i64 ((rd_T54 l3 x40_1).f0))).setCell ⟨gb134, 1, none⟩ (.int .i64 ((rd_T54 l3 x40_1).f1))).setCell ⟨gb134, 2, none⟩ (.int .i64 ((rd_T54 l3 x40_1).f2))) = w42 at n0_ n1_ n2_ n3_ ⊢
                have HO_13 := n0_; have BK125 := n1_; have BK134 := n2_; have HB := n3_; clear n0_ n1_ n2_ n3_; have n0_ := aM (Kd.R_drew HO_13.out); have n1_ := aM (blk_drew BK125.out); have n2_ := aM (blk_drew BK134.out); have n3_ := aM (below_drew1 HB.out); clear HO_13; clear BK125; clear BK134; clear HB; have HO_13 := n0_; have BK125 := n1_; have BK134 := n2_; have HB := n3_; clear n0_ n1_ n2_ n3_; obtain ⟨Ao44, co44, eo44⟩ := Kd.R_slice HO_13.out
                (first | subst eo44 | (injection eo44 with f1_ f2_ f3_; have f4_ := f1_.symm; have f5_ := f3_.symm; clear f1_ f2_ f3_; subst f4_; subst f5_))
                have p135 : 0 ≤ (((rd_T54 l3 x40_1).f2) : Int) := dT; have q135 : ((rd_T54 l3 x40_1).f2) < (x13_1.length : Int) := dT
                try (obtain ⟨Aoz135, coz135, eoz135⟩ := Kd.R_slice HO_13.out; subst eoz135)
                obtain ⟨ad135, e135, hx135_0⟩ := Kd.at_int (Kd.R_reads' HO_13.out).2.2 ((rd_T54 l3 x40_1).f2) p135 q135; cases e135; replace p135 := eq_true p135; replace q135 := eq_true q135; have p38 : 0 ≤ (((rd_T54 l3 x40_1).f2) : Int) := dT; have q38 : (((rd_T54 l3 x40_1).f2) : Int) < ((x13_1.length : Int) : Int) := dT; obtain ⟨go38, co38, eo38, gb38, gl38, cl38, HG38⟩ := Kd.R_form HO_13.out (by omega)
                (first | cases eo38 | (injection eo38 with ea_ en_ ec_; (first | subst ea_ | (injection ea_ with ea_; subst ea_)); subst ec_; clear en_))
                have GB38 := aM gb38; have GG38 := aM HG38; clear gb38 gl38 HG38
                (first | simp only [add_plain] at hx135_0 | skip)
                obtain ⟨hx38_0, hf38_0⟩ := Kd.R_celln 0 HO_13.out (((rd_T54 l3 x40_1).f2) : Int) p38 q38; replace p38 := eq_true p38; replace q38 := eq_true q38; have HP45 := Kd.R_putn HO_13.out (((rd_T54 l3 x40_1).f2) : Int) (wrap64 ((rd x13_1 ((rd_T54 l3 x40_1).f2)) + ((rd_T54 l3 x40_1).f0))); rw [← Ny136.out] at HP45; have HQ45 := aM HP45; clear HP45
                refine start_ (n := 10) (S := fun w' => w'.cell? ⟨gb134, 0, none⟩ = some (.int .i64 ((rd_T54 l3 x40_1).f0)) ∧ w'.cell? ⟨gb134, 1, none⟩ = some (.int .i64 ((rd_T54 l3 x40_1).f1)) ∧ w'.cell? ⟨gb134, 2, none⟩ = some (.int .i64 ((rd_T54 l3 x40_1).f2)) ∧ w'.cell? ⟨go38, (((rd_T54 l3 x40_1).f2)).toNat, none⟩ = some (.int .i64 (rd x13_1 ((rd_T54 l3 x40_1).f2)))) (ds := [9]) #[false, false, false, false, false, false, false, false, false, false] (by kernel_rfl) rfl rfl ⟨(blk_cell BK134.out 0).trans rfl, (blk_cell BK134.out 1).trans rfl, (blk_cell BK134.out 2).trans rfl, hx135_0⟩ (fun hHeld => ?_); refine with_tabW binding_Eval.tab21 binding_Eval.bits21 (fun HT_ HW_ => ?_)
                generalize w42.drew = w43 at HO_13 BK125 BK134 HB GG38 HQ45 hf38_0 hx135_0 hx38_0 hHeld ⊢
                refine pure_ (i := 0) (N := some 68) (v := ?_) (a' := ?_) #[true, false, false, false, false, false, false, false, false, false] rfl rfl (any_of HT_.out (by kernel_rfl)) (fun _ _ _ h => h) (Or.inl ⟨by rfl, ?_⟩) ?_ ?_; rotate_left; exact qT; rotate_left; exact pT
                refine pure_ (i := 1) (N := some 69) (v := ?_) (a' := ?_) #[true, true, false, false, false, false, false, false, false, false] rfl rfl (any_of HT_.out (by kernel_rfl)) (fun _ _ _ h => h) (Or.inl ⟨by rfl, ?_⟩) ?_ ?_; rotate_left; exact qT; rotate_left; exact pT
                refine pure_ (i := 5) (N := some 73) (v := ?_) (a' := ?_) #[true, true, false, false, false, true, false, false, false, false] rfl rfl (any_of HT_.out (by kernel_rfl)) (fun _ _ _ h => h) (Or.inl ⟨by rfl, ?_⟩) ?_ ?_; rotate_left; exact qT; rotate_left; exact pT
                refine take_ (i := 2) (N := some 70) (v := ?_) (a' := ?_) #[true, true, true, false, false, true, false, false, false, false] rfl rfl (take_ofW HT_.out HW_.out (by kernel_rfl)) (fun _ _ _ h => h) (Or.inl ⟨by rfl, ?_⟩) hHeld ?_ ?_; rotate_left; rintro w' ⟨s0, s1, s2, s3⟩; go_simp; with_reducible rfl; rotate_left; exact pT
                refine pure_ (i := 3) (N := some 71) (v := ?_) (a' := ?_) #[true, true, true, true, false, true, false, false, false, false] rfl rfl (any_of HT_.out (by kernel_rfl)) (fun _ _ _ h => h) (Or.inl ⟨by rfl, ?_⟩) ?_ ?_; rotate_left; exact qT; rotate_left; exact pT
                refine take_ (i := 4) (N := some 72) (v := ?_) (a' := ?_) #[true, true, true, true, true, true, false, false, false, false] rfl rfl (take_ofW HT_.out HW_.out (by kernel_rfl)) (fun _ _ _ h => h) (Or.inl ⟨by rfl, ?_⟩) hHeld ?_ ?_; rotate_left; rintro w' ⟨s0, s1, s2, s3⟩; go_simp; with_reducible rfl; rotate_left; exact pT
                refine take_ (i := 6) (N := some 74) (v := ?_) (a' := ?_) #[true, true, true, true, true, true, true, false, false, false] rfl rfl (take_ofW HT_.out HW_.out (by kernel_rfl)) (fun _ _ _ h => h) (Or.inl ⟨by rfl, ?_⟩) hHeld ?_ ?_; rotate_left; rintro w' ⟨s0, s1, s2, s3⟩; go_simp; with_reducible rfl; rotate_left; exact pT
                refine pure_ (i := 7) (N := some 75) (v := ?_) (a' := ?_) #[true, true, true, true, true, true, true, true, false, false] rfl rfl (any_of HT_.out (by kernel_rfl)) (fun _ _ _ h => h) (Or.inl ⟨by rfl, ?_⟩) ?_ ?_; rotate_left; exact qT; rotate_left; exact pT
                refine pure_ (i := 8) (N := some 76) (v := ?_) (a' := ?_) #[true, true, true, true, true, true, true, true, true, false] rfl rfl (any_of HT_.out (by kernel_rfl)) (fun _ _ _ h => h) (Or.inl ⟨by rfl, ?_⟩) ?_ ?_; rotate_left; exact qT; rotate_left; exact pT
                refine last_ (i := 9) (N := none) #[true, true, true, true, true, true, true, true, true, true] rfl rfl (one_of HT_.out (by kernel_rfl)) (by decide) (fun K hK => ?_)
                refine skip_ (w1 := ?_) (by rfl) rfl ?_ ?_
                rotate_left
                ·go_simp
                 rfl
                refine hK.out _ _ ?_
                clear hK K
                refine done_ (done_of HT_.out (by kernel_rfl)) ?_
                try go_wp2
                go_roundg k1
                case measure => have := HK1.out; omega
                case rel => exact ⟨(y136), (wrap64 (x40_1 + 1)), eT, H', ⟨by have := HK1.out; omega⟩, ⟨oR HQ45.out⟩, ⟨by refine kR ?_; refine blk_far ?_ (by have h_ := Kd.R_ne HO_13.out BK125.out (by decide); intro e_; exact h_ (by rw [e_]; rfl)) _; refine kR ?_; exact BK125.out⟩, ⟨by repeat (first | (with_reducible first | exact HB.out | apply below_alloc | apply pw_below_drewN | apply below_drew1 | refine below_set ?_ GB38.out | refine below_set ?_ GE125.out | refine below_set ?_ GE134.out) | exact HB.out)⟩⟩
               ·rw [if_neg c37] at H
                exact absurd H (by simp)
              ·rw [if_neg c36] at H
               exact absurd H (by simp)
             ·rw [if_neg c35] at H
              have c35b0 : (((rd_T54 l3 x40_1).f1) == 1) = false := beq_eq_false_iff_ne.mpr c35; have c35b1 : (((rd_T54 l3 x40_1).f1) != 1) = true := bne_iff_ne.mpr c35
              by_cases c46 : ((rd_T54 l3 x40_1).f1) = 3
              ·rw [if_pos c46] at H
               have c46b0 : (((rd_T54 l3 x40_1).f1) == 3) = true := beq_iff_eq.mpr c46; have c46b1 : (((rd_T54 l3 x40_1).f1) != 3) = false := bne_eq_false_iff_eq.mpr c46; clear c46
               by_cases c47 : 0 ≤ a2
               ·rw [if_pos c47] at H
                have c47b0 : decide (0 ≤ a2) = true := decide_eq_true c47; clear c47
                by_cases c48 : a2 < (l0.length : Int)
                ·rw [if_pos c48] at H
                 have c48b0 : decide (a2 < (l0.length : Int)) = true := decide_eq_true c48; clear c48
                 by_cases c49 : 0 ≤ ((rd_T54 l3 x40_1).f2)
                 ·rw [if_pos c49] at H
                  have c49b0 : decide (0 ≤ ((rd_T54 l3 x40_1).f2)) = true := decide_eq_true c49; clear c49
                  by_cases c50 : ((rd_T54 l3 x40_1).f2) < (l4.length : Int)
                  ·rw [if_pos c50] at H
                   have c50b0 : decide (((rd_T54 l3 x40_1).f2) < (l4.length : Int)) = true := decide_eq_true c50; clear c50; replace H := Option.bind_eq_some_iff.mp H; obtain ⟨t139, A510, H⟩ := H
                   replace H : (if 0 ≤ t139 then (if t139 < (x13_1.length : Int) then (binding_Eval.l0 k1 l0 a2 l4 (x13_1.set (t139 : Int).toNat (wrap64 ((rd x13_1 t139) + ((rd_T54 l3 x40_1).f0)))) l3 (l3.length : Int) (wrap64 (x40_1 + 1))) else (none)) else (none)) = some (r1, r2) := H
                   have A51 := aM A510; clear A510
                   by_cases c52 : 0 ≤ t139
                   ·rw [if_pos c52] at H
                    have c52b0 : decide (0 ≤ t139) = true := decide_eq_true c52; clear c52
                    by_cases c53 : t139 < (x13_1.length : Int)
                    ·rw [if_pos c53] at H
                     have c53b0 : decide (t139 < (x13_1.length : Int)) = true := decide_eq_true c53
                     try have c53b9 := c53b0
                     try rw [hl13_2] at c53b9
                     clear c53
                     obtain ⟨y141, hy141⟩ : ∃ y_ : List Int, y_ = (x13_1.set (t139 : Int).toNat (wrap64 ((rd x13_1 t139) + ((rd_T54 l3 x40_1).f0)))) := ⟨_, rfl⟩
                     replace H : (binding_Eval.l0 k1 l0 a2 l4 y141 l3 (l3.length : Int) (wrap64 (x40_1 + 1))) = some (r1, r2) := by first | (rw [hy141]; with_reducible exact H) | (have H2_ := (Option.bind_some _ _).symm.trans H; rw [hy141]; with_reducible exact H2_) | (have H2_ := (Option.bind_some _ _).symm.trans H; with_reducible exact H2_) | with_reducible exact H | (rw [hy141]; exact H) | exact H
                     have Ny141 := aM hy141; clear hy141
                     have H' := aM H
                     clear H; have p133 : 0 ≤ (x40_1 : Int) := dT; have q133 : x40_1 < (l3.length : Int) := dT; obtain ⟨ad133, e133, hx133_0, hx133_1, hx133_2⟩ := at_T54 HR3.out x40_1 p133 q133; cases e133
                     try replace hx133_0 := (HB.out.cell (World.block_lt_of_cell? w _ hx133_0)).trans hx133_0
                     try replace hx133_1 := (HB.out.cell (World.block_lt_of_cell? w _ hx133_1)).trans hx133_1
                     try replace hx133_2 := (HB.out.cell (World.block_lt_of_cell? w _ hx133_2)).trans hx133_2
                     replace p133 := eq_true p133; replace q133 := eq_true q133
                     try go_wp2_with (first | ((with_reducible refine gate_dst (N := 15) rfl ?_); refine box_event ?hg (N := 15) ?hd (cs := #[.int .i64 0, .int .i64 0, .int .i64 0]) (t := 54) ?hr ?_; (case hd => rfl); (case hg => rfl); (case hr => first | (go_simp; done) | (go_simp; rfl)); intro gb134 hg w55 hbox hb; have n0_ := aM (Kd.R_below (oR HO_13.out) hb); have n1_ := aM (kW BK125.out hb); have n2_ := aM (below_step (bB1 HB.out GE125.out) hb); have n3_ := aM (hbox); have n4_ := aM ((by rw [hg]; exact (below_size (bB1 HB.out GE125.out)) : w.heap.size ≤ gb134)); have n5_ := aM ((by rw [hg]; exact (below_size (bB1 HB.out GE125.out)) : w.heap.size ≤ gb134)); have n6_ := aM ((by rw [hg]; exact Nat.ne_of_lt (kL BK125.out) : gb125 ≠ gb134)); have n7_ := aM ((by rw [hg]; exact Nat.ne_of_gt (kL BK125.out) : gb134 ≠ gb125)); clear HO_13; clear BK125; clear HB; have HO_13 := n0_; have BK125 := n1_; have HB := n2_; have BK134 := n3_; have GW134 := n4_; have GE134 := n5_; have NB125_134 := n6_; have NB134_125 := n7_; clear n0_ n1_ n2_ n3_ n4_ n5_ n6_ n7_; clear hb hbox hg; have hnb56 := NB134_125.out; have hnc56 := NB125_134.out; have hcz57_0 : w55.cell? ⟨gb134, 0, none⟩ = some (.int .i64 0) := (blk_cell BK134.out 0).trans rfl; have hcz57_1 : w55.cell? ⟨gb134, 1, none⟩ = some (.int .i64 0) := (blk_cell BK134.out 1).trans rfl; have hcz57_2 : w55.cell? ⟨gb134, 2, none⟩ = some (.int .i64 0) := (blk_cell BK134.out 2).trans rfl; have hfz57_0 := blk_frozen BK134.out 0; have hfz57_1 := blk_frozen BK134.out 1; have hfz57_2 := blk_frozen BK134.out 2))
                     have n0_ : Aside0 (Kd.R (Kd.int .i64) 3 (((w55.setCell ⟨gb134, 0, none⟩ (.int .i64 ((rd_T54 l3 x40_1).f0))).setCell ⟨gb134, 1, none⟩ (.int .i64 ((rd_T54 l3 x40_1).f1))).setCell ⟨gb134, 2, none⟩ (.int .i64 ((rd_T54 l3 x40_1).f2))) w.heap.size (fun _ => True) v130 x13_1) := ⟨by refine oR ?_; exact Kd.R_mono (Kd.R_far (p := ⟨gb134, 2, none⟩) (Kd.R_far (p := ⟨gb134, 1, none⟩) (Kd.R_far (p := ⟨gb134, 0, none⟩) (Kd.R_types HO_13.out BK134.out (by decide)) (fun _ hk => hk.2) (.int .i64 ((rd_T54 l3 x40_1).f0))) (fun _ hk => hk.2) (.int .i64 ((rd_T54 l3 x40_1).f1))) (fun _ hk => hk.2) (.int .i64 ((rd_T54 l3 x40_1).f2))) (fun _ hk => trivial)⟩
                     have n1_ : Aside0 ((((w55.setCell ⟨gb134, 0, none⟩ (.int .i64 ((rd_T54 l3 x40_1).f0))).setCell ⟨gb134, 1, none⟩ (.int .i64 ((rd_T54 l3 x40_1).f1))).setCell ⟨gb134, 2, none⟩ (.int .i64 ((rd_T54 l3 x40_1).f2))).heap[gb125]? = some (.cells #[.string a1_0, .slice A1_1 l1_1.length c1_1, .slice A1_2 l1_2.length c1_2, .slice A1_3 l1_3.length c1_3, .slice A1_4 l1_4.length c1_4] 27 (0, 0))) := ⟨by refine kR ?_; refine blk_far ?_ NB125_134.out _; refine kR ?_; refine blk_far ?_ NB125_134.out _; refine kR ?_; refine blk_far ?_ NB125_134.out _; refine kR ?_; exact BK125.out⟩
                     have n2_ : Aside0 ((((w55.setCell ⟨gb134, 0, none⟩ (.int .i64 ((rd_T54 l3 x40_1).f0))).setCell ⟨gb134, 1, none⟩ (.int .i64 ((rd_T54 l3 x40_1).f1))).setCell ⟨gb134, 2, none⟩ (.int .i64 ((rd_T54 l3 x40_1).f2))).heap[gb134]? = some (.cells #[.int .i64 ((rd_T54 l3 x40_1).f0), .int .i64 ((rd_T54 l3 x40_1).f1), .int .i64 ((rd_T54 l3 x40_1).f2)] 54 (0, 0))) := ⟨by refine kR ?_; refine blk_put (cs := #[.int .i64 ((rd_T54 l3 x40_1).f0), .int .i64 ((rd_T54 l3 x40_1).f1), .int .i64 0]) ?_ 2 _ rfl; refine kR ?_; refine blk_put (cs := #[.int .i64 ((rd_T54 l3 x40_1).f0), .int .i64 0, .int .i64 0]) ?_ 1 _ rfl; refine kR ?_; refine blk_put (cs := #[.int .i64 0, .int .i64 0, .int .i64 0]) ?_ 0 _ rfl; refine kR ?_; exact BK134.out⟩
                     have n3_ : Aside0 (Below w.heap.size w (((w55.setCell ⟨gb134, 0, none⟩ (.int .i64 ((rd_T54 l3 x40_1).f0))).setCell ⟨gb134, 1, none⟩ (.int .i64 ((rd_T54 l3 x40_1).f1))).setCell ⟨gb134, 2, none⟩ (.int .i64 ((rd_T54 l3 x40_1).f2)))) := ⟨bB2 HB.out GE125.out GE134.out⟩
                     (try clear HO_13)
                     (try clear BK125)
                     (try clear BK134)
                     (try clear HB)
                     generalize (((w55.setCell ⟨gb134, 0, none⟩ (.int .i64 ((rd_T54 l3 x40_1).f0))).setCell ⟨gb134, 1, none⟩ (.int .i64 ((rd_T54 l3 x40_1).f1))).setCell ⟨gb134, 2, none⟩ (.int .i64 ((rd_T54 l3 x40_1).f2))) = w58 at n0_ n1_ n2_ n3_ ⊢
                     have HO_13 := n0_; have BK125 := n1_; have BK134 := n2_; have HB := n3_; clear n0_ n1_ n2_ n3_; have n0_ := aM (Kd.R_drew HO_13.out); have n1_ := aM (blk_drew BK125.out); have n2_ := aM (blk_drew BK134.out); have n3_ := aM (below_drew1 HB.out); clear HO_13; clear BK125; clear BK134; clear HB; have HO_13 := n0_; have BK125 := n1_; have BK134 := n2_; have HB := n3_; clear n0_ n1_ n2_ n3_; have p137 : 0 ≤ (a2 : Int) := dT; have q137 : a2 < (l0.length : Int) := dT; obtain ⟨ad137, A137_1, c137_1, e137, hx137_0, hx137_1, hl137_1, hi137_1⟩ := at_T51 HR0.out a2 p137 q137; have hw137_1 := hx137_1; have hw137_0 := hx137_0; obtain rfl : ad128 = ad137 := (by injection e137)
                     try (have hq_ := HS6_.symm.trans hx137_1; injection hq_ with hq_; injection hq_ with h1_ h2_ h3_; rw [h1_, h3_] at HS6_; (try clear hq_ h1_ h2_ h3_))
                     try (first | (have hq_ := (hHeld.1).symm.trans hx137_1; injection hq_ with hq_; injection hq_ with h1_ h2_ h3_; rw [h1_, h3_] at hHeld; (try clear hq_ h1_ h2_ h3_)) | (have hq_ := (hHeld).symm.trans hx137_1; injection hq_ with hq_; injection hq_ with h1_ h2_ h3_; rw [h1_, h3_] at hHeld; (try clear hq_ h1_ h2_ h3_)) | (have hq_ := (hHeld.2.1).symm.trans hx137_1; injection hq_ with hq_; injection hq_ with h1_ h2_ h3_; rw [h1_, h3_] at hHeld; (try clear hq_ h1_ h2_ h3_)) | (have hq_ := (hHeld.2).symm.trans hx137_1; injection hq_ with hq_; injection hq_ with h1_ h2_ h3_; rw [h1_, h3_] at hHeld; (try clear hq_ h1_ h2_ h3_)) | (have hq_ := (hHeld.2.2.1).symm.trans hx137_1; injection hq_ with hq_; injection hq_ with h1_ h2_ h3_; rw [h1_, h3_] at hHeld; (try clear hq_ h1_ h2_ h3_)) | (have hq_ := (hHeld.2.2).symm.trans hx137_1; injection hq_ with hq_; injection hq_ with h1_ h2_ h3_; rw [h1_, h3_] at hHeld; (try clear hq_ h1_ h2_ h3_)) | (have hq_ := (hHeld.2.2.2.1).symm.trans hx137_1; injection hq_ with hq_; injection hq_ with h1_ h2_ h3_; rw [h1_, h3_] at hHeld; (try clear hq_ h1_ h2_ h3_)) | (have hq_ := (hHeld.2.2.2).symm.trans hx137_1; injection hq_ with hq_; injection hq_ with h1_ h2_ h3_; rw [h1_, h3_] at hHeld; (try clear hq_ h1_ h2_ h3_)) | (have hq_ := (hHeld.2.2.2.2.1).symm.trans hx137_1; injection hq_ with hq_; injection hq_ with h1_ h2_ h3_; rw [h1_, h3_] at hHeld; (try clear hq_ h1_ h2_ h3_)) | (have hq_ := (hHeld.2.2.2.2).symm.trans hx137_1; injection hq_ with hq_; injection hq_ with h1_ h2_ h3_; rw [h1_, h3_] at hHeld; (try clear hq_ h1_ h2_ h3_)) | (have hq_ := (hHeld.2.2.2.2.2.1).symm.trans hx137_1; injection hq_ with hq_; injection hq_ with h1_ h2_ h3_; rw [h1_, h3_] at hHeld; (try clear hq_ h1_ h2_ h3_)) | (have hq_ := (hHeld.2.2.2.2.2).symm.trans hx137_1; injection hq_ with hq_; injection hq_ with h1_ h2_ h3_; rw [h1_, h3_] at hHeld; (try clear hq_ h1_ h2_ h3_)) | (have hq_ := (hHeld.2.2.2.2.2.2.1).symm.trans hx137_1; injection hq_ with hq_; injection hq_ with h1_ h2_ h3_; rw [h1_, h3_] at hHeld; (try clear hq_ h1_ h2_ h3_)) | (have hq_ := (hHeld.2.2.2.2.2.2).symm.trans hx137_1; injection hq_ with hq_; injection hq_ with h1_ h2_ h3_; rw [h1_, h3_] at hHeld; (try clear hq_ h1_ h2_ h3_)) | (have hq_ := (hHeld.2.2.2.2.2.2.2.1).symm.trans hx137_1; injection hq_ with hq_; injection hq_ with h1_ h2_ h3_; rw [h1_, h3_] at hHeld; (try clear hq_ h1_ h2_ h3_)) | (have hq_ := (hHeld.2.2.2.2.2.2.2).symm.trans hx137_1; injection hq_ with hq_; injection hq_ with h1_ h2_ h3_; rw [h1_, h3_] at hHeld; (try clear hq_ h1_ h2_ h3_)))
                     try replace hx137_0 := (HB.out.cell (World.block_lt_of_cell? w _ hx137_0)).trans hx137_0
                     try replace hx137_1 := (HB.out.cell (World.block_lt_of_cell? w _ hx137_1)).trans hx137_1
                     have HR137_1 := aM hi137_1; have HC137_1 := aM hl137_1; clear hi137_1 hl137_1; replace p137 := eq_true p137; replace q137 := eq_true q137; have p138 : 0 ≤ (((rd_T54 l3 x40_1).f2) : Int) := dT; have q138 : ((rd_T54 l3 x40_1).f2) < (l4.length : Int) := dT; obtain ⟨ad138, e138, hx138_0⟩ := Kd.at_int HR4.out ((rd_T54 l3 x40_1).f2) p138 q138; have hw138_0 := hx138_0; cases e138
                     try replace hx138_0 := (HB.out.cell (World.block_lt_of_cell? w _ hx138_0)).trans hx138_0
                     replace p138 := eq_true p138; replace q138 := eq_true q138; have p140 : 0 ≤ (t139 : Int) := dT; have q140 : t139 < (x13_1.length : Int) := dT
                     try (obtain ⟨Aoz140, coz140, eoz140⟩ := Kd.R_slice HO_13.out; subst eoz140)
                     obtain ⟨ad140, e140, hx140_0⟩ := Kd.at_int (Kd.R_reads' HO_13.out).2.2 t139 p140 q140; cases e140; replace p140 := eq_true p140; replace q140 := eq_true q140
                     refine start_ (n := 19) (S := fun w' => w'.cell? ⟨gb134, 0, none⟩ = some (.int .i64 ((rd_T54 l3 x40_1).f0)) ∧ w'.cell? ⟨gb134, 1, none⟩ = some (.int .i64 ((rd_T54 l3 x40_1).f1)) ∧ w'.cell? ⟨gb134, 2, none⟩ = some (.int .i64 ((rd_T54 l3 x40_1).f2)) ∧ w'.cell? (ad128.add ((a2).toNat * 2)) = some (.string ((rd_T51 l0 a2).f0)) ∧ w'.cell? ⟨(ad128.add ((a2).toNat * 2)).block, (ad128.add ((a2).toNat * 2)).off + 1, none⟩ = some (.slice A137_1 ((rd_T51 l0 a2).f1).length c137_1) ∧ w'.cell? (ad138.add (((rd_T54 l3 x40_1).f2)).toNat) = some (.int .i64 (rd l4 ((rd_T54 l3 x40_1).f2))) ∧ w'.cell? (ad140.add (t139).toNat) = some (.int .i64 (rd x13_1 t139))) (ds := [18]) #[false, false, false, false, false, false, false, false, false, false, false, false, false, false, false, false, false, false, false] (by kernel_rfl) rfl rfl ⟨(blk_cell BK134.out 0).trans rfl, (blk_cell BK134.out 1).trans rfl, (blk_cell BK134.out 2).trans rfl, ((HB.out.cell (World.block_lt_of_cell? w _ hw137_0)).trans hw137_0), ((HB.out.cell (World.block_lt_of_cell? w _ hw137_1)).trans hw137_1), ((HB.out.cell (World.block_lt_of_cell? w _ hw138_0)).trans hw138_0), hx140_0⟩ (fun hHeld => ?_); refine with_tabW binding_Eval.tab24 binding_Eval.bits24 (fun HT_ HW_ => ?_)
                     generalize w58.drew = w59 at HO_13 BK125 BK134 HB HR137_1 hx137_0 hx137_1 hx138_0 hx140_0 hHeld ⊢
                     refine pure_ (i := 0) (N := some 79) (v := ?_) (a' := ?_) #[true, false, false, false, false, false, false, false, false, false, false, false, false, false, false, false, false, false, false] rfl rfl (any_of HT_.out (by kernel_rfl)) (fun _ _ _ h => h) (Or.inl ⟨by rfl, ?_⟩) ?_ ?_; rotate_left; exact qT; rotate_left; exact pT
                     refine pure_ (i := 1) (N := some 80) (v := ?_) (a' := ?_) #[true, true, false, false, false, false, false, false, false, false, false, false, false, false, false, false, false, false, false] rfl rfl (any_of HT_.out (by kernel_rfl)) (fun _ _ _ h => h) (Or.inl ⟨by rfl, ?_⟩) ?_ ?_; rotate_left; exact qT; rotate_left; exact pT
                     refine pure_ (i := 2) (N := some 81) (v := ?_) (a' := ?_) #[true, true, true, false, false, false, false, false, false, false, false, false, false, false, false, false, false, false, false] rfl rfl (any_of HT_.out (by kernel_rfl)) (fun _ _ _ h => h) (Or.inl ⟨by rfl, ?_⟩) ?_ ?_; rotate_left; exact qT; rotate_left; exact pT
                     refine pure_ (i := 3) (N := some 82) (v := ?_) (a' := ?_) #[true, true, true, true, false, false, false, false, false, false, false, false, false, false, false, false, false, false, false] rfl rfl (any_of HT_.out (by kernel_rfl)) (fun _ _ _ h => h) (Or.inl ⟨by rfl, ?_⟩) ?_ ?_; rotate_left; exact qT; rotate_left; exact pT
                     refine pure_ (i := 5) (N := some 84) (v := ?_) (a' := ?_) #[true, true, true, true, false, true, false, false, false, false, false, false, false, false, false, false, false, false, false] rfl rfl (any_of HT_.out (by kernel_rfl)) (fun _ _ _ h => h) (Or.inl ⟨by rfl, ?_⟩) ?_ ?_; rotate_left; exact qT; rotate_left; exact pT
                     refine pure_ (i := 6) (N := some 85) (v := ?_) (a' := ?_) #[true, true, true, true, false, true, true, false, false, false, false, false, false, false, false, false, false, false, false] rfl rfl (any_of HT_.out (by kernel_rfl)) (fun _ _ _ h => h) (Or.inl ⟨by rfl, ?_⟩) ?_ ?_; rotate_left; exact qT; rotate_left; exact pT
                     refine pure_ (i := 10) (N := some 89) (v := ?_) (a' := ?_) #[true, true, true, true, false, true, true, false, false, false, true, false, false, false, false, false, false, false, false] rfl rfl (any_of HT_.out (by kernel_rfl)) (fun _ _ _ h => h) (Or.inl ⟨by rfl, ?_⟩) ?_ ?_; rotate_left; exact qT; rotate_left; exact pT
                     refine pure_ (i := 14) (N := some 93) (v := ?_) (a' := ?_) #[true, true, true, true, false, true, true, false, false, false, true, false, false, false, true, false, false, false, false] rfl rfl (any_of HT_.out (by kernel_rfl)) (fun _ _ _ h => h) (Or.inl ⟨by rfl, ?_⟩) ?_ ?_; rotate_left; exact qT; rotate_left; exact pT
                     refine take_ (i := 4) (N := some 83) (v := ?_) (a' := ?_) #[true, true, true, true, true, true, true, false, false, false, true, false, false, false, true, false, false, false, false] rfl rfl (take_ofW HT_.out HW_.out (by kernel_rfl)) (fun _ _ _ h => h) (Or.inl ⟨by rfl, ?_⟩) hHeld ?_ ?_; rotate_left; rintro w' ⟨s0, s1, s2, s3, s4, s5, s6⟩; go_simp; with_reducible rfl; rotate_left; exact pT
                     refine take_ (i := 7) (N := some 86) (v := ?_) (a' := ?_) #[true, true, true, true, true, true, true, true, false, false, true, false, false, false, true, false, false, false, false] rfl rfl (take_ofW HT_.out HW_.out (by kernel_rfl)) (fun _ _ _ h => h) (Or.inl ⟨by rfl, ?_⟩) hHeld ?_ ?_; rotate_left; rintro w' ⟨s0, s1, s2, s3, s4, s5, s6⟩; go_simp; with_reducible rfl; rotate_left; exact pT
                     refine pure_ (i := 8) (N := some 87) (v := ?_) (a' := ?_) #[true, true, true, true, true, true, true, true, true, false, true, false, false, false, true, false, false, false, false] rfl rfl (any_of HT_.out (by kernel_rfl)) (fun _ _ _ h => h) (Or.inl ⟨by rfl, ?_⟩) ?_ ?_; rotate_left; exact qT; rotate_left; exact pT
                     refine take_ (i := 9) (N := some 88) (v := ?_) (a' := ?_) #[true, true, true, true, true, true, true, true, true, true, true, false, false, false, true, false, false, false, false] rfl rfl (take_ofW HT_.out HW_.out (by kernel_rfl)) (fun _ _ _ h => h) (Or.inl ⟨by rfl, ?_⟩) hHeld ?_ ?_; rotate_left; rintro w' ⟨s0, s1, s2, s3, s4, s5, s6⟩; go_simp; with_reducible rfl; rotate_left; exact pT
                     refine take_ (i := 15) (N := some 94) (v := ?_) (a' := ?_) #[true, true, true, true, true, true, true, true, true, true, true, false, false, false, true, true, false, false, false] rfl rfl (take_ofW HT_.out HW_.out (by kernel_rfl)) (fun _ _ _ h => h) (Or.inl ⟨by rfl, ?_⟩) hHeld ?_ ?_; rotate_left; rintro w' ⟨s0, s1, s2, s3, s4, s5, s6⟩; go_simp; with_reducible rfl; rotate_left; exact pT
                     refine one_ (i := 11) (N := some 90) #[true, true, true, true, true, true, true, true, true, true, true, true, false, false, true, true, false, false, false] rfl rfl (one_of HT_.out (by kernel_rfl)) (by decide) (fun K hK => ?_)
                     refine goes_ Try.func38 (by kernel_rfl) rfl #[.agg #[.string ((rd_T51 l0 a2).f0), .slice A137_1 ((rd_T51 l0 a2).f1).length c137_1], .int .i64 (rd l4 ((rd_T54 l3 x40_1).f2)), .int .i64 (2 - 1)] (by rfl) rfl rfl mT ?_
                     with_reducible refine (colorset_Shift.calls ((rd_T51 l0 a2).f0) _ _ ((rd_T51 l0 a2).f1) (rd l4 ((rd_T54 l3 x40_1).f2)) (2 - 1) t139 _ ?side1 ?side2 A51.out).mono ?_
                     (case side1 => exact cB HR137_1.out HB.out)
                     (case side2 => exact HC137_1.out)
                     rintro e w60 ⟨rfl, hb⟩
                     have HS6_ := (hb.cell (World.block_lt_of_cell? _ _ (hHeld.2.2.2.2.2.2))).trans (hHeld.2.2.2.2.2.2)
                     refine ⟨_, rfl, ?_⟩
                     have n0_ := aM (Kd.R_below (oR HO_13.out) hb); have n1_ := aM (kW BK125.out hb); have n2_ := aM (kW BK134.out hb); have n3_ := aM (below_step (bB2 HB.out GE125.out GE134.out) hb); clear HO_13; clear BK125; clear BK134; clear HB; have HO_13 := n0_; have BK125 := n1_; have BK134 := n2_; have HB := n3_; clear n0_ n1_ n2_ n3_
                     (try clear hb)
                     (try clear hb2)
                     (try clear hk)
                     (try clear hi)
                     obtain ⟨Ao61, co61, eo61⟩ := Kd.R_slice HO_13.out
                     (first | subst eo61 | (injection eo61 with f1_ f2_ f3_; have f4_ := f1_.symm; have f5_ := f3_.symm; clear f1_ f2_ f3_; subst f4_; subst f5_))
                     have p54 : 0 ≤ (t139 : Int) := dT; have q54 : (t139 : Int) < ((x13_1.length : Int) : Int) := dT; obtain ⟨go54, co54, eo54, gb54, gl54, cl54, HG54⟩ := Kd.R_form HO_13.out (by omega)
                     (first | cases eo54 | (injection eo54 with ea_ en_ ec_; (first | subst ea_ | (injection ea_ with ea_; subst ea_)); subst ec_; clear en_))
                     have GB54 := aM gb54; have GG54 := aM HG54; clear gb54 gl54 HG54
                     (first | simp only [add_plain] at hx140_0 | skip)
                     obtain ⟨hx54_0, hf54_0⟩ := Kd.R_celln 0 HO_13.out (t139 : Int) p54 q54; replace p54 := eq_true p54; replace q54 := eq_true q54; have HP62 := Kd.R_putn HO_13.out (t139 : Int) (wrap64 ((rd x13_1 t139) + ((rd_T54 l3 x40_1).f0))); rw [← Ny141.out] at HP62; have HQ62 := aM HP62; clear HP62
                     refine hK.out _ _ ⟨(blk_cell BK134.out 0).trans rfl, (blk_cell BK134.out 1).trans rfl, (blk_cell BK134.out 2).trans rfl, ((HB.out.cell (World.block_lt_of_cell? w _ hw137_0)).trans hw137_0), ((HB.out.cell (World.block_lt_of_cell? w _ hw137_1)).trans hw137_1), ((HB.out.cell (World.block_lt_of_cell? w _ hw138_0)).trans hw138_0), HS6_⟩ (fun hHeld => ?_)
                     clear hK K
                     refine norm_ (a' := ?_) ?_ ?_
                     rotate_left
                     ·show Act.put _ (some 90) _ = _
                      simp only [Act.put, List.setIfInBounds_toArray, List.set_cons_zero, List.set_cons_succ, i64_w, i32_w]
                      rfl
                     refine pure_ (i := 12) (N := some 91) (v := ?_) (a' := ?_) #[true, true, true, true, true, true, true, true, true, true, true, true, true, false, true, true, false, false, false] rfl rfl (any_of HT_.out (by kernel_rfl)) (fun _ _ _ h => h) (Or.inl ⟨by rfl, ?_⟩) ?_ ?_; rotate_left; exact qT; rotate_left; exact pT
                     refine take_ (i := 13) (N := some 92) (v := ?_) (a' := ?_) #[true, true, true, true, true, true, true, true, true, true, true, true, true, true, true, true, false, false, false] rfl rfl (take_ofW HT_.out HW_.out (by kernel_rfl)) (fun _ _ _ h => h) (Or.inl ⟨by rfl, ?_⟩) hHeld ?_ ?_
                     rotate_left
                     ·rintro w' ⟨s0, s1, s2, s3, s4, s5, s6⟩
                      (try simp only [add_plain] at s0 s1 s2 s3 s4 s5 s6)
                      go_simp
                      with_reducible rfl
                     rotate_left
                     ·simp only [Act.put, List.setIfInBounds_toArray, List.set_cons_zero, List.set_cons_succ, i64_w, i32_w]
                      rfl
                     refine pure_ (i := 16) (N := some 95) (v := ?_) (a' := ?_) #[true, true, true, true, true, true, true, true, true, true, true, true, true, true, true, true, true, false, false] rfl rfl (any_of HT_.out (by kernel_rfl)) (fun _ _ _ h => h) (Or.inl ⟨by rfl, ?_⟩) ?_ ?_; rotate_left; exact qT; rotate_left; exact pT
                     refine pure_ (i := 17) (N := some 96) (v := ?_) (a' := ?_) #[true, true, true, true, true, true, true, true, true, true, true, true, true, true, true, true, true, true, false] rfl rfl (any_of HT_.out (by kernel_rfl)) (fun _ _ _ h => h) (Or.inl ⟨by rfl, ?_⟩) ?_ ?_; rotate_left; exact qT; rotate_left; exact pT
                     refine last_ (i := 18) (N := none) #[true, true, true, true, true, true, true, true, true, true, true, true, true, true, true, true, true, true, true] rfl rfl (one_of HT_.out (by kernel_rfl)) (by decide) (fun K hK => ?_)
                     refine skip_ (w1 := ?_) (by rfl) rfl ?_ ?_
                     rotate_left
                     ·go_simp
                      rfl
                     refine hK.out _ _ ?_
                     clear hK K
                     refine done_ (done_of HT_.out (by kernel_rfl)) ?_
                     try go_wp2
                     go_roundg k1
                     case measure => have := HK1.out; omega
                     case rel => exact ⟨(y141), (wrap64 (x40_1 + 1)), eT, H', ⟨by have := HK1.out; omega⟩, ⟨oR HQ62.out⟩, ⟨by refine kR ?_; refine blk_far ?_ (by have h_ := Kd.R_ne HO_13.out BK125.out (by decide); intro e_; exact h_ (by rw [e_]; rfl)) _; refine kR ?_; exact BK125.out⟩, ⟨by repeat (first | (with_reducible first | exact HB.out | apply below_alloc | apply pw_below_drewN | apply below_drew1 | refine below_set ?_ GB54.out | refine below_set ?_ GE125.out | refine below_set ?_ GE134.out) | exact HB.out)⟩⟩
                    ·rw [if_neg c53] at H
                     exact absurd H (by simp)
                   ·rw [if_neg c52] at H
                    exact absurd H (by simp)
                  ·rw [if_neg c50] at H
                   exact absurd H (by simp)
                 ·rw [if_neg c49] at H
                  exact absurd H (by simp)
                ·rw [if_neg c48] at H
                 exact absurd H (by simp)
               ·rw [if_neg c47] at H
                exact absurd H (by simp)
              ·rw [if_neg c46] at H
               have c46b0 : (((rd_T54 l3 x40_1).f1) == 3) = false := beq_eq_false_iff_ne.mpr c46; have c46b1 : (((rd_T54 l3 x40_1).f1) != 3) = true := bne_iff_ne.mpr c46
               by_cases c63 : ((rd_T54 l3 x40_1).f1) = 4
               ·rw [if_pos c63] at H
                have c63b0 : (((rd_T54 l3 x40_1).f1) == 4) = true := beq_iff_eq.mpr c63; have c63b1 : (((rd_T54 l3 x40_1).f1) != 4) = false := bne_eq_false_iff_eq.mpr c63; clear c63
                by_cases c64 : 0 ≤ a2
                ·rw [if_pos c64] at H
                 have c64b0 : decide (0 ≤ a2) = true := decide_eq_true c64; clear c64
                 by_cases c65 : a2 < (l0.length : Int)
                 ·rw [if_pos c65] at H
                  have c65b0 : decide (a2 < (l0.length : Int)) = true := decide_eq_true c65; clear c65
                  by_cases c66 : 0 ≤ ((rd_T54 l3 x40_1).f2)
                  ·rw [if_pos c66] at H
                   have c66b0 : decide (0 ≤ ((rd_T54 l3 x40_1).f2)) = true := decide_eq_true c66; clear c66
                   by_cases c67 : ((rd_T54 l3 x40_1).f2) < (l4.length : Int)
                   ·rw [if_pos c67] at H
                    have c67b0 : decide (((rd_T54 l3 x40_1).f2) < (l4.length : Int)) = true := decide_eq_true c67; clear c67; replace H := Option.bind_eq_some_iff.mp H; obtain ⟨t144, A680, H⟩ := H
                    replace H : (if 0 ≤ t144 then (if t144 < (x13_1.length : Int) then (binding_Eval.l0 k1 l0 a2 l4 (x13_1.set (t144 : Int).toNat (wrap64 ((rd x13_1 t144) + ((rd_T54 l3 x40_1).f0)))) l3 (l3.length : Int) (wrap64 (x40_1 + 1))) else (none)) else (none)) = some (r1, r2) := H
                    have A68 := aM A680; clear A680
                    by_cases c69 : 0 ≤ t144
                    ·rw [if_pos c69] at H
                     have c69b0 : decide (0 ≤ t144) = true := decide_eq_true c69; clear c69
                     by_cases c70 : t144 < (x13_1.length : Int)
                     ·rw [if_pos c70] at H
                      have c70b0 : decide (t144 < (x13_1.length : Int)) = true := decide_eq_true c70
                      try have c70b9 := c70b0
                      try rw [hl13_2] at c70b9
                      clear c70
                      obtain ⟨y146, hy146⟩ : ∃ y_ : List Int, y_ = (x13_1.set (t144 : Int).toNat (wrap64 ((rd x13_1 t144) + ((rd_T54 l3 x40_1).f0)))) := ⟨_, rfl⟩
                      replace H : (binding_Eval.l0 k1 l0 a2 l4 y146 l3 (l3.length : Int) (wrap64 (x40_1 + 1))) = some (r1, r2) := by first | (rw [hy146]; with_reducible exact H) | (have H2_ := (Option.bind_some _ _).symm.trans H; rw [hy146]; with_reducible exact H2_) | (have H2_ := (Option.bind_some _ _).symm.trans H; with_reducible exact H2_) | with_reducible exact H | (rw [hy146]; exact H) | exact H
                      have Ny146 := aM hy146; clear hy146
                      have H' := aM H
                      clear H; have p133 : 0 ≤ (x40_1 : Int) := dT; have q133 : x40_1 < (l3.length : Int) := dT; obtain ⟨ad133, e133, hx133_0, hx133_1, hx133_2⟩ := at_T54 HR3.out x40_1 p133 q133; cases e133
                      try replace hx133_0 := (HB.out.cell (World.block_lt_of_cell? w _ hx133_0)).trans hx133_0
                      try replace hx133_1 := (HB.out.cell (World.block_lt_of_cell? w _ hx133_1)).trans hx133_1
                      try replace hx133_2 := (HB.out.cell (World.block_lt_of_cell? w _ hx133_2)).trans hx133_2
                      replace p133 := eq_true p133; replace q133 := eq_true q133
                      try go_wp2_with (first | ((with_reducible refine gate_dst (N := 15) rfl ?_); refine box_event ?hg (N := 15) ?hd (cs := #[.int .i64 0, .int .i64 0, .int .i64 0]) (t := 54) ?hr ?_; (case hd => rfl); (case hg => rfl); (case hr => first | (go_simp; done) | (go_simp; rfl)); intro gb134 hg w72 hbox hb; have n0_ := aM (Kd.R_below (oR HO_13.out) hb); have n1_ := aM (kW BK125.out hb); have n2_ := aM (below_step (bB1 HB.out GE125.out) hb); have n3_ := aM (hbox); have n4_ := aM ((by rw [hg]; exact (below_size (bB1 HB.out GE125.out)) : w.heap.size ≤ gb134)); have n5_ := aM ((by rw [hg]; exact (below_size (bB1 HB.out GE125.out)) : w.heap.size ≤ gb134)); have n6_ := aM ((by rw [hg]; exact Nat.ne_of_lt (kL BK125.out) : gb125 ≠ gb134)); have n7_ := aM ((by rw [hg]; exact Nat.ne_of_gt (kL BK125.out) : gb134 ≠ gb125)); clear HO_13; clear BK125; clear HB; have HO_13 := n0_; have BK125 := n1_; have HB := n2_; have BK134 := n3_; have GW134 := n4_; have GE134 := n5_; have NB125_134 := n6_; have NB134_125 := n7_; clear n0_ n1_ n2_ n3_ n4_ n5_ n6_ n7_; clear hb hbox hg; have hnb73 := NB134_125.out; have hnc73 := NB125_134.out; have hcz74_0 : w72.cell? ⟨gb134, 0, none⟩ = some (.int .i64 0) := (blk_cell BK134.out 0).trans rfl; have hcz74_1 : w72.cell? ⟨gb134, 1, none⟩ = some (.int .i64 0) := (blk_cell BK134.out 1).trans rfl; have hcz74_2 : w72.cell? ⟨gb134, 2, none⟩ = some (.int .i64 0) := (blk_cell BK134.out 2).trans rfl; have hfz74_0 := blk_frozen BK134.out 0; have hfz74_1 := blk_frozen BK134.out 1; have hfz74_2 := blk_frozen BK134.out 2))
                      have n0_ : Aside0 (Kd.R (Kd.int .i64) 3 (((w72.setCell ⟨gb134, 0, none⟩ (.int .i64 ((rd_T54 l3 x40_1).f0))).setCell ⟨gb134, 1, none⟩ (.int .i64 ((rd_T54 l3 x40_1).f1))).setCell ⟨gb134, 2, none⟩ (.int .i64 ((rd_T54 l3 x40_1).f2))) w.heap.size (fun _ => True) v130 x13_1) := ⟨by refine oR ?_; exact Kd.R_mono (Kd.R_far (p := ⟨gb134, 2, none⟩) (Kd.R_far (p := ⟨gb134, 1, none⟩) (Kd.R_far (p := ⟨gb134, 0, none⟩) (Kd.R_types HO_13.out BK134.out (by decide)) (fun _ hk => hk.2) (.int .i64 ((rd_T54 l3 x40_1).f0))) (fun _ hk => hk.2) (.int .i64 ((rd_T54 l3 x40_1).f1))) (fun _ hk => hk.2) (.int .i64 ((rd_T54 l3 x40_1).f2))) (fun _ hk => trivial)⟩
                      have n1_ : Aside0 ((((w72.setCell ⟨gb134, 0, none⟩ (.int .i64 ((rd_T54 l3 x40_1).f0))).setCell ⟨gb134, 1, none⟩ (.int .i64 ((rd_T54 l3 x40_1).f1))).setCell ⟨gb134, 2, none⟩ (.int .i64 ((rd_T54 l3 x40_1).f2))).heap[gb125]? = some (.cells #[.string a1_0, .slice A1_1 l1_1.length c1_1, .slice A1_2 l1_2.length c1_2, .slice A1_3 l1_3.length c1_3, .slice A1_4 l1_4.length c1_4] 27 (0, 0))) := ⟨by refine kR ?_; refine blk_far ?_ NB125_134.out _; refine kR ?_; refine blk_far ?_ NB125_134.out _; refine kR ?_; refine blk_far ?_ NB125_134.out _; refine kR ?_; exact BK125.out⟩
                      have n2_ : Aside0 ((((w72.setCell ⟨gb134, 0, none⟩ (.int .i64 ((rd_T54 l3 x40_1).f0))).setCell ⟨gb134, 1, none⟩ (.int .i64 ((rd_T54 l3 x40_1).f1))).setCell ⟨gb134, 2, none⟩ (.int .i64 ((rd_T54 l3 x40_1).f2))).heap[gb134]? = some (.cells #[.int .i64 ((rd_T54 l3 x40_1).f0), .int .i64 ((rd_T54 l3 x40_1).f1), .int .i64 ((rd_T54 l3 x40_1).f2)] 54 (0, 0))) := ⟨by refine kR ?_; refine blk_put (cs := #[.int .i64 ((rd_T54 l3 x40_1).f0), .int .i64 ((rd_T54 l3 x40_1).f1), .int .i64 0]) ?_ 2 _ rfl; refine kR ?_; refine blk_put (cs := #[.int .i64 ((rd_T54 l3 x40_1).f0), .int .i64 0, .int .i64 0]) ?_ 1 _ rfl; refine kR ?_; refine blk_put (cs := #[.int .i64 0, .int .i64 0, .int .i64 0]) ?_ 0 _ rfl; refine kR ?_; exact BK134.out⟩
                      have n3_ : Aside0 (Below w.heap.size w (((w72.setCell ⟨gb134, 0, none⟩ (.int .i64 ((rd_T54 l3 x40_1).f0))).setCell ⟨gb134, 1, none⟩ (.int .i64 ((rd_T54 l3 x40_1).f1))).setCell ⟨gb134, 2, none⟩ (.int .i64 ((rd_T54 l3 x40_1).f2)))) := ⟨bB2 HB.out GE125.out GE134.out⟩
                      (try clear HO_13)
                      (try clear BK125)
                      (try clear BK134)
                      (try clear HB)
                      generalize (((w72.setCell ⟨gb134, 0, none⟩ (.int .i64 ((rd_T54 l3 x40_1).f0))).setCell ⟨gb134, 1, none⟩ (.int .i64 ((rd_T54 l3 x40_1).f1))).setCell ⟨gb134, 2, none⟩ (.int .i64 ((rd_T54 l3 x40_1).f2))) = w75 at n0_ n1_ n2_ n3_ ⊢
                      have HO_13 := n0_; have BK125 := n1_; have BK134 := n2_; have HB := n3_; clear n0_ n1_ n2_ n3_; have n0_ := aM (Kd.R_drew HO_13.out); have n1_ := aM (blk_drew BK125.out); have n2_ := aM (blk_drew BK134.out); have n3_ := aM (below_drew1 HB.out); clear HO_13; clear BK125; clear BK134; clear HB; have HO_13 := n0_; have BK125 := n1_; have BK134 := n2_; have HB := n3_; clear n0_ n1_ n2_ n3_; have p142 : 0 ≤ (a2 : Int) := dT; have q142 : a2 < (l0.length : Int) := dT; obtain ⟨ad142, A142_1, c142_1, e142, hx142_0, hx142_1, hl142_1, hi142_1⟩ := at_T51 HR0.out a2 p142 q142; have hw142_1 := hx142_1; have hw142_0 := hx142_0; obtain rfl : ad128 = ad142 := (by injection e142)
                      try (have hq_ := HS6_.symm.trans hx142_1; injection hq_ with hq_; injection hq_ with h1_ h2_ h3_; rw [h1_, h3_] at HS6_; (try clear hq_ h1_ h2_ h3_))
                      try (first | (have hq_ := (hHeld.1).symm.trans hx142_1; injection hq_ with hq_; injection hq_ with h1_ h2_ h3_; rw [h1_, h3_] at hHeld; (try clear hq_ h1_ h2_ h3_)) | (have hq_ := (hHeld).symm.trans hx142_1; injection hq_ with hq_; injection hq_ with h1_ h2_ h3_; rw [h1_, h3_] at hHeld; (try clear hq_ h1_ h2_ h3_)) | (have hq_ := (hHeld.2.1).symm.trans hx142_1; injection hq_ with hq_; injection hq_ with h1_ h2_ h3_; rw [h1_, h3_] at hHeld; (try clear hq_ h1_ h2_ h3_)) | (have hq_ := (hHeld.2).symm.trans hx142_1; injection hq_ with hq_; injection hq_ with h1_ h2_ h3_; rw [h1_, h3_] at hHeld; (try clear hq_ h1_ h2_ h3_)) | (have hq_ := (hHeld.2.2.1).symm.trans hx142_1; injection hq_ with hq_; injection hq_ with h1_ h2_ h3_; rw [h1_, h3_] at hHeld; (try clear hq_ h1_ h2_ h3_)) | (have hq_ := (hHeld.2.2).symm.trans hx142_1; injection hq_ with hq_; injection hq_ with h1_ h2_ h3_; rw [h1_, h3_] at hHeld; (try clear hq_ h1_ h2_ h3_)) | (have hq_ := (hHeld.2.2.2.1).symm.trans hx142_1; injection hq_ with hq_; injection hq_ with h1_ h2_ h3_; rw [h1_, h3_] at hHeld; (try clear hq_ h1_ h2_ h3_)) | (have hq_ := (hHeld.2.2.2).symm.trans hx142_1; injection hq_ with hq_; injection hq_ with h1_ h2_ h3_; rw [h1_, h3_] at hHeld; (try clear hq_ h1_ h2_ h3_)) | (have hq_ := (hHeld.2.2.2.2.1).symm.trans hx142_1; injection hq_ with hq_; injection hq_ with h1_ h2_ h3_; rw [h1_, h3_] at hHeld; (try clear hq_ h1_ h2_ h3_)) | (have hq_ := (hHeld.2.2.2.2).symm.trans hx142_1; injection hq_ with hq_; injection hq_ with h1_ h2_ h3_; rw [h1_, h3_] at hHeld; (try clear hq_ h1_ h2_ h3_)) | (have hq_ := (hHeld.2.2.2.2.2.1).symm.trans hx142_1; injection hq_ with hq_; injection hq_ with h1_ h2_ h3_; rw [h1_, h3_] at hHeld; (try clear hq_ h1_ h2_ h3_)) | (have hq_ := (hHeld.2.2.2.2.2).symm.trans hx142_1; injection hq_ with hq_; injection hq_ with h1_ h2_ h3_; rw [h1_, h3_] at hHeld; (try clear hq_ h1_ h2_ h3_)) | (have hq_ := (hHeld.2.2.2.2.2.2.1).symm.trans hx142_1; injection hq_ with hq_; injection hq_ with h1_ h2_ h3_; rw [h1_, h3_] at hHeld; (try clear hq_ h1_ h2_ h3_)) | (have hq_ := (hHeld.2.2.2.2.2.2).symm.trans hx142_1; injection hq_ with hq_; injection hq_ with h1_ h2_ h3_; rw [h1_, h3_] at hHeld; (try clear hq_ h1_ h2_ h3_)) | (have hq_ := (hHeld.2.2.2.2.2.2.2.1).symm.trans hx142_1; injection hq_ with hq_; injection hq_ with h1_ h2_ h3_; rw [h1_, h3_] at hHeld; (try clear hq_ h1_ h2_ h3_)) | (have hq_ := (hHeld.2.2.2.2.2.2.2).symm.trans hx142_1; injection hq_ with hq_; injection hq_ with h1_ h2_ h3_; rw [h1_, h3_] at hHeld; (try clear hq_ h1_ h2_ h3_)))
                      try replace hx142_0 := (HB.out.cell (World.block_lt_of_cell? w _ hx142_0)).trans hx142_0
                      try replace hx142_1 := (HB.out.cell (World.block_lt_of_cell? w _ hx142_1)).trans hx142_1
                      have HR142_1 := aM hi142_1; have HC142_1 := aM hl142_1; clear hi142_1 hl142_1; replace p142 := eq_true p142; replace q142 := eq_true q142; have p143 : 0 ≤ (((rd_T54 l3 x40_1).f2) : Int) := dT; have q143 : ((rd_T54 l3 x40_1).f2) < (l4.length : Int) := dT; obtain ⟨ad143, e143, hx143_0⟩ := Kd.at_int HR4.out ((rd_T54 l3 x40_1).f2) p143 q143; have hw143_0 := hx143_0; cases e143
                      try replace hx143_0 := (HB.out.cell (World.block_lt_of_cell? w _ hx143_0)).trans hx143_0
                      replace p143 := eq_true p143; replace q143 := eq_true q143; have p145 : 0 ≤ (t144 : Int) := dT; have q145 : t144 < (x13_1.length : Int) := dT
                      try (obtain ⟨Aoz145, coz145, eoz145⟩ := Kd.R_slice HO_13.out; subst eoz145)
                      obtain ⟨ad145, e145, hx145_0⟩ := Kd.at_int (Kd.R_reads' HO_13.out).2.2 t144 p145 q145; cases e145; replace p145 := eq_true p145; replace q145 := eq_true q145
                      refine start_ (n := 19) (S := fun w' => w'.cell? ⟨gb134, 0, none⟩ = some (.int .i64 ((rd_T54 l3 x40_1).f0)) ∧ w'.cell? ⟨gb134, 1, none⟩ = some (.int .i64 ((rd_T54 l3 x40_1).f1)) ∧ w'.cell? ⟨gb134, 2, none⟩ = some (.int .i64 ((rd_T54 l3 x40_1).f2)) ∧ w'.cell? (ad128.add ((a2).toNat * 2)) = some (.string ((rd_T51 l0 a2).f0)) ∧ w'.cell? ⟨(ad128.add ((a2).toNat * 2)).block, (ad128.add ((a2).toNat * 2)).off + 1, none⟩ = some (.slice A142_1 ((rd_T51 l0 a2).f1).length c142_1) ∧ w'.cell? (ad143.add (((rd_T54 l3 x40_1).f2)).toNat) = some (.int .i64 (rd l4 ((rd_T54 l3 x40_1).f2))) ∧ w'.cell? (ad145.add (t144).toNat) = some (.int .i64 (rd x13_1 t144))) (ds := [18]) #[false, false, false, false, false, false, false, false, false, false, false, false, false, false, false, false, false, false, false] (by kernel_rfl) rfl rfl ⟨(blk_cell BK134.out 0).trans rfl, (blk_cell BK134.out 1).trans rfl, (blk_cell BK134.out 2).trans rfl, ((HB.out.cell (World.block_lt_of_cell? w _ hw142_0)).trans hw142_0), ((HB.out.cell (World.block_lt_of_cell? w _ hw142_1)).trans hw142_1), ((HB.out.cell (World.block_lt_of_cell? w _ hw143_0)).trans hw143_0), hx145_0⟩ (fun hHeld => ?_); refine with_tabW binding_Eval.tab24 binding_Eval.bits24 (fun HT_ HW_ => ?_)
                      generalize w75.drew = w76 at HO_13 BK125 BK134 HB HR142_1 hx142_0 hx142_1 hx143_0 hx145_0 hHeld ⊢
                      refine pure_ (i := 0) (N := some 79) (v := ?_) (a' := ?_) #[true, false, false, false, false, false, false, false, false, false, false, false, false, false, false, false, false, false, false] rfl rfl (any_of HT_.out (by kernel_rfl)) (fun _ _ _ h => h) (Or.inl ⟨by rfl, ?_⟩) ?_ ?_; rotate_left; exact qT; rotate_left; exact pT
                      refine pure_ (i := 1) (N := some 80) (v := ?_) (a' := ?_) #[true, true, false, false, false, false, false, false, false, false, false, false, false, false, false, false, false, false, false] rfl rfl (any_of HT_.out (by kernel_rfl)) (fun _ _ _ h => h) (Or.inl ⟨by rfl, ?_⟩) ?_ ?_; rotate_left; exact qT; rotate_left; exact pT
                      refine pure_ (i := 2) (N := some 81) (v := ?_) (a' := ?_) #[true, true, true, false, false, false, false, false, false, false, false, false, false, false, false, false, false, false, false] rfl rfl (any_of HT_.out (by kernel_rfl)) (fun _ _ _ h => h) (Or.inl ⟨by rfl, ?_⟩) ?_ ?_; rotate_left; exact qT; rotate_left; exact pT
                      refine pure_ (i := 3) (N := some 82) (v := ?_) (a' := ?_) #[true, true, true, true, false, false, false, false, false, false, false, false, false, false, false, false, false, false, false] rfl rfl (any_of HT_.out (by kernel_rfl)) (fun _ _ _ h => h) (Or.inl ⟨by rfl, ?_⟩) ?_ ?_; rotate_left; exact qT; rotate_left; exact pT
                      refine pure_ (i := 5) (N := some 84) (v := ?_) (a' := ?_) #[true, true, true, true, false, true, false, false, false, false, false, false, false, false, false, false, false, false, false] rfl rfl (any_of HT_.out (by kernel_rfl)) (fun _ _ _ h => h) (Or.inl ⟨by rfl, ?_⟩) ?_ ?_; rotate_left; exact qT; rotate_left; exact pT
                      refine pure_ (i := 6) (N := some 85) (v := ?_) (a' := ?_) #[true, true, true, true, false, true, true, false, false, false, false, false, false, false, false, false, false, false, false] rfl rfl (any_of HT_.out (by kernel_rfl)) (fun _ _ _ h => h) (Or.inl ⟨by rfl, ?_⟩) ?_ ?_; rotate_left; exact qT; rotate_left; exact pT
                      refine pure_ (i := 10) (N := some 89) (v := ?_) (a' := ?_) #[true, true, true, true, false, true, true, false, false, false, true, false, false, false, false, false, false, false, false] rfl rfl (any_of HT_.out (by kernel_rfl)) (fun _ _ _ h => h) (Or.inl ⟨by rfl, ?_⟩) ?_ ?_; rotate_left; exact qT; rotate_left; exact pT
                      refine pure_ (i := 14) (N := some 93) (v := ?_) (a' := ?_) #[true, true, true, true, false, true, true, false, false, false, true, false, false, false, true, false, false, false, false] rfl rfl (any_of HT_.out (by kernel_rfl)) (fun _ _ _ h => h) (Or.inl ⟨by rfl, ?_⟩) ?_ ?_; rotate_left; exact qT; rotate_left; exact pT
                      refine take_ (i := 4) (N := some 83) (v := ?_) (a' := ?_) #[true, true, true, true, true, true, true, false, false, false, true, false, false, false, true, false, false, false, false] rfl rfl (take_ofW HT_.out HW_.out (by kernel_rfl)) (fun _ _ _ h => h) (Or.inl ⟨by rfl, ?_⟩) hHeld ?_ ?_; rotate_left; rintro w' ⟨s0, s1, s2, s3, s4, s5, s6⟩; go_simp; with_reducible rfl; rotate_left; exact pT
                      refine take_ (i := 7) (N := some 86) (v := ?_) (a' := ?_) #[true, true, true, true, true, true, true, true, false, false, true, false, false, false, true, false, false, false, false] rfl rfl (take_ofW HT_.out HW_.out (by kernel_rfl)) (fun _ _ _ h => h) (Or.inl ⟨by rfl, ?_⟩) hHeld ?_ ?_; rotate_left; rintro w' ⟨s0, s1, s2, s3, s4, s5, s6⟩; go_simp; with_reducible rfl; rotate_left; exact pT
                      refine pure_ (i := 8) (N := some 87) (v := ?_) (a' := ?_) #[true, true, true, true, true, true, true, true, true, false, true, false, false, false, true, false, false, false, false] rfl rfl (any_of HT_.out (by kernel_rfl)) (fun _ _ _ h => h) (Or.inl ⟨by rfl, ?_⟩) ?_ ?_; rotate_left; exact qT; rotate_left; exact pT
                      refine take_ (i := 9) (N := some 88) (v := ?_) (a' := ?_) #[true, true, true, true, true, true, true, true, true, true, true, false, false, false, true, false, false, false, false] rfl rfl (take_ofW HT_.out HW_.out (by kernel_rfl)) (fun _ _ _ h => h) (Or.inl ⟨by rfl, ?_⟩) hHeld ?_ ?_; rotate_left; rintro w' ⟨s0, s1, s2, s3, s4, s5, s6⟩; go_simp; with_reducible rfl; rotate_left; exact pT
                      refine take_ (i := 15) (N := some 94) (v := ?_) (a' := ?_) #[true, true, true, true, true, true, true, true, true, true, true, false, false, false, true, true, false, false, false] rfl rfl (take_ofW HT_.out HW_.out (by kernel_rfl)) (fun _ _ _ h => h) (Or.inl ⟨by rfl, ?_⟩) hHeld ?_ ?_; rotate_left; rintro w' ⟨s0, s1, s2, s3, s4, s5, s6⟩; go_simp; with_reducible rfl; rotate_left; exact pT
                      refine one_ (i := 11) (N := some 90) #[true, true, true, true, true, true, true, true, true, true, true, true, false, false, true, true, false, false, false] rfl rfl (one_of HT_.out (by kernel_rfl)) (by decide) (fun K hK => ?_)
                      refine goes_ Try.func38 (by kernel_rfl) rfl #[.agg #[.string ((rd_T51 l0 a2).f0), .slice A142_1 ((rd_T51 l0 a2).f1).length c142_1], .int .i64 (rd l4 ((rd_T54 l3 x40_1).f2)), .int .i64 (-1)] (by rfl) rfl rfl mT ?_
                      with_reducible refine (colorset_Shift.calls ((rd_T51 l0 a2).f0) _ _ ((rd_T51 l0 a2).f1) (rd l4 ((rd_T54 l3 x40_1).f2)) (-1) t144 _ ?side1 ?side2 A68.out).mono ?_
                      (case side1 => exact cB HR142_1.out HB.out)
                      (case side2 => exact HC142_1.out)
                      rintro e w77 ⟨rfl, hb⟩
                      have HS6_ := (hb.cell (World.block_lt_of_cell? _ _ (hHeld.2.2.2.2.2.2))).trans (hHeld.2.2.2.2.2.2)
                      refine ⟨_, rfl, ?_⟩
                      have n0_ := aM (Kd.R_below (oR HO_13.out) hb); have n1_ := aM (kW BK125.out hb); have n2_ := aM (kW BK134.out hb); have n3_ := aM (below_step (bB2 HB.out GE125.out GE134.out) hb); clear HO_13; clear BK125; clear BK134; clear HB; have HO_13 := n0_; have BK125 := n1_; have BK134 := n2_; have HB := n3_; clear n0_ n1_ n2_ n3_
                      (try clear hb)
                      (try clear hb2)
                      (try clear hk)
                      (try clear hi)
                      obtain ⟨Ao78, co78, eo78⟩ := Kd.R_slice HO_13.out
                      (first | subst eo78 | (injection eo78 with f1_ f2_ f3_; have f4_ := f1_.symm; have f5_ := f3_.symm; clear f1_ f2_ f3_; subst f4_; subst f5_))
                      have p71 : 0 ≤ (t144 : Int) := dT; have q71 : (t144 : Int) < ((x13_1.length : Int) : Int) := dT; obtain ⟨go71, co71, eo71, gb71, gl71, cl71, HG71⟩ := Kd.R_form HO_13.out (by omega)
                      (first | cases eo71 | (injection eo71 with ea_ en_ ec_; (first | subst ea_ | (injection ea_ with ea_; subst ea_)); subst ec_; clear en_))
                      have GB71 := aM gb71; have GG71 := aM HG71; clear gb71 gl71 HG71
                      (first | simp only [add_plain] at hx145_0 | skip)
                      obtain ⟨hx71_0, hf71_0⟩ := Kd.R_celln 0 HO_13.out (t144 : Int) p71 q71; replace p71 := eq_true p71; replace q71 := eq_true q71; have HP79 := Kd.R_putn HO_13.out (t144 : Int) (wrap64 ((rd x13_1 t144) + ((rd_T54 l3 x40_1).f0))); rw [← Ny146.out] at HP79; have HQ79 := aM HP79; clear HP79
                      refine hK.out _ _ ⟨(blk_cell BK134.out 0).trans rfl, (blk_cell BK134.out 1).trans rfl, (blk_cell BK134.out 2).trans rfl, ((HB.out.cell (World.block_lt_of_cell? w _ hw142_0)).trans hw142_0), ((HB.out.cell (World.block_lt_of_cell? w _ hw142_1)).trans hw142_1), ((HB.out.cell (World.block_lt_of_cell? w _ hw143_0)).trans hw143_0), HS6_⟩ (fun hHeld => ?_)
                      clear hK K
                      refine norm_ (a' := ?_) ?_ ?_
                      rotate_left
                      ·show Act.put _ (some 90) _ = _
                       simp only [Act.put, List.setIfInBounds_toArray, List.set_cons_zero, List.set_cons_succ, i64_w, i32_w]
                       rfl
                      refine pure_ (i := 12) (N := some 91) (v := ?_) (a' := ?_) #[true, true, true, true, true, true, true, true, true, true, true, true, true, false, true, true, false, false, false] rfl rfl (any_of HT_.out (by kernel_rfl)) (fun _ _ _ h => h) (Or.inl ⟨by rfl, ?_⟩) ?_ ?_; rotate_left; exact qT; rotate_left; exact pT
                      refine take_ (i := 13) (N := some 92) (v := ?_) (a' := ?_) #[true, true, true, true, true, true, true, true, true, true, true, true, true, true, true, true, false, false, false] rfl rfl (take_ofW HT_.out HW_.out (by kernel_rfl)) (fun _ _ _ h => h) (Or.inl ⟨by rfl, ?_⟩) hHeld ?_ ?_
                      rotate_left
                      ·rintro w' ⟨s0, s1, s2, s3, s4, s5, s6⟩
                       (try simp only [add_plain] at s0 s1 s2 s3 s4 s5 s6)
                       go_simp
                       with_reducible rfl
                      rotate_left
                      ·simp only [Act.put, List.setIfInBounds_toArray, List.set_cons_zero, List.set_cons_succ, i64_w, i32_w]
                       rfl
                      refine pure_ (i := 16) (N := some 95) (v := ?_) (a' := ?_) #[true, true, true, true, true, true, true, true, true, true, true, true, true, true, true, true, true, false, false] rfl rfl (any_of HT_.out (by kernel_rfl)) (fun _ _ _ h => h) (Or.inl ⟨by rfl, ?_⟩) ?_ ?_; rotate_left; exact qT; rotate_left; exact pT
                      refine pure_ (i := 17) (N := some 96) (v := ?_) (a' := ?_) #[true, true, true, true, true, true, true, true, true, true, true, true, true, true, true, true, true, true, false] rfl rfl (any_of HT_.out (by kernel_rfl)) (fun _ _ _ h => h) (Or.inl ⟨by rfl, ?_⟩) ?_ ?_; rotate_left; exact qT; rotate_left; exact pT
                      refine last_ (i := 18) (N := none) #[true, true, true, true, true, true, true, true, true, true, true, true, true, true, true, true, true, true, true] rfl rfl (one_of HT_.out (by kernel_rfl)) (by decide) (fun K hK => ?_)
                      refine skip_ (w1 := ?_) (by rfl) rfl ?_ ?_
                      rotate_left
                      ·go_simp
                       rfl
                      refine hK.out _ _ ?_
                      clear hK K
                      refine done_ (done_of HT_.out (by kernel_rfl)) ?_
                      try go_wp2
                      go_roundg k1
                      case measure => have := HK1.out; omega
                      case rel => exact ⟨(y146), (wrap64 (x40_1 + 1)), eT, H', ⟨by have := HK1.out; omega⟩, ⟨oR HQ79.out⟩, ⟨by refine kR ?_; refine blk_far ?_ (by have h_ := Kd.R_ne HO_13.out BK125.out (by decide); intro e_; exact h_ (by rw [e_]; rfl)) _; refine kR ?_; exact BK125.out⟩, ⟨by repeat (first | (with_reducible first | exact HB.out | apply below_alloc | apply pw_below_drewN | apply below_drew1 | refine below_set ?_ GB71.out | refine below_set ?_ GE125.out | refine below_set ?_ GE134.out) | exact HB.out)⟩⟩
                     ·rw [if_neg c70] at H
                      exact absurd H (by simp)
                    ·rw [if_neg c69] at H
                     exact absurd H (by simp)
                   ·rw [if_neg c67] at H
                    exact absurd H (by simp)
                  ·rw [if_neg c66] at H
                   exact absurd H (by simp)
                 ·rw [if_neg c65] at H
                  exact absurd H (by simp)
                ·rw [if_neg c64] at H
                 exact absurd H (by simp)
               ·rw [if_neg c63] at H
                have c63b0 : (((rd_T54 l3 x40_1).f1) == 4) = false := beq_eq_false_iff_ne.mpr c63; have c63b1 : (((rd_T54 l3 x40_1).f1) != 4) = true := bne_iff_ne.mpr c63
                by_cases c80 : 0 ≤ a2
                ·rw [if_pos c80] at H
                 have c80b0 : decide (0 ≤ a2) = true := decide_eq_true c80; clear c80
                 by_cases c81 : a2 < (l0.length : Int)
                 ·rw [if_pos c81] at H
                  have c81b0 : decide (a2 < (l0.length : Int)) = true := decide_eq_true c81; clear c81
                  by_cases c82 : 0 ≤ ((rd_T54 l3 x40_1).f2)
                  ·rw [if_pos c82] at H
                   have c82b0 : decide (0 ≤ ((rd_T54 l3 x40_1).f2)) = true := decide_eq_true c82; clear c82
                   by_cases c83 : ((rd_T54 l3 x40_1).f2) < (l4.length : Int)
                   ·rw [if_pos c83] at H
                    have c83b0 : decide (((rd_T54 l3 x40_1).f2) < (l4.length : Int)) = true := decide_eq_true c83; clear c83; replace H := Option.bind_eq_some_iff.mp H; obtain ⟨t149, A840, H⟩ := H
                    replace H : (if 0 ≤ t149 then (if t149 < (x13_1.length : Int) then (binding_Eval.l0 k1 l0 a2 l4 (x13_1.set (t149 : Int).toNat (wrap64 ((rd x13_1 t149) + ((rd_T54 l3 x40_1).f0)))) l3 (l3.length : Int) (wrap64 (x40_1 + 1))) else (none)) else (none)) = some (r1, r2) := H
                    have A84 := aM A840; clear A840
                    by_cases c85 : 0 ≤ t149
                    ·rw [if_pos c85] at H
                     have c85b0 : decide (0 ≤ t149) = true := decide_eq_true c85; clear c85
                     by_cases c86 : t149 < (x13_1.length : Int)
                     ·rw [if_pos c86] at H
                      have c86b0 : decide (t149 < (x13_1.length : Int)) = true := decide_eq_true c86
                      try have c86b9 := c86b0
                      try rw [hl13_2] at c86b9
                      clear c86
                      obtain ⟨y151, hy151⟩ : ∃ y_ : List Int, y_ = (x13_1.set (t149 : Int).toNat (wrap64 ((rd x13_1 t149) + ((rd_T54 l3 x40_1).f0)))) := ⟨_, rfl⟩
                      replace H : (binding_Eval.l0 k1 l0 a2 l4 y151 l3 (l3.length : Int) (wrap64 (x40_1 + 1))) = some (r1, r2) := by first | (rw [hy151]; with_reducible exact H) | (have H2_ := (Option.bind_some _ _).symm.trans H; rw [hy151]; with_reducible exact H2_) | (have H2_ := (Option.bind_some _ _).symm.trans H; with_reducible exact H2_) | with_reducible exact H | (rw [hy151]; exact H) | exact H
                      have Ny151 := aM hy151; clear hy151
                      have H' := aM H
                      clear H; have p133 : 0 ≤ (x40_1 : Int) := dT; have q133 : x40_1 < (l3.length : Int) := dT; obtain ⟨ad133, e133, hx133_0, hx133_1, hx133_2⟩ := at_T54 HR3.out x40_1 p133 q133; cases e133
                      try replace hx133_0 := (HB.out.cell (World.block_lt_of_cell? w _ hx133_0)).trans hx133_0
                      try replace hx133_1 := (HB.out.cell (World.block_lt_of_cell? w _ hx133_1)).trans hx133_1
                      try replace hx133_2 := (HB.out.cell (World.block_lt_of_cell? w _ hx133_2)).trans hx133_2
                      replace p133 := eq_true p133; replace q133 := eq_true q133
                      try go_wp2_with (first | ((with_reducible refine gate_dst (N := 15) rfl ?_); refine box_event ?hg (N := 15) ?hd (cs := #[.int .i64 0, .int .i64 0, .int .i64 0]) (t := 54) ?hr ?_; (case hd => rfl); (case hg => rfl); (case hr => first | (go_simp; done) | (go_simp; rfl)); intro gb134 hg w88 hbox hb; have n0_ := aM (Kd.R_below (oR HO_13.out) hb); have n1_ := aM (kW BK125.out hb); have n2_ := aM (below_step (bB1 HB.out GE125.out) hb); have n3_ := aM (hbox); have n4_ := aM ((by rw [hg]; exact (below_size (bB1 HB.out GE125.out)) : w.heap.size ≤ gb134)); have n5_ := aM ((by rw [hg]; exact (below_size (bB1 HB.out GE125.out)) : w.heap.size ≤ gb134)); have n6_ := aM ((by rw [hg]; exact Nat.ne_of_lt (kL BK125.out) : gb125 ≠ gb134)); have n7_ := aM ((by rw [hg]; exact Nat.ne_of_gt (kL BK125.out) : gb134 ≠ gb125)); clear HO_13; clear BK125; clear HB; have HO_13 := n0_; have BK125 := n1_; have HB := n2_; have BK134 := n3_; have GW134 := n4_; have GE134 := n5_; have NB125_134 := n6_; have NB134_125 := n7_; clear n0_ n1_ n2_ n3_ n4_ n5_ n6_ n7_; clear hb hbox hg; have hnb89 := NB134_125.out; have hnc89 := NB125_134.out; have hcz90_0 : w88.cell? ⟨gb134, 0, none⟩ = some (.int .i64 0) := (blk_cell BK134.out 0).trans rfl; have hcz90_1 : w88.cell? ⟨gb134, 1, none⟩ = some (.int .i64 0) := (blk_cell BK134.out 1).trans rfl; have hcz90_2 : w88.cell? ⟨gb134, 2, none⟩ = some (.int .i64 0) := (blk_cell BK134.out 2).trans rfl; have hfz90_0 := blk_frozen BK134.out 0; have hfz90_1 := blk_frozen BK134.out 1; have hfz90_2 := blk_frozen BK134.out 2))
                      have n0_ : Aside0 (Kd.R (Kd.int .i64) 3 (((w88.setCell ⟨gb134, 0, none⟩ (.int .i64 ((rd_T54 l3 x40_1).f0))).setCell ⟨gb134, 1, none⟩ (.int .i64 ((rd_T54 l3 x40_1).f1))).setCell ⟨gb134, 2, none⟩ (.int .i64 ((rd_T54 l3 x40_1).f2))) w.heap.size (fun _ => True) v130 x13_1) := ⟨by refine oR ?_; exact Kd.R_mono (Kd.R_far (p := ⟨gb134, 2, none⟩) (Kd.R_far (p := ⟨gb134, 1, none⟩) (Kd.R_far (p := ⟨gb134, 0, none⟩) (Kd.R_types HO_13.out BK134.out (by decide)) (fun _ hk => hk.2) (.int .i64 ((rd_T54 l3 x40_1).f0))) (fun _ hk => hk.2) (.int .i64 ((rd_T54 l3 x40_1).f1))) (fun _ hk => hk.2) (.int .i64 ((rd_T54 l3 x40_1).f2))) (fun _ hk => trivial)⟩
                      have n1_ : Aside0 ((((w88.setCell ⟨gb134, 0, none⟩ (.int .i64 ((rd_T54 l3 x40_1).f0))).setCell ⟨gb134, 1, none⟩ (.int .i64 ((rd_T54 l3 x40_1).f1))).setCell ⟨gb134, 2, none⟩ (.int .i64 ((rd_T54 l3 x40_1).f2))).heap[gb125]? = some (.cells #[.string a1_0, .slice A1_1 l1_1.length c1_1, .slice A1_2 l1_2.length c1_2, .slice A1_3 l1_3.length c1_3, .slice A1_4 l1_4.length c1_4] 27 (0, 0))) := ⟨by refine kR ?_; refine blk_far ?_ NB125_134.out _; refine kR ?_; refine blk_far ?_ NB125_134.out _; refine kR ?_; refine blk_far ?_ NB125_134.out _; refine kR ?_; exact BK125.out⟩
                      have n2_ : Aside0 ((((w88.setCell ⟨gb134, 0, none⟩ (.int .i64 ((rd_T54 l3 x40_1).f0))).setCell ⟨gb134, 1, none⟩ (.int .i64 ((rd_T54 l3 x40_1).f1))).setCell ⟨gb134, 2, none⟩ (.int .i64 ((rd_T54 l3 x40_1).f2))).heap[gb134]? = some (.cells #[.int .i64 ((rd_T54 l3 x40_1).f0), .int .i64 ((rd_T54 l3 x40_1).f1), .int .i64 ((rd_T54 l3 x40_1).f2)] 54 (0, 0))) := ⟨by refine kR ?_; refine blk_put (cs := #[.int .i64 ((rd_T54 l3 x40_1).f0), .int .i64 ((rd_T54 l3 x40_1).f1), .int .i64 0]) ?_ 2 _ rfl; refine kR ?_; refine blk_put (cs := #[.int .i64 ((rd_T54 l3 x40_1).f0), .int .i64 0, .int .i64 0]) ?_ 1 _ rfl; refine kR ?_; refine blk_put (cs := #[.int .i64 0, .int .i64 0, .int .i64 0]) ?_ 0 _ rfl; refine kR ?_; exact BK134.out⟩
                      have n3_ : Aside0 (Below w.heap.size w (((w88.setCell ⟨gb134, 0, none⟩ (.int .i64 ((rd_T54 l3 x40_1).f0))).setCell ⟨gb134, 1, none⟩ (.int .i64 ((rd_T54 l3 x40_1).f1))).setCell ⟨gb134, 2, none⟩ (.int .i64 ((rd_T54 l3 x40_1).f2)))) := ⟨bB2 HB.out GE125.out GE134.out⟩
                      (try clear HO_13)
                      (try clear BK125)
                      (try clear BK134)
                      (try clear HB)
                      generalize (((w88.setCell ⟨gb134, 0, none⟩ (.int .i64 ((rd_T54 l3 x40_1).f0))).setCell ⟨gb134, 1, none⟩ (.int .i64 ((rd_T54 l3 x40_1).f1))).setCell ⟨gb134, 2, none⟩ (.int .i64 ((rd_T54 l3 x40_1).f2))) = w91 at n0_ n1_ n2_ n3_ ⊢
                      have HO_13 := n0_; have BK125 := n1_; have BK134 := n2_; have HB := n3_; clear n0_ n1_ n2_ n3_; have n0_ := aM (Kd.R_drew HO_13.out); have n1_ := aM (blk_drew BK125.out); have n2_ := aM (blk_drew BK134.out); have n3_ := aM (below_drew1 HB.out); clear HO_13; clear BK125; clear BK134; clear HB; have HO_13 := n0_; have BK125 := n1_; have BK134 := n2_; have HB := n3_; clear n0_ n1_ n2_ n3_; have p147 : 0 ≤ (a2 : Int) := dT; have q147 : a2 < (l0.length : Int) := dT; obtain ⟨ad147, A147_1, c147_1, e147, hx147_0, hx147_1, hl147_1, hi147_1⟩ := at_T51 HR0.out a2 p147 q147; have hw147_1 := hx147_1; have hw147_0 := hx147_0; obtain rfl : ad128 = ad147 := (by injection e147)
                      try (have hq_ := HS6_.symm.trans hx147_1; injection hq_ with hq_; injection hq_ with h1_ h2_ h3_; rw [h1_, h3_] at HS6_; (try clear hq_ h1_ h2_ h3_))
                      try (first | (have hq_ := (hHeld.1).symm.trans hx147_1; injection hq_ with hq_; injection hq_ with h1_ h2_ h3_; rw [h1_, h3_] at hHeld; (try clear hq_ h1_ h2_ h3_)) | (have hq_ := (hHeld).symm.trans hx147_1; injection hq_ with hq_; injection hq_ with h1_ h2_ h3_; rw [h1_, h3_] at hHeld; (try clear hq_ h1_ h2_ h3_)) | (have hq_ := (hHeld.2.1).symm.trans hx147_1; injection hq_ with hq_; injection hq_ with h1_ h2_ h3_; rw [h1_, h3_] at hHeld; (try clear hq_ h1_ h2_ h3_)) | (have hq_ := (hHeld.2).symm.trans hx147_1; injection hq_ with hq_; injection hq_ with h1_ h2_ h3_; rw [h1_, h3_] at hHeld; (try clear hq_ h1_ h2_ h3_)) | (have hq_ := (hHeld.2.2.1).symm.trans hx147_1; injection hq_ with hq_; injection hq_ with h1_ h2_ h3_; rw [h1_, h3_] at hHeld; (try clear hq_ h1_ h2_ h3_)) | (have hq_ := (hHeld.2.2).symm.trans hx147_1; injection hq_ with hq_; injection hq_ with h1_ h2_ h3_; rw [h1_, h3_] at hHeld; (try clear hq_ h1_ h2_ h3_)) | (have hq_ := (hHeld.2.2.2.1).symm.trans hx147_1; injection hq_ with hq_; injection hq_ with h1_ h2_ h3_; rw [h1_, h3_] at hHeld; (try clear hq_ h1_ h2_ h3_)) | (have hq_ := (hHeld.2.2.2).symm.trans hx147_1; injection hq_ with hq_; injection hq_ with h1_ h2_ h3_; rw [h1_, h3_] at hHeld; (try clear hq_ h1_ h2_ h3_)) | (have hq_ := (hHeld.2.2.2.2.1).symm.trans hx147_1; injection hq_ with hq_; injection hq_ with h1_ h2_ h3_; rw [h1_, h3_] at hHeld; (try clear hq_ h1_ h2_ h3_)) | (have hq_ := (hHeld.2.2.2.2).symm.trans hx147_1; injection hq_ with hq_; injection hq_ with h1_ h2_ h3_; rw [h1_, h3_] at hHeld; (try clear hq_ h1_ h2_ h3_)) | (have hq_ := (hHeld.2.2.2.2.2.1).symm.trans hx147_1; injection hq_ with hq_; injection hq_ with h1_ h2_ h3_; rw [h1_, h3_] at hHeld; (try clear hq_ h1_ h2_ h3_)) | (have hq_ := (hHeld.2.2.2.2.2).symm.trans hx147_1; injection hq_ with hq_; injection hq_ with h1_ h2_ h3_; rw [h1_, h3_] at hHeld; (try clear hq_ h1_ h2_ h3_)) | (have hq_ := (hHeld.2.2.2.2.2.2.1).symm.trans hx147_1; injection hq_ with hq_; injection hq_ with h1_ h2_ h3_; rw [h1_, h3_] at hHeld; (try clear hq_ h1_ h2_ h3_)) | (have hq_ := (hHeld.2.2.2.2.2.2).symm.trans hx147_1; injection hq_ with hq_; injection hq_ with h1_ h2_ h3_; rw [h1_, h3_] at hHeld; (try clear hq_ h1_ h2_ h3_)) | (have hq_ := (hHeld.2.2.2.2.2.2.2.1).symm.trans hx147_1; injection hq_ with hq_; injection hq_ with h1_ h2_ h3_; rw [h1_, h3_] at hHeld; (try clear hq_ h1_ h2_ h3_)) | (have hq_ := (hHeld.2.2.2.2.2.2.2).symm.trans hx147_1; injection hq_ with hq_; injection hq_ with h1_ h2_ h3_; rw [h1_, h3_] at hHeld; (try clear hq_ h1_ h2_ h3_)))
                      try replace hx147_0 := (HB.out.cell (World.block_lt_of_cell? w _ hx147_0)).trans hx147_0
                      try replace hx147_1 := (HB.out.cell (World.block_lt_of_cell? w _ hx147_1)).trans hx147_1
                      have HR147_1 := aM hi147_1; have HC147_1 := aM hl147_1; clear hi147_1 hl147_1; replace p147 := eq_true p147; replace q147 := eq_true q147; have p148 : 0 ≤ (((rd_T54 l3 x40_1).f2) : Int) := dT; have q148 : ((rd_T54 l3 x40_1).f2) < (l4.length : Int) := dT; obtain ⟨ad148, e148, hx148_0⟩ := Kd.at_int HR4.out ((rd_T54 l3 x40_1).f2) p148 q148; have hw148_0 := hx148_0; cases e148
                      try replace hx148_0 := (HB.out.cell (World.block_lt_of_cell? w _ hx148_0)).trans hx148_0
                      replace p148 := eq_true p148; replace q148 := eq_true q148; have p150 : 0 ≤ (t149 : Int) := dT; have q150 : t149 < (x13_1.length : Int) := dT
                      try (obtain ⟨Aoz150, coz150, eoz150⟩ := Kd.R_slice HO_13.out; subst eoz150)
                      obtain ⟨ad150, e150, hx150_0⟩ := Kd.at_int (Kd.R_reads' HO_13.out).2.2 t149 p150 q150; cases e150; replace p150 := eq_true p150; replace q150 := eq_true q150
                      refine start_ (n := 19) (S := fun w' => w'.cell? ⟨gb134, 0, none⟩ = some (.int .i64 ((rd_T54 l3 x40_1).f0)) ∧ w'.cell? ⟨gb134, 1, none⟩ = some (.int .i64 ((rd_T54 l3 x40_1).f1)) ∧ w'.cell? ⟨gb134, 2, none⟩ = some (.int .i64 ((rd_T54 l3 x40_1).f2)) ∧ w'.cell? (ad128.add ((a2).toNat * 2)) = some (.string ((rd_T51 l0 a2).f0)) ∧ w'.cell? ⟨(ad128.add ((a2).toNat * 2)).block, (ad128.add ((a2).toNat * 2)).off + 1, none⟩ = some (.slice A147_1 ((rd_T51 l0 a2).f1).length c147_1) ∧ w'.cell? (ad148.add (((rd_T54 l3 x40_1).f2)).toNat) = some (.int .i64 (rd l4 ((rd_T54 l3 x40_1).f2))) ∧ w'.cell? (ad150.add (t149).toNat) = some (.int .i64 (rd x13_1 t149))) (ds := [18]) #[false, false, false, false, false, false, false, false, false, false, false, false, false, false, false, false, false, false, false] (by kernel_rfl) rfl rfl ⟨(blk_cell BK134.out 0).trans rfl, (blk_cell BK134.out 1).trans rfl, (blk_cell BK134.out 2).trans rfl, ((HB.out.cell (World.block_lt_of_cell? w _ hw147_0)).trans hw147_0), ((HB.out.cell (World.block_lt_of_cell? w _ hw147_1)).trans hw147_1), ((HB.out.cell (World.block_lt_of_cell? w _ hw148_0)).trans hw148_0), hx150_0⟩ (fun hHeld => ?_); refine with_tabW binding_Eval.tab24 binding_Eval.bits24 (fun HT_ HW_ => ?_)
                      generalize w91.drew = w92 at HO_13 BK125 BK134 HB HR147_1 hx147_0 hx147_1 hx148_0 hx150_0 hHeld ⊢
                      refine pure_ (i := 0) (N := some 79) (v := ?_) (a' := ?_) #[true, false, false, false, false, false, false, false, false, false, false, false, false, false, false, false, false, false, false] rfl rfl (any_of HT_.out (by kernel_rfl)) (fun _ _ _ h => h) (Or.inl ⟨by rfl, ?_⟩) ?_ ?_; rotate_left; exact qT; rotate_left; exact pT
                      refine pure_ (i := 1) (N := some 80) (v := ?_) (a' := ?_) #[true, true, false, false, false, false, false, false, false, false, false, false, false, false, false, false, false, false, false] rfl rfl (any_of HT_.out (by kernel_rfl)) (fun _ _ _ h => h) (Or.inl ⟨by rfl, ?_⟩) ?_ ?_; rotate_left; exact qT; rotate_left; exact pT
                      refine pure_ (i := 2) (N := some 81) (v := ?_) (a' := ?_) #[true, true, true, false, false, false, false, false, false, false, false, false, false, false, false, false, false, false, false] rfl rfl (any_of HT_.out (by kernel_rfl)) (fun _ _ _ h => h) (Or.inl ⟨by rfl, ?_⟩) ?_ ?_; rotate_left; exact qT; rotate_left; exact pT
                      refine pure_ (i := 3) (N := some 82) (v := ?_) (a' := ?_) #[true, true, true, true, false, false, false, false, false, false, false, false, false, false, false, false, false, false, false] rfl rfl (any_of HT_.out (by kernel_rfl)) (fun _ _ _ h => h) (Or.inl ⟨by rfl, ?_⟩) ?_ ?_; rotate_left; exact qT; rotate_left; exact pT
                      refine pure_ (i := 5) (N := some 84) (v := ?_) (a' := ?_) #[true, true, true, true, false, true, false, false, false, false, false, false, false, false, false, false, false, false, false] rfl rfl (any_of HT_.out (by kernel_rfl)) (fun _ _ _ h => h) (Or.inl ⟨by rfl, ?_⟩) ?_ ?_; rotate_left; exact qT; rotate_left; exact pT
                      refine pure_ (i := 6) (N := some 85) (v := ?_) (a' := ?_) #[true, true, true, true, false, true, true, false, false, false, false, false, false, false, false, false, false, false, false] rfl rfl (any_of HT_.out (by kernel_rfl)) (fun _ _ _ h => h) (Or.inl ⟨by rfl, ?_⟩) ?_ ?_; rotate_left; exact qT; rotate_left; exact pT
                      refine pure_ (i := 10) (N := some 89) (v := ?_) (a' := ?_) #[true, true, true, true, false, true, true, false, false, false, true, false, false, false, false, false, false, false, false] rfl rfl (any_of HT_.out (by kernel_rfl)) (fun _ _ _ h => h) (Or.inl ⟨by rfl, ?_⟩) ?_ ?_; rotate_left; exact qT; rotate_left; exact pT
                      refine pure_ (i := 14) (N := some 93) (v := ?_) (a' := ?_) #[true, true, true, true, false, true, true, false, false, false, true, false, false, false, true, false, false, false, false] rfl rfl (any_of HT_.out (by kernel_rfl)) (fun _ _ _ h => h) (Or.inl ⟨by rfl, ?_⟩) ?_ ?_; rotate_left; exact qT; rotate_left; exact pT
                      refine take_ (i := 4) (N := some 83) (v := ?_) (a' := ?_) #[true, true, true, true, true, true, true, false, false, false, true, false, false, false, true, false, false, false, false] rfl rfl (take_ofW HT_.out HW_.out (by kernel_rfl)) (fun _ _ _ h => h) (Or.inl ⟨by rfl, ?_⟩) hHeld ?_ ?_; rotate_left; rintro w' ⟨s0, s1, s2, s3, s4, s5, s6⟩; go_simp; with_reducible rfl; rotate_left; exact pT
                      refine take_ (i := 7) (N := some 86) (v := ?_) (a' := ?_) #[true, true, true, true, true, true, true, true, false, false, true, false, false, false, true, false, false, false, false] rfl rfl (take_ofW HT_.out HW_.out (by kernel_rfl)) (fun _ _ _ h => h) (Or.inl ⟨by rfl, ?_⟩) hHeld ?_ ?_; rotate_left; rintro w' ⟨s0, s1, s2, s3, s4, s5, s6⟩; go_simp; with_reducible rfl; rotate_left; exact pT
                      refine pure_ (i := 8) (N := some 87) (v := ?_) (a' := ?_) #[true, true, true, true, true, true, true, true, true, false, true, false, false, false, true, false, false, false, false] rfl rfl (any_of HT_.out (by kernel_rfl)) (fun _ _ _ h => h) (Or.inl ⟨by rfl, ?_⟩) ?_ ?_; rotate_left; exact qT; rotate_left; exact pT
                      refine take_ (i := 9) (N := some 88) (v := ?_) (a' := ?_) #[true, true, true, true, true, true, true, true, true, true, true, false, false, false, true, false, false, false, false] rfl rfl (take_ofW HT_.out HW_.out (by kernel_rfl)) (fun _ _ _ h => h) (Or.inl ⟨by rfl, ?_⟩) hHeld ?_ ?_; rotate_left; rintro w' ⟨s0, s1, s2, s3, s4, s5, s6⟩; go_simp; with_reducible rfl; rotate_left; exact pT
                      refine take_ (i := 15) (N := some 94) (v := ?_) (a' := ?_) #[true, true, true, true, true, true, true, true, true, true, true, false, false, false, true, true, false, false, false] rfl rfl (take_ofW HT_.out HW_.out (by kernel_rfl)) (fun _ _ _ h => h) (Or.inl ⟨by rfl, ?_⟩) hHeld ?_ ?_; rotate_left; rintro w' ⟨s0, s1, s2, s3, s4, s5, s6⟩; go_simp; with_reducible rfl; rotate_left; exact pT
                      refine one_ (i := 11) (N := some 90) #[true, true, true, true, true, true, true, true, true, true, true, true, false, false, true, true, false, false, false] rfl rfl (one_of HT_.out (by kernel_rfl)) (by decide) (fun K hK => ?_)
                      refine goes_ Try.func38 (by kernel_rfl) rfl #[.agg #[.string ((rd_T51 l0 a2).f0), .slice A147_1 ((rd_T51 l0 a2).f1).length c147_1], .int .i64 (rd l4 ((rd_T54 l3 x40_1).f2)), .int .i64 0] (by rfl) rfl rfl mT ?_
                      with_reducible refine (colorset_Shift.calls ((rd_T51 l0 a2).f0) _ _ ((rd_T51 l0 a2).f1) (rd l4 ((rd_T54 l3 x40_1).f2)) 0 t149 _ ?side1 ?side2 A84.out).mono ?_
                      (case side1 => exact cB HR147_1.out HB.out)
                      (case side2 => exact HC147_1.out)
                      rintro e w93 ⟨rfl, hb⟩
                      have HS6_ := (hb.cell (World.block_lt_of_cell? _ _ (hHeld.2.2.2.2.2.2))).trans (hHeld.2.2.2.2.2.2)
                      refine ⟨_, rfl, ?_⟩
                      have n0_ := aM (Kd.R_below (oR HO_13.out) hb); have n1_ := aM (kW BK125.out hb); have n2_ := aM (kW BK134.out hb); have n3_ := aM (below_step (bB2 HB.out GE125.out GE134.out) hb); clear HO_13; clear BK125; clear BK134; clear HB; have HO_13 := n0_; have BK125 := n1_; have BK134 := n2_; have HB := n3_; clear n0_ n1_ n2_ n3_
                      (try clear hb)
                      (try clear hb2)
                      (try clear hk)
                      (try clear hi)
                      obtain ⟨Ao94, co94, eo94⟩ := Kd.R_slice HO_13.out
                      (first | subst eo94 | (injection eo94 with f1_ f2_ f3_; have f4_ := f1_.symm; have f5_ := f3_.symm; clear f1_ f2_ f3_; subst f4_; subst f5_))
                      have p87 : 0 ≤ (t149 : Int) := dT; have q87 : (t149 : Int) < ((x13_1.length : Int) : Int) := dT; obtain ⟨go87, co87, eo87, gb87, gl87, cl87, HG87⟩ := Kd.R_form HO_13.out (by omega)
                      (first | cases eo87 | (injection eo87 with ea_ en_ ec_; (first | subst ea_ | (injection ea_ with ea_; subst ea_)); subst ec_; clear en_))
                      have GB87 := aM gb87; have GG87 := aM HG87; clear gb87 gl87 HG87
                      (first | simp only [add_plain] at hx150_0 | skip)
                      obtain ⟨hx87_0, hf87_0⟩ := Kd.R_celln 0 HO_13.out (t149 : Int) p87 q87; replace p87 := eq_true p87; replace q87 := eq_true q87; have HP95 := Kd.R_putn HO_13.out (t149 : Int) (wrap64 ((rd x13_1 t149) + ((rd_T54 l3 x40_1).f0))); rw [← Ny151.out] at HP95; have HQ95 := aM HP95; clear HP95
                      refine hK.out _ _ ⟨(blk_cell BK134.out 0).trans rfl, (blk_cell BK134.out 1).trans rfl, (blk_cell BK134.out 2).trans rfl, ((HB.out.cell (World.block_lt_of_cell? w _ hw147_0)).trans hw147_0), ((HB.out.cell (World.block_lt_of_cell? w _ hw147_1)).trans hw147_1), ((HB.out.cell (World.block_lt_of_cell? w _ hw148_0)).trans hw148_0), HS6_⟩ (fun hHeld => ?_)
                      clear hK K
                      refine norm_ (a' := ?_) ?_ ?_
                      rotate_left
                      ·show Act.put _ (some 90) _ = _
                       simp only [Act.put, List.setIfInBounds_toArray, List.set_cons_zero, List.set_cons_succ, i64_w, i32_w]
                       rfl
                      refine pure_ (i := 12) (N := some 91) (v := ?_) (a' := ?_) #[true, true, true, true, true, true, true, true, true, true, true, true, true, false, true, true, false, false, false] rfl rfl (any_of HT_.out (by kernel_rfl)) (fun _ _ _ h => h) (Or.inl ⟨by rfl, ?_⟩) ?_ ?_; rotate_left; exact qT; rotate_left; exact pT
                      refine take_ (i := 13) (N := some 92) (v := ?_) (a' := ?_) #[true, true, true, true, true, true, true, true, true, true, true, true, true, true, true, true, false, false, false] rfl rfl (take_ofW HT_.out HW_.out (by kernel_rfl)) (fun _ _ _ h => h) (Or.inl ⟨by rfl, ?_⟩) hHeld ?_ ?_
                      rotate_left
                      ·rintro w' ⟨s0, s1, s2, s3, s4, s5, s6⟩
                       (try simp only [add_plain] at s0 s1 s2 s3 s4 s5 s6)
                       go_simp
                       with_reducible rfl
                      rotate_left
                      ·simp only [Act.put, List.setIfInBounds_toArray, List.set_cons_zero, List.set_cons_succ, i64_w, i32_w]
                       rfl
                      refine pure_ (i := 16) (N := some 95) (v := ?_) (a' := ?_) #[true, true, true, true, true, true, true, true, true, true, true, true, true, true, true, true, true, false, false] rfl rfl (any_of HT_.out (by kernel_rfl)) (fun _ _ _ h => h) (Or.inl ⟨by rfl, ?_⟩) ?_ ?_; rotate_left; exact qT; rotate_left; exact pT
                      refine pure_ (i := 17) (N := some 96) (v := ?_) (a' := ?_) #[true, true, true, true, true, true, true, true, true, true, true, true, true, true, true, true, true, true, false] rfl rfl (any_of HT_.out (by kernel_rfl)) (fun _ _ _ h => h) (Or.inl ⟨by rfl, ?_⟩) ?_ ?_; rotate_left; exact qT; rotate_left; exact pT
                      refine last_ (i := 18) (N := none) #[true, true, true, true, true, true, true, true, true, true, true, true, true, true, true, true, true, true, true] rfl rfl (one_of HT_.out (by kernel_rfl)) (by decide) (fun K hK => ?_)
                      refine skip_ (w1 := ?_) (by rfl) rfl ?_ ?_
                      rotate_left
                      ·go_simp
                       rfl
                      refine hK.out _ _ ?_
                      clear hK K
                      refine done_ (done_of HT_.out (by kernel_rfl)) ?_
                      try go_wp2
                      go_roundg k1
                      case measure => have := HK1.out; omega
                      case rel => exact ⟨(y151), (wrap64 (x40_1 + 1)), eT, H', ⟨by have := HK1.out; omega⟩, ⟨oR HQ95.out⟩, ⟨by refine kR ?_; refine blk_far ?_ (by have h_ := Kd.R_ne HO_13.out BK125.out (by decide); intro e_; exact h_ (by rw [e_]; rfl)) _; refine kR ?_; exact BK125.out⟩, ⟨by repeat (first | (with_reducible first | exact HB.out | apply below_alloc | apply pw_below_drewN | apply below_drew1 | refine below_set ?_ GB87.out | refine below_set ?_ GE125.out | refine below_set ?_ GE134.out) | exact HB.out)⟩⟩
                     ·rw [if_neg c86] at H
                      exact absurd H (by simp)
                    ·rw [if_neg c85] at H
                     exact absurd H (by simp)
                   ·rw [if_neg c83] at H
                    exact absurd H (by simp)
                  ·rw [if_neg c82] at H
                   exact absurd H (by simp)
                 ·rw [if_neg c81] at H
                  exact absurd H (by simp)
                ·rw [if_neg c80] at H
                 exact absurd H (by simp)
           ·rw [if_neg c23] at H
            exact absurd H (by simp)
          ·rw [if_neg c22] at H
           exact absurd H (by simp)
         ·rw [if_neg c21] at H
          have c21b0 : decide (x40_1 < (l3.length : Int)) = false := decide_eq_false c21; clear c21; replace H := Option.bind_eq_some_iff.mp H; obtain ⟨t132, A960, H⟩ := H
          replace H : (if t132 > 1048576 then (some (([] : List Int), 3)) else (some (x13_1, 0))) = some (r1, r2) := H
          have A96 := aM A960; clear A960
          by_cases c97 : t132 > 1048576
          ·rw [if_pos c97] at H
           have c97b0 : decide (1048576 < t132) = true := decide_eq_true c97; clear c97
           simp only [Option.some.injEq, Prod.mk.injEq] at H
           obtain ⟨rfl, rfl⟩ := H; obtain ⟨Ao98, co98, eo98⟩ := Kd.R_slice HO_13.out; subst eo98
           go_wp2_with (first | ((with_reducible refine gate_callee (f := 39) rfl ?_); refine goesL_ (some 99) rfl rfl Try.func39 (by kernel_rfl) rfl #[.slice Ao98 x13_1.length co98] rfl mT ?_; (with_reducible refine (slices_Max_int_int.calls _ _ x13_1 t132 _ ?side1 ?side2 A96.out).mono ?_); (case side1 => repeat (first | exact (Kd.R_reads' HO_13.out).2.2 | (with_reducible refine Kd.C_alloc ?_ _) | (with_reducible refine Kd.C_drewN ?_ _) | (with_reducible refine Kd.C_drew ?_))); (case side2 => exact (Kd.R_reads' HO_13.out).2.1); rintro e w' ⟨rfl, ⟨nd, rfl⟩⟩; refine ⟨_, rfl, ?_⟩))
           go_ret2
           exact ⟨_, rT, by first | exact Kd.R_nil _ _ _ _ _ | exact Kd.N_nil _ _ _ _ _ | exact Kd.V_nil _ _ _ _ _ | exact Kd.Q_nil _ _ _ _ _ | exact Kd.S_nil _ _ _ _ _, bB1 HB.out GE125.out⟩
          ·rw [if_neg c97] at H
           have c97b0 : decide (1048576 < t132) = false := decide_eq_false c97; clear c97
           simp only [Option.some.injEq, Prod.mk.injEq] at H
           obtain ⟨rfl, rfl⟩ := H; obtain ⟨Ao99, co99, eo99⟩ := Kd.R_slice HO_13.out; subst eo99
           go_wp2_with (first | ((with_reducible refine gate_callee (f := 39) rfl ?_); refine goesL_ (some 99) rfl rfl Try.func39 (by kernel_rfl) rfl #[.slice Ao99 x13_1.length co99] rfl mT ?_; (with_reducible refine (slices_Max_int_int.calls _ _ x13_1 t132 _ ?side1 ?side2 A96.out).mono ?_); (case side1 => repeat (first | exact (Kd.R_reads' HO_13.out).2.2 | (with_reducible refine Kd.C_alloc ?_ _) | (with_reducible refine Kd.C_drewN ?_ _) | (with_reducible refine Kd.C_drew ?_))); (case side2 => exact (Kd.R_reads' HO_13.out).2.1); rintro e w' ⟨rfl, ⟨nd, rfl⟩⟩; refine ⟨_, rfl, ?_⟩))
           go_ret2
           exact ⟨_, rT, oR HO_13.out, bB1 HB.out GE125.out⟩
      ·rw [if_neg c13] at H
       exact absurd H (by simp)
     ·rw [if_neg c12] at H
      exact absurd H (by simp)
    ·rw [if_neg c11] at H
     exact absurd H (by simp)
   ·rw [if_neg c10] at H
    exact absurd H (by simp)
  ·replace c9 := Bool.eq_false_iff.mpr c9
   subst c9
   have H1 : (some (([] : List Int), 15)) = some (r1, r2) := by rw [if_neg (show ¬ (false = true) by decide)] at H; exact H
   clear H; have H := H1; clear H1
   simp only [Option.some.injEq, Prod.mk.injEq] at H
   obtain ⟨rfl, rfl⟩ := H
   go_enter Try.func15, Try.ntmps15
   go_wp2_with (first | ((with_reducible refine gate_dst (N := 6) rfl ?_); refine box_event ?hg (N := 6) ?hd (cs := #[.string a1_0, .slice A1_1 l1_1.length c1_1, .slice A1_2 l1_2.length c1_2, .slice A1_3 l1_3.length c1_3, .slice A1_4 l1_4.length c1_4]) (t := 27) ?hr ?_; (case hd => rfl); (case hg => rfl); (case hr => first | (go_simp; done) | (go_simp; rfl)); intro gb125 hg w100 hbox hb; have n0_ := aM (below_step (bB HB.out) hb); have n1_ := aM (hbox); have n2_ := aM ((by rw [hg]; exact (below_size (bB HB.out)) : w.heap.size ≤ gb125)); have n3_ := aM ((by rw [hg]; exact (below_size (bB HB.out)) : w.heap.size ≤ gb125)); clear HB; have HB := n0_; have BK125 := n1_; have GW125 := n2_; have GE125 := n3_; clear n0_ n1_ n2_ n3_; clear hb hbox hg; have hcz101_0 : w100.cell? ⟨gb125, 0, none⟩ = some (.string a1_0) := (blk_cell BK125.out 0).trans rfl; have hcz101_1 : w100.cell? ⟨gb125, 1, none⟩ = some (.slice A1_1 l1_1.length c1_1) := (blk_cell BK125.out 1).trans rfl; have hcz101_2 : w100.cell? ⟨gb125, 2, none⟩ = some (.slice A1_2 l1_2.length c1_2) := (blk_cell BK125.out 2).trans rfl; have hcz101_3 : w100.cell? ⟨gb125, 3, none⟩ = some (.slice A1_3 l1_3.length c1_3) := (blk_cell BK125.out 3).trans rfl; have hcz101_4 : w100.cell? ⟨gb125, 4, none⟩ = some (.slice A1_4 l1_4.length c1_4) := (blk_cell BK125.out 4).trans rfl; have hfz101_0 := blk_frozen BK125.out 0; have hfz101_1 := blk_frozen BK125.out 1; have hfz101_2 := blk_frozen BK125.out 2; have hfz101_3 := blk_frozen BK125.out 3; have hfz101_4 := blk_frozen BK125.out 4) | ((with_reducible refine gate_callee (f := 13) rfl ?_); refine goesL_ (some 22) rfl rfl Try.func13 (by kernel_rfl) rfl #[.slice A0 l0.length c0, .agg #[.string a1_0, .slice A1_1 l1_1.length c1_1, .slice A1_2 l1_2.length c1_2, .slice A1_3 l1_3.length c1_3, .slice A1_4 l1_4.length c1_4], .int .i64 a2, .slice A3 l3.length c3] rfl mT ?_; (with_reducible refine (binding_CheckTerms.calls k _ _ l0 a1_0 _ _ l1_1 _ _ l1_2 _ _ l1_3 _ _ l1_4 a2 _ _ l3 t126 _ ?side1 ?side2 ?side3 ?side4 ?side5 ?side6 ?side7 ?side8 ?side9 ?side10 ?side11 ?side12 A6.out).mono ?_); (case side1 => exact cB HR0.out HB.out); (case side2 => exact HC0.out); (case side3 => exact cB HR1_1.out HB.out); (case side4 => exact HC1_1.out); (case side5 => exact cB HR1_2.out HB.out); (case side6 => exact HC1_2.out); (case side7 => exact cB HR1_3.out HB.out); (case side8 => exact HC1_3.out); (case side9 => exact cB HR1_4.out HB.out); (case side10 => exact HC1_4.out); (case side11 => exact cB HR3.out HB.out); (case side12 => exact HC3.out); rintro e w102 ⟨rfl, hb⟩; refine ⟨_, rfl, ?_⟩; have n0_ := aM (kW BK125.out hb); have n1_ := aM (below_step (bB1 HB.out GE125.out) hb); clear BK125; clear HB; have BK125 := n0_; have HB := n1_; clear n0_ n1_; (try clear hb); (try clear hb2); (try clear hk); (try clear hi); have hcz103_0 : w102.cell? ⟨gb125, 0, none⟩ = some (.string a1_0) := (blk_cell BK125.out 0).trans rfl; have hcz103_1 : w102.cell? ⟨gb125, 1, none⟩ = some (.slice A1_1 l1_1.length c1_1) := (blk_cell BK125.out 1).trans rfl; have hcz103_2 : w102.cell? ⟨gb125, 2, none⟩ = some (.slice A1_2 l1_2.length c1_2) := (blk_cell BK125.out 2).trans rfl; have hcz103_3 : w102.cell? ⟨gb125, 3, none⟩ = some (.slice A1_3 l1_3.length c1_3) := (blk_cell BK125.out 3).trans rfl; have hcz103_4 : w102.cell? ⟨gb125, 4, none⟩ = some (.slice A1_4 l1_4.length c1_4) := (blk_cell BK125.out 4).trans rfl; have hfz103_0 := blk_frozen BK125.out 0; have hfz103_1 := blk_frozen BK125.out 1; have hfz103_2 := blk_frozen BK125.out 2; have hfz103_3 := blk_frozen BK125.out 3; have hfz103_4 := blk_frozen BK125.out 4) | ((with_reducible refine gate_callee (f := 37) rfl ?_); refine goesL_ (some 29) rfl rfl Try.func37 (by kernel_rfl) rfl #[.slice A0 l0.length c0, .agg #[.string a1_0, .slice A1_1 l1_1.length c1_1, .slice A1_2 l1_2.length c1_2, .slice A1_3 l1_3.length c1_3, .slice A1_4 l1_4.length c1_4], .slice A4 l4.length c4] rfl mT ?_; (with_reducible refine (binding_is.calls k _ _ l0 a1_0 _ _ l1_1 _ _ l1_2 _ _ l1_3 _ _ l1_4 _ _ l4 false _ ?side1 ?side2 ?side3 ?side4 ?side5 ?side6 ?side7 ?side8 ?side9 ?side10 ?side11 ?side12 A8.out).mono ?_); (case side1 => exact cB HR0.out HB.out); (case side2 => exact HC0.out); (case side3 => exact cB HR1_1.out HB.out); (case side4 => exact HC1_1.out); (case side5 => exact cB HR1_2.out HB.out); (case side6 => exact HC1_2.out); (case side7 => exact cB HR1_3.out HB.out); (case side8 => exact HC1_3.out); (case side9 => exact cB HR1_4.out HB.out); (case side10 => exact HC1_4.out); (case side11 => exact cB HR4.out HB.out); (case side12 => exact HC4.out); rintro e w104 ⟨rfl, hb⟩; refine ⟨_, rfl, ?_⟩; have n0_ := aM (kW BK125.out hb); have n1_ := aM (below_step (bB1 HB.out GE125.out) hb); clear BK125; clear HB; have BK125 := n0_; have HB := n1_; clear n0_ n1_; (try clear hb); (try clear hb2); (try clear hk); (try clear hi)))
   go_ret2
   exact ⟨_, rT, by first | exact Kd.R_nil _ _ _ _ _ | exact Kd.N_nil _ _ _ _ _ | exact Kd.V_nil _ _ _ _ _ | exact Kd.Q_nil _ _ _ _ _ | exact Kd.S_nil _ _ _ _ _, bB1 HB.out GE125.out⟩
 ·rw [if_neg c7] at H
  have c7b0 : (t126 == 0) = false := beq_eq_false_iff_ne.mpr c7; have c7b1 : (t126 != 0) = true := bne_iff_ne.mpr c7
  simp only [Option.some.injEq, Prod.mk.injEq] at H
  obtain ⟨rfl, rfl⟩ := H
  go_enter Try.func15, Try.ntmps15
  go_wp2_with (first | ((with_reducible refine gate_dst (N := 6) rfl ?_); refine box_event ?hg (N := 6) ?hd (cs := #[.string a1_0, .slice A1_1 l1_1.length c1_1, .slice A1_2 l1_2.length c1_2, .slice A1_3 l1_3.length c1_3, .slice A1_4 l1_4.length c1_4]) (t := 27) ?hr ?_; (case hd => rfl); (case hg => rfl); (case hr => first | (go_simp; done) | (go_simp; rfl)); intro gb125 hg w105 hbox hb; have n0_ := aM (below_step (bB HB.out) hb); have n1_ := aM (hbox); have n2_ := aM ((by rw [hg]; exact (below_size (bB HB.out)) : w.heap.size ≤ gb125)); have n3_ := aM ((by rw [hg]; exact (below_size (bB HB.out)) : w.heap.size ≤ gb125)); clear HB; have HB := n0_; have BK125 := n1_; have GW125 := n2_; have GE125 := n3_; clear n0_ n1_ n2_ n3_; clear hb hbox hg; have hcz106_0 : w105.cell? ⟨gb125, 0, none⟩ = some (.string a1_0) := (blk_cell BK125.out 0).trans rfl; have hcz106_1 : w105.cell? ⟨gb125, 1, none⟩ = some (.slice A1_1 l1_1.length c1_1) := (blk_cell BK125.out 1).trans rfl; have hcz106_2 : w105.cell? ⟨gb125, 2, none⟩ = some (.slice A1_2 l1_2.length c1_2) := (blk_cell BK125.out 2).trans rfl; have hcz106_3 : w105.cell? ⟨gb125, 3, none⟩ = some (.slice A1_3 l1_3.length c1_3) := (blk_cell BK125.out 3).trans rfl; have hcz106_4 : w105.cell? ⟨gb125, 4, none⟩ = some (.slice A1_4 l1_4.length c1_4) := (blk_cell BK125.out 4).trans rfl; have hfz106_0 := blk_frozen BK125.out 0; have hfz106_1 := blk_frozen BK125.out 1; have hfz106_2 := blk_frozen BK125.out 2; have hfz106_3 := blk_frozen BK125.out 3; have hfz106_4 := blk_frozen BK125.out 4) | ((with_reducible refine gate_callee (f := 13) rfl ?_); refine goesL_ (some 22) rfl rfl Try.func13 (by kernel_rfl) rfl #[.slice A0 l0.length c0, .agg #[.string a1_0, .slice A1_1 l1_1.length c1_1, .slice A1_2 l1_2.length c1_2, .slice A1_3 l1_3.length c1_3, .slice A1_4 l1_4.length c1_4], .int .i64 a2, .slice A3 l3.length c3] rfl mT ?_; (with_reducible refine (binding_CheckTerms.calls k _ _ l0 a1_0 _ _ l1_1 _ _ l1_2 _ _ l1_3 _ _ l1_4 a2 _ _ l3 t126 _ ?side1 ?side2 ?side3 ?side4 ?side5 ?side6 ?side7 ?side8 ?side9 ?side10 ?side11 ?side12 A6.out).mono ?_); (case side1 => exact cB HR0.out HB.out); (case side2 => exact HC0.out); (case side3 => exact cB HR1_1.out HB.out); (case side4 => exact HC1_1.out); (case side5 => exact cB HR1_2.out HB.out); (case side6 => exact HC1_2.out); (case side7 => exact cB HR1_3.out HB.out); (case side8 => exact HC1_3.out); (case side9 => exact cB HR1_4.out HB.out); (case side10 => exact HC1_4.out); (case side11 => exact cB HR3.out HB.out); (case side12 => exact HC3.out); rintro e w107 ⟨rfl, hb⟩; refine ⟨_, rfl, ?_⟩; have n0_ := aM (kW BK125.out hb); have n1_ := aM (below_step (bB1 HB.out GE125.out) hb); clear BK125; clear HB; have BK125 := n0_; have HB := n1_; clear n0_ n1_; (try clear hb); (try clear hb2); (try clear hk); (try clear hi)))
  go_ret2
  exact ⟨_, rT, by first | exact Kd.R_nil _ _ _ _ _ | exact Kd.N_nil _ _ _ _ _ | exact Kd.V_nil _ _ _ _ _ | exact Kd.Q_nil _ _ _ _ _ | exact Kd.S_nil _ _ _ _ _, bB1 HB.out GE125.out⟩




section
-- STUBBED 42
/-! ### binding_holds: function 42: by hand -/
open Go.Proofs.Ytapkjfnfkalibaa.Iter

def badG (op x y : Int) : Bool := ((op == 1) && (x != y)) || ((op == 2) && (x == y)) || ((op == 3) && decide (y ≤ x))
def holdsGo (b : List Int) : List S62 → Option Bool
 | [] => some true
 | g :: gs => if (0 ≤ g.f1 ∧ g.f1 < (b.length : Int)) ∧ 0 ≤ g.f2 ∧ g.f2 < (b.length : Int) then (if badG g.f0 (rd b g.f1) (rd b g.f2) = true then some false else holdsGo b gs) else none

def binding_holds.f (a0 : ByteArray) (b0 : List S48) (c0 : List S62) (d0 : List S111) (e0 : List S111) (l1 : List Int) : Option Bool := if c0.length ≤ 1000 then holdsGo l1 c0 else none
set_option maxHeartbeats 16000000 in
set_option maxRecDepth 100000 in
theorem binding_holds.calls (a0_0 : ByteArray) (A0_1 : Option Addr) (c0_1 : Nat) (l0_1 : List S48) (A0_2 : Option Addr) (c0_2 : Nat) (l0_2 : List S62) (A0_3 : Option Addr) (c0_3 : Nat) (l0_3 : List S111) (A0_4 : Option Addr) (c0_4 : Nat) (l0_4 : List S111) (A1 : Option Addr) (c1 : Nat) (l1 : List Int) (r : Bool) (w : World) (hr0_1 : Kd.C k48 w A0_1 l0_1.length l0_1) (hc0_1 : l0_1.length ≤ c0_1) (hr0_2 : Kd.C k62 w A0_2 l0_2.length l0_2) (hc0_2 : l0_2.length ≤ c0_2) (hr0_3 : Kd.C k111 w A0_3 l0_3.length l0_3) (hc0_3 : l0_3.length ≤ c0_3) (hr0_4 : Kd.C k111 w A0_4 l0_4.length l0_4) (hc0_4 : l0_4.length ≤ c0_4) (hr1 : Kd.C (Kd.int .i64) w A1 l1.length l1) (hc1 : l1.length ≤ c1) (h : binding_holds.f a0_0 l0_1 l0_2 l0_3 l0_4 l1 = some r) :
  Calls Try.prog 42 #[.agg #[.string a0_0, .slice A0_1 l0_1.length c0_1, .slice A0_2 l0_2.length c0_2, .slice A0_3 l0_3.length c0_3, .slice A0_4 l0_4.length c0_4], .slice A1 l1.length c1] w fun e w' => e = .returned (.bool r) ∧ Below w.heap.size w w' := by
 unfold binding_holds.f at h
 by_cases hle : l0_2.length ≤ 1000
 ·rw [if_pos hle] at h
  have HRG := Aside0.mk hr0_2
  have HRB := Aside0.mk hr1
  clear hr0_1 hc0_1 hr0_2 hc0_2 hr0_3 hc0_3 hr0_4 hc0_4 hr1 hc1
  have HH := Aside0.mk (show holdsGo l1 (l0_2.drop 0) = some r by rw [List.drop_zero]; exact h)
  clear h
  have HB := Aside0.mk (show Below w.heap.size w (w.alloc (.cells #[.string a0_0, .slice A0_1 l0_1.length c0_1, .slice A0_2 l0_2.length c0_2, .slice A0_3 l0_3.length c0_3, .slice A0_4 l0_4.length c0_4] 27)) from (Below.refl _ w).alloc (Nat.le_refl _) _)
  go_enter Try.func42, Try.ntmps42
  go_wp2
  go_loopw [12] (fun v12 wr => ∃ j : Nat, v12 = .int .i64 (j : Int) ∧ j ≤ l0_2.length ∧ Aside0 (holdsGo l1 (l0_2.drop j) = some r) ∧ Aside0 (Below w.heap.size w wr)) (fun v12 _ => l0_2.length + 1 - (intOf v12).toNat)
  case atStart => exact ⟨0, rfl, Nat.zero_le _, HH, HB⟩
  case round =>
   clear HH HB
   obtain ⟨j, rfl, hj, HH, HB⟩ := hrel
   by_cases hjl : j < l0_2.length
   ·have H := HH.out
    obtain ⟨adg, eg, hg0, hg1, hg2⟩ := at_T62 HRG.out (j : Int) (by omega) (by omega)
    obtain ⟨g, egg⟩ : ∃ g, g = l0_2[j] := ⟨_, rfl⟩
    rw [show rd_T62 l0_2 (j : Int) = g by rw [egg]; simp [rd_T62, hjl]] at hg0 hg1 hg2
    rw [Int.toNat_natCast] at hg0 hg1 hg2
    rw [List.drop_eq_getElem_cons hjl, holdsGo, ← egg] at H
    replace hg0 := (HB.out.cell (World.block_lt_of_cell? w _ hg0)).trans hg0
    replace hg1 := (HB.out.cell (World.block_lt_of_cell? w _ hg1)).trans hg1
    replace hg2 := (HB.out.cell (World.block_lt_of_cell? w _ hg2)).trans hg2
    cases eg
    clear egg
    have hsr := HB.out.size
    have p1 : (0 ≤ (j : Int)) = True := eq_true (by omega)
    have qq1 : ((j : Int) < (l0_2.length : Int)) = True := eq_true (by omega)
    have qq3 : decide ((j : Int) < (l0_2.length : Int)) = true := decide_eq_true (by omega)
    by_cases hin : (0 ≤ g.f1 ∧ g.f1 < (l1.length : Int)) ∧ 0 ≤ g.f2 ∧ g.f2 < (l1.length : Int)
    ·rw [if_pos hin] at H
     obtain ⟨⟨b1, b2⟩, b3, b4⟩ := hin
     obtain ⟨adv, ev1, hy⟩ := Kd.at_int HRB.out g.f1 b1 b2
     obtain ⟨adw, ev2, hz⟩ := Kd.at_int HRB.out g.f2 b3 b4
     obtain rfl : adv = adw := by rw [ev1] at ev2; injection ev2
     obtain ⟨x, ex⟩ : ∃ x, rd l1 g.f1 = x := ⟨_, rfl⟩
     obtain ⟨y, ey⟩ : ∃ y, rd l1 g.f2 = y := ⟨_, rfl⟩
     rw [ex] at hy H
     rw [ey] at hz H
     have hY : ∀ o, (wr.alloc o).cell? _ = _ := fun o => ((below_alloc HB.out o).cell (World.block_lt_of_cell? w _ hy)).trans hy
     have hZ : ∀ o, (wr.alloc o).cell? _ = _ := fun o => ((below_alloc HB.out o).cell (World.block_lt_of_cell? w _ hz)).trans hz
     have r1 : (0 ≤ g.f1) = True := eq_true b1
     have r2 : (g.f1 < (l1.length : Int)) = True := eq_true b2
     have r3 : (0 ≤ g.f2) = True := eq_true b3
     have r4 : (g.f2 < (l1.length : Int)) = True := eq_true b4
     cases ev1
     clear ev2 hy hz b1 b2 b3 b4 ex ey
     have H2 := Aside0.mk H
     clear H
     obtain ⟨e1, q1⟩ : ∃ b, (g.f0 == 1) = b := ⟨_, rfl⟩
     obtain ⟨e2, q2⟩ : ∃ b, (g.f0 == 2) = b := ⟨_, rfl⟩
     obtain ⟨e3, q3⟩ : ∃ b, (g.f0 == 3) = b := ⟨_, rfl⟩
     obtain ⟨n1, s1⟩ : ∃ b, (x != y) = b := ⟨_, rfl⟩
     obtain ⟨n2, s2⟩ : ∃ b, (x == y) = b := ⟨_, rfl⟩
     obtain ⟨n3, s3⟩ : ∃ b, decide (y ≤ x) = b := ⟨_, rfl⟩
     have HBAD := Aside0.mk (show badG g.f0 x y = ((e1 && n1) || (e2 && n2) || (e3 && n3)) by unfold badG; rw [q1, q2, q3, s1, s2, s3])
     cases e1 with
     | true =>
      cases n1 with
      | true =>
       have H := H2.out
       rw [HBAD.out, show (_ || _ || _) = true from rfl, if_pos rfl, Option.some.injEq] at H
       subst H
       go_wp2
       go_region
       all_goals go_wp2
       all_goals go_ret
       all_goals exact ⟨rfl, by (with_reducible repeat (first | apply pw_below_drewN | apply below_drew1)); exact below_alloc HB.out _⟩
      | false =>
       cases e2 with
       | true =>
        cases n2 with
        | true =>
         have H := H2.out
         rw [HBAD.out, show (_ || _ || _) = true from rfl, if_pos rfl, Option.some.injEq] at H
         subst H
         go_wp2
         go_region
         all_goals go_wp2
         all_goals go_ret
         all_goals exact ⟨rfl, by (with_reducible repeat (first | apply pw_below_drewN | apply below_drew1)); exact below_alloc HB.out _⟩
        | false =>
         cases e3 with
         | true =>
          cases n3 with
          | true =>
           have H := H2.out
           rw [HBAD.out, show (_ || _ || _) = true from rfl, if_pos rfl, Option.some.injEq] at H
           subst H
           go_wp2
           go_region
           all_goals go_wp2
           all_goals go_ret
           all_goals exact ⟨rfl, by (with_reducible repeat (first | apply pw_below_drewN | apply below_drew1)); exact below_alloc HB.out _⟩
          | false =>
           have H := H2.out
           rw [HBAD.out, show (_ || _ || _) = false from rfl, if_neg (by simp)] at H
           have HH3 := Aside0.mk H
           clear H
           go_wp2
           go_region
           all_goals go_wp2
           go_roundw
           case rel => exact ⟨j + 1, rfl, by omega, HH3, ⟨by (with_reducible repeat (first | apply pw_below_drewN | apply below_drew1)); exact below_alloc HB.out _⟩⟩
           case measure => simp [intOf]; omega
         | false =>
          have H := H2.out
          rw [HBAD.out, show (_ || _ || _) = false from rfl, if_neg (by simp)] at H
          have HH3 := Aside0.mk H
          clear H
          go_wp2
          go_region
          all_goals go_wp2
          go_roundw
          case rel => exact ⟨j + 1, rfl, by omega, HH3, ⟨by (with_reducible repeat (first | apply pw_below_drewN | apply below_drew1)); exact below_alloc HB.out _⟩⟩
          case measure => simp [intOf]; omega
       | false =>
        cases e3 with
        | true =>
         cases n3 with
         | true =>
          have H := H2.out
          rw [HBAD.out, show (_ || _ || _) = true from rfl, if_pos rfl, Option.some.injEq] at H
          subst H
          go_wp2
          go_region
          all_goals go_wp2
          all_goals go_ret
          all_goals exact ⟨rfl, by (with_reducible repeat (first | apply pw_below_drewN | apply below_drew1)); exact below_alloc HB.out _⟩
         | false =>
          have H := H2.out
          rw [HBAD.out, show (_ || _ || _) = false from rfl, if_neg (by simp)] at H
          have HH3 := Aside0.mk H
          clear H
          go_wp2
          go_region
          all_goals go_wp2
          go_roundw
          case rel => exact ⟨j + 1, rfl, by omega, HH3, ⟨by (with_reducible repeat (first | apply pw_below_drewN | apply below_drew1)); exact below_alloc HB.out _⟩⟩
          case measure => simp [intOf]; omega
        | false =>
         have H := H2.out
         rw [HBAD.out, show (_ || _ || _) = false from rfl, if_neg (by simp)] at H
         have HH3 := Aside0.mk H
         clear H
         go_wp2
         go_region
         all_goals go_wp2
         go_roundw
         case rel => exact ⟨j + 1, rfl, by omega, HH3, ⟨by (with_reducible repeat (first | apply pw_below_drewN | apply below_drew1)); exact below_alloc HB.out _⟩⟩
         case measure => simp [intOf]; omega
     | false =>
      cases e2 with
      | true =>
       cases n2 with
       | true =>
        have H := H2.out
        rw [HBAD.out, show (_ || _ || _) = true from rfl, if_pos rfl, Option.some.injEq] at H
        subst H
        go_wp2
        go_region
        all_goals go_wp2
        all_goals go_ret
        all_goals exact ⟨rfl, by (with_reducible repeat (first | apply pw_below_drewN | apply below_drew1)); exact below_alloc HB.out _⟩
       | false =>
        cases e3 with
        | true =>
         cases n3 with
         | true =>
          have H := H2.out
          rw [HBAD.out, show (_ || _ || _) = true from rfl, if_pos rfl, Option.some.injEq] at H
          subst H
          go_wp2
          go_region
          all_goals go_wp2
          all_goals go_ret
          all_goals exact ⟨rfl, by (with_reducible repeat (first | apply pw_below_drewN | apply below_drew1)); exact below_alloc HB.out _⟩
         | false =>
          have H := H2.out
          rw [HBAD.out, show (_ || _ || _) = false from rfl, if_neg (by simp)] at H
          have HH3 := Aside0.mk H
          clear H
          go_wp2
          go_region
          all_goals go_wp2
          go_roundw
          case rel => exact ⟨j + 1, rfl, by omega, HH3, ⟨by (with_reducible repeat (first | apply pw_below_drewN | apply below_drew1)); exact below_alloc HB.out _⟩⟩
          case measure => simp [intOf]; omega
        | false =>
         have H := H2.out
         rw [HBAD.out, show (_ || _ || _) = false from rfl, if_neg (by simp)] at H
         have HH3 := Aside0.mk H
         clear H
         go_wp2
         go_region
         all_goals go_wp2
         go_roundw
         case rel => exact ⟨j + 1, rfl, by omega, HH3, ⟨by (with_reducible repeat (first | apply pw_below_drewN | apply below_drew1)); exact below_alloc HB.out _⟩⟩
         case measure => simp [intOf]; omega
      | false =>
       cases e3 with
       | true =>
        cases n3 with
        | true =>
         have H := H2.out
         rw [HBAD.out, show (_ || _ || _) = true from rfl, if_pos rfl, Option.some.injEq] at H
         subst H
         go_wp2
         go_region
         all_goals go_wp2
         all_goals go_ret
         all_goals exact ⟨rfl, by (with_reducible repeat (first | apply pw_below_drewN | apply below_drew1)); exact below_alloc HB.out _⟩
        | false =>
         have H := H2.out
         rw [HBAD.out, show (_ || _ || _) = false from rfl, if_neg (by simp)] at H
         have HH3 := Aside0.mk H
         clear H
         go_wp2
         go_region
         all_goals go_wp2
         go_roundw
         case rel => exact ⟨j + 1, rfl, by omega, HH3, ⟨by (with_reducible repeat (first | apply pw_below_drewN | apply below_drew1)); exact below_alloc HB.out _⟩⟩
         case measure => simp [intOf]; omega
       | false =>
        have H := H2.out
        rw [HBAD.out, show (_ || _ || _) = false from rfl, if_neg (by simp)] at H
        have HH3 := Aside0.mk H
        clear H
        go_wp2
        go_region
        all_goals go_wp2
        go_roundw
        case rel => exact ⟨j + 1, rfl, by omega, HH3, ⟨by (with_reducible repeat (first | apply pw_below_drewN | apply below_drew1)); exact below_alloc HB.out _⟩⟩
        case measure => simp [intOf]; omega
    ·rw [if_neg hin] at H
     cases H
   ·obtain rfl : j = l0_2.length := by omega
    have H := HH.out
    rw [List.drop_length, holdsGo, Option.some.injEq] at H
    subst H
    have qq3 : decide ((l0_2.length : Int) < (l0_2.length : Int)) = false := decide_eq_false (by omega)
    clear HH
    go_wp2
    go_ret
    exact ⟨rfl, HB.out⟩
 ·rw [if_neg hle] at h
  cases h


end



/-! ### binding_Holds: function 18 -/
def binding_Holds.f (k : Nat) (l0 : List (S51)) (a1_0 : ByteArray) (l1_1 : List (S48)) (l1_2 : List (S62)) (l1_3 : List (S111)) (l1_4 : List (S111)) (l2 : List Int) : Option (Bool) := (binding_Check.f l0 a1_0 l1_1 l1_2 l1_3 l1_4).bind fun t155 => (if t155 = 0 then ((binding_is.f k l0 a1_0 l1_1 l1_2 l1_3 l1_4 l2).bind fun t156 => (if t156 = true then ((binding_holds.f a1_0 l1_1 l1_2 l1_3 l1_4 l2).bind fun t157 => (some t157)) else (some false))) else (some false))
theorem binding_Holds.mono : ∀ a0 a1 a2 a3 a4 a5 a6 k, LeO (binding_Holds.f k a0 a1 a2 a3 a4 a5 a6) (binding_Holds.f (k + 1) a0 a1 a2 a3 a4 a5 a6) := by
 intro a0 a1 a2 a3 a4 a5 a6 k
 unfold binding_Holds.f
 repeat' first
   | (with_reducible first | exact binding_is.mono _ _ _ _ _ _ _ _ | exact LeO.refl _ | exact LeO.none _ | refine LeO.ite ?_ ?_ | refine LeO.bind ?_ (fun _ => ?_))
   | exact LeO.none _
   | refine LeO.ite ?_ ?_
   | refine LeO.bind ?_ (fun _ => ?_)
set_option maxHeartbeats 8000000 in
set_option maxRecDepth 100000 in
theorem binding_Holds.calls (k : Nat) (A0 : Option Addr) (c0 : Nat) (l0 : List (S51)) (a1_0 : ByteArray) (A1_1 : Option Addr) (c1_1 : Nat) (l1_1 : List (S48)) (A1_2 : Option Addr) (c1_2 : Nat) (l1_2 : List (S62)) (A1_3 : Option Addr) (c1_3 : Nat) (l1_3 : List (S111)) (A1_4 : Option Addr) (c1_4 : Nat) (l1_4 : List (S111)) (A2 : Option Addr) (c2 : Nat) (l2 : List Int) (r : Bool) (w : World) (hr0 : Kd.C k51 w A0 l0.length l0) (hc0 : l0.length ≤ c0) (hr1_1 : Kd.C k48 w A1_1 l1_1.length l1_1) (hc1_1 : l1_1.length ≤ c1_1) (hr1_2 : Kd.C k62 w A1_2 l1_2.length l1_2) (hc1_2 : l1_2.length ≤ c1_2) (hr1_3 : Kd.C k111 w A1_3 l1_3.length l1_3) (hc1_3 : l1_3.length ≤ c1_3) (hr1_4 : Kd.C k111 w A1_4 l1_4.length l1_4) (hc1_4 : l1_4.length ≤ c1_4) (hr2 : Kd.C (Kd.int .i64) w A2 l2.length l2) (hc2 : l2.length ≤ c2) (h : binding_Holds.f k l0 a1_0 l1_1 l1_2 l1_3 l1_4 l2 = some r) :
  Calls Try.prog 18 #[.slice A0 l0.length c0, .agg #[.string a1_0, .slice A1_1 l1_1.length c1_1, .slice A1_2 l1_2.length c1_2, .slice A1_3 l1_3.length c1_3, .slice A1_4 l1_4.length c1_4], .slice A2 l2.length c2] w fun e w' => e = .returned (.bool r) ∧ Below w.heap.size w w' := by
 have hu27 := Try.underlying27; have hu9 := Try.underlying9; have hu23 := Try.underlying23; have hu24 := Try.underlying24; have hu25 := Try.underlying25; have HR0 := aM hr0; have HC0 := aM hc0; clear hr0 hc0; have HR1_1 := aM hr1_1; have HC1_1 := aM hc1_1; clear hr1_1 hc1_1; have HR1_2 := aM hr1_2; have HC1_2 := aM hc1_2; clear hr1_2 hc1_2; have HR1_3 := aM hr1_3; have HC1_3 := aM hc1_3; clear hr1_3 hc1_3; have HR1_4 := aM hr1_4; have HC1_4 := aM hc1_4; clear hr1_4 hc1_4; have HR2 := aM hr2; have HC2 := aM hc2; clear hr2 hc2; have HB := aM (Below.refl w.heap.size w)
 have H : ((binding_Check.f l0 a1_0 l1_1 l1_2 l1_3 l1_4).bind fun t155 => (if t155 = 0 then ((binding_is.f k l0 a1_0 l1_1 l1_2 l1_3 l1_4 l2).bind fun t156 => (if t156 = true then ((binding_holds.f a1_0 l1_1 l1_2 l1_3 l1_4 l2).bind fun t157 => (some t157)) else (some false))) else (some false))) = some r := h
 clear h; replace H := Option.bind_eq_some_iff.mp H; obtain ⟨t155, A40, H⟩ := H
 replace H : (if t155 = 0 then ((binding_is.f k l0 a1_0 l1_1 l1_2 l1_3 l1_4 l2).bind fun t156 => (if t156 = true then ((binding_holds.f a1_0 l1_1 l1_2 l1_3 l1_4 l2).bind fun t157 => (some t157)) else (some false))) else (some false)) = some r := H
 have A4 := aM A40; clear A40
 by_cases c5 : t155 = 0
 ·rw [if_pos c5] at H
  have c5b0 : (t155 == 0) = true := beq_iff_eq.mpr c5; have c5b1 : (t155 != 0) = false := bne_eq_false_iff_eq.mpr c5; clear c5; replace H := Option.bind_eq_some_iff.mp H; obtain ⟨t156, A60, H⟩ := H
  replace H : (if t156 = true then ((binding_holds.f a1_0 l1_1 l1_2 l1_3 l1_4 l2).bind fun t157 => (some t157)) else (some false)) = some r := H
  have A6 := aM A60; clear A60
  by_cases c7 : t156 = true
  ·subst c7
   have H1 : ((binding_holds.f a1_0 l1_1 l1_2 l1_3 l1_4 l2).bind fun t157 => (some t157)) = some r := by rw [if_pos rfl] at H; exact H
   clear H; have H := H1; clear H1; replace H := Option.bind_eq_some_iff.mp H; obtain ⟨t157, A80, H⟩ := H
   replace H : (some t157) = some r := H
   have A8 := aM A80; clear A80
   obtain rfl := Option.some.inj H
   go_enter Try.func18, Try.ntmps18
   go_wp2_with (first | ((with_reducible refine gate_dst (N := 4) rfl ?_); refine box_event ?hg (N := 4) ?hd (cs := #[.string a1_0, .slice A1_1 l1_1.length c1_1, .slice A1_2 l1_2.length c1_2, .slice A1_3 l1_3.length c1_3, .slice A1_4 l1_4.length c1_4]) (t := 27) ?hr ?_; (case hd => rfl); (case hg => rfl); (case hr => first | (go_simp; done) | (go_simp; rfl)); intro gb154 hg w9 hbox hb; have n0_ := aM (below_step (bB HB.out) hb); have n1_ := aM (hbox); have n2_ := aM ((by rw [hg]; exact (below_size (bB HB.out)) : w.heap.size ≤ gb154)); have n3_ := aM ((by rw [hg]; exact (below_size (bB HB.out)) : w.heap.size ≤ gb154)); clear HB; have HB := n0_; have BK154 := n1_; have GW154 := n2_; have GE154 := n3_; clear n0_ n1_ n2_ n3_; clear hb hbox hg; have hcz10_0 : w9.cell? ⟨gb154, 0, none⟩ = some (.string a1_0) := (blk_cell BK154.out 0).trans rfl; have hcz10_1 : w9.cell? ⟨gb154, 1, none⟩ = some (.slice A1_1 l1_1.length c1_1) := (blk_cell BK154.out 1).trans rfl; have hcz10_2 : w9.cell? ⟨gb154, 2, none⟩ = some (.slice A1_2 l1_2.length c1_2) := (blk_cell BK154.out 2).trans rfl; have hcz10_3 : w9.cell? ⟨gb154, 3, none⟩ = some (.slice A1_3 l1_3.length c1_3) := (blk_cell BK154.out 3).trans rfl; have hcz10_4 : w9.cell? ⟨gb154, 4, none⟩ = some (.slice A1_4 l1_4.length c1_4) := (blk_cell BK154.out 4).trans rfl; have hfz10_0 := blk_frozen BK154.out 0; have hfz10_1 := blk_frozen BK154.out 1; have hfz10_2 := blk_frozen BK154.out 2; have hfz10_3 := blk_frozen BK154.out 3; have hfz10_4 := blk_frozen BK154.out 4) | ((with_reducible refine gate_callee (f := 11) rfl ?_); refine goesL_ (some 9) rfl rfl Try.func11 (by kernel_rfl) rfl #[.slice A0 l0.length c0, .agg #[.string a1_0, .slice A1_1 l1_1.length c1_1, .slice A1_2 l1_2.length c1_2, .slice A1_3 l1_3.length c1_3, .slice A1_4 l1_4.length c1_4]] rfl mT ?_; (with_reducible refine (binding_Check.calls _ _ l0 a1_0 _ _ l1_1 _ _ l1_2 _ _ l1_3 _ _ l1_4 t155 _ ?side1 ?side2 ?side3 ?side4 ?side5 ?side6 ?side7 ?side8 ?side9 ?side10 A4.out).mono ?_); (case side1 => exact cB HR0.out HB.out); (case side2 => exact HC0.out); (case side3 => exact cB HR1_1.out HB.out); (case side4 => exact HC1_1.out); (case side5 => exact cB HR1_2.out HB.out); (case side6 => exact HC1_2.out); (case side7 => exact cB HR1_3.out HB.out); (case side8 => exact HC1_3.out); (case side9 => exact cB HR1_4.out HB.out); (case side10 => exact HC1_4.out); rintro e w11 ⟨rfl, hb⟩; refine ⟨_, rfl, ?_⟩; have n0_ := aM (kW BK154.out hb); have n1_ := aM (below_step (bB1 HB.out GE154.out) hb); clear BK154; clear HB; have BK154 := n0_; have HB := n1_; clear n0_ n1_; (try clear hb); (try clear hb2); (try clear hk); (try clear hi); have hcz12_0 : w11.cell? ⟨gb154, 0, none⟩ = some (.string a1_0) := (blk_cell BK154.out 0).trans rfl; have hcz12_1 : w11.cell? ⟨gb154, 1, none⟩ = some (.slice A1_1 l1_1.length c1_1) := (blk_cell BK154.out 1).trans rfl; have hcz12_2 : w11.cell? ⟨gb154, 2, none⟩ = some (.slice A1_2 l1_2.length c1_2) := (blk_cell BK154.out 2).trans rfl; have hcz12_3 : w11.cell? ⟨gb154, 3, none⟩ = some (.slice A1_3 l1_3.length c1_3) := (blk_cell BK154.out 3).trans rfl; have hcz12_4 : w11.cell? ⟨gb154, 4, none⟩ = some (.slice A1_4 l1_4.length c1_4) := (blk_cell BK154.out 4).trans rfl; have hfz12_0 := blk_frozen BK154.out 0; have hfz12_1 := blk_frozen BK154.out 1; have hfz12_2 := blk_frozen BK154.out 2; have hfz12_3 := blk_frozen BK154.out 3; have hfz12_4 := blk_frozen BK154.out 4) | (go_at_call 37; (with_reducible refine (binding_is.calls k _ _ l0 a1_0 _ _ l1_1 _ _ l1_2 _ _ l1_3 _ _ l1_4 _ _ l2 true _ ?side1 ?side2 ?side3 ?side4 ?side5 ?side6 ?side7 ?side8 ?side9 ?side10 ?side11 ?side12 A6.out).mono ?_); (case side1 => exact cB HR0.out HB.out); (case side2 => exact HC0.out); (case side3 => exact cB HR1_1.out HB.out); (case side4 => exact HC1_1.out); (case side5 => exact cB HR1_2.out HB.out); (case side6 => exact HC1_2.out); (case side7 => exact cB HR1_3.out HB.out); (case side8 => exact HC1_3.out); (case side9 => exact cB HR1_4.out HB.out); (case side10 => exact HC1_4.out); (case side11 => exact cB HR2.out HB.out); (case side12 => exact HC2.out); rintro e w13 ⟨rfl, hb⟩; have n0_ := aM (kW BK154.out hb); have n1_ := aM (below_step (bB1 HB.out GE154.out) hb); clear BK154; clear HB; have BK154 := n0_; have HB := n1_; clear n0_ n1_; (try clear hb); (try clear hb2); (try clear hk); (try clear hi); have hcz14_0 : w13.cell? ⟨gb154, 0, none⟩ = some (.string a1_0) := (blk_cell BK154.out 0).trans rfl; have hcz14_1 : w13.cell? ⟨gb154, 1, none⟩ = some (.slice A1_1 l1_1.length c1_1) := (blk_cell BK154.out 1).trans rfl; have hcz14_2 : w13.cell? ⟨gb154, 2, none⟩ = some (.slice A1_2 l1_2.length c1_2) := (blk_cell BK154.out 2).trans rfl; have hcz14_3 : w13.cell? ⟨gb154, 3, none⟩ = some (.slice A1_3 l1_3.length c1_3) := (blk_cell BK154.out 3).trans rfl; have hcz14_4 : w13.cell? ⟨gb154, 4, none⟩ = some (.slice A1_4 l1_4.length c1_4) := (blk_cell BK154.out 4).trans rfl; have hfz14_0 := blk_frozen BK154.out 0; have hfz14_1 := blk_frozen BK154.out 1; have hfz14_2 := blk_frozen BK154.out 2; have hfz14_3 := blk_frozen BK154.out 3; have hfz14_4 := blk_frozen BK154.out 4) | (go_at_call 42; (with_reducible refine (binding_holds.calls a1_0 _ _ l1_1 _ _ l1_2 _ _ l1_3 _ _ l1_4 _ _ l2 t157 _ ?side1 ?side2 ?side3 ?side4 ?side5 ?side6 ?side7 ?side8 ?side9 ?side10 A8.out).mono ?_); (case side1 => exact cB HR1_1.out HB.out); (case side2 => exact HC1_1.out); (case side3 => exact cB HR1_2.out HB.out); (case side4 => exact HC1_2.out); (case side5 => exact cB HR1_3.out HB.out); (case side6 => exact HC1_3.out); (case side7 => exact cB HR1_4.out HB.out); (case side8 => exact HC1_4.out); (case side9 => exact cB HR2.out HB.out); (case side10 => exact HC2.out); rintro e w15 ⟨rfl, hb⟩; have n0_ := aM (kW BK154.out hb); have n1_ := aM (below_step (bB1 HB.out GE154.out) hb); clear BK154; clear HB; have BK154 := n0_; have HB := n1_; clear n0_ n1_; (try clear hb); (try clear hb2); (try clear hk); (try clear hi)))
   go_ret
   exact ⟨rT, bB1 HB.out GE154.out⟩
  ·replace c7 := Bool.eq_false_iff.mpr c7
   subst c7
   have H1 : (some false) = some r := by rw [if_neg (show ¬ (false = true) by decide)] at H; exact H
   clear H; have H := H1; clear H1
   obtain rfl := Option.some.inj H
   go_enter Try.func18, Try.ntmps18
   go_wp2_with (first | ((with_reducible refine gate_dst (N := 4) rfl ?_); refine box_event ?hg (N := 4) ?hd (cs := #[.string a1_0, .slice A1_1 l1_1.length c1_1, .slice A1_2 l1_2.length c1_2, .slice A1_3 l1_3.length c1_3, .slice A1_4 l1_4.length c1_4]) (t := 27) ?hr ?_; (case hd => rfl); (case hg => rfl); (case hr => first | (go_simp; done) | (go_simp; rfl)); intro gb154 hg w16 hbox hb; have n0_ := aM (below_step (bB HB.out) hb); have n1_ := aM (hbox); have n2_ := aM ((by rw [hg]; exact (below_size (bB HB.out)) : w.heap.size ≤ gb154)); have n3_ := aM ((by rw [hg]; exact (below_size (bB HB.out)) : w.heap.size ≤ gb154)); clear HB; have HB := n0_; have BK154 := n1_; have GW154 := n2_; have GE154 := n3_; clear n0_ n1_ n2_ n3_; clear hb hbox hg; have hcz17_0 : w16.cell? ⟨gb154, 0, none⟩ = some (.string a1_0) := (blk_cell BK154.out 0).trans rfl; have hcz17_1 : w16.cell? ⟨gb154, 1, none⟩ = some (.slice A1_1 l1_1.length c1_1) := (blk_cell BK154.out 1).trans rfl; have hcz17_2 : w16.cell? ⟨gb154, 2, none⟩ = some (.slice A1_2 l1_2.length c1_2) := (blk_cell BK154.out 2).trans rfl; have hcz17_3 : w16.cell? ⟨gb154, 3, none⟩ = some (.slice A1_3 l1_3.length c1_3) := (blk_cell BK154.out 3).trans rfl; have hcz17_4 : w16.cell? ⟨gb154, 4, none⟩ = some (.slice A1_4 l1_4.length c1_4) := (blk_cell BK154.out 4).trans rfl; have hfz17_0 := blk_frozen BK154.out 0; have hfz17_1 := blk_frozen BK154.out 1; have hfz17_2 := blk_frozen BK154.out 2; have hfz17_3 := blk_frozen BK154.out 3; have hfz17_4 := blk_frozen BK154.out 4) | ((with_reducible refine gate_callee (f := 11) rfl ?_); refine goesL_ (some 9) rfl rfl Try.func11 (by kernel_rfl) rfl #[.slice A0 l0.length c0, .agg #[.string a1_0, .slice A1_1 l1_1.length c1_1, .slice A1_2 l1_2.length c1_2, .slice A1_3 l1_3.length c1_3, .slice A1_4 l1_4.length c1_4]] rfl mT ?_; (with_reducible refine (binding_Check.calls _ _ l0 a1_0 _ _ l1_1 _ _ l1_2 _ _ l1_3 _ _ l1_4 t155 _ ?side1 ?side2 ?side3 ?side4 ?side5 ?side6 ?side7 ?side8 ?side9 ?side10 A4.out).mono ?_); (case side1 => exact cB HR0.out HB.out); (case side2 => exact HC0.out); (case side3 => exact cB HR1_1.out HB.out); (case side4 => exact HC1_1.out); (case side5 => exact cB HR1_2.out HB.out); (case side6 => exact HC1_2.out); (case side7 => exact cB HR1_3.out HB.out); (case side8 => exact HC1_3.out); (case side9 => exact cB HR1_4.out HB.out); (case side10 => exact HC1_4.out); rintro e w18 ⟨rfl, hb⟩; refine ⟨_, rfl, ?_⟩; have n0_ := aM (kW BK154.out hb); have n1_ := aM (below_step (bB1 HB.out GE154.out) hb); clear BK154; clear HB; have BK154 := n0_; have HB := n1_; clear n0_ n1_; (try clear hb); (try clear hb2); (try clear hk); (try clear hi); have hcz19_0 : w18.cell? ⟨gb154, 0, none⟩ = some (.string a1_0) := (blk_cell BK154.out 0).trans rfl; have hcz19_1 : w18.cell? ⟨gb154, 1, none⟩ = some (.slice A1_1 l1_1.length c1_1) := (blk_cell BK154.out 1).trans rfl; have hcz19_2 : w18.cell? ⟨gb154, 2, none⟩ = some (.slice A1_2 l1_2.length c1_2) := (blk_cell BK154.out 2).trans rfl; have hcz19_3 : w18.cell? ⟨gb154, 3, none⟩ = some (.slice A1_3 l1_3.length c1_3) := (blk_cell BK154.out 3).trans rfl; have hcz19_4 : w18.cell? ⟨gb154, 4, none⟩ = some (.slice A1_4 l1_4.length c1_4) := (blk_cell BK154.out 4).trans rfl; have hfz19_0 := blk_frozen BK154.out 0; have hfz19_1 := blk_frozen BK154.out 1; have hfz19_2 := blk_frozen BK154.out 2; have hfz19_3 := blk_frozen BK154.out 3; have hfz19_4 := blk_frozen BK154.out 4) | (go_at_call 37; (with_reducible refine (binding_is.calls k _ _ l0 a1_0 _ _ l1_1 _ _ l1_2 _ _ l1_3 _ _ l1_4 _ _ l2 false _ ?side1 ?side2 ?side3 ?side4 ?side5 ?side6 ?side7 ?side8 ?side9 ?side10 ?side11 ?side12 A6.out).mono ?_); (case side1 => exact cB HR0.out HB.out); (case side2 => exact HC0.out); (case side3 => exact cB HR1_1.out HB.out); (case side4 => exact HC1_1.out); (case side5 => exact cB HR1_2.out HB.out); (case side6 => exact HC1_2.out); (case side7 => exact cB HR1_3.out HB.out); (case side8 => exact HC1_3.out); (case side9 => exact cB HR1_4.out HB.out); (case side10 => exact HC1_4.out); (case side11 => exact cB HR2.out HB.out); (case side12 => exact HC2.out); rintro e w20 ⟨rfl, hb⟩; have n0_ := aM (kW BK154.out hb); have n1_ := aM (below_step (bB1 HB.out GE154.out) hb); clear BK154; clear HB; have BK154 := n0_; have HB := n1_; clear n0_ n1_; (try clear hb); (try clear hb2); (try clear hk); (try clear hi)))
   go_ret
   exact ⟨rT, bB1 HB.out GE154.out⟩
 ·rw [if_neg c5] at H
  have c5b0 : (t155 == 0) = false := beq_eq_false_iff_ne.mpr c5; have c5b1 : (t155 != 0) = true := bne_iff_ne.mpr c5
  obtain rfl := Option.some.inj H
  go_enter Try.func18, Try.ntmps18
  go_wp2_with (first | ((with_reducible refine gate_dst (N := 4) rfl ?_); refine box_event ?hg (N := 4) ?hd (cs := #[.string a1_0, .slice A1_1 l1_1.length c1_1, .slice A1_2 l1_2.length c1_2, .slice A1_3 l1_3.length c1_3, .slice A1_4 l1_4.length c1_4]) (t := 27) ?hr ?_; (case hd => rfl); (case hg => rfl); (case hr => first | (go_simp; done) | (go_simp; rfl)); intro gb154 hg w21 hbox hb; have n0_ := aM (below_step (bB HB.out) hb); have n1_ := aM (hbox); have n2_ := aM ((by rw [hg]; exact (below_size (bB HB.out)) : w.heap.size ≤ gb154)); have n3_ := aM ((by rw [hg]; exact (below_size (bB HB.out)) : w.heap.size ≤ gb154)); clear HB; have HB := n0_; have BK154 := n1_; have GW154 := n2_; have GE154 := n3_; clear n0_ n1_ n2_ n3_; clear hb hbox hg; have hcz22_0 : w21.cell? ⟨gb154, 0, none⟩ = some (.string a1_0) := (blk_cell BK154.out 0).trans rfl; have hcz22_1 : w21.cell? ⟨gb154, 1, none⟩ = some (.slice A1_1 l1_1.length c1_1) := (blk_cell BK154.out 1).trans rfl; have hcz22_2 : w21.cell? ⟨gb154, 2, none⟩ = some (.slice A1_2 l1_2.length c1_2) := (blk_cell BK154.out 2).trans rfl; have hcz22_3 : w21.cell? ⟨gb154, 3, none⟩ = some (.slice A1_3 l1_3.length c1_3) := (blk_cell BK154.out 3).trans rfl; have hcz22_4 : w21.cell? ⟨gb154, 4, none⟩ = some (.slice A1_4 l1_4.length c1_4) := (blk_cell BK154.out 4).trans rfl; have hfz22_0 := blk_frozen BK154.out 0; have hfz22_1 := blk_frozen BK154.out 1; have hfz22_2 := blk_frozen BK154.out 2; have hfz22_3 := blk_frozen BK154.out 3; have hfz22_4 := blk_frozen BK154.out 4) | ((with_reducible refine gate_callee (f := 11) rfl ?_); refine goesL_ (some 9) rfl rfl Try.func11 (by kernel_rfl) rfl #[.slice A0 l0.length c0, .agg #[.string a1_0, .slice A1_1 l1_1.length c1_1, .slice A1_2 l1_2.length c1_2, .slice A1_3 l1_3.length c1_3, .slice A1_4 l1_4.length c1_4]] rfl mT ?_; (with_reducible refine (binding_Check.calls _ _ l0 a1_0 _ _ l1_1 _ _ l1_2 _ _ l1_3 _ _ l1_4 t155 _ ?side1 ?side2 ?side3 ?side4 ?side5 ?side6 ?side7 ?side8 ?side9 ?side10 A4.out).mono ?_); (case side1 => exact cB HR0.out HB.out); (case side2 => exact HC0.out); (case side3 => exact cB HR1_1.out HB.out); (case side4 => exact HC1_1.out); (case side5 => exact cB HR1_2.out HB.out); (case side6 => exact HC1_2.out); (case side7 => exact cB HR1_3.out HB.out); (case side8 => exact HC1_3.out); (case side9 => exact cB HR1_4.out HB.out); (case side10 => exact HC1_4.out); rintro e w23 ⟨rfl, hb⟩; refine ⟨_, rfl, ?_⟩; have n0_ := aM (kW BK154.out hb); have n1_ := aM (below_step (bB1 HB.out GE154.out) hb); clear BK154; clear HB; have BK154 := n0_; have HB := n1_; clear n0_ n1_; (try clear hb); (try clear hb2); (try clear hk); (try clear hi)))
  go_ret
  exact ⟨rT, bB1 HB.out GE154.out⟩

-- NOT PRINTED: function 60 (abi_NoEscape)

-- NOT PRINTED: function 58 (strings_Builder_copyCheck)

-- NOT PRINTED: function 61 (bytealg_MakeNoZero)

-- NOT PRINTED: function 59 (strings_Builder_grow)

-- NOT PRINTED: function 53 (strings_Builder_Grow)

-- NOT PRINTED: function 54 (strings_Builder_WriteString)

-- NOT PRINTED: function 55 (strings_Builder_String)




section
-- STUBBED 43
/-! ### strings_Join: function 43: by hand -/
open Go.Shelf
def joinRen : Go.Shelf.Ren := ⟨fun | 156 => 43 | 165 => 53 | 166 => 54 | 169 => 55 | 240 => 58 | 241 => 59 | 276 => 60 | 277 => 61 | n => n, fun | 31 => 49 | 9 => 9 | 3 => 3 | 4 => 4 | 0 => 0 | 20 => 20 | 72 => 83 | 76 => 87 | 70 => 80 | 37 => 81 | 75 => 86 | 127 => 92 | 164 => 93 | 5 => 5 | 80 => 89 | n => n, fun | n => n⟩
theorem joinLays : Go.Proofs.Lays.n156 Try.prog joinRen := {
 mixed := by kernel_rfl
 f156 := Try.func43.trans (congrArg some (by kernel_rfl))
 f165 := Try.func53.trans (congrArg some (by kernel_rfl))
 f166 := Try.func54.trans (congrArg some (by kernel_rfl))
 f169 := Try.func55.trans (congrArg some (by kernel_rfl))
 f240 := Try.func58.trans (congrArg some (by kernel_rfl))
 f241 := Try.func59.trans (congrArg some (by kernel_rfl))
 f276 := Try.func60.trans (congrArg some (by kernel_rfl))
 f277 := Try.func61.trans (congrArg some (by kernel_rfl))
 t0 := Try.underlying0
 a0 := Try.isAgg0
 z0 := Try.sizeOf0
 v0 := Try.zeroValue0
 t3 := Try.underlying3
 a3 := Try.isAgg3
 z3 := Try.sizeOf3
 v3 := Try.zeroValue3
 t4 := Try.underlying4
 a4 := Try.isAgg4
 z4 := Try.sizeOf4
 v4 := Try.zeroValue4
 t9 := Try.underlying9
 a9 := Try.isAgg9
 z9 := Try.sizeOf9
 v9 := Try.zeroValue9
 t20 := Try.underlying20
 a20 := Try.isAgg20
 z20 := Try.sizeOf20
 v20 := Try.zeroValue20
 t31 := Try.underlying49
 a31 := Try.isAgg49
 z31 := Try.sizeOf49
 v31 := Try.zeroValue49
 t37 := Try.underlying81
 a37 := Try.isAgg81
 z37 := Try.sizeOf81
 v37 := Try.zeroValue81
 t70 := Try.underlying80
 a70 := Try.isAgg80
 z70 := Try.sizeOf80
 v70 := Try.zeroValue80
 t72 := Try.underlying83
 a72 := Try.isAgg83
 z72 := Try.sizeOf83
 v72 := Try.zeroValue83
 t75 := Try.underlying86
 a75 := Try.isAgg86
 z75 := Try.sizeOf86
 v75 := Try.zeroValue86
 t76 := Try.underlying87
 a76 := Try.isAgg87
 z76 := Try.sizeOf87
 v76 := Try.zeroValue87
 t127 := Try.underlying92
 a127 := Try.isAgg92
 z127 := Try.sizeOf92
 v127 := Try.zeroValue92
 t164 := Try.underlying93
 a164 := Try.isAgg93
 z164 := Try.sizeOf93
 v164 := Try.zeroValue93 }
theorem joinExtra : Builder.Extra Try.prog joinRen := {
 sizeBuilder := by kernel_rfl
 liesBuilder := by kernel_rfl
 t5 := Try.underlying5
 a5 := Try.isAgg5
 z5 := Try.sizeOf5
 v5 := Try.zeroValue5
 infoByte := by kernel_rfl
 cellsByte := by kernel_rfl
 sizeByte := by kernel_rfl
 neB5 := by decide }
theorem join_none (a : Option Addr) (c : Nat) (sep : ByteArray) (w : World) :
  Calls Try.prog 43 #[.slice a 0 c, .string sep] w fun e w' => e = .returned (.string ⟨#[]⟩) ∧ w' = w := Go.Proofs.Any.strings_Join_none joinLays joinExtra a c sep w
theorem join_some (bk o c : Nat) (xs : List ByteArray) (sep : ByteArray) (w : World) (hcells : ∀ (j : Nat) x, xs[j]? = some x → w.cell? ⟨bk, o + j, none⟩ = some (.string x)) (hbk : bk < w.heap.size) (hN : xs.length ≤ 140737488355328) (hcap : xs.length ≤ c) (hlen : (Lib.join (xs.map (·.data.toList)) sep.data.toList).length ≤ 140737488355328) :
  Calls Try.prog 43 #[.slice (some ⟨bk, o, none⟩) xs.length c, .string sep] w fun e w' => e = .returned (.string ⟨(Lib.join (xs.map (·.data.toList)) sep.data.toList).toArray⟩) ∧ Below w.heap.size w w' := Go.Proofs.Any.strings_Join joinLays joinExtra bk o c xs sep w hcells hbk hN hcap hlen
def joinB (l0 : List ByteArray) (sep : ByteArray) : ByteArray := ⟨(Lib.join (l0.map (·.data.toList)) sep.data.toList).toArray⟩
def strings_Join.f (l0 : List ByteArray) (a1 : ByteArray) : Option ByteArray := if l0.length ≤ 1000 ∧ (Lib.join (l0.map (·.data.toList)) a1.data.toList).length ≤ 1099511627776 then some (joinB l0 a1) else none
theorem strings_Join.calls (A0 : Option Addr) (c0 : Nat) (l0 : List ByteArray) (a1 : ByteArray) (r : ByteArray) (w : World) (hr0 : Kd.C Kd.string w A0 l0.length l0) (hc0 : l0.length ≤ c0) (h : strings_Join.f l0 a1 = some r) :
  Calls Try.prog 43 #[.slice A0 l0.length c0, .string a1] w fun e w' => e = .returned (.string r) ∧ Below w.heap.size w w' := by
 unfold strings_Join.f at h
 split at h
 ·rename_i hle
  obtain rfl := Option.some.inj h
  cases hl : l0 with
  | nil =>
   refine (join_none A0 c0 a1 w).mono ?_
   rintro e w' ⟨rfl, rfl⟩
   exact ⟨by simp [joinB, Lib.join], Below.refl _ _⟩
  | cons x0 xs =>
   rw [← hl]
   have hpos : 0 < l0.length := by rw [hl]; simp
   obtain ⟨ad, e, hx⟩ := Kd.at_string hr0 0 (by omega) (by omega)
   have hx' : w.cell? ad = some (.string (rdOf ByteArray.empty l0 0)) := by simpa [Addr.add] using hx
   have hsp : ad.spot = none := by
    unfold World.cell? at hx'
    split at hx'
    ·split at hx'
     ·cases hx'
     ·rename_i hs
      cases hq : ad.spot with
      | none => rfl
      | some q => rw [hq] at hs; simp at hs
    ·cases hx'
   obtain ⟨bk, o, sp⟩ := ad
   simp only at hsp
   subst hsp
   subst e
   refine join_some bk o c0 l0 a1 w ?_ (World.block_lt_of_cell? w _ hx') (by omega) hc0 (by omega)
   intro j x hj
   obtain ⟨hjl, hjx⟩ := List.getElem?_eq_some_iff.1 hj
   obtain ⟨ad2, e2, h2⟩ := Kd.at_string hr0 (j : Int) (by omega) (by omega)
   cases e2
   rw [Int.toNat_natCast] at h2
   have hr : rdOf ByteArray.empty l0 (j : Int) = x := by simp [rdOf, hj]
   rw [hr] at h2
   rw [← h2]
   unfold Addr.add
   split
   ·rename_i h0; subst h0; rfl
   ·rfl
 ·cases h


end



/-! ### binding_Text: function 20 -/
mutual
def binding_Text.j0 : Nat → List (S51) → List Int → Bool → ByteArray → List (S48) → List (S62) → List (S111) → List (S111) → Option (ByteArray)
 | 0, _, _, _, _, _, _, _, _ => none
 | k + 1, x0, x2, x20, x159000, x159001, x159002, x159003, x159004 => if x20 = true then (some (⟨#[]⟩ : ByteArray)) else (if (x2.length : Int) = 0 then (some (⟨#[45]⟩ : ByteArray)) else (binding_Text.l0 k x0 x2 ([] : List ByteArray) x159001 (x159001.length : Int) 0))
def binding_Text.l0 : Nat → List (S51) → List Int → List ByteArray → List (S48) → Int → Int → Option (ByteArray)
 | 0, _, _, _, _, _, _ => none
 | k + 1, x0, x2, x7, x25, x26, x27 => if x27 < x26 then (if 0 ≤ x27 then (if x27 < (x25.length : Int) then (if ((rd_T48 x25 x27).f0).size + 1 ≤ 9223372036854775807 then (if 0 ≤ ((rd_T48 x25 x27).f1) then (if ((rd_T48 x25 x27).f1) < (x0.length : Int) then (if x27 < (x2.length : Int) then (if 0 ≤ (rd x2 x27) then (if (rd x2 x27) < (((rd_T51 x0 ((rd_T48 x25 x27).f1)).f1).length : Int) then (if (((rd_T48 x25 x27).f0) ++ (⟨#[61]⟩ : ByteArray)).size + (rdOf ByteArray.empty ((rd_T51 x0 ((rd_T48 x25 x27).f1)).f1) (rd x2 x27)).size ≤ 9223372036854775807 then (if x7.length < 8796093022208 then (binding_Text.l0 k x0 x2 (x7 ++ [(((rd_T48 x25 x27).f0) ++ (⟨#[61]⟩ : ByteArray)) ++ (rdOf ByteArray.empty ((rd_T51 x0 ((rd_T48 x25 x27).f1)).f1) (rd x2 x27))]) x25 x26 (wrap64 (x27 + 1))) else (none)) else (none)) else (none)) else (none)) else (none)) else (none)) else (none)) else (none)) else (none)) else (none)) else ((strings_Join.f x7 (⟨#[44]⟩ : ByteArray)).bind fun t169 => (some t169))
end
def binding_Text.f (k : Nat) (l0 : List (S51)) (a1_0 : ByteArray) (l1_1 : List (S48)) (l1_2 : List (S62)) (l1_3 : List (S111)) (l1_4 : List (S111)) (l2 : List Int) : Option (ByteArray) := (binding_Check.f l0 a1_0 l1_1 l1_2 l1_3 l1_4).bind fun t159 => (if t159 = 0 then ((binding_is.f k l0 a1_0 l1_1 l1_2 l1_3 l1_4 l2).bind fun t160 => (binding_Text.j0 k l0 l2 (!t160) a1_0 l1_1 l1_2 l1_3 l1_4)) else (binding_Text.j0 k l0 l2 true a1_0 l1_1 l1_2 l1_3 l1_4))
theorem binding_Text.mono_l : ∀ k, (∀ y0 y1 y2 y3 y4 y5 y6 y7, LeO (binding_Text.j0 k y0 y1 y2 y3 y4 y5 y6 y7) (binding_Text.j0 (k + 1) y0 y1 y2 y3 y4 y5 y6 y7)) ∧ (∀ y0 y1 y2 y3 y4 y5, LeO (binding_Text.l0 k y0 y1 y2 y3 y4 y5) (binding_Text.l0 (k + 1) y0 y1 y2 y3 y4 y5))
 | 0 => ⟨fun _ _ _ _ _ _ _ _ r h => by simp [binding_Text.j0] at h, fun _ _ _ _ _ _ r h => by simp [binding_Text.l0] at h⟩
 | k + 1 => by
  obtain ⟨ih0, ih1⟩ := binding_Text.mono_l k
  refine ⟨?_, ?_⟩
  ·intro y0 y1 y2 y3 y4 y5 y6 y7
   unfold binding_Text.j0
   repeat' first
   | (with_reducible first | exact ih0 _ _ _ _ _ _ _ _ | exact ih1 _ _ _ _ _ _ | exact binding_is.mono _ _ _ _ _ _ _ _ | exact LeO.refl _ | exact LeO.none _ | refine LeO.ite ?_ ?_ | refine LeO.bind ?_ (fun _ => ?_))
   | exact LeO.none _
   | refine LeO.ite ?_ ?_
   | refine LeO.bind ?_ (fun _ => ?_)
  ·intro y0 y1 y2 y3 y4 y5
   unfold binding_Text.l0
   repeat' first
   | (with_reducible first | exact ih0 _ _ _ _ _ _ _ _ | exact ih1 _ _ _ _ _ _ | exact binding_is.mono _ _ _ _ _ _ _ _ | exact LeO.refl _ | exact LeO.none _ | refine LeO.ite ?_ ?_ | refine LeO.bind ?_ (fun _ => ?_))
   | exact LeO.none _
   | refine LeO.ite ?_ ?_
   | refine LeO.bind ?_ (fun _ => ?_)
theorem binding_Text.mono : ∀ a0 a1 a2 a3 a4 a5 a6 k, LeO (binding_Text.f k a0 a1 a2 a3 a4 a5 a6) (binding_Text.f (k + 1) a0 a1 a2 a3 a4 a5 a6) := by
 intro a0 a1 a2 a3 a4 a5 a6 k
 obtain ⟨ih0, ih1⟩ := binding_Text.mono_l k
 unfold binding_Text.f
 repeat' first
   | (with_reducible first | exact ih0 _ _ _ _ _ _ _ _ | exact ih1 _ _ _ _ _ _ | exact binding_is.mono _ _ _ _ _ _ _ _ | exact LeO.refl _ | exact LeO.none _ | refine LeO.ite ?_ ?_ | refine LeO.bind ?_ (fun _ => ?_))
   | exact LeO.none _
   | refine LeO.ite ?_ ?_
   | refine LeO.bind ?_ (fun _ => ?_)
def binding_Text.T9 : Bool × List (List Nat × List Nat) := (true, [([], []), ([], []), ([1], [1]), ([2], [2]), ([], []), ([], []), ([5], [5]), ([4, 6], [4, 6]), ([7], [7]), ([8], [8]), ([], []), ([], []), ([10, 11], [10, 11]), ([12], [12]), ([9, 13], [9, 13]), ([14], [14]), ([3, 15], [3, 15]), ([16], [16]), ([0, 17], [0, 17]), ([18, 18, 0, 1, 2, 3, 4, 5, 6, 7, 8, 9, 10, 11, 12, 13, 14, 15, 16, 17, 18], [0, 18])])
def binding_Text.B9 : List Nat := [0, 0, 2, 6, 0, 0, 32, 112, 240, 496, 0, 0, 3072, 7168, 16368, 32752, 65534, 131070, 262143, 524287]
theorem binding_Text.tab9 : rtab .any (opsOf Try.f20 9) = binding_Text.T9 := by kernel_rfl
theorem binding_Text.bits9 : waitsOk binding_Text.T9.2 binding_Text.B9 = true := by kernel_rfl
set_option maxHeartbeats 8000000 in
set_option maxRecDepth 100000 in
theorem binding_Text.calls (k : Nat) (A0 : Option Addr) (c0 : Nat) (l0 : List (S51)) (a1_0 : ByteArray) (A1_1 : Option Addr) (c1_1 : Nat) (l1_1 : List (S48)) (A1_2 : Option Addr) (c1_2 : Nat) (l1_2 : List (S62)) (A1_3 : Option Addr) (c1_3 : Nat) (l1_3 : List (S111)) (A1_4 : Option Addr) (c1_4 : Nat) (l1_4 : List (S111)) (A2 : Option Addr) (c2 : Nat) (l2 : List Int) (r : ByteArray) (w : World) (hr0 : Kd.C k51 w A0 l0.length l0) (hc0 : l0.length ≤ c0) (hr1_1 : Kd.C k48 w A1_1 l1_1.length l1_1) (hc1_1 : l1_1.length ≤ c1_1) (hr1_2 : Kd.C k62 w A1_2 l1_2.length l1_2) (hc1_2 : l1_2.length ≤ c1_2) (hr1_3 : Kd.C k111 w A1_3 l1_3.length l1_3) (hc1_3 : l1_3.length ≤ c1_3) (hr1_4 : Kd.C k111 w A1_4 l1_4.length l1_4) (hc1_4 : l1_4.length ≤ c1_4) (hr2 : Kd.C (Kd.int .i64) w A2 l2.length l2) (hc2 : l2.length ≤ c2) (h : binding_Text.f k l0 a1_0 l1_1 l1_2 l1_3 l1_4 l2 = some r) :
  Calls Try.prog 20 #[.slice A0 l0.length c0, .agg #[.string a1_0, .slice A1_1 l1_1.length c1_1, .slice A1_2 l1_2.length c1_2, .slice A1_3 l1_3.length c1_3, .slice A1_4 l1_4.length c1_4], .slice A2 l2.length c2] w fun e w' => e = .returned (.string r) ∧ Below w.heap.size w w' := by
 have hu27 := Try.underlying27; have hu9 := Try.underlying9; have hu23 := Try.underlying23; have hu24 := Try.underlying24; have hu25 := Try.underlying25; have hu48 := Try.underlying48; have hu3 := Try.underlying3; have hu9 := Try.underlying9; have HR0 := aM hr0; have HC0 := aM hc0; clear hr0 hc0; have HR1_1 := aM hr1_1; have HC1_1 := aM hc1_1; clear hr1_1 hc1_1; have HR1_2 := aM hr1_2; have HC1_2 := aM hc1_2; clear hr1_2 hc1_2; have HR1_3 := aM hr1_3; have HC1_3 := aM hc1_3; clear hr1_3 hc1_3; have HR1_4 := aM hr1_4; have HC1_4 := aM hc1_4; clear hr1_4 hc1_4; have HR2 := aM hr2; have HC2 := aM hc2; clear hr2 hc2; have HB := aM (Below.refl w.heap.size w); have H : ((binding_Check.f l0 a1_0 l1_1 l1_2 l1_3 l1_4).bind fun t159 => (if t159 = 0 then ((binding_is.f k l0 a1_0 l1_1 l1_2 l1_3 l1_4 l2).bind fun t160 => (binding_Text.j0 k l0 l2 (!t160) a1_0 l1_1 l1_2 l1_3 l1_4)) else (binding_Text.j0 k l0 l2 true a1_0 l1_1 l1_2 l1_3 l1_4))) = some r := h; clear h; have HC4 := aM H; clear H
 go_enter Try.func20, Try.ntmps20
 go_upto_region 1 with (first | ((with_reducible refine gate_dst (N := 4) rfl ?_); refine box_event ?hg (N := 4) ?hd (cs := #[.string a1_0, .slice A1_1 l1_1.length c1_1, .slice A1_2 l1_2.length c1_2, .slice A1_3 l1_3.length c1_3, .slice A1_4 l1_4.length c1_4]) (t := 27) ?hr ?_; (case hd => rfl); (case hg => rfl); (case hr => first | (go_simp; done) | (go_simp; rfl)); intro gb158 hg w5 hbox hb; have n0_ := aM (below_step (bB HB.out) hb); have n1_ := aM (hbox); have n2_ := aM ((by rw [hg]; exact (below_size (bB HB.out)) : w.heap.size ≤ gb158)); have n3_ := aM ((by rw [hg]; exact (below_size (bB HB.out)) : w.heap.size ≤ gb158)); clear HB; have HB := n0_; have BK158 := n1_; have GW158 := n2_; have GE158 := n3_; clear n0_ n1_ n2_ n3_; clear hb hbox hg))
 (try simp only [Act.put, List.setIfInBounds_toArray, List.set_cons_zero, List.set_cons_succ])
 go_cut [20] (fun v20 wc => ∃ (kq : Nat) (x20_3 : Bool), v20 = .bool x20_3 ∧ Aside0 (binding_Text.j0 kq l0 l2 x20_3 a1_0 l1_1 l1_2 l1_3 l1_4 = some r) ∧ Aside0 (kq ≤ k) ∧ Aside0 (wc.heap[gb158]? = some (.cells #[.string a1_0, (.slice A1_1 l1_1.length c1_1), (.slice A1_2 l1_2.length c1_2), (.slice A1_3 l1_3.length c1_3), (.slice A1_4 l1_4.length c1_4)] 27 (0, 0))) ∧ Aside0 (Below w.heap.size w wc))
 case first =>
  have H := HC4.out; clear HC4; replace H := Option.bind_eq_some_iff.mp H; obtain ⟨t159, A60, H⟩ := H
  replace H : (if t159 = 0 then ((binding_is.f k l0 a1_0 l1_1 l1_2 l1_3 l1_4 l2).bind fun t160 => (binding_Text.j0 k l0 l2 (!t160) a1_0 l1_1 l1_2 l1_3 l1_4)) else (binding_Text.j0 k l0 l2 true a1_0 l1_1 l1_2 l1_3 l1_4)) = some r := H
  have A6 := aM A60; clear A60
  by_cases c7 : t159 = 0
  ·rw [if_pos c7] at H
   have c7b0 : (t159 == 0) = true := beq_iff_eq.mpr c7; have c7b1 : (t159 != 0) = false := bne_eq_false_iff_eq.mpr c7; clear c7
   (first | rw [c7b0] | (simp only [i64_w, i32_w]; rw [c7b0]) | skip)
   replace H := Option.bind_eq_some_iff.mp H; obtain ⟨t160, A80, H⟩ := H
   replace H : (binding_Text.j0 k l0 l2 (!t160) a1_0 l1_1 l1_2 l1_3 l1_4) = some r := H
   have A8 := aM A80; clear A80
   have H' := aM H
   clear H
   have hcz9_0 : w5.cell? ⟨gb158, 0, none⟩ = some (.string a1_0) := (blk_cell BK158.out 0).trans rfl
   have hcz9_1 : w5.cell? ⟨gb158, 1, none⟩ = some (.slice A1_1 l1_1.length c1_1) := (blk_cell BK158.out 1).trans rfl
   have hcz9_2 : w5.cell? ⟨gb158, 2, none⟩ = some (.slice A1_2 l1_2.length c1_2) := (blk_cell BK158.out 2).trans rfl
   have hcz9_3 : w5.cell? ⟨gb158, 3, none⟩ = some (.slice A1_3 l1_3.length c1_3) := (blk_cell BK158.out 3).trans rfl
   have hcz9_4 : w5.cell? ⟨gb158, 4, none⟩ = some (.slice A1_4 l1_4.length c1_4) := (blk_cell BK158.out 4).trans rfl
   have hfz9_0 := blk_frozen BK158.out 0; have hfz9_1 := blk_frozen BK158.out 1; have hfz9_2 := blk_frozen BK158.out 2; have hfz9_3 := blk_frozen BK158.out 3; have hfz9_4 := blk_frozen BK158.out 4
   go_wp2_with (first | ((with_reducible refine gate_callee (f := 11) rfl ?_); refine goesL_ (some 12) rfl rfl Try.func11 (by kernel_rfl) rfl #[.slice A0 l0.length c0, .agg #[.string a1_0, .slice A1_1 l1_1.length c1_1, .slice A1_2 l1_2.length c1_2, .slice A1_3 l1_3.length c1_3, .slice A1_4 l1_4.length c1_4]] rfl mT ?_; (with_reducible refine (binding_Check.calls _ _ l0 a1_0 _ _ l1_1 _ _ l1_2 _ _ l1_3 _ _ l1_4 t159 _ ?side1 ?side2 ?side3 ?side4 ?side5 ?side6 ?side7 ?side8 ?side9 ?side10 A6.out).mono ?_); (case side1 => exact cB HR0.out HB.out); (case side2 => exact HC0.out); (case side3 => exact cB HR1_1.out HB.out); (case side4 => exact HC1_1.out); (case side5 => exact cB HR1_2.out HB.out); (case side6 => exact HC1_2.out); (case side7 => exact cB HR1_3.out HB.out); (case side8 => exact HC1_3.out); (case side9 => exact cB HR1_4.out HB.out); (case side10 => exact HC1_4.out); rintro e w10 ⟨rfl, hb⟩; refine ⟨_, rfl, ?_⟩; have n0_ := aM (kW BK158.out hb); have n1_ := aM (below_step (bB1 HB.out GE158.out) hb); clear BK158; clear HB; have BK158 := n0_; have HB := n1_; clear n0_ n1_; (try clear hb); (try clear hb2); (try clear hk); (try clear hi); have hcz11_0 : w10.cell? ⟨gb158, 0, none⟩ = some (.string a1_0) := (blk_cell BK158.out 0).trans rfl; have hcz11_1 : w10.cell? ⟨gb158, 1, none⟩ = some (.slice A1_1 l1_1.length c1_1) := (blk_cell BK158.out 1).trans rfl; have hcz11_2 : w10.cell? ⟨gb158, 2, none⟩ = some (.slice A1_2 l1_2.length c1_2) := (blk_cell BK158.out 2).trans rfl; have hcz11_3 : w10.cell? ⟨gb158, 3, none⟩ = some (.slice A1_3 l1_3.length c1_3) := (blk_cell BK158.out 3).trans rfl; have hcz11_4 : w10.cell? ⟨gb158, 4, none⟩ = some (.slice A1_4 l1_4.length c1_4) := (blk_cell BK158.out 4).trans rfl; have hfz11_0 := blk_frozen BK158.out 0; have hfz11_1 := blk_frozen BK158.out 1; have hfz11_2 := blk_frozen BK158.out 2; have hfz11_3 := blk_frozen BK158.out 3; have hfz11_4 := blk_frozen BK158.out 4) | (go_at_call 37; (with_reducible refine (binding_is.calls k _ _ l0 a1_0 _ _ l1_1 _ _ l1_2 _ _ l1_3 _ _ l1_4 _ _ l2 t160 _ ?side1 ?side2 ?side3 ?side4 ?side5 ?side6 ?side7 ?side8 ?side9 ?side10 ?side11 ?side12 A8.out).mono ?_); (case side1 => exact cB HR0.out HB.out); (case side2 => exact HC0.out); (case side3 => exact cB HR1_1.out HB.out); (case side4 => exact HC1_1.out); (case side5 => exact cB HR1_2.out HB.out); (case side6 => exact HC1_2.out); (case side7 => exact cB HR1_3.out HB.out); (case side8 => exact HC1_3.out); (case side9 => exact cB HR1_4.out HB.out); (case side10 => exact HC1_4.out); (case side11 => exact cB HR2.out HB.out); (case side12 => exact HC2.out); rintro e w12 ⟨rfl, hb⟩; have n0_ := aM (kW BK158.out hb); have n1_ := aM (below_step (bB1 HB.out GE158.out) hb); clear BK158; clear HB; have BK158 := n0_; have HB := n1_; clear n0_ n1_; (try clear hb); (try clear hb2); (try clear hk); (try clear hi)))
   go_meet
   case rel => exact ⟨_, (!t160), eT, H', ⟨by first | omega | exact Nat.le_refl _⟩, ⟨kB BK158.out⟩, ⟨bB1 HB.out GE158.out⟩⟩
  ·rw [if_neg c7] at H
   have c7b0 : (t159 == 0) = false := beq_eq_false_iff_ne.mpr c7; have c7b1 : (t159 != 0) = true := bne_iff_ne.mpr c7
   (first | rw [c7b0] | (simp only [i64_w, i32_w]; rw [c7b0]) | skip)
   have H' := aM H
   clear H
   have hcz13_0 : w5.cell? ⟨gb158, 0, none⟩ = some (.string a1_0) := (blk_cell BK158.out 0).trans rfl
   have hcz13_1 : w5.cell? ⟨gb158, 1, none⟩ = some (.slice A1_1 l1_1.length c1_1) := (blk_cell BK158.out 1).trans rfl
   have hcz13_2 : w5.cell? ⟨gb158, 2, none⟩ = some (.slice A1_2 l1_2.length c1_2) := (blk_cell BK158.out 2).trans rfl
   have hcz13_3 : w5.cell? ⟨gb158, 3, none⟩ = some (.slice A1_3 l1_3.length c1_3) := (blk_cell BK158.out 3).trans rfl
   have hcz13_4 : w5.cell? ⟨gb158, 4, none⟩ = some (.slice A1_4 l1_4.length c1_4) := (blk_cell BK158.out 4).trans rfl
   have hfz13_0 := blk_frozen BK158.out 0; have hfz13_1 := blk_frozen BK158.out 1; have hfz13_2 := blk_frozen BK158.out 2; have hfz13_3 := blk_frozen BK158.out 3; have hfz13_4 := blk_frozen BK158.out 4
   go_wp2_with (first | ((with_reducible refine gate_callee (f := 11) rfl ?_); refine goesL_ (some 12) rfl rfl Try.func11 (by kernel_rfl) rfl #[.slice A0 l0.length c0, .agg #[.string a1_0, .slice A1_1 l1_1.length c1_1, .slice A1_2 l1_2.length c1_2, .slice A1_3 l1_3.length c1_3, .slice A1_4 l1_4.length c1_4]] rfl mT ?_; (with_reducible refine (binding_Check.calls _ _ l0 a1_0 _ _ l1_1 _ _ l1_2 _ _ l1_3 _ _ l1_4 t159 _ ?side1 ?side2 ?side3 ?side4 ?side5 ?side6 ?side7 ?side8 ?side9 ?side10 A6.out).mono ?_); (case side1 => exact cB HR0.out HB.out); (case side2 => exact HC0.out); (case side3 => exact cB HR1_1.out HB.out); (case side4 => exact HC1_1.out); (case side5 => exact cB HR1_2.out HB.out); (case side6 => exact HC1_2.out); (case side7 => exact cB HR1_3.out HB.out); (case side8 => exact HC1_3.out); (case side9 => exact cB HR1_4.out HB.out); (case side10 => exact HC1_4.out); rintro e w14 ⟨rfl, hb⟩; refine ⟨_, rfl, ?_⟩; have n0_ := aM (kW BK158.out hb); have n1_ := aM (below_step (bB1 HB.out GE158.out) hb); clear BK158; clear HB; have BK158 := n0_; have HB := n1_; clear n0_ n1_; (try clear hb); (try clear hb2); (try clear hk); (try clear hi)))
   go_meet
   case rel => exact ⟨_, (true), eT, H', ⟨by first | omega | exact Nat.le_refl _⟩, ⟨kB BK158.out⟩, ⟨bB1 HB.out GE158.out⟩⟩
 case rest =>
  clear HC4; obtain ⟨kq, x20_3, rfl, HA, HJ3, BK158, HB⟩ := hcut
  cases kq with
  | zero => exact absurd HA.out (by simp [binding_Text.j0])
  | succ kj3 =>
   have H := HA.out; clear HA
   simp only [binding_Text.j0] at H
   by_cases c15 : x20_3 = true
   ·subst c15
    have H1 : (some (⟨#[]⟩ : ByteArray)) = some r := by rw [if_pos rfl] at H; exact H
    clear H; have H := H1; clear H1
    obtain rfl := Option.some.inj H
    go_wp2
    go_ret
    exact ⟨rT, bB1 HB.out GE158.out⟩
   ·replace c15 := Bool.eq_false_iff.mpr c15
    subst c15
    have H1 : (if (l2.length : Int) = 0 then (some (⟨#[45]⟩ : ByteArray)) else (binding_Text.l0 kj3 l0 l2 ([] : List ByteArray) l1_1 (l1_1.length : Int) 0)) = some r := by rw [if_neg (show ¬ (false = true) by decide)] at H; exact H
    clear H; have H := H1; clear H1
    by_cases c16 : (l2.length : Int) = 0
    ·rw [if_pos c16] at H
     have c16b0 : ((l2.length : Int) == 0) = true := beq_iff_eq.mpr c16; have c16b1 : ((l2.length : Int) != 0) = false := bne_eq_false_iff_eq.mpr c16; clear c16
     obtain rfl := Option.some.inj H
     go_wp2
     go_ret
     exact ⟨rT, bB1 HB.out GE158.out⟩
    ·rw [if_neg c16] at H
     have c16b0 : ((l2.length : Int) == 0) = false := beq_eq_false_iff_ne.mpr c16; have c16b1 : ((l2.length : Int) != 0) = true := bne_iff_ne.mpr c16
     have c16b2 : ¬ (l2 = []) := fun h_ => c16 (by rw [h_]; rfl)
     have H' := aM H
     clear H
     have hcz17_0 : wc.cell? ⟨gb158, 0, none⟩ = some (.string a1_0) := (blk_cell BK158.out 0).trans rfl
     have hcz17_1 : wc.cell? ⟨gb158, 1, none⟩ = some (.slice A1_1 l1_1.length c1_1) := (blk_cell BK158.out 1).trans rfl
     have hcz17_2 : wc.cell? ⟨gb158, 2, none⟩ = some (.slice A1_2 l1_2.length c1_2) := (blk_cell BK158.out 2).trans rfl
     have hcz17_3 : wc.cell? ⟨gb158, 3, none⟩ = some (.slice A1_3 l1_3.length c1_3) := (blk_cell BK158.out 3).trans rfl
     have hcz17_4 : wc.cell? ⟨gb158, 4, none⟩ = some (.slice A1_4 l1_4.length c1_4) := (blk_cell BK158.out 4).trans rfl
     have hfz17_0 := blk_frozen BK158.out 0; have hfz17_1 := blk_frozen BK158.out 1; have hfz17_2 := blk_frozen BK158.out 2; have hfz17_3 := blk_frozen BK158.out 3; have hfz17_4 := blk_frozen BK158.out 4
     go_wp2
     go_loopg [7, 27] kj3 (fun kq v7 v27 w' => ∃ (x7_2 : List ByteArray) (x27_2 : Int), v27 = .int .i64 x27_2 ∧ Aside0 (binding_Text.l0 kq l0 l2 x7_2 l1_1 (l1_1.length : Int) x27_2 = some r) ∧ Aside0 (kq ≤ kj3) ∧ Aside0 (Kd.R Kd.string 9 w' w.heap.size (fun _ => True) v7 x7_2) ∧ Aside0 (w'.heap[gb158]? = some (.cells #[.string a1_0, (.slice A1_1 l1_1.length c1_1), (.slice A1_2 l1_2.length c1_2), (.slice A1_3 l1_3.length c1_3), (.slice A1_4 l1_4.length c1_4)] 27 (0, 0))) ∧ Aside0 (Below w.heap.size w w'))
     case atStart => exact ⟨(([] : List ByteArray)), (0), eT, H', ⟨Nat.le_refl _⟩, ⟨by first | exact Kd.R_nil _ _ _ _ _ | exact Kd.N_nil _ _ _ _ _ | exact Kd.V_nil _ _ _ _ _ | exact Kd.Q_nil _ _ _ _ _ | exact Kd.S_nil _ _ _ _ _⟩, ⟨kB BK158.out⟩, ⟨bB1 HB.out GE158.out⟩⟩
     case round =>
      clear H'; obtain ⟨x7_2, x27_2, rfl, HA, HK2, HO_7, BK158, HB⟩ := hrel
      cases gk with
      | zero => exact absurd HA.out (by simp [binding_Text.l0])
      | succ k2 =>
       have H := HA.out; clear HA
       simp only [binding_Text.l0] at H
       by_cases c18 : x27_2 < (l1_1.length : Int)
       ·rw [if_pos c18] at H
        have c18b0 : decide (x27_2 < (l1_1.length : Int)) = true := decide_eq_true c18; clear c18
        by_cases c19 : 0 ≤ x27_2
        ·rw [if_pos c19] at H
         have c19b0 : decide (0 ≤ x27_2) = true := decide_eq_true c19; clear c19
         by_cases c20 : x27_2 < (l1_1.length : Int)
         ·rw [if_pos c20] at H
          have c20b0 : decide (x27_2 < (l1_1.length : Int)) = true := decide_eq_true c20; clear c20
          by_cases c21 : ((rd_T48 l1_1 x27_2).f0).size + 1 ≤ 9223372036854775807
          ·rw [if_pos c21] at H
           have c21b0 := eq_true c21; have c21b1 : decide (((rd_T48 l1_1 x27_2).f0).size + 1 ≤ 9223372036854775807) = true := decide_eq_true c21
           try have c21b2 : (9223372036854775807 < ((rd_T48 l1_1 x27_2).f0).size + 1) = False := eq_false (Nat.not_lt.2 c21)
           by_cases c22 : 0 ≤ ((rd_T48 l1_1 x27_2).f1)
           ·rw [if_pos c22] at H
            have c22b0 : decide (0 ≤ ((rd_T48 l1_1 x27_2).f1)) = true := decide_eq_true c22; clear c22
            by_cases c23 : ((rd_T48 l1_1 x27_2).f1) < (l0.length : Int)
            ·rw [if_pos c23] at H
             have c23b0 : decide (((rd_T48 l1_1 x27_2).f1) < (l0.length : Int)) = true := decide_eq_true c23; clear c23
             by_cases c24 : x27_2 < (l2.length : Int)
             ·rw [if_pos c24] at H
              have c24b0 : decide (x27_2 < (l2.length : Int)) = true := decide_eq_true c24; clear c24
              by_cases c25 : 0 ≤ (rd l2 x27_2)
              ·rw [if_pos c25] at H
               have c25b0 : decide (0 ≤ (rd l2 x27_2)) = true := decide_eq_true c25; clear c25
               by_cases c26 : (rd l2 x27_2) < (((rd_T51 l0 ((rd_T48 l1_1 x27_2).f1)).f1).length : Int)
               ·rw [if_pos c26] at H
                have c26b0 : decide ((rd l2 x27_2) < (((rd_T51 l0 ((rd_T48 l1_1 x27_2).f1)).f1).length : Int)) = true := decide_eq_true c26; clear c26
                by_cases c27 : (((rd_T48 l1_1 x27_2).f0) ++ (⟨#[61]⟩ : ByteArray)).size + (rdOf ByteArray.empty ((rd_T51 l0 ((rd_T48 l1_1 x27_2).f1)).f1) (rd l2 x27_2)).size ≤ 9223372036854775807
                ·rw [if_pos c27] at H
                 have c27b0 := eq_true c27
                 have c27b1 : decide ((((rd_T48 l1_1 x27_2).f0) ++ (⟨#[61]⟩ : ByteArray)).size + (rdOf ByteArray.empty ((rd_T51 l0 ((rd_T48 l1_1 x27_2).f1)).f1) (rd l2 x27_2)).size ≤ 9223372036854775807) = true := decide_eq_true c27
                 try have c27b2 : (9223372036854775807 < (((rd_T48 l1_1 x27_2).f0) ++ (⟨#[61]⟩ : ByteArray)).size + (rdOf ByteArray.empty ((rd_T51 l0 ((rd_T48 l1_1 x27_2).f1)).f1) (rd l2 x27_2)).size) = False := eq_false (Nat.not_lt.2 c27)
                 try have c27b8 := c27b2
                 try simp only [ByteArray.size_append, show (⟨#[61]⟩ : ByteArray).size = 1 from rfl] at c27b8
                 by_cases c28 : x7_2.length < 8796093022208
                 ·rw [if_pos c28] at H
                  have LMc28 := aM c28; clear c28
                  obtain ⟨y166, hy166⟩ : ∃ y_ : List ByteArray, y_ = (x7_2 ++ [(((rd_T48 l1_1 x27_2).f0) ++ (⟨#[61]⟩ : ByteArray)) ++ (rdOf ByteArray.empty ((rd_T51 l0 ((rd_T48 l1_1 x27_2).f1)).f1) (rd l2 x27_2))]) := ⟨_, rfl⟩
                  replace H : (binding_Text.l0 k2 l0 l2 y166 l1_1 (l1_1.length : Int) (wrap64 (x27_2 + 1))) = some r := by first | (rw [hy166]; with_reducible exact H) | (have H2_ := (Option.bind_some _ _).symm.trans H; rw [hy166]; with_reducible exact H2_) | (have H2_ := (Option.bind_some _ _).symm.trans H; with_reducible exact H2_) | with_reducible exact H | (rw [hy166]; exact H) | exact H
                  have Ny166 := aM hy166; clear hy166
                  have H' := aM H
                  clear H; have p161 : 0 ≤ (x27_2 : Int) := dT; have q161 : x27_2 < (l1_1.length : Int) := dT; obtain ⟨ad161, e161, hx161_0, hx161_1⟩ := at_T48 HR1_1.out x27_2 p161 q161; cases e161
                  try replace hx161_0 := (HB.out.cell (World.block_lt_of_cell? w _ hx161_0)).trans hx161_0
                  try replace hx161_1 := (HB.out.cell (World.block_lt_of_cell? w _ hx161_1)).trans hx161_1
                  replace p161 := eq_true p161; replace q161 := eq_true q161
                  try go_wp2_with (first | ((with_reducible refine gate_dst (N := 9) rfl ?_); refine box_event ?hg (N := 9) ?hd (cs := #[.string (⟨#[]⟩ : ByteArray), .int .i64 0]) (t := 48) ?hr ?_; (case hd => rfl); (case hg => rfl); (case hr => first | (go_simp; done) | (go_simp; rfl)); intro gb162 hg w29 hbox hb; have n0_ := aM (Kd.R_below (oR HO_7.out) hb); have n1_ := aM (kW BK158.out hb); have n2_ := aM (below_step (bB1 HB.out GE158.out) hb); have n3_ := aM (hbox); have n4_ := aM ((by rw [hg]; exact (below_size (bB1 HB.out GE158.out)) : w.heap.size ≤ gb162)); have n5_ := aM ((by rw [hg]; exact (below_size (bB1 HB.out GE158.out)) : w.heap.size ≤ gb162)); have n6_ := aM ((by rw [hg]; exact Nat.ne_of_lt (kL BK158.out) : gb158 ≠ gb162)); have n7_ := aM ((by rw [hg]; exact Nat.ne_of_gt (kL BK158.out) : gb162 ≠ gb158)); clear HO_7; clear BK158; clear HB; have HO_7 := n0_; have BK158 := n1_; have HB := n2_; have BK162 := n3_; have GW162 := n4_; have GE162 := n5_; have NB158_162 := n6_; have NB162_158 := n7_; clear n0_ n1_ n2_ n3_ n4_ n5_ n6_ n7_; clear hb hbox hg; have hnb30 := NB162_158.out; have hnc30 := NB158_162.out; have hcz31_0 : w29.cell? ⟨gb162, 0, none⟩ = some (.string (⟨#[]⟩ : ByteArray)) := (blk_cell BK162.out 0).trans rfl; have hcz31_1 : w29.cell? ⟨gb162, 1, none⟩ = some (.int .i64 0) := (blk_cell BK162.out 1).trans rfl; have hfz31_0 := blk_frozen BK162.out 0; have hfz31_1 := blk_frozen BK162.out 1))
                  have n0_ : Aside0 (Kd.R Kd.string 9 ((w29.setCell ⟨gb162, 0, none⟩ (.string ((rd_T48 l1_1 x27_2).f0))).setCell ⟨gb162, 1, none⟩ (.int .i64 ((rd_T48 l1_1 x27_2).f1))) w.heap.size (fun _ => True) u7 x7_2) := ⟨by refine oR ?_; exact Kd.R_mono (Kd.R_far (p := ⟨gb162, 1, none⟩) (Kd.R_far (p := ⟨gb162, 0, none⟩) (Kd.R_types HO_7.out BK162.out (by decide)) (fun _ hk => hk.2) (.string ((rd_T48 l1_1 x27_2).f0))) (fun _ hk => hk.2) (.int .i64 ((rd_T48 l1_1 x27_2).f1))) (fun _ hk => trivial)⟩
                  have n1_ : Aside0 (((w29.setCell ⟨gb162, 0, none⟩ (.string ((rd_T48 l1_1 x27_2).f0))).setCell ⟨gb162, 1, none⟩ (.int .i64 ((rd_T48 l1_1 x27_2).f1))).heap[gb158]? = some (.cells #[.string a1_0, .slice (some ad161) l1_1.length c1_1, .slice A1_2 l1_2.length c1_2, .slice A1_3 l1_3.length c1_3, .slice A1_4 l1_4.length c1_4] 27 (0, 0))) := ⟨by refine kR ?_; refine blk_far ?_ NB158_162.out _; refine kR ?_; refine blk_far ?_ NB158_162.out _; refine kR ?_; exact BK158.out⟩
                  have n2_ : Aside0 (((w29.setCell ⟨gb162, 0, none⟩ (.string ((rd_T48 l1_1 x27_2).f0))).setCell ⟨gb162, 1, none⟩ (.int .i64 ((rd_T48 l1_1 x27_2).f1))).heap[gb162]? = some (.cells #[.string ((rd_T48 l1_1 x27_2).f0), .int .i64 ((rd_T48 l1_1 x27_2).f1)] 48 (0, 0))) := ⟨by refine kR ?_; refine blk_put (cs := #[.string ((rd_T48 l1_1 x27_2).f0), .int .i64 0]) ?_ 1 _ rfl; refine kR ?_; refine blk_put (cs := #[.string (⟨#[]⟩ : ByteArray), .int .i64 0]) ?_ 0 _ rfl; refine kR ?_; exact BK162.out⟩
                  have n3_ : Aside0 (Below w.heap.size w ((w29.setCell ⟨gb162, 0, none⟩ (.string ((rd_T48 l1_1 x27_2).f0))).setCell ⟨gb162, 1, none⟩ (.int .i64 ((rd_T48 l1_1 x27_2).f1)))) := ⟨bB2 HB.out GE158.out GE162.out⟩
                  (try clear HO_7)
                  (try clear BK158)
                  (try clear BK162)
                  (try clear HB)
                  generalize ((w29.setCell ⟨gb162, 0, none⟩ (.string ((rd_T48 l1_1 x27_2).f0))).setCell ⟨gb162, 1, none⟩ (.int .i64 ((rd_T48 l1_1 x27_2).f1))) = w32 at n0_ n1_ n2_ n3_ ⊢
                  have HO_7 := n0_; have BK158 := n1_; have BK162 := n2_; have HB := n3_; clear n0_ n1_ n2_ n3_; have n0_ := aM (Kd.R_drew HO_7.out); have n1_ := aM (blk_drew BK158.out); have n2_ := aM (blk_drew BK162.out); have n3_ := aM (below_drew1 HB.out); clear HO_7; clear BK158; clear BK162; clear HB; have HO_7 := n0_; have BK158 := n1_; have BK162 := n2_; have HB := n3_; clear n0_ n1_ n2_ n3_; have p163 : 0 ≤ (((rd_T48 l1_1 x27_2).f1) : Int) := dT; have q163 : ((rd_T48 l1_1 x27_2).f1) < (l0.length : Int) := dT; obtain ⟨ad163, A163_1, c163_1, e163, hx163_0, hx163_1, hl163_1, hi163_1⟩ := at_T51 HR0.out ((rd_T48 l1_1 x27_2).f1) p163 q163; have hw163_1 := hx163_1; have hw163_0 := hx163_0; cases e163
                  try replace hx163_0 := (HB.out.cell (World.block_lt_of_cell? w _ hx163_0)).trans hx163_0
                  try replace hx163_1 := (HB.out.cell (World.block_lt_of_cell? w _ hx163_1)).trans hx163_1
                  have HR163_1 := aM hi163_1; have HC163_1 := aM hl163_1; clear hi163_1 hl163_1; replace p163 := eq_true p163; replace q163 := eq_true q163; have p164 : 0 ≤ (x27_2 : Int) := dT; have q164 : x27_2 < (l2.length : Int) := dT; obtain ⟨ad164, e164, hx164_0⟩ := Kd.at_int HR2.out x27_2 p164 q164; have hw164_0 := hx164_0; cases e164
                  try replace hx164_0 := (HB.out.cell (World.block_lt_of_cell? w _ hx164_0)).trans hx164_0
                  replace p164 := eq_true p164; replace q164 := eq_true q164; have p165 : 0 ≤ ((rd l2 x27_2) : Int) := dT; have q165 : (rd l2 x27_2) < (((rd_T51 l0 ((rd_T48 l1_1 x27_2).f1)).f1).length : Int) := dT; obtain ⟨ad165, e165, hx165_0⟩ := Kd.at_string HR163_1.out (rd l2 x27_2) p165 q165; have hw165_0 := hx165_0; cases e165
                  try replace hx165_0 := (HB.out.cell (World.block_lt_of_cell? w _ hx165_0)).trans hx165_0
                  replace p165 := eq_true p165; replace q165 := eq_true q165
                  refine start_ (n := 20) (S := fun w' => w'.cell? ⟨gb162, 0, none⟩ = some (.string ((rd_T48 l1_1 x27_2).f0)) ∧ w'.cell? ⟨gb162, 1, none⟩ = some (.int .i64 ((rd_T48 l1_1 x27_2).f1)) ∧ w'.cell? (ad163.add ((((rd_T48 l1_1 x27_2).f1)).toNat * 2)) = some (.string ((rd_T51 l0 ((rd_T48 l1_1 x27_2).f1)).f0)) ∧ w'.cell? ⟨(ad163.add ((((rd_T48 l1_1 x27_2).f1)).toNat * 2)).block, (ad163.add ((((rd_T48 l1_1 x27_2).f1)).toNat * 2)).off + 1, none⟩ = some (.slice (some ad165) ((rd_T51 l0 ((rd_T48 l1_1 x27_2).f1)).f1).length c163_1) ∧ w'.cell? (ad164.add (x27_2).toNat) = some (.int .i64 (rd l2 x27_2)) ∧ w'.cell? (ad165.add ((rd l2 x27_2)).toNat) = some (.string (rdOf ByteArray.empty ((rd_T51 l0 ((rd_T48 l1_1 x27_2).f1)).f1) (rd l2 x27_2)))) (ds := []) #[false, false, false, false, false, false, false, false, false, false, false, false, false, false, false, false, false, false, false, false] (by kernel_rfl) rfl rfl ⟨(blk_cell BK162.out 0).trans rfl, (blk_cell BK162.out 1).trans rfl, ((HB.out.cell (World.block_lt_of_cell? w _ hw163_0)).trans hw163_0), ((HB.out.cell (World.block_lt_of_cell? w _ hw163_1)).trans hw163_1), ((HB.out.cell (World.block_lt_of_cell? w _ hw164_0)).trans hw164_0), ((HB.out.cell (World.block_lt_of_cell? w _ hw165_0)).trans hw165_0)⟩ (fun hHeld => ?_); refine with_tabW binding_Text.tab9 binding_Text.bits9 (fun HT_ HW_ => ?_)
                  generalize w32.drew = w33 at HO_7 BK158 BK162 HB HR163_1 hx163_0 hx163_1 hx164_0 hx165_0 hHeld ⊢
                  refine pure_ (i := 0) (N := some 32) (v := ?_) (a' := ?_) #[true, false, false, false, false, false, false, false, false, false, false, false, false, false, false, false, false, false, false, false] rfl rfl (any_of HT_.out (by kernel_rfl)) (fun _ _ _ h => h) (Or.inl ⟨by rfl, ?_⟩) ?_ ?_; rotate_left; exact qT; rotate_left; exact pT
                  refine pure_ (i := 1) (N := some 33) (v := ?_) (a' := ?_) #[true, true, false, false, false, false, false, false, false, false, false, false, false, false, false, false, false, false, false, false] rfl rfl (any_of HT_.out (by kernel_rfl)) (fun _ _ _ h => h) (Or.inl ⟨by rfl, ?_⟩) ?_ ?_; rotate_left; exact qT; rotate_left; exact pT
                  refine pure_ (i := 4) (N := some 36) (v := ?_) (a' := ?_) #[true, true, false, false, true, false, false, false, false, false, false, false, false, false, false, false, false, false, false, false] rfl rfl (any_of HT_.out (by kernel_rfl)) (fun _ _ _ h => h) (Or.inl ⟨by rfl, ?_⟩) ?_ ?_; rotate_left; exact qT; rotate_left; exact pT
                  refine pure_ (i := 5) (N := some 37) (v := ?_) (a' := ?_) #[true, true, false, false, true, true, false, false, false, false, false, false, false, false, false, false, false, false, false, false] rfl rfl (any_of HT_.out (by kernel_rfl)) (fun _ _ _ h => h) (Or.inl ⟨by rfl, ?_⟩) ?_ ?_; rotate_left; exact qT; rotate_left; exact pT
                  refine pure_ (i := 10) (N := some 42) (v := ?_) (a' := ?_) #[true, true, false, false, true, true, false, false, false, false, true, false, false, false, false, false, false, false, false, false] rfl rfl (any_of HT_.out (by kernel_rfl)) (fun _ _ _ h => h) (Or.inl ⟨by rfl, ?_⟩) ?_ ?_; rotate_left; exact qT; rotate_left; exact pT
                  refine pure_ (i := 11) (N := some 43) (v := ?_) (a' := ?_) #[true, true, false, false, true, true, false, false, false, false, true, true, false, false, false, false, false, false, false, false] rfl rfl (any_of HT_.out (by kernel_rfl)) (fun _ _ _ h => h) (Or.inl ⟨by rfl, ?_⟩) ?_ ?_; rotate_left; exact qT; rotate_left; exact pT
                  refine pure_ (i := 12) (N := some 44) (v := ?_) (a' := ?_) #[true, true, false, false, true, true, false, false, false, false, true, true, true, false, false, false, false, false, false, false] rfl rfl (any_of HT_.out (by kernel_rfl)) (fun _ _ _ h => h) (Or.inl ⟨by rfl, ?_⟩) ?_ ?_; rotate_left; exact qT; rotate_left; exact pT
                  refine take_ (i := 2) (N := some 34) (v := ?_) (a' := ?_) #[true, true, true, false, true, true, false, false, false, false, true, true, true, false, false, false, false, false, false, false] rfl rfl (take_ofW HT_.out HW_.out (by kernel_rfl)) (fun _ _ _ h => h) (Or.inl ⟨by rfl, ?_⟩) hHeld ?_ ?_; rotate_left; rintro w' ⟨s0, s1, s2, s3, s4, s5⟩; go_simp; with_reducible rfl; rotate_left; exact pT
                  refine pure_ (i := 3) (N := some 35) (v := ?_) (a' := ?_) #[true, true, true, true, true, true, false, false, false, false, true, true, true, false, false, false, false, false, false, false] rfl rfl (any_of HT_.out (by kernel_rfl)) (fun _ _ _ h => h) (Or.inl ⟨by rfl, ?_⟩) ?_ ?_; rotate_left; exact qT; rotate_left; exact pT
                  refine take_ (i := 6) (N := some 38) (v := ?_) (a' := ?_) #[true, true, true, true, true, true, true, false, false, false, true, true, true, false, false, false, false, false, false, false] rfl rfl (take_ofW HT_.out HW_.out (by kernel_rfl)) (fun _ _ _ h => h) (Or.inl ⟨by rfl, ?_⟩) hHeld ?_ ?_; rotate_left; rintro w' ⟨s0, s1, s2, s3, s4, s5⟩; go_simp; with_reducible rfl; rotate_left; exact pT
                  refine pure_ (i := 7) (N := some 39) (v := ?_) (a' := ?_) #[true, true, true, true, true, true, true, true, false, false, true, true, true, false, false, false, false, false, false, false] rfl rfl (any_of HT_.out (by kernel_rfl)) (fun _ _ _ h => h) (Or.inl ⟨by rfl, ?_⟩) ?_ ?_; rotate_left; exact qT; rotate_left; exact pT
                  refine pure_ (i := 8) (N := some 40) (v := ?_) (a' := ?_) #[true, true, true, true, true, true, true, true, true, false, true, true, true, false, false, false, false, false, false, false] rfl rfl (any_of HT_.out (by kernel_rfl)) (fun _ _ _ h => h) (Or.inl ⟨by rfl, ?_⟩) ?_ ?_; rotate_left; exact qT; rotate_left; exact pT
                  refine take_ (i := 9) (N := some 41) (v := ?_) (a' := ?_) #[true, true, true, true, true, true, true, true, true, true, true, true, true, false, false, false, false, false, false, false] rfl rfl (take_ofW HT_.out HW_.out (by kernel_rfl)) (fun _ _ _ h => h) (Or.inl ⟨by rfl, ?_⟩) hHeld ?_ ?_; rotate_left; rintro w' ⟨s0, s1, s2, s3, s4, s5⟩; go_simp; with_reducible rfl; rotate_left; exact pT
                  refine take_ (i := 13) (N := some 45) (v := ?_) (a' := ?_) #[true, true, true, true, true, true, true, true, true, true, true, true, true, true, false, false, false, false, false, false] rfl rfl (take_ofW HT_.out HW_.out (by kernel_rfl)) (fun _ _ _ h => h) (Or.inl ⟨by rfl, ?_⟩) hHeld ?_ ?_; rotate_left; rintro w' ⟨s0, s1, s2, s3, s4, s5⟩; go_simp; with_reducible rfl; rotate_left; exact pT
                  refine pure_ (i := 14) (N := some 46) (v := ?_) (a' := ?_) #[true, true, true, true, true, true, true, true, true, true, true, true, true, true, true, false, false, false, false, false] rfl rfl (any_of HT_.out (by kernel_rfl)) (fun _ _ _ h => h) (Or.inl ⟨by rfl, ?_⟩) ?_ ?_; rotate_left; exact qT; rotate_left; exact pT
                  refine take_ (i := 15) (N := some 47) (v := ?_) (a' := ?_) #[true, true, true, true, true, true, true, true, true, true, true, true, true, true, true, true, false, false, false, false] rfl rfl (take_ofW HT_.out HW_.out (by kernel_rfl)) (fun _ _ _ h => h) (Or.inl ⟨by rfl, ?_⟩) hHeld ?_ ?_; rotate_left; rintro w' ⟨s0, s1, s2, s3, s4, s5⟩; go_simp; with_reducible rfl; rotate_left; exact pT
                  refine pure_ (i := 16) (N := some 48) (v := ?_) (a' := ?_) #[true, true, true, true, true, true, true, true, true, true, true, true, true, true, true, true, true, false, false, false] rfl rfl (any_of HT_.out (by kernel_rfl)) (fun _ _ _ h => h) (Or.inl ⟨by rfl, ?_⟩) ?_ ?_; rotate_left; exact qT; rotate_left; exact pT
                  refine one_ (i := 17) (N := some 49) #[true, true, true, true, true, true, true, true, true, true, true, true, true, true, true, true, true, true, false, false] rfl rfl (one_of HT_.out (by kernel_rfl)) (by decide) (fun K hK => ?_)
                  refine value_ (w1 := ?_) (v := ?_) (by rfl) rfl ?_ ?_
                  rotate_left 2
                  ·go_simp
                   constructor
                   ·rfl
                   ·rfl
                  refine hK.out _ _ ⟨(blk_cell (blk_alloc BK162.out _) 0).trans rfl, (blk_cell (blk_alloc BK162.out _) 1).trans rfl, (World.cell?_alloc_lt _ _ _ (World.block_lt_of_cell? _ _ (((HB.out.cell (World.block_lt_of_cell? w _ hw163_0)).trans hw163_0)))).trans (((HB.out.cell (World.block_lt_of_cell? w _ hw163_0)).trans hw163_0)), (World.cell?_alloc_lt _ _ _ (World.block_lt_of_cell? _ _ (((HB.out.cell (World.block_lt_of_cell? w _ hw163_1)).trans hw163_1)))).trans (((HB.out.cell (World.block_lt_of_cell? w _ hw163_1)).trans hw163_1)), (World.cell?_alloc_lt _ _ _ (World.block_lt_of_cell? _ _ (((HB.out.cell (World.block_lt_of_cell? w _ hw164_0)).trans hw164_0)))).trans (((HB.out.cell (World.block_lt_of_cell? w _ hw164_0)).trans hw164_0)), (World.cell?_alloc_lt _ _ _ (World.block_lt_of_cell? _ _ (((HB.out.cell (World.block_lt_of_cell? w _ hw165_0)).trans hw165_0)))).trans (((HB.out.cell (World.block_lt_of_cell? w _ hw165_0)).trans hw165_0))⟩ (fun hHeld => ?_)
                  clear hK K
                  refine norm_ (a' := ?_) ?_ ?_
                  rotate_left
                  ·show Act.put _ (some 49) _ = _
                   simp only [Act.put, List.setIfInBounds_toArray, List.set_cons_zero, List.set_cons_succ, i64_w, i32_w]
                   rfl
                  refine one_ (i := 18) (N := some 50) #[true, true, true, true, true, true, true, true, true, true, true, true, true, true, true, true, true, true, true, false] rfl rfl (one_of HT_.out (by kernel_rfl)) (by decide) (fun K hK => ?_)
                  refine Kd.R_append_step Kd.string (w0 := w) w.heap.size (by rfl) (.tmp 32) (.tmp 49) 49 9 (.string ⟨#[]⟩) 16 rfl Try.underlying49 info9 rfl (by decide) (by omega) u7 x7_2 ((((rd_T48 l1_1 x27_2).f0) ++ (⟨#[61]⟩ : ByteArray)) ++ (rdOf ByteArray.empty ((rd_T51 l0 ((rd_T48 l1_1 x27_2).f1)).f1) (rd l2 x27_2))) [.string ((((rd_T48 l1_1 x27_2).f0) ++ (⟨#[61]⟩ : ByteArray)) ++ (rdOf ByteArray.empty ((rd_T51 l0 ((rd_T48 l1_1 x27_2).f1)).f1) (rd l2 x27_2)))] (fun _ => True) (fun _ => False) rfl rfl ?aP (fun _ hk => hk.elim) ?aF ?aO ?aB ?aS ?aL ?_
                  (case aP => exact rfl)
                  (case aB => exact (bB2 HB.out GE158.out GE162.out))
                  (case aF => exact (fun _ _ => trivial))
                  (case aO => exact (oR HO_7.out))
                  (case aS => exact (below_size (bB2 HB.out GE158.out GE162.out)))
                  (case aL => have := LMc28.out; omega)
                  intro v167 w34 ho hb hg hat
                  rw [← Ny166.out] at ho; have n0_ := aM (blk_grown (g := gb158) (o := .cells #[.string a1_0, .slice (some ad161) l1_1.length c1_1, .slice A1_2 l1_2.length c1_2, .slice A1_3 l1_3.length c1_3, .slice A1_4 l1_4.length c1_4] 27 (0, 0)) (kB BK158.out) hg (Kd.R_ne HO_7.out BK158.out (by decide))); have n1_ := aM (blk_grown (g := gb162) (o := .cells #[.string ((rd_T48 l1_1 x27_2).f0), .int .i64 ((rd_T48 l1_1 x27_2).f1)] 48 (0, 0)) (kB BK162.out) hg (Kd.R_ne HO_7.out BK162.out (by decide))); have n2_ := aM (hb); have n3_ := aM (ho); clear BK158; clear BK162; clear HB; clear HO_7; have BK158 := n0_; have BK162 := n1_; have HB := n2_; have HO168 := n3_; clear n0_ n1_ n2_ n3_; clear ho hb hg hat
                  refine hK.out _ _ ⟨(blk_cell BK162.out 0).trans rfl, (blk_cell BK162.out 1).trans rfl, ((HB.out.cell (World.block_lt_of_cell? w _ hw163_0)).trans hw163_0), ((HB.out.cell (World.block_lt_of_cell? w _ hw163_1)).trans hw163_1), ((HB.out.cell (World.block_lt_of_cell? w _ hw164_0)).trans hw164_0), ((HB.out.cell (World.block_lt_of_cell? w _ hw165_0)).trans hw165_0)⟩ (fun hHeld => ?_)
                  clear hK K
                  refine norm_ (a' := ?_) ?_ ?_
                  rotate_left
                  ·show Act.put _ (some 50) _ = _
                   simp only [Act.put, List.setIfInBounds_toArray, List.set_cons_zero, List.set_cons_succ, i64_w, i32_w]
                   rfl
                  refine pure_ (i := 19) (N := some 7) (v := ?_) (a' := ?_) #[true, true, true, true, true, true, true, true, true, true, true, true, true, true, true, true, true, true, true, true] rfl rfl (any_of HT_.out (by kernel_rfl)) (fun _ _ _ h => h) (Or.inl ⟨by rfl, ?_⟩) ?_ ?_; rotate_left; exact qT; rotate_left; exact pT
                  refine done_ (done_of HT_.out (by kernel_rfl)) ?_
                  try go_wp2
                  go_roundg k2
                  case measure => have := HJ3.out; have := HK2.out; omega
                  case rel => exact ⟨(y166), (wrap64 (x27_2 + 1)), eT, H', ⟨by have := HJ3.out; have := HK2.out; omega⟩, ⟨oR HO168.out⟩, ⟨kB BK158.out⟩, ⟨bB2 HB.out GE158.out GE162.out⟩⟩
                 ·rw [if_neg c28] at H
                  exact absurd H (by simp)
                ·rw [if_neg c27] at H
                 exact absurd H (by simp)
               ·rw [if_neg c26] at H
                exact absurd H (by simp)
              ·rw [if_neg c25] at H
               exact absurd H (by simp)
             ·rw [if_neg c24] at H
              exact absurd H (by simp)
            ·rw [if_neg c23] at H
             exact absurd H (by simp)
           ·rw [if_neg c22] at H
            exact absurd H (by simp)
          ·rw [if_neg c21] at H
           exact absurd H (by simp)
         ·rw [if_neg c20] at H
          exact absurd H (by simp)
        ·rw [if_neg c19] at H
         exact absurd H (by simp)
       ·rw [if_neg c18] at H
        have c18b0 : decide (x27_2 < (l1_1.length : Int)) = false := decide_eq_false c18; clear c18; replace H := Option.bind_eq_some_iff.mp H; obtain ⟨t169, A350, H⟩ := H
        replace H : (some t169) = some r := H
        have A35 := aM A350; clear A350
        obtain rfl := Option.some.inj H
        obtain ⟨Ao36, co36, eo36⟩ := Kd.R_slice HO_7.out; subst eo36
        go_wp2_with (first | ((with_reducible refine gate_callee (f := 43) rfl ?_); refine goesL_ (some 53) rfl rfl Try.func43 (by kernel_rfl) rfl #[.slice Ao36 x7_2.length co36, .string (⟨#[44]⟩ : ByteArray)] rfl mT ?_; (with_reducible refine (strings_Join.calls _ _ x7_2 (⟨#[44]⟩ : ByteArray) t169 _ ?side1 ?side2 A35.out).mono ?_); (case side1 => repeat (first | exact (Kd.R_reads' HO_7.out).2.2 | (with_reducible refine Kd.C_alloc ?_ _) | (with_reducible refine Kd.C_drewN ?_ _) | (with_reducible refine Kd.C_drew ?_))); (case side2 => exact (Kd.R_reads' HO_7.out).2.1); rintro e w37 ⟨rfl, hb⟩; refine ⟨_, rfl, ?_⟩; have n0_ := aM (Kd.R_below (oR HO_7.out) hb); have n1_ := aM (kW BK158.out hb); have n2_ := aM (below_step (bB1 HB.out GE158.out) hb); clear HO_7; clear BK158; clear HB; have HO_7 := n0_; have BK158 := n1_; have HB := n2_; clear n0_ n1_ n2_; (try clear hb); (try clear hb2); (try clear hk); (try clear hi)))
        go_ret
        exact ⟨rT, bB1 HB.out GE158.out⟩

-- NOT PRINTED: function 56 (binding_all_1)

-- NOT PRINTED: function 44 (binding_all)




section
-- STUBBED 45
/-! ### slices_Clone_int_int: function 45: by hand -/
def slices_Clone_int_int.f (l0 : List Int) : Option (List Int) := if l0.length ≤ 1000 then some l0 else none
theorem clone_empty (w : World) : Kd.R (Kd.int .i64) 3 (w.alloc (.cells #[] 3)) w.heap.size (fun _ => True) (.slice (some ⟨w.heap.size, 0, none⟩) 0 0) [] := by
 refine Kd.R_of_own (enc := Value.int .i64) (h1 := fun _ => rfl) ⟨by simp [encs], .inr ⟨w.heap.size, 0, #[], rfl, Nat.le_refl _, World.alloc_heap_new w _, Nat.le_refl _, Nat.zero_le _, rfl, rfl⟩⟩ (fun _ _ => trivial)
set_option maxHeartbeats 16000000 in
set_option maxRecDepth 100000 in
theorem slices_Clone_int_int.calls (A0 : Option Addr) (c0 : Nat) (l0 : List Int) (r : List Int) (w : World) (hr0 : Kd.C (Kd.int .i64) w A0 l0.length l0) (hc0 : l0.length ≤ c0) (h : slices_Clone_int_int.f l0 = some r) :
  Calls Try.prog 45 #[.slice A0 l0.length c0] w fun e w' => ∃ v0_ : Value, e = .returned (v0_) ∧ Kd.R (Kd.int .i64) 3 w' w.heap.size (fun _ => True) v0_ r ∧ Below w.heap.size w w' := by
 unfold slices_Clone_int_int.f at h
 by_cases hle : l0.length ≤ 1000
 ·rw [if_pos hle, Option.some.injEq] at h
  subst h
  have HR := Aside0.mk hr0
  clear hc0
  cases A0 with
  | none =>
   have h0 : l0 = [] := by
    by_cases hp : 0 < l0.length
    ·obtain ⟨ad, e, _⟩ := Kd.at_int hr0 0 (by omega) (by omega)
     cases e
    ·exact List.length_eq_zero_iff.1 (by omega)
   subst h0
   clear hr0 HR
   have hq : ∀ (w : World), (binOp BinOp.eql 29 (.slice none (0 : Nat) c0) (.slice none 0 0)).run Try.prog w = .ok (.bool true) w := fun w => by rfl
   go_enter Try.func45, Try.ntmps45
   go_wp2
   go_ret
   exact ⟨_, rfl, Kd.R_nil _ _ _ _ _, Below.refl _ _⟩
  | some ad =>
   clear hr0
   have hq : ∀ (w : World), (binOp BinOp.eql 29 (.slice (some ad) l0.length c0) (.slice none 0 0)).run Try.prog w = .ok (.bool false) w := fun w => by rfl
   go_enter Try.func45, Try.ntmps45
   have HB := Aside0.mk (show Below w.heap.size w (w.alloc (.cells #[] 3)) from (Below.refl _ w).alloc (Nat.le_refl _) _)
   go_wp2_with ((with_reducible refine gate_builtin (b := .append) (xs := #[.tmp 5, .tmp 6]) rfl ?_); at_builtin; refine Kd.R_append_rows (Kd.int .i64) (w0 := w) w.heap.size rfl (.tmp 5) (.tmp 6) 29 3 (.int .i64 0) 8 rfl Try.underlying29 info3 rfl (by decide) (by omega) (.slice (some ⟨w.heap.size, 0, none⟩) 0 0) [] l0 (some ad) l0.length c0 (fun _ => True) (fun _ => False) rfl rfl (clone_empty w) (Kd.C_alloc HR.out _) (fun _ _ hx => hx) (fun _ hk => hk.elim) (fun _ _ => trivial) HB.out (by simp) (by simp; omega) ?_; intro v1 w1 h1 hb1 hg1 hat1; have HO := Aside0.mk h1; have HB1 := Aside0.mk hb1; clear h1 hb1 hg1 hat1)
   go_ret
   exact ⟨_, rfl, by have h_ := HO.out; rw [List.nil_append] at h_; exact h_, HB1.out⟩
 ·rw [if_neg hle] at h
  cases h


end



end Go.Proofs.Ytapkjfnfkalibaa.Pr
