/- Functions that the statement reaches: what each answers, and that the program answers it (written by a program of this work). -/
import Derived.Test.YtejchnmhlcbfcaaDoorProg
import Derived.Below
import Derived.Deep.Draws
import Derived.Deep.AppendLies
import Derived.Maps.AppendAt
import Derived.OwnWalk
import Derived.Laws.BytesArg
import Derived.Laws.MakeOwn
import Derived.Laws.OwnMore
import Derived.Deep.OwnRows
import Derived.Tactics
import Derived.Lib.ConvBytes
import Derived.Laws.Slices
import Derived.WalkKit
import Derived.KernelRfl
import Derived.RowKit3
import Derived.Deep.LoopGhost
import Derived.Deep.QuietTactic
import Derived.BigQuiet
import Derived.WideLaws
import Derived.Deep.DeepCutAuto
import Derived.Deep.CutBlock
import Derived.Deep.RegionHeld3
import Derived.Laws.Rows
import Derived.Lib.AppendStr
import Derived.ArgAppend
import Derived.Laws.IdiomCopy
import Derived.OrdersHeld
import Derived.Laws.BitsLemmas
import Derived.RowKit
import Derived.WalkMore
import Derived.ChangeKeysEq
import Derived.Test.YtejchnmhlcbfcaaDoorVDiscoverNets
import Derived.Test.YtejchnmhlcbfcaaDoorBDiscoverNets
import Derived.Test.YtejchnmhlcbfcaaDoorQDiscoverNets0
import Derived.Test.YtejchnmhlcbfcaaDoorQDiscoverNets2
import Derived.Test.YtejchnmhlcbfcaaDoorQDiscoverNets3
namespace Go.Proofs.YtejchnmhlcbfcaaDoor.Pr
open Go.RowKit Go.Proofs.YtejchnmhlcbfcaaDoorW.PrintWords Go.Proofs.YtejchnmhlcbfcaaDoorW.PrintLast Go.Proofs.YtejchnmhlcbfcaaDoorW.PrintMore
attribute [local go_sem] Instr.field asAgg
attribute [local go_sem] max2_int min2_int max_two min_two max_three min_three max_four min_four   -- for this text's walks alone
set_option linter.unusedVariables false
set_option linter.unusedSimpArgs false
/-! ### r49_Alpha: function 10 -/
mutual
def r49_Alpha.l0 : Nat → List (List ByteArray) → List (S57) → Int → ByteArray → List (S59) → Option (ByteArray × (List (S59)) × (List (S41)) × Int)
 | 0, _, _, _, _, _ => none
 | k + 1, x0, x4, x7, x343000, x343001 => if x7 < (x4.length : Int) then ((r04_Number.f k x7).bind fun t343 => (if 2 + t343.size ≤ 9223372036854775807 then (if x343001.length < 4398046511104 then (r49_Alpha.l0 k x0 x4 (wrap64 (x7 + 1)) x343000 (x343001 ++ [(⟨(⟨#[95, 112]⟩ : ByteArray) ++ t343, 0, 0⟩ : S59)])) else (none)) else (none))) else ((r48_Activities.f k x0).bind fun t347 => (r49_Alpha.l1 k x0 x4 t347 0 x343000 x343001 ([] : List (S41))))
def r49_Alpha.l1 : Nat → List (List ByteArray) → List (S57) → List ByteArray → Int → ByteArray → List (S59) → List (S41) → Option (ByteArray × (List (S59)) × (List (S41)) × Int)
 | 0, _, _, _, _, _, _, _ => none
 | k + 1, x0, x4, x8, x9, x343000, x343001, x343002 => if x9 < (x8.length : Int) then (r49_Alpha.l2 k x0 x4 x8 x9 0 x343000 x343001 x343002) else (some (x343000, x343001, x343002, 0))
def r49_Alpha.l2 : Nat → List (List ByteArray) → List (S57) → List ByteArray → Int → Int → ByteArray → List (S59) → List (S41) → Option (ByteArray × (List (S59)) × (List (S41)) × Int)
 | 0, _, _, _, _, _, _, _, _ => none
 | k + 1, x0, x4, x8, x9, x10, x343000, x343001, x343002 => if x10 < (x343001.length : Int) then (if 0 ≤ x10 then (if 0 ≤ x9 then (if x9 < (x8.length : Int) then (if ((rd_T59 x343001 x10).f0).toList = (rdOf ByteArray.empty x8 x9).toList then (some ((⟨#[]⟩ : ByteArray), ([] : List (S59)), ([] : List (S41)), 6)) else (r49_Alpha.l2 k x0 x4 x8 x9 (wrap64 (x10 + 1)) x343000 x343001 x343002)) else (none)) else (none)) else (none)) else (if 0 ≤ x9 then (if x9 < (x8.length : Int) then ((r48_First.f k x0).bind fun t354 => ((r48_Has.f k t354 (rdOf ByteArray.empty x8 x9)).bind fun t358 => (if t358 = true then (if ([] : List (S62)).length < 8796093022208 then (r49_Alpha.j3 k x0 x4 x8 x9 x343000 x343001 x343002 (rdOf ByteArray.empty x8 x9) (([] : List (S62)) ++ [(⟨0, 1⟩ : S62)]) 0) else (none)) else (r49_Alpha.j3 k x0 x4 x8 x9 x343000 x343001 x343002 (rdOf ByteArray.empty x8 x9) ([] : List (S62)) 0)))) else (none)) else (none))
def r49_Alpha.j3 : Nat → List (List ByteArray) → List (S57) → List ByteArray → Int → ByteArray → List (S59) → List (S41) → ByteArray → List (S62) → Int → Option (ByteArray × (List (S59)) × (List (S41)) × Int)
 | 0, _, _, _, _, _, _, _, _, _, _ => none
 | k + 1, x0, x4, x8, x9, x343000, x343001, x343002, x354000, x354001, x354004 => (r48_Last.f k x0).bind fun t362 => (if 0 ≤ x9 then (if x9 < (x8.length : Int) then ((r48_Has.f k t362 (rdOf ByteArray.empty x8 x9)).bind fun t366 => (if t366 = true then (if ([] : List (S62)).length < 8796093022208 then (r49_Alpha.j4 k x0 x4 x8 x9 x343000 x343001 x343002 x354000 x354001 (([] : List (S62)) ++ [(⟨1, 1⟩ : S62)]) x354004) else (none)) else (r49_Alpha.j4 k x0 x4 x8 x9 x343000 x343001 x343002 x354000 x354001 ([] : List (S62)) x354004))) else (none)) else (none))
def r49_Alpha.j4 : Nat → List (List ByteArray) → List (S57) → List ByteArray → Int → ByteArray → List (S59) → List (S41) → ByteArray → List (S62) → List (S62) → Int → Option (ByteArray × (List (S59)) × (List (S41)) × Int)
 | 0, _, _, _, _, _, _, _, _, _, _, _ => none
 | k + 1, x0, x4, x8, x9, x343000, x343001, x343002, x354000, x354001, x354002, x354004 => r49_Alpha.l3 k x0 x4 x8 x9 0 x343000 x343001 x343002 x354000 x354001 x354002 x354004
def r49_Alpha.l3 : Nat → List (List ByteArray) → List (S57) → List ByteArray → Int → Int → ByteArray → List (S59) → List (S41) → ByteArray → List (S62) → List (S62) → Int → Option (ByteArray × (List (S59)) × (List (S41)) × Int)
 | 0, _, _, _, _, _, _, _, _, _, _, _, _ => none
 | k + 1, x0, x4, x8, x9, x12, x343000, x343001, x343002, x354000, x354001, x354002, x354004 => if x12 < (x4.length : Int) then (if 0 ≤ x12 then ((r06_Has.f k ((rd_T57 x4 x12).f1) x9).bind fun t374 => (if t374 = true then (if x354001.length < 8796093022208 then ((some (x354001 ++ [(⟨wrap64 (x12 + 2), 1⟩ : S62)] : List (S62))).bind fun y375 => ((r06_Has.f k ((rd_T57 x4 x12).f0) x9).bind fun t379 => (if t379 = true then (if x354002.length < 8796093022208 then (r49_Alpha.l3 k x0 x4 x8 x9 (wrap64 (x12 + 1)) x343000 x343001 x343002 x354000 y375 (x354002 ++ [(⟨wrap64 (x12 + 2), 1⟩ : S62)]) x354004) else (none)) else (r49_Alpha.l3 k x0 x4 x8 x9 (wrap64 (x12 + 1)) x343000 x343001 x343002 x354000 y375 x354002 x354004)))) else (none)) else ((r06_Has.f k ((rd_T57 x4 x12).f0) x9).bind fun t384 => (if t384 = true then (if x354002.length < 8796093022208 then (r49_Alpha.l3 k x0 x4 x8 x9 (wrap64 (x12 + 1)) x343000 x343001 x343002 x354000 x354001 (x354002 ++ [(⟨wrap64 (x12 + 2), 1⟩ : S62)]) x354004) else (none)) else (r49_Alpha.l3 k x0 x4 x8 x9 (wrap64 (x12 + 1)) x343000 x343001 x343002 x354000 x354001 x354002 x354004))))) else (none)) else (if x343002.length < 1466015503701 then (r49_Alpha.l1 k x0 x4 x8 (wrap64 (x9 + 1)) x343000 x343001 (x343002 ++ [(⟨x354000, x354001, x354002, ([] : List (S62)), x354004⟩ : S41)])) else (none))
end
def r49_Alpha.f (k : Nat) (l0 : List (List ByteArray)) : Option (ByteArray × (List (S59)) × (List (S41)) × Int) := (r49_Pairs.f k l0).bind fun bt335 => (if bt335.2 = 0 then (if (wrap64 ((bt335.1.length : Int) + 2)) > 24 then (some ((⟨#[]⟩ : ByteArray), ([] : List (S59)), ([] : List (S41)), 2)) else (r49_Alpha.l0 k l0 bt335.1 0 (⟨#[97, 108, 112, 104, 97]⟩ : ByteArray) (([(⟨(⟨#[95, 105, 110]⟩ : ByteArray), 1, 0⟩ : S59), (⟨(⟨#[95, 111, 117, 116]⟩ : ByteArray), 0, 0⟩ : S59)] : List (S59))))) else (some ((⟨#[]⟩ : ByteArray), ([] : List (S59)), ([] : List (S41)), bt335.2)))
theorem r49_Alpha.mono_l : ∀ k, (∀ y0 y1 y2 y3 y4, LeO (r49_Alpha.l0 k y0 y1 y2 y3 y4) (r49_Alpha.l0 (k + 1) y0 y1 y2 y3 y4)) ∧ (∀ y0 y1 y2 y3 y4 y5 y6, LeO (r49_Alpha.l1 k y0 y1 y2 y3 y4 y5 y6) (r49_Alpha.l1 (k + 1) y0 y1 y2 y3 y4 y5 y6)) ∧ (∀ y0 y1 y2 y3 y4 y5 y6 y7, LeO (r49_Alpha.l2 k y0 y1 y2 y3 y4 y5 y6 y7) (r49_Alpha.l2 (k + 1) y0 y1 y2 y3 y4 y5 y6 y7)) ∧ (∀ y0 y1 y2 y3 y4 y5 y6 y7 y8 y9, LeO (r49_Alpha.j3 k y0 y1 y2 y3 y4 y5 y6 y7 y8 y9) (r49_Alpha.j3 (k + 1) y0 y1 y2 y3 y4 y5 y6 y7 y8 y9)) ∧ (∀ y0 y1 y2 y3 y4 y5 y6 y7 y8 y9 y10, LeO (r49_Alpha.j4 k y0 y1 y2 y3 y4 y5 y6 y7 y8 y9 y10) (r49_Alpha.j4 (k + 1) y0 y1 y2 y3 y4 y5 y6 y7 y8 y9 y10)) ∧ (∀ y0 y1 y2 y3 y4 y5 y6 y7 y8 y9 y10 y11, LeO (r49_Alpha.l3 k y0 y1 y2 y3 y4 y5 y6 y7 y8 y9 y10 y11) (r49_Alpha.l3 (k + 1) y0 y1 y2 y3 y4 y5 y6 y7 y8 y9 y10 y11))
 | 0 => ⟨fun _ _ _ _ _ r h => by simp [r49_Alpha.l0] at h, fun _ _ _ _ _ _ _ r h => by simp [r49_Alpha.l1] at h, fun _ _ _ _ _ _ _ _ r h => by simp [r49_Alpha.l2] at h, fun _ _ _ _ _ _ _ _ _ _ r h => by simp [r49_Alpha.j3] at h, fun _ _ _ _ _ _ _ _ _ _ _ r h => by simp [r49_Alpha.j4] at h, fun _ _ _ _ _ _ _ _ _ _ _ _ r h => by simp [r49_Alpha.l3] at h⟩
 | k + 1 => by
  obtain ⟨ih0, ih1, ih2, ih3, ih4, ih5⟩ := r49_Alpha.mono_l k
  refine ⟨?_, ?_, ?_, ?_, ?_, ?_⟩ <;> intros <;> (first | unfold r49_Alpha.l0 | unfold r49_Alpha.l1 | unfold r49_Alpha.l2 | unfold r49_Alpha.j3 | unfold r49_Alpha.j4 | unfold r49_Alpha.l3)
  all_goals repeat' first
   | (with_reducible first | apply ih0 | apply ih1 | apply ih2 | apply ih3 | apply ih4 | apply ih5 | apply r04_Number.mono | apply r06_Has.mono | apply r48_Activities.mono | apply r48_First.mono | apply r48_Has.mono | apply r48_Last.mono | apply r49_Pairs.mono | exact LeO.refl _ | exact LeO.none _ | refine LeO.ite ?_ ?_ | refine LeO.bind ?_ (fun _ => ?_))
theorem r49_Alpha.mono : ∀ a0 k, LeO (r49_Alpha.f k a0) (r49_Alpha.f (k + 1) a0) := by
 intro a0 k
 obtain ⟨ih0, ih1, ih2, ih3, ih4, ih5⟩ := r49_Alpha.mono_l k
 unfold r49_Alpha.f
 repeat' first
   | (with_reducible first | apply ih0 | apply ih1 | apply ih2 | apply ih3 | apply ih4 | apply ih5 | apply r04_Number.mono | apply r06_Has.mono | apply r48_Activities.mono | apply r48_First.mono | apply r48_Has.mono | apply r48_Last.mono | apply r49_Pairs.mono | exact LeO.refl _ | exact LeO.none _ | refine LeO.ite ?_ ?_ | refine LeO.bind ?_ (fun _ => ?_))
def r49_Alpha.T10 : Bool × List (List Nat × List Nat) := (true, [([], []), ([0], [0]), ([], []), ([2], [2]), ([3], [3]), ([4], [4]), ([5], [5]), ([1, 6, 3], [1, 6]), ([0, 1, 2, 3, 4, 5, 6, 7], []), ([8, 7, 7, 0, 1, 2, 3, 4, 5, 6, 7], [7, 8])])
def r49_Alpha.B10 : List Nat := [0, 1, 0, 4, 12, 28, 60, 127, 255, 511]
theorem r49_Alpha.tab10 : rtab .any (opsOf Tryd.f10 10) = r49_Alpha.T10 := by kernel_rfl
theorem r49_Alpha.bits10 : waitsOk r49_Alpha.T10.2 r49_Alpha.B10 = true := by kernel_rfl
def r49_Alpha.T18 : Bool × List (List Nat × List Nat) := (true, [([], []), ([0], [0]), ([], []), ([1, 2], [1, 2]), ([3], [3]), ([4], [4]), ([], []), ([], []), ([6, 7], [6, 7]), ([8], [8]), ([5, 9], [5, 9])])
def r49_Alpha.B18 : List Nat := [0, 1, 0, 7, 15, 31, 0, 0, 192, 448, 1023]
theorem r49_Alpha.tab18 : rtab .any (opsOf Tryd.f10 18) = r49_Alpha.T18 := by kernel_rfl
theorem r49_Alpha.bits18 : waitsOk r49_Alpha.T18.2 r49_Alpha.B18 = true := by kernel_rfl
set_option maxHeartbeats 8000000 in
set_option maxRecDepth 100000 in
theorem r49_Alpha.calls (k : Nat) (A0 : Option Addr) (c0 : Nat) (l0 : List (List ByteArray)) (r1 : ByteArray) (r2 : List (S59)) (r3 : List (S41)) (r4 : Int) (w : World) (hr0 : Kd.C (Kd.slice 9 Kd.string) w A0 l0.length l0) (hc0 : l0.length ≤ c0) (h : r49_Alpha.f k l0 = some (r1, r2, r3, r4)) :
  Calls Tryd.prog 10 #[.slice A0 l0.length c0] w fun e w' => ∃ v1_ v2_ : Value, e = .returned (.tuple #[.agg #[.string r1, v1_, v2_], .int .i64 r4]) ∧ Kd.R k59 59 w' w.heap.size (fun _ => True) v1_ r2 ∧ Kd.S k41 41 w' w.heap.size (fun _ => True) v2_ r3 ∧ Below w.heap.size w w' := by
 have hu28 := Tryd.underlying28; have hu9 := Tryd.underlying9; have hu25 := Tryd.underlying25; have hu26 := Tryd.underlying26; have hu59 := Tryd.underlying59; have hu3 := Tryd.underlying3; have hu9 := Tryd.underlying9; have hu41 := Tryd.underlying41; have hu3 := Tryd.underlying3; have hu9 := Tryd.underlying9; have hu39 := Tryd.underlying39; have hu62 := Tryd.underlying62; have hu3 := Tryd.underlying3; have HR0 := aM hr0; have HC0 := aM hc0; clear hr0 hc0; have HB := aM (Below.refl w.heap.size w)
 have H : ((r49_Pairs.f k l0).bind fun bt335 => (if bt335.2 = 0 then (if (wrap64 ((bt335.1.length : Int) + 2)) > 24 then (some ((⟨#[]⟩ : ByteArray), ([] : List (S59)), ([] : List (S41)), 2)) else (r49_Alpha.l0 k l0 bt335.1 0 (⟨#[97, 108, 112, 104, 97]⟩ : ByteArray) (([(⟨(⟨#[95, 105, 110]⟩ : ByteArray), 1, 0⟩ : S59), (⟨(⟨#[95, 111, 117, 116]⟩ : ByteArray), 0, 0⟩ : S59)] : List (S59))))) else (some ((⟨#[]⟩ : ByteArray), ([] : List (S59)), ([] : List (S41)), bt335.2)))) = some (r1, r2, r3, r4) := h
 clear h; obtain ⟨⟨t335, t336⟩, A2, H⟩ := iB H; (try dsimp only at H)
 by_cases c3 : t336 = 0
 rotate_left
 ·
  rw [if_neg c3] at H
  have c3b0 : (t336 == 0) = false := beq_eq_false_iff_ne.mpr c3; have c3b1 : (t336 != 0) = true := bne_iff_ne.mpr c3
  simp only [Option.some.injEq, Prod.mk.injEq] at H
  obtain ⟨rfl, rfl, rfl, rfl⟩ := H
  go_enter Tryd.func10, Tryd.ntmps10
  go_wp2_with (first | ((with_reducible refine gate_dst (N := 2) rfl ?_); refine bX 2 (cs := #[.string (⟨#[]⟩ : ByteArray), .slice none 0 0, .slice none 0 0]) (t := 28) ?_; intro gb334 hg w133 hbox hb; have BK334 := aM (hbox); have GW334 := aM (gE hg (below_size (bB HB.out))); have GE334 := GW334; replace HB := aM (below_step (bB HB.out) hb); clear hb hbox hg) | ((with_reducible refine gate_callee (f := 30) rfl ?_); refine gM (some 15) Tryd.func30 #[.slice A0 l0.length c0] ?_; (with_reducible refine (r49_Pairs.calls k _ _ l0 t335 t336 _ ?side1 ?side2 A2.out).mono ?_); (case side1 => exact cB HR0.out HB.out); (case side2 => exact HC0.out); rintro e w134 ⟨v337, rfl, ho0, hb⟩; refine ⟨_, rfl, ?_⟩; have HO338 := aM (Kd.R_lower ho0 (below_size (bB1 HB.out GE334.out))); replace BK334 := aM (kW BK334.out hb); replace HB := aM (below_step (bB1 HB.out GE334.out) hb); clear hb ho0; obtain ⟨hcz135_0, hcz135_1, hcz135_2, hfz135_0, hfz135_1, hfz135_2⟩ := cd3 BK334.out))
  refine bodyPost_ret (results_ct rfl _ _ gb334 28 #[.string (⟨#[]⟩ : ByteArray), .slice none 0 0, .slice none 0 0] (0, 0) _ rfl (bP BK334.out) Tryd.underlying28 rfl (by kernel_rfl)) rfl ?_
  exact ⟨_, _, rT, nT, nT, bB1 HB.out GE334.out⟩


 rw [if_pos c3] at H; have c3b0 : (t336 == 0) = true := beq_iff_eq.mpr c3; have c3b1 : (t336 != 0) = false := bne_eq_false_iff_eq.mpr c3; clear c3
 by_cases c4 : (wrap64 ((t335.length : Int) + 2)) > 24
 ·
  rw [if_pos c4] at H
  have c4b0 : decide (24 < (wrap64 ((t335.length : Int) + 2))) = true := decide_eq_true c4; clear c4
  simp only [Option.some.injEq, Prod.mk.injEq] at H
  obtain ⟨rfl, rfl, rfl, rfl⟩ := H
  go_enter Tryd.func10, Tryd.ntmps10
  go_wp2_with (first | ((with_reducible refine gate_dst (N := 2) rfl ?_); refine bX 2 (cs := #[.string (⟨#[]⟩ : ByteArray), .slice none 0 0, .slice none 0 0]) (t := 28) ?_; intro gb334 hg w5 hbox hb; have BK334 := aM (hbox); have GW334 := aM (gE hg (below_size (bB HB.out))); have GE334 := GW334; replace HB := aM (below_step (bB HB.out) hb); clear hb hbox hg) | ((with_reducible refine gate_callee (f := 30) rfl ?_); refine gM (some 15) Tryd.func30 #[.slice A0 l0.length c0] ?_; (with_reducible refine (r49_Pairs.calls k _ _ l0 t335 t336 _ ?side1 ?side2 A2.out).mono ?_); (case side1 => exact cB HR0.out HB.out); (case side2 => exact HC0.out); rintro e w6 ⟨v337, rfl, ho0, hb⟩; refine ⟨_, rfl, ?_⟩; have HO338 := aM (Kd.R_lower ho0 (below_size (bB1 HB.out GE334.out))); replace BK334 := aM (kW BK334.out hb); replace HB := aM (below_step (bB1 HB.out GE334.out) hb); clear hb ho0; obtain ⟨Ao7, co7, eo7⟩ := Kd.R_slice HO338.out; subst eo7; obtain ⟨hcz8_0, hcz8_1, hcz8_2, hfz8_0, hfz8_1, hfz8_2⟩ := cd3 BK334.out))
  refine bodyPost_ret (results_ct rfl _ _ gb334 28 #[.string (⟨#[]⟩ : ByteArray), .slice none 0 0, .slice none 0 0] (0, 0) _ rfl (bP BK334.out) Tryd.underlying28 rfl (by kernel_rfl)) rfl ?_
  exact ⟨_, _, rT, nT, nT, bB1 HB.out GE334.out⟩
 rw [if_neg c4] at H; have c4b0 : decide (24 < (wrap64 ((t335.length : Int) + 2))) = false := decide_eq_false c4; clear c4
 obtain ⟨y339, hy339⟩ : ∃ y_ : List (S59), y_ = (([(⟨(⟨#[95, 105, 110]⟩ : ByteArray), 1, 0⟩ : S59), (⟨(⟨#[95, 111, 117, 116]⟩ : ByteArray), 0, 0⟩ : S59)] : List (S59))) := ⟨_, rfl⟩
 replace H : (r49_Alpha.l0 k l0 t335 0 (⟨#[97, 108, 112, 104, 97]⟩ : ByteArray) y339) = some (r1, r2, r3, r4) := yT hy339 H
 have Ny339 := aM hy339; clear hy339
 have H' := aM H
 clear H
 go_enter Tryd.func10, Tryd.ntmps10
 go_wp2_with (first | ((with_reducible refine gate_dst (N := 2) rfl ?_); refine bX 2 (cs := #[.string (⟨#[]⟩ : ByteArray), .slice none 0 0, .slice none 0 0]) (t := 28) ?_; intro gb334 hg w9 hbox hb; have BK334 := aM (hbox); have GW334 := aM (gE hg (below_size (bB HB.out))); have GE334 := GW334; replace HB := aM (below_step (bB HB.out) hb); clear hb hbox hg) | ((with_reducible refine gate_callee (f := 30) rfl ?_); refine gM (some 15) Tryd.func30 #[.slice A0 l0.length c0] ?_; (with_reducible refine (r49_Pairs.calls k _ _ l0 t335 t336 _ ?side1 ?side2 A2.out).mono ?_); (case side1 => exact cB HR0.out HB.out); (case side2 => exact HC0.out); rintro e w10 ⟨v337, rfl, ho0, hb⟩; refine ⟨_, rfl, ?_⟩; have HO338 := aM (Kd.R_lower ho0 (below_size (bB1 HB.out GE334.out))); replace BK334 := aM (kW BK334.out hb); replace HB := aM (below_step (bB1 HB.out GE334.out) hb); clear hb ho0; obtain ⟨Ao11, co11, eo11⟩ := Kd.R_slice HO338.out; subst eo11) | ((with_reducible refine gate_dst (N := 29) rfl ?_); refine Kd.R_lit k59 _ 59 ?hg (N := 29) ?hd (xs := ([(⟨(⟨#[95, 105, 110]⟩ : ByteArray), 1, 0⟩ : S59), (⟨(⟨#[95, 111, 117, 116]⟩ : ByteArray), 0, 0⟩ : S59)] : List (S59))) (inner := [.string (⟨#[95, 105, 110]⟩ : ByteArray), .int .i64 1, .int .i64 0, .string (⟨#[95, 111, 117, 116]⟩ : ByteArray), .int .i64 0, .int .i64 0]) (ok := fun _ => True) (okp := fun _ => True) ?hr ?hp (fun _ hk => hk) trivial (Below.refl _ _) (Nat.le_refl _) (by simp) ?_; (case hd => rfl); (case hg => rfl); (case hr => first | (go_simp; done) | (go_simp; rfl)); (case hp => exact (Reps.c3 (show Kd.M k59 _ _ _ (⟨(⟨#[95, 105, 110]⟩ : ByteArray), 1, 0⟩ : S59) [.string (⟨#[95, 105, 110]⟩ : ByteArray), .int .i64 1, .int .i64 0] from (k59_mkM _ _ _ (⟨(⟨#[95, 105, 110]⟩ : ByteArray), 1, 0⟩ : S59) )) (Reps.c3 (show Kd.M k59 _ _ _ (⟨(⟨#[95, 111, 117, 116]⟩ : ByteArray), 0, 0⟩ : S59) [.string (⟨#[95, 111, 117, 116]⟩ : ByteArray), .int .i64 0, .int .i64 0] from (k59_mkM _ _ _ (⟨(⟨#[95, 111, 117, 116]⟩ : ByteArray), 0, 0⟩ : S59) )) (Reps.none _ _)))); intro v340 w12 ho13 hb hg_ hnew_; clear hg_ hnew_; (first | rw [← Ny339.out] at ho13 | (simp only [Int.reduceToNat] at ho13; rw [← Ny339.out] at ho13)); replace HO338 := aM (Kd.R_below (oR HO338.out) hb); have HO341 := aM (Kd.R_lower ho13 (below_size (bB1 HB.out GE334.out))); replace BK334 := aM (kW BK334.out hb); replace HB := aM (below_step (bB1 HB.out GE334.out) hb); clear hb ho13; obtain ⟨Ao14, co14, eo14⟩ := Kd.R_slice HO341.out; subst eo14) | ((with_reducible refine gate_dst (N := 6) rfl ?_); refine bX 6 (cs := #[.string (⟨#[]⟩ : ByteArray), .slice none 0 0, .slice none 0 0]) (t := 28) ?_; intro gb342 hg w15 hbox hb; replace HO338 := aM (Kd.R_below (oR HO338.out) hb); replace HO341 := aM (Kd.R_below (oR HO341.out) hb); have BK342 := aM (hbox); have GW342 := aM (gE hg (below_size (bB1 HB.out GE334.out))); have GE342 := GW342; replace HB := aM (below_step (bB1 HB.out GE334.out) hb); have NB334_342 := aM (gL hg (kL BK334.out)); have NB342_334 := aM (gG hg (kL BK334.out)); replace BK334 := aM (kW BK334.out hb); clear hb hbox hg; have hnb16 := NB342_334.out; have hnc16 := NB334_342.out; obtain ⟨hcz17_0, hcz17_1, hcz17_2, hfz17_0, hfz17_1, hfz17_2⟩ := cd3 BK342.out))
 go_loopg [7] k (fun kq v7 w' => ∃ (x7_1 : Int) (x343001_1 : List (S59)) (u343001 : Value), v7 = .int .i64 x7_1 ∧ Aside0 (r49_Alpha.l0 kq l0 t335 x7_1 (⟨#[97, 108, 112, 104, 97]⟩ : ByteArray) x343001_1 = some (r1, r2, r3, r4)) ∧ Aside0 (kq ≤ k) ∧ Aside0 (Kd.R k57 57 w' w.heap.size (fun _ => True) (.slice Ao11 t335.length co11) t335) ∧ Aside0 (Kd.R k59 59 w' w.heap.size (fun _ => True) u343001 x343001_1) ∧ Aside0 (w'.heap[gb334]? = some (.cells #[.string (⟨#[]⟩ : ByteArray), (.slice none 0 0), (.slice none 0 0)] 28 (0, 0))) ∧ Aside0 (w'.heap[gb342]? = some (.cells #[.string (⟨#[97, 108, 112, 104, 97]⟩ : ByteArray), u343001, (.slice none 0 0)] 28 (0, 0))) ∧ Aside0 (Below w.heap.size w w'))
 case atStart => exact ⟨(0), (y339), (.slice Ao14 y339.length co14), eT, H', ⟨Nat.le_refl _⟩, ⟨by refine oR ?_; exact tT HO338.out BK342.out⟩, ⟨by refine oR ?_; exact tT HO341.out BK342.out⟩, ⟨bF BK334.out NB334_342.out⟩, ⟨bP BK342.out⟩, ⟨bB2 HB.out GE334.out GE342.out⟩⟩
 clear H'; obtain ⟨x7_1, x343001_1, u343001, rfl, HA, HK1, HO_4, HO_343001, BK334, BK342, HB⟩ := hrel
 cases gk with
 | zero => exact absurd HA.out (by simp [r49_Alpha.l0])
 | succ k1 =>
  have H := HA.out; clear HA
  simp only [r49_Alpha.l0] at H
  by_cases c18 : x7_1 < (t335.length : Int)
  ·
   rw [if_pos c18] at H
   have c18b0 := decide_eq_true c18; clear c18; obtain ⟨t343, A19, H⟩ := iB H; (try dsimp only at H)
   obtain ⟨c20, H⟩ := iP H; have c20b0 := eq_true c20; have c20b1 : decide (2 + t343.size ≤ 9223372036854775807) = true := decide_eq_true c20
   try have c20b2 : (9223372036854775807 < 2 + t343.size) = False := eq_false (Nat.not_lt.2 c20)
   obtain ⟨c21, H⟩ := iP H; have LMc21 := aM c21; clear c21
   obtain ⟨y344, hy344⟩ : ∃ y_ : List (S59), y_ = (x343001_1 ++ [(⟨(⟨#[95, 112]⟩ : ByteArray) ++ t343, 0, 0⟩ : S59)]) := ⟨_, rfl⟩
   replace H : (r49_Alpha.l0 k1 l0 t335 (wrap64 (x7_1 + 1)) (⟨#[97, 108, 112, 104, 97]⟩ : ByteArray) y344) = some (r1, r2, r3, r4) := yT hy344 H
   have Ny344 := aM hy344; clear hy344
   have H' := aM H
   clear H
   try go_wp2
   replace HO_4 := aM (Kd.R_drew HO_4.out); replace HO_343001 := aM (Kd.R_drew HO_343001.out); replace BK334 := aM (blk_drew BK334.out); replace BK342 := aM (blk_drew BK342.out); replace HB := aM (below_drew1 HB.out)
   refine start_ (n := 10) (S := fun w' => w'.cell? ⟨gb342, 0, none⟩ = some (.string (⟨#[97, 108, 112, 104, 97]⟩ : ByteArray)) ∧ w'.cell? ⟨gb342, 1, none⟩ = some (u343001) ∧ w'.cell? ⟨gb342, 2, none⟩ = some (.slice none 0 0)) (ds := [9]) #[false, false, false, false, false, false, false, false, false, false] (by kernel_rfl) rfl rfl ⟨(blk_cell BK342.out 0).trans rfl, (blk_cell BK342.out 1).trans rfl, (blk_cell BK342.out 2).trans rfl⟩ (fun hHeld => ?_); refine with_tabW r49_Alpha.tab10 r49_Alpha.bits10 (fun HT_ HW_ => ?_)
   generalize wr.drew = w22 at HO_4 HO_343001 BK334 BK342 HB hHeld ⊢
   refine pU 0 37 (any_of HT_.out (by kernel_rfl)) ?_
   refine pU 2 39 (any_of HT_.out (by kernel_rfl)) ?_
   refine tU 1 38 (take_ofW HT_.out HW_.out (by kernel_rfl)) hHeld ?_
   refine one_ (i := 3) (N := some 40) #[true, true, true, true, false, false, false, false, false, false] rfl rfl (one_of HT_.out (by kernel_rfl)) (by decide) (fun K hK => ?_)
   refine goes_ Tryd.func31 (by kernel_rfl) rfl #[.int .i64 x7_1] (by rfl) rfl rfl mT ?_
   with_reducible refine (r04_Number.calls k1 x7_1 t343 _ A19.out).mono ?_
   rintro e w' ⟨rfl, ⟨nd, rfl⟩⟩
   refine ⟨_, rfl, ?_⟩
   refine hK.out _ _ ⟨(blk_cell BK342.out 0).trans rfl, (blk_cell BK342.out 1).trans rfl, (blk_cell BK342.out 2).trans rfl⟩ (fun hHeld => ?_)
   clear hK K
   refine nU 40 ?_
   refine pU 4 41 (any_of HT_.out (by kernel_rfl)) ?_
   refine pU 5 42 (any_of HT_.out (by kernel_rfl)) ?_
   refine one_ (i := 6) (N := some 43) #[true, true, true, true, true, true, true, false, false, false] rfl rfl (one_of HT_.out (by kernel_rfl)) (by decide) (fun K hK => ?_)
   refine value_ (w1 := ?_) (v := ?_) (by rfl) rfl ?_ ?_
   rotate_left 2
   ·
    go_simp
    constructor
    ·
     rfl
    ·
     rfl
   refine hK.out _ _ ⟨(blk_cell (blk_alloc BK342.out _) 0).trans rfl, (blk_cell (blk_alloc BK342.out _) 1).trans rfl, (blk_cell (blk_alloc BK342.out _) 2).trans rfl⟩ (fun hHeld => ?_)
   clear hK K
   refine nU 43 ?_
   refine one_ (i := 7) (N := some 44) #[true, true, true, true, true, true, true, true, false, false] rfl rfl (one_of HT_.out (by kernel_rfl)) (by decide) (fun K hK => ?_)
   refine Kd.R_append_step k59 (w0 := w) w.heap.size (by rfl) (.tmp 38) (.tmp 43) 25 59 (.agg #[(.string ⟨#[]⟩), (.int .i64 0), (.int .i64 0)]) 32 rfl Tryd.underlying25 info59 rfl (by decide) (by omega) u343001 x343001_1 (⟨(⟨#[95, 112]⟩ : ByteArray) ++ t343, 0, 0⟩ : S59) [.string ((⟨#[95, 112]⟩ : ByteArray) ++ t343), .int .i64 0, .int .i64 0] (fun _ => True) (fun _ => False) rfl rfl ?aP (fun _ hk => hk.elim) ?aF ?aO ?aB ?aS ?aL ?_
   (case aP => exact k59_mkM _ _ _ (⟨(⟨#[95, 112]⟩ : ByteArray) ++ t343, 0, 0⟩ : S59))
   (case aB => exact (bB2 HB.out GE334.out GE342.out))
   (case aF => exact (fun _ _ => trivial))
   (case aO => exact (oR HO_343001.out))
   (case aS => exact (below_size (bB2 HB.out GE334.out GE342.out)))
   (case aL => have := LMc21.out; omega)
   intro v345 w23 ho hb hg hat
   rw [← Ny344.out] at ho; replace HO_4 := aM (Kd.R_over' (oR HO_4.out) (Kd.R_typed (oR HO_343001.out)) (by decide) hg); replace BK334 := aM (blk_grown (g := gb334) (o := .cells #[.string (⟨#[]⟩ : ByteArray), .slice none 0 0, .slice none 0 0] 28 (0, 0)) (kB BK334.out) hg (Kd.R_ne HO_343001.out BK334.out (by decide))); replace BK342 := aM (blk_grown (g := gb342) (o := .cells #[.string (⟨#[97, 108, 112, 104, 97]⟩ : ByteArray), u343001, .slice none 0 0] 28 (0, 0)) (kB BK342.out) hg (Kd.R_ne HO_343001.out BK342.out (by decide))); replace HB := aM (hb); have HO346 := aM (ho); clear HO_343001; clear ho hb hg hat; obtain ⟨Ao24, co24, eo24⟩ := Kd.R_slice HO346.out
   (first | subst eo24 | (injection eo24 with f1_ f2_ f3_; have f4_ := f1_.symm; have f5_ := f3_.symm; clear f1_ f2_ f3_; subst f4_; subst f5_))
   refine hK.out _ _ ⟨(blk_cell BK342.out 0).trans rfl, (blk_cell BK342.out 1).trans rfl, (blk_cell BK342.out 2).trans rfl⟩ (fun hHeld => ?_)
   clear hK K
   refine nU 44 ?_
   refine pU 8 45 (any_of HT_.out (by kernel_rfl)) ?_
   refine last_ (i := 9) (N := none) #[true, true, true, true, true, true, true, true, true, true] rfl rfl (one_of HT_.out (by kernel_rfl)) (by decide) (fun K hK => ?_)
   have hs25 : w23.cell? ⟨gb342, 1, none⟩ = some (u343001) := (blk_cell BK342.out 1).trans rfl
   have hfs25 := blk_frozen BK342.out 1; have hns25_0 := NB334_342.out; have hms25_0 := NB342_334.out
   refine skip_ (w1 := ?_) (by rfl) rfl ?_ ?_
   rotate_left
   ·
    go_simp
    rfl
   refine hK.out _ _ ?_
   clear hK K
   refine done_ (done_of HT_.out (by kernel_rfl)) ?_
   try go_wp2
   go_roundg k1
   case measure => have := HK1.out; omega
   case rel => exact ⟨(wrap64 (x7_1 + 1)), (y344), (.slice Ao24 y344.length co24), eT, H', ⟨by have := HK1.out; omega⟩, ⟨by refine oR ?_; exact tT HO_4.out BK342.out⟩, ⟨by refine oR ?_; exact tT HO346.out BK342.out⟩, ⟨bF BK334.out NB334_342.out⟩, ⟨bP BK342.out⟩, ⟨bB2 HB.out GE334.out GE342.out⟩⟩
  rw [if_neg c18] at H; have c18b0 := decide_eq_false c18; clear c18; obtain ⟨t347, A26, H⟩ := iB H; (try dsimp only at H)
  have H' := aM H
  clear H
  go_wp2_with (first | ((with_reducible refine gate_callee (f := 21) rfl ?_); refine gM (some 47) Tryd.func21 #[.slice A0 l0.length c0] ?_; (with_reducible refine (r48_Activities.calls k1 _ _ l0 t347 _ ?side1 ?side2 A26.out).mono ?_); (case side1 => exact cB HR0.out HB.out); (case side2 => exact HC0.out); rintro e w27 ⟨v348, rfl, ho0, hb⟩; refine ⟨_, rfl, ?_⟩; replace HO_4 := aM (Kd.R_below (oR HO_4.out) hb); replace HO_343001 := aM (Kd.R_below (oR HO_343001.out) hb); have HO349 := aM (Kd.R_lower ho0 (below_size (bB2 HB.out GE334.out GE342.out))); replace BK334 := aM (kW BK334.out hb); replace BK342 := aM (kW BK342.out hb); replace HB := aM (below_step (bB2 HB.out GE334.out GE342.out) hb); clear hb ho0))
  go_loopg [9] k1 (fun kq v9 w' => ∃ (x9_2 : Int) (x335000_2 : ByteArray) (x343002_2 : List (S41)) (u343002 : Value), v9 = .int .i64 x9_2 ∧ Aside0 (r49_Alpha.l1 kq l0 t335 t347 x9_2 (⟨#[97, 108, 112, 104, 97]⟩ : ByteArray) x343001_1 x343002_2 = some (r1, r2, r3, r4)) ∧ Aside0 (kq ≤ k1) ∧ Aside0 (Kd.R k57 57 w' w.heap.size (fun _ => True) (.slice Ao11 t335.length co11) t335) ∧ Aside0 (Kd.R Kd.string 9 w' w.heap.size (fun _ => True) v348 t347) ∧ Aside0 (Kd.R k59 59 w' w.heap.size (fun _ => True) u343001 x343001_1) ∧ Aside0 (Kd.S k41 41 w' w.heap.size (fun _ => True) u343002 x343002_2) ∧ Aside0 (w'.heap[gb334]? = some (.cells #[.string x335000_2, (.slice none 0 0), (.slice none 0 0)] 28 (0, 0))) ∧ Aside0 (w'.heap[gb342]? = some (.cells #[.string (⟨#[97, 108, 112, 104, 97]⟩ : ByteArray), u343001, u343002] 28 (0, 0))) ∧ Aside0 (Below w.heap.size w w'))
  case atStart => exact ⟨(0), ((⟨#[]⟩ : ByteArray)), (([] : List (S41))), (.slice none 0 0), eT, H', ⟨Nat.le_refl _⟩, ⟨oR HO_4.out⟩, ⟨oR HO349.out⟩, ⟨oR HO_343001.out⟩, ⟨nT⟩, ⟨kB BK334.out⟩, ⟨kB BK342.out⟩, ⟨bB2 HB.out GE334.out GE342.out⟩⟩
  clear H'; obtain ⟨x9_2, x335000_2, x343002_2, u343002, rfl, HA, HK2, HO_4, HO_8, HO_343001, HO_343002, BK334, BK342, HB⟩ := hrel
  cases gk with
  | zero => exact absurd HA.out (by simp [r49_Alpha.l1])
  | succ k2 =>
   have H := HA.out; clear HA
   simp only [r49_Alpha.l1] at H
   by_cases c28 : x9_2 < (t347.length : Int)
   rotate_left
   ·
    rw [if_neg c28] at H
    have c28b0 := decide_eq_false c28; clear c28
    simp only [Option.some.injEq, Prod.mk.injEq] at H
    obtain ⟨rfl, rfl, rfl, rfl⟩ := H; obtain ⟨Ao127, co127, eo127⟩ := Kd.R_slice HO_8.out; subst eo127; have hnb128 := NB342_334.out; have hnc128 := NB334_342.out
    have hcz129_0 : wr.cell? ⟨gb342, 0, none⟩ = some (.string (⟨#[97, 108, 112, 104, 97]⟩ : ByteArray)) := (blk_cell BK342.out 0).trans rfl
    have hcz129_1 : wr.cell? ⟨gb342, 1, none⟩ = some (u343001) := (blk_cell BK342.out 1).trans rfl
    have hcz129_2 : wr.cell? ⟨gb342, 2, none⟩ = some (u343002) := (blk_cell BK342.out 2).trans rfl
    have hfz129_0 := blk_frozen BK342.out 0; have hfz129_1 := blk_frozen BK342.out 1; have hfz129_2 := blk_frozen BK342.out 2
    have hcz130_0 : wr.cell? ⟨gb334, 0, none⟩ = some (.string x335000_2) := (blk_cell BK334.out 0).trans rfl
    have hcz130_1 : wr.cell? ⟨gb334, 1, none⟩ = some (.slice none 0 0) := (blk_cell BK334.out 1).trans rfl
    have hcz130_2 : wr.cell? ⟨gb334, 2, none⟩ = some (.slice none 0 0) := (blk_cell BK334.out 2).trans rfl
    have hfz130_0 := blk_frozen BK334.out 0; have hfz130_1 := blk_frozen BK334.out 1; have hfz130_2 := blk_frozen BK334.out 2; obtain ⟨Ao131, co131, eo131⟩ := Kd.R_slice HO_343001.out; subst eo131; obtain ⟨Ao132, co132, eo132⟩ := Kd.S_slice HO_343002.out; subst eo132
    go_wp2
    refine bodyPost_ret (results_ct rfl _ _ gb334 28 #[.string (⟨#[97, 108, 112, 104, 97]⟩ : ByteArray), .slice Ao131 x343001_1.length co131, .slice Ao132 x343002_2.length co132] (0, 0) _ rfl (bP BK334.out) Tryd.underlying28 rfl (by kernel_rfl)) rfl ?_
    exact ⟨_, _, rT, by refine oR ?_; exact tT HO_343001.out BK334.out, by refine oS ?_; exact sT HO_343002.out BK334.out, bB2 HB.out GE334.out GE342.out⟩
   rw [if_pos c28] at H; have c28b0 := decide_eq_true c28; clear c28
   have H' := aM H
   clear H; obtain ⟨Ao29, co29, eo29⟩ := Kd.R_slice HO_8.out; subst eo29
   go_wp2
   go_loopg [10] k2 (fun kq v10 w' => ∃ (x10_3 : Int) (x335000_3 : ByteArray), v10 = .int .i64 x10_3 ∧ Aside0 (r49_Alpha.l2 kq l0 t335 t347 x9_2 x10_3 (⟨#[97, 108, 112, 104, 97]⟩ : ByteArray) x343001_1 x343002_2 = some (r1, r2, r3, r4)) ∧ Aside0 (kq ≤ k2) ∧ Aside0 (Kd.R k57 57 w' w.heap.size (fun _ => True) (.slice Ao11 t335.length co11) t335) ∧ Aside0 (Kd.R Kd.string 9 w' w.heap.size (fun _ => True) (.slice Ao29 t347.length co29) t347) ∧ Aside0 (Kd.R k59 59 w' w.heap.size (fun _ => True) u343001 x343001_1) ∧ Aside0 (Kd.S k41 41 w' w.heap.size (fun _ => True) u343002 x343002_2) ∧ Aside0 (w'.heap[gb334]? = some (.cells #[.string x335000_3, (.slice none 0 0), (.slice none 0 0)] 28 (0, 0))) ∧ Aside0 (w'.heap[gb342]? = some (.cells #[.string (⟨#[97, 108, 112, 104, 97]⟩ : ByteArray), u343001, u343002] 28 (0, 0))) ∧ Aside0 (Below w.heap.size w w'))
   case atStart => exact ⟨(0), (x335000_2), eT, H', ⟨Nat.le_refl _⟩, ⟨oR HO_4.out⟩, ⟨oR HO_8.out⟩, ⟨oR HO_343001.out⟩, ⟨oS HO_343002.out⟩, ⟨kB BK334.out⟩, ⟨kB BK342.out⟩, ⟨bB2 HB.out GE334.out GE342.out⟩⟩
   clear H'; obtain ⟨x10_3, x335000_3, rfl, HA, HK3, HO_4, HO_8, HO_343001, HO_343002, BK334, BK342, HB⟩ := hrel
   cases gk with
   | zero => exact absurd HA.out (by simp [r49_Alpha.l2])
   | succ k3 =>
    have H := HA.out; clear HA
    simp only [r49_Alpha.l2] at H
    by_cases c30 : x10_3 < (x343001_1.length : Int)
    ·
     rw [if_pos c30] at H
     have c30b0 := decide_eq_true c30; clear c30
     obtain ⟨c31, H⟩ := iP H; have c31b0 := decide_eq_true c31; clear c31
     obtain ⟨c32, H⟩ := iP H; have c32b0 := decide_eq_true c32; clear c32
     obtain ⟨c33, H⟩ := iP H; have c33b0 := decide_eq_true c33; clear c33
     by_cases c34 : ((rd_T59 x343001_1 x10_3).f0).toList = (rdOf ByteArray.empty t347 x9_2).toList
     rotate_left
     ·
      rw [if_neg c34] at H
      have c34b0 : (((rd_T59 x343001_1 x10_3).f0).toList == (rdOf ByteArray.empty t347 x9_2).toList) = false := beq_eq_false_iff_ne.mpr c34; have c34b1 : (((rd_T59 x343001_1 x10_3).f0).toList != (rdOf ByteArray.empty t347 x9_2).toList) = true := bne_iff_ne.mpr c34
      have H' := aM H
      clear H; have hnb40 := NB342_334.out; have hnc40 := NB334_342.out
      have hcz41_0 : wr.cell? ⟨gb342, 0, none⟩ = some (.string (⟨#[97, 108, 112, 104, 97]⟩ : ByteArray)) := (blk_cell BK342.out 0).trans rfl
      have hcz41_1 : wr.cell? ⟨gb342, 1, none⟩ = some (u343001) := (blk_cell BK342.out 1).trans rfl
      have hcz41_2 : wr.cell? ⟨gb342, 2, none⟩ = some (u343002) := (blk_cell BK342.out 2).trans rfl
      have hfz41_0 := blk_frozen BK342.out 0; have hfz41_1 := blk_frozen BK342.out 1; have hfz41_2 := blk_frozen BK342.out 2; obtain ⟨Ao42, co42, eo42⟩ := Kd.R_slice HO_343001.out; subst eo42
      try go_wp2
      replace HO_4 := aM (Kd.R_drew HO_4.out); replace HO_8 := aM (Kd.R_drew HO_8.out); replace HO_343001 := aM (Kd.R_drew HO_343001.out); replace HO_343002 := aM (Kd.S_drew HO_343002.out); replace BK334 := aM (blk_drew BK334.out); replace BK342 := aM (blk_drew BK342.out); replace HB := aM (below_drew1 HB.out); have p350 : 0 ≤ (x10_3 : Int) := dT; have q350 : x10_3 < (x343001_1.length : Int) := dT
      try (obtain ⟨Aoz350, coz350, eoz350⟩ := Kd.R_slice HO_343001.out; subst eoz350)
      obtain ⟨ad350, e350, hx350_0, hx350_1, hx350_2⟩ := at_T59 (Kd.R_reads' HO_343001.out).2.2 x10_3 p350 q350; cases e350; replace p350 := eq_true p350; replace q350 := eq_true q350; have p351 : 0 ≤ (x9_2 : Int) := dT; have q351 : x9_2 < (t347.length : Int) := dT
      try (obtain ⟨Aoz351, coz351, eoz351⟩ := Kd.R_slice HO_8.out; subst eoz351)
      obtain ⟨ad351, e351, hx351_0⟩ := Kd.at_string (Kd.R_reads' HO_8.out).2.2 x9_2 p351 q351; cases e351; replace p351 := eq_true p351; replace q351 := eq_true q351
      refine start_ (n := 11) (S := fun w' => w'.cell? ⟨gb342, 0, none⟩ = some (.string (⟨#[97, 108, 112, 104, 97]⟩ : ByteArray)) ∧ w'.cell? ⟨gb342, 1, none⟩ = some (.slice (some ad350) x343001_1.length co42) ∧ w'.cell? ⟨gb342, 2, none⟩ = some (u343002) ∧ w'.cell? (ad350.add ((x10_3).toNat * 3)) = some (.string ((rd_T59 x343001_1 x10_3).f0)) ∧ w'.cell? ⟨(ad350.add ((x10_3).toNat * 3)).block, (ad350.add ((x10_3).toNat * 3)).off + 1, none⟩ = some (.int .i64 ((rd_T59 x343001_1 x10_3).f1)) ∧ w'.cell? ⟨(ad350.add ((x10_3).toNat * 3)).block, (ad350.add ((x10_3).toNat * 3)).off + 2, none⟩ = some (.int .i64 ((rd_T59 x343001_1 x10_3).f2)) ∧ w'.cell? (ad351.add (x9_2).toNat) = some (.string (rdOf ByteArray.empty t347 x9_2))) (ds := []) #[false, false, false, false, false, false, false, false, false, false, false] (by kernel_rfl) rfl rfl ⟨(blk_cell BK342.out 0).trans rfl, (blk_cell BK342.out 1).trans rfl, (blk_cell BK342.out 2).trans rfl, hx350_0, hx350_1, hx350_2, hx351_0⟩ (fun hHeld => ?_); refine with_tabW r49_Alpha.tab18 r49_Alpha.bits18 (fun HT_ HW_ => ?_)
      generalize wr.drew = w43 at HO_4 HO_8 HO_343001 HO_343002 BK334 BK342 HB hx350_0 hx350_1 hx350_2 hx351_0 hHeld ⊢
      refine pU 0 61 (any_of HT_.out (by kernel_rfl)) ?_
      refine pU 2 63 (any_of HT_.out (by kernel_rfl)) ?_
      refine pU 6 67 (any_of HT_.out (by kernel_rfl)) ?_
      refine pU 7 68 (any_of HT_.out (by kernel_rfl)) ?_
      refine pU 8 69 (any_of HT_.out (by kernel_rfl)) ?_
      refine tU 1 62 (take_ofW HT_.out HW_.out (by kernel_rfl)) hHeld ?_
      refine pU 3 64 (any_of HT_.out (by kernel_rfl)) ?_
      refine pU 4 65 (any_of HT_.out (by kernel_rfl)) ?_
      refine tU 5 66 (take_ofW HT_.out HW_.out (by kernel_rfl)) hHeld ?_
      refine tU 9 70 (take_ofW HT_.out HW_.out (by kernel_rfl)) hHeld ?_
      refine pU 10 71 (any_of HT_.out (by kernel_rfl)) ?_
      refine done_ (done_of HT_.out (by kernel_rfl)) ?_
      try go_wp2
      go_roundg k3
      case measure => have := HK1.out; have := HK2.out; have := HK3.out; omega
      case rel => exact ⟨(wrap64 (x10_3 + 1)), (x335000_3), eT, H', ⟨by have := HK1.out; have := HK2.out; have := HK3.out; omega⟩, ⟨oR HO_4.out⟩, ⟨oR HO_8.out⟩, ⟨oR HO_343001.out⟩, ⟨oS HO_343002.out⟩, ⟨kB BK334.out⟩, ⟨kB BK342.out⟩, ⟨bB2 HB.out GE334.out GE342.out⟩⟩
     rw [if_pos c34] at H; have c34b0 : (((rd_T59 x343001_1 x10_3).f0).toList == (rdOf ByteArray.empty t347 x9_2).toList) = true := beq_iff_eq.mpr c34; have c34b1 : (((rd_T59 x343001_1 x10_3).f0).toList != (rdOf ByteArray.empty t347 x9_2).toList) = false := bne_eq_false_iff_eq.mpr c34; clear c34
     simp only [Option.some.injEq, Prod.mk.injEq] at H
     obtain ⟨rfl, rfl, rfl, rfl⟩ := H; have hnb35 := NB342_334.out; have hnc35 := NB334_342.out
     have hcz36_0 : wr.cell? ⟨gb342, 0, none⟩ = some (.string (⟨#[97, 108, 112, 104, 97]⟩ : ByteArray)) := (blk_cell BK342.out 0).trans rfl
     have hcz36_1 : wr.cell? ⟨gb342, 1, none⟩ = some (u343001) := (blk_cell BK342.out 1).trans rfl
     have hcz36_2 : wr.cell? ⟨gb342, 2, none⟩ = some (u343002) := (blk_cell BK342.out 2).trans rfl
     have hfz36_0 := blk_frozen BK342.out 0; have hfz36_1 := blk_frozen BK342.out 1; have hfz36_2 := blk_frozen BK342.out 2; obtain ⟨Ao37, co37, eo37⟩ := Kd.R_slice HO_343001.out; subst eo37
     try go_wp2
     replace HO_4 := aM (Kd.R_drew HO_4.out); replace HO_8 := aM (Kd.R_drew HO_8.out); replace HO_343001 := aM (Kd.R_drew HO_343001.out); replace HO_343002 := aM (Kd.S_drew HO_343002.out); replace BK334 := aM (blk_drew BK334.out); replace BK342 := aM (blk_drew BK342.out); replace HB := aM (below_drew1 HB.out); have p350 : 0 ≤ (x10_3 : Int) := dT; have q350 : x10_3 < (x343001_1.length : Int) := dT
     try (obtain ⟨Aoz350, coz350, eoz350⟩ := Kd.R_slice HO_343001.out; subst eoz350)
     obtain ⟨ad350, e350, hx350_0, hx350_1, hx350_2⟩ := at_T59 (Kd.R_reads' HO_343001.out).2.2 x10_3 p350 q350; cases e350; replace p350 := eq_true p350; replace q350 := eq_true q350; have p351 : 0 ≤ (x9_2 : Int) := dT; have q351 : x9_2 < (t347.length : Int) := dT
     try (obtain ⟨Aoz351, coz351, eoz351⟩ := Kd.R_slice HO_8.out; subst eoz351)
     obtain ⟨ad351, e351, hx351_0⟩ := Kd.at_string (Kd.R_reads' HO_8.out).2.2 x9_2 p351 q351; cases e351; replace p351 := eq_true p351; replace q351 := eq_true q351
     refine start_ (n := 11) (S := fun w' => w'.cell? ⟨gb342, 0, none⟩ = some (.string (⟨#[97, 108, 112, 104, 97]⟩ : ByteArray)) ∧ w'.cell? ⟨gb342, 1, none⟩ = some (.slice (some ad350) x343001_1.length co37) ∧ w'.cell? ⟨gb342, 2, none⟩ = some (u343002) ∧ w'.cell? (ad350.add ((x10_3).toNat * 3)) = some (.string ((rd_T59 x343001_1 x10_3).f0)) ∧ w'.cell? ⟨(ad350.add ((x10_3).toNat * 3)).block, (ad350.add ((x10_3).toNat * 3)).off + 1, none⟩ = some (.int .i64 ((rd_T59 x343001_1 x10_3).f1)) ∧ w'.cell? ⟨(ad350.add ((x10_3).toNat * 3)).block, (ad350.add ((x10_3).toNat * 3)).off + 2, none⟩ = some (.int .i64 ((rd_T59 x343001_1 x10_3).f2)) ∧ w'.cell? (ad351.add (x9_2).toNat) = some (.string (rdOf ByteArray.empty t347 x9_2))) (ds := []) #[false, false, false, false, false, false, false, false, false, false, false] (by kernel_rfl) rfl rfl ⟨(blk_cell BK342.out 0).trans rfl, (blk_cell BK342.out 1).trans rfl, (blk_cell BK342.out 2).trans rfl, hx350_0, hx350_1, hx350_2, hx351_0⟩ (fun hHeld => ?_); refine with_tabW r49_Alpha.tab18 r49_Alpha.bits18 (fun HT_ HW_ => ?_)
     generalize wr.drew = w38 at HO_4 HO_8 HO_343001 HO_343002 BK334 BK342 HB hx350_0 hx350_1 hx350_2 hx351_0 hHeld ⊢
     refine pU 0 61 (any_of HT_.out (by kernel_rfl)) ?_
     refine pU 2 63 (any_of HT_.out (by kernel_rfl)) ?_
     refine pU 6 67 (any_of HT_.out (by kernel_rfl)) ?_
     refine pU 7 68 (any_of HT_.out (by kernel_rfl)) ?_
     refine pU 8 69 (any_of HT_.out (by kernel_rfl)) ?_
     refine tU 1 62 (take_ofW HT_.out HW_.out (by kernel_rfl)) hHeld ?_
     refine pU 3 64 (any_of HT_.out (by kernel_rfl)) ?_
     refine pU 4 65 (any_of HT_.out (by kernel_rfl)) ?_
     refine tU 5 66 (take_ofW HT_.out HW_.out (by kernel_rfl)) hHeld ?_
     refine tU 9 70 (take_ofW HT_.out HW_.out (by kernel_rfl)) hHeld ?_
     refine pU 10 71 (any_of HT_.out (by kernel_rfl)) ?_
     refine done_ (done_of HT_.out (by kernel_rfl)) ?_
     have hcz39_0 := cz0 BK334.out
     have hcz39_1 := cz1 BK334.out
     have hcz39_2 := cz2 BK334.out
     have hfz39_0 := blk_frozen BK334.out 0; have hfz39_1 := blk_frozen BK334.out 1; have hfz39_2 := blk_frozen BK334.out 2
     try go_wp2
     refine bodyPost_ret (results_ct rfl _ _ gb334 28 #[.string (⟨#[]⟩ : ByteArray), .slice none 0 0, .slice none 0 0] (0, 0) _ rfl (bP BK334.out) Tryd.underlying28 rfl (by kernel_rfl)) rfl ?_
     exact ⟨_, _, rT, nT, nT, bB2 HB.out GE334.out GE342.out⟩
    rw [if_neg c30] at H; have c30b0 := decide_eq_false c30; clear c30
    obtain ⟨c44, H⟩ := iP H; have c44b0 := decide_eq_true c44; clear c44
    obtain ⟨c45, H⟩ := iP H; have c45b0 := decide_eq_true c45; clear c45; obtain ⟨t354, A46, H⟩ := iB H; (try dsimp only at H); obtain ⟨t358, A47, H⟩ := iB H; (try dsimp only at H); have HC48 := aM H; clear H; have hnb49 := NB342_334.out; have hnc49 := NB334_342.out
    have hcz50_0 : wr.cell? ⟨gb342, 0, none⟩ = some (.string (⟨#[97, 108, 112, 104, 97]⟩ : ByteArray)) := (blk_cell BK342.out 0).trans rfl
    have hcz50_1 : wr.cell? ⟨gb342, 1, none⟩ = some (u343001) := (blk_cell BK342.out 1).trans rfl
    have hcz50_2 : wr.cell? ⟨gb342, 2, none⟩ = some (u343002) := (blk_cell BK342.out 2).trans rfl
    have hfz50_0 := blk_frozen BK342.out 0; have hfz50_1 := blk_frozen BK342.out 1; have hfz50_2 := blk_frozen BK342.out 2; obtain ⟨Ao51, co51, eo51⟩ := Kd.R_slice HO_343001.out; subst eo51; have p352 : 0 ≤ (x9_2 : Int) := dT; have q352 : x9_2 < (t347.length : Int) := dT
    try (obtain ⟨Aoz352, coz352, eoz352⟩ := Kd.R_slice HO_8.out; subst eoz352)
    obtain ⟨ad352, e352, hx352_0⟩ := Kd.at_string (Kd.R_reads' HO_8.out).2.2 x9_2 p352 q352; cases e352; replace p352 := eq_true p352; replace q352 := eq_true q352
    try go_wp2_with (first | ((with_reducible refine gate_dst (N := 11) rfl ?_); refine bX 11 (cs := #[.string (⟨#[]⟩ : ByteArray), .slice none 0 0, .slice none 0 0, .slice none 0 0, .int .i64 0]) (t := 41) ?_; intro gb353 hg w52 hbox hb; replace HO_4 := aM (Kd.R_below (oR HO_4.out) hb); replace HO_8 := aM (Kd.R_below (oR HO_8.out) hb); replace HO_343001 := aM (Kd.R_below (oR HO_343001.out) hb); replace HO_343002 := aM (Kd.S_below (Kd.S_elderB (oS HO_343002.out) gb353 (Nat.le_of_eq hg.symm)) hb); have BK353 := aM (hbox); have GW353 := aM (gE hg (below_size (bB2 HB.out GE334.out GE342.out))); have GE353 := GW353; replace HB := aM (below_step (bB2 HB.out GE334.out GE342.out) hb); have NB334_353 := aM (gL hg (kL BK334.out)); have NB353_334 := aM (gG hg (kL BK334.out)); replace BK334 := aM (kW BK334.out hb); have NB342_353 := aM (gL hg (kL BK342.out)); have NB353_342 := aM (gG hg (kL BK342.out)); replace BK342 := aM (kW BK342.out hb); clear hb hbox hg; have hnb53 := NB353_334.out; have hnc53 := NB334_353.out; have hnb54 := NB353_342.out; have hnc54 := NB342_353.out; obtain ⟨hcz55_0, hcz55_1, hcz55_2, hcz55_3, hcz55_4, hfz55_0, hfz55_1, hfz55_2, hfz55_3, hfz55_4⟩ := cd5 BK353.out))
    have n0_ : Aside0 (Kd.R k57 57 (((((w52.setCell ⟨gb353, 0, none⟩ (.string (rdOf ByteArray.empty t347 x9_2))).setCell ⟨gb353, 1, none⟩ (.slice none 0 0)).setCell ⟨gb353, 2, none⟩ (.slice none 0 0)).setCell ⟨gb353, 3, none⟩ (.slice none 0 0)).setCell ⟨gb353, 4, none⟩ (.int .i64 0)) w.heap.size (fun _ => True) (.slice Ao11 t335.length co11) t335) := ⟨by refine oR ?_; exact tT HO_4.out BK353.out⟩
    have n1_ : Aside0 (Kd.R Kd.string 9 (((((w52.setCell ⟨gb353, 0, none⟩ (.string (rdOf ByteArray.empty t347 x9_2))).setCell ⟨gb353, 1, none⟩ (.slice none 0 0)).setCell ⟨gb353, 2, none⟩ (.slice none 0 0)).setCell ⟨gb353, 3, none⟩ (.slice none 0 0)).setCell ⟨gb353, 4, none⟩ (.int .i64 0)) w.heap.size (fun _ => True) (.slice (some ad352) t347.length co29) t347) := ⟨by refine oR ?_; exact tT HO_8.out BK353.out⟩
    have n2_ : Aside0 (Kd.R k59 59 (((((w52.setCell ⟨gb353, 0, none⟩ (.string (rdOf ByteArray.empty t347 x9_2))).setCell ⟨gb353, 1, none⟩ (.slice none 0 0)).setCell ⟨gb353, 2, none⟩ (.slice none 0 0)).setCell ⟨gb353, 3, none⟩ (.slice none 0 0)).setCell ⟨gb353, 4, none⟩ (.int .i64 0)) w.heap.size (fun _ => True) (.slice Ao51 x343001_1.length co51) x343001_1) := ⟨by refine oR ?_; exact tT HO_343001.out BK353.out⟩
    have n3_ : Aside0 (Kd.S k41 41 (((((w52.setCell ⟨gb353, 0, none⟩ (.string (rdOf ByteArray.empty t347 x9_2))).setCell ⟨gb353, 1, none⟩ (.slice none 0 0)).setCell ⟨gb353, 2, none⟩ (.slice none 0 0)).setCell ⟨gb353, 3, none⟩ (.slice none 0 0)).setCell ⟨gb353, 4, none⟩ (.int .i64 0)) w.heap.size (fun k_ => k_ ≠ gb353) u343002 x343002_2) := ⟨by refine oS ?_; exact Kd.S_mono (Kd.S_far (p := ⟨gb353, 4, none⟩) (Kd.S_far (p := ⟨gb353, 3, none⟩) (Kd.S_far (p := ⟨gb353, 2, none⟩) (Kd.S_far (p := ⟨gb353, 1, none⟩) (Kd.S_far (p := ⟨gb353, 0, none⟩) (Kd.S_mono HO_343002.out (fun k_ hk => (⟨hk, hk.2⟩ : _ ∧ k_ ≠ gb353))) (fun _ hk => hk.2) (.string (rdOf ByteArray.empty t347 x9_2))) (fun _ hk => hk.2) (.slice none 0 0)) (fun _ hk => hk.2) (.slice none 0 0)) (fun _ hk => hk.2) (.slice none 0 0)) (fun _ hk => hk.2) (.int .i64 0)) (fun _ hk => hk.1.2)⟩
    have n4_ : Aside0 ((((((w52.setCell ⟨gb353, 0, none⟩ (.string (rdOf ByteArray.empty t347 x9_2))).setCell ⟨gb353, 1, none⟩ (.slice none 0 0)).setCell ⟨gb353, 2, none⟩ (.slice none 0 0)).setCell ⟨gb353, 3, none⟩ (.slice none 0 0)).setCell ⟨gb353, 4, none⟩ (.int .i64 0)).heap[gb334]? = some (.cells #[.string x335000_3, .slice none 0 0, .slice none 0 0] 28 (0, 0))) := ⟨bF BK334.out NB334_353.out⟩
    have n5_ : Aside0 ((((((w52.setCell ⟨gb353, 0, none⟩ (.string (rdOf ByteArray.empty t347 x9_2))).setCell ⟨gb353, 1, none⟩ (.slice none 0 0)).setCell ⟨gb353, 2, none⟩ (.slice none 0 0)).setCell ⟨gb353, 3, none⟩ (.slice none 0 0)).setCell ⟨gb353, 4, none⟩ (.int .i64 0)).heap[gb342]? = some (.cells #[.string (⟨#[97, 108, 112, 104, 97]⟩ : ByteArray), .slice Ao51 x343001_1.length co51, u343002] 28 (0, 0))) := ⟨bF BK342.out NB342_353.out⟩
    have n6_ : Aside0 ((((((w52.setCell ⟨gb353, 0, none⟩ (.string (rdOf ByteArray.empty t347 x9_2))).setCell ⟨gb353, 1, none⟩ (.slice none 0 0)).setCell ⟨gb353, 2, none⟩ (.slice none 0 0)).setCell ⟨gb353, 3, none⟩ (.slice none 0 0)).setCell ⟨gb353, 4, none⟩ (.int .i64 0)).heap[gb353]? = some (.cells #[.string (rdOf ByteArray.empty t347 x9_2), .slice none 0 0, .slice none 0 0, .slice none 0 0, .int .i64 0] 41 (0, 0))) := ⟨bP BK353.out⟩
    have n7_ : Aside0 (Below w.heap.size w (((((w52.setCell ⟨gb353, 0, none⟩ (.string (rdOf ByteArray.empty t347 x9_2))).setCell ⟨gb353, 1, none⟩ (.slice none 0 0)).setCell ⟨gb353, 2, none⟩ (.slice none 0 0)).setCell ⟨gb353, 3, none⟩ (.slice none 0 0)).setCell ⟨gb353, 4, none⟩ (.int .i64 0))) := ⟨bB3 HB.out GE334.out GE342.out GE353.out⟩
    (try clear HO_4)
    (try clear HO_8)
    (try clear HO_343001)
    (try clear HO_343002)
    (try clear BK334)
    (try clear BK342)
    (try clear BK353)
    (try clear HB)
    generalize (((((w52.setCell ⟨gb353, 0, none⟩ (.string (rdOf ByteArray.empty t347 x9_2))).setCell ⟨gb353, 1, none⟩ (.slice none 0 0)).setCell ⟨gb353, 2, none⟩ (.slice none 0 0)).setCell ⟨gb353, 3, none⟩ (.slice none 0 0)).setCell ⟨gb353, 4, none⟩ (.int .i64 0)) = w56 at n0_ n1_ n2_ n3_ n4_ n5_ n6_ n7_ ⊢
    have HO_4 := n0_; have HO_8 := n1_; have HO_343001 := n2_; have HO_343002 := n3_; have BK334 := n4_; have BK342 := n5_; have BK353 := n6_; have HB := n7_; clear n0_ n1_ n2_ n3_ n4_ n5_ n6_ n7_; replace HO_4 := aM (Kd.R_drew HO_4.out); replace HO_8 := aM (Kd.R_drew HO_8.out); replace HO_343001 := aM (Kd.R_drew HO_343001.out); replace HO_343002 := aM (Kd.S_drew HO_343002.out); replace BK334 := aM (blk_drew BK334.out); replace BK342 := aM (blk_drew BK342.out); replace BK353 := aM (blk_drew BK353.out); replace HB := aM (below_drew1 HB.out); have p357 : 0 ≤ (x9_2 : Int) := dT; have q357 : x9_2 < (t347.length : Int) := dT
    try (obtain ⟨Aoz357, coz357, eoz357⟩ := Kd.R_slice HO_8.out; subst eoz357)
    obtain ⟨ad357, e357, hx357_0⟩ := Kd.at_string (Kd.R_reads' HO_8.out).2.2 x9_2 p357 q357; obtain rfl : ad352 = ad357 := (by injection e357); replace p357 := eq_true p357; replace q357 := eq_true q357
    refine start_ (n := 7) (S := fun w' => w'.cell? (ad352.add (x9_2).toNat) = some (.string (rdOf ByteArray.empty t347 x9_2))) (ds := []) #[false, false, false, false, false, false, false] (by kernel_rfl) rfl rfl (hx357_0) (fun hHeld => ?_)
    generalize w56.drew = w57 at HO_4 HO_8 HO_343001 HO_343002 BK334 BK342 BK353 HB hx357_0 hHeld ⊢
    refine pU 0 78 (by kernel_rfl) ?_
    refine pU 2 80 (by kernel_rfl) ?_
    refine pU 3 81 (by kernel_rfl) ?_
    refine pU 4 82 (by kernel_rfl) ?_
    refine take_ (i := 5) (N := some 83) (v := ?_) (a' := ?_) #[true, false, true, true, true, true, false] rfl rfl (by kernel_rfl) (fun _ _ _ h => h) (Or.inl ⟨by rfl, ?_⟩) hHeld ?_ ?_
    rotate_left
    ·
     intro w' s0
     go_simp
     with_reducible rfl
    rotate_left
    ·
     simp only [Act.put, List.setIfInBounds_toArray, List.set_cons_zero, List.set_cons_succ, i64_w, i32_w]
     rfl
    refine one_ (i := 1) (N := some 79) #[true, true, true, true, true, true, false] rfl rfl (by kernel_rfl) (by decide) (fun K hK => ?_)
    refine goes_ Tryd.func32 (by kernel_rfl) rfl #[.slice A0 l0.length c0] (by rfl) rfl rfl mT ?_
    with_reducible refine (r48_First.calls k3 _ _ l0 t354 _ ?side1 ?side2 A46.out).mono ?_
    (case side1 => exact cB HR0.out HB.out)
    (case side2 => exact HC0.out)
    rintro e w58 ⟨v355, rfl, ho0, hb⟩
    have HS0_ := (hb.cell (World.block_lt_of_cell? _ _ (hHeld))).trans (hHeld)
    refine ⟨_, rfl, ?_⟩
    replace HO_4 := aM (Kd.R_below (oR HO_4.out) hb); replace HO_343001 := aM (Kd.R_below (oR HO_343001.out) hb); replace HO_343002 := aM (Kd.S_below (oS HO_343002.out) hb); have HO356 := aM (Kd.R_lower (Kd.R_new' ho0 (Kd.R_lt (oR HO_8.out))) (below_size (bB3 HB.out GE334.out GE342.out GE353.out))); replace HO_8 := aM (Kd.R_elder' (oR HO_8.out) (Kd.R_base ho0) hb); replace BK334 := aM (kW BK334.out hb); replace BK342 := aM (kW BK342.out hb); replace BK353 := aM (kW BK353.out hb); replace HB := aM (below_step (bB3 HB.out GE334.out GE342.out GE353.out) hb)
    (try clear hb)
    (try clear hb2)
    (try clear hk)
    (try clear hi)
    (try clear ho0)
    obtain ⟨Ao59, co59, eo59⟩ := Kd.R_slice HO356.out
    (first | subst eo59 | (injection eo59 with f1_ f2_ f3_; have f4_ := f1_.symm; have f5_ := f3_.symm; clear f1_ f2_ f3_; subst f4_; subst f5_))
    refine hK.out _ _ (HS0_) (fun hHeld => ?_)
    clear hK K
    refine nU 79 ?_
    refine one_ (i := 6) (N := some 84) #[true, true, true, true, true, true, true] rfl rfl (by kernel_rfl) (by decide) (fun K hK => ?_)
    refine goes_ Tryd.func13 (by kernel_rfl) rfl #[.slice Ao59 t354.length co59, .string (rdOf ByteArray.empty t347 x9_2)] (by rfl) rfl rfl mT ?_
    with_reducible refine (r48_Has.calls k3 _ _ t354 (rdOf ByteArray.empty t347 x9_2) t358 _ ?side1 ?side2 A47.out).mono ?_
    (case side1 => repeat (first | exact (Kd.R_reads' HO356.out).2.2 | (with_reducible refine Kd.C_alloc ?_ _) | (with_reducible refine Kd.C_drewN ?_ _) | (with_reducible refine Kd.C_drew ?_)))
    (case side2 => exact (Kd.R_reads' HO356.out).2.1)
    rintro e w' ⟨rfl, ⟨nd, rfl⟩⟩
    refine ⟨_, rfl, ?_⟩
    refine hK.out _ _ (hHeld) (fun hHeld => ?_)
    clear hK K
    refine nU 84 ?_
    refine done_ (by kernel_rfl) ?_
    go_upto_if 84 with (fail)
    go_cut [] (fun wc => ∃ (kq : Nat) (x354001_47 : List (S62)) (u354001 : Value), Aside0 (r49_Alpha.j3 kq l0 t335 t347 x9_2 (⟨#[97, 108, 112, 104, 97]⟩ : ByteArray) x343001_1 x343002_2 (rdOf ByteArray.empty t347 x9_2) x354001_47 0 = some (r1, r2, r3, r4)) ∧ Aside0 (kq ≤ k3) ∧ Aside0 (Kd.R k57 57 wc w.heap.size (fun _ => True) (.slice Ao11 t335.length co11) t335) ∧ Aside0 (Kd.R Kd.string 9 wc w.heap.size (fun _ => True) (.slice (some ad352) t347.length co29) t347) ∧ Aside0 (Kd.R k59 59 wc w.heap.size (fun _ => True) (.slice Ao51 x343001_1.length co51) x343001_1) ∧ Aside0 (Kd.S k41 41 wc w.heap.size (fun k_ => some k_ ≠ (u354001 : Value).ownBlock ∧ k_ ≠ gb353) u343002 x343002_2) ∧ Aside0 (Kd.R k62 62 wc w.heap.size (fun _ => True) u354001 x354001_47) ∧ Aside0 (wc.heap[gb334]? = some (.cells #[.string x335000_3, (.slice none 0 0), (.slice none 0 0)] 28 (0, 0))) ∧ Aside0 (wc.heap[gb342]? = some (.cells #[.string (⟨#[97, 108, 112, 104, 97]⟩ : ByteArray), (.slice Ao51 x343001_1.length co51), u343002] 28 (0, 0))) ∧ Aside0 (wc.heap[gb353]? = some (.cells #[.string (rdOf ByteArray.empty t347 x9_2), u354001, (.slice none 0 0), (.slice none 0 0), .int .i64 0] 41 (0, 0))) ∧ Aside0 (Below w.heap.size w wc))
    case first =>
     have H := HC48.out; clear HC48
     by_cases c60 : t358 = true
     rotate_left
     ·
      replace c60 := Bool.eq_false_iff.mpr c60
      subst c60
      have H1 : (r49_Alpha.j3 k3 l0 t335 t347 x9_2 (⟨#[97, 108, 112, 104, 97]⟩ : ByteArray) x343001_1 x343002_2 (rdOf ByteArray.empty t347 x9_2) ([] : List (S62)) 0) = some (r1, r2, r3, r4) := by rw [if_neg (show ¬ (false = true) by decide)] at H; exact H
      clear H; have H := H1; clear H1
      have H' := aM H
      clear H
      go_wp2
      go_meet
      case rel => exact ⟨_, (([] : List (S62))), (.slice none 0 0), H', ⟨by have := HK1.out; have := HK2.out; have := HK3.out; first | omega | exact Nat.le_refl _⟩, ⟨oR HO_4.out⟩, ⟨by refine oR ?_; exact Kd.R_mono HO_8.out (fun _ hk => trivial)⟩, ⟨oR HO_343001.out⟩, ⟨by refine oS ?_; exact Kd.S_mono HO_343002.out (fun _ hk => ⟨(by simp [Value.ownBlock]), hk⟩)⟩, ⟨nT⟩, ⟨kB BK334.out⟩, ⟨kB BK342.out⟩, ⟨kB BK353.out⟩, ⟨bB3 HB.out GE334.out GE342.out GE353.out⟩⟩
     subst c60
     have H1 : (if ([] : List (S62)).length < 8796093022208 then (r49_Alpha.j3 k3 l0 t335 t347 x9_2 (⟨#[97, 108, 112, 104, 97]⟩ : ByteArray) x343001_1 x343002_2 (rdOf ByteArray.empty t347 x9_2) (([] : List (S62)) ++ [(⟨0, 1⟩ : S62)]) 0) else (none)) = some (r1, r2, r3, r4) := by rw [if_pos rfl] at H; exact H
     clear H; have H := H1; clear H1
     obtain ⟨c61, H⟩ := iP H; have LMc61 := aM c61; clear c61
     obtain ⟨y359, hy359⟩ : ∃ y_ : List (S62), y_ = (([] : List (S62)) ++ [(⟨0, 1⟩ : S62)]) := ⟨_, rfl⟩
     replace H : (r49_Alpha.j3 k3 l0 t335 t347 x9_2 (⟨#[97, 108, 112, 104, 97]⟩ : ByteArray) x343001_1 x343002_2 (rdOf ByteArray.empty t347 x9_2) y359 0) = some (r1, r2, r3, r4) := yT hy359 H
     have Ny359 := aM hy359; clear hy359
     have H' := aM H
     clear H; have hnb62 := NB353_334.out; have hnc62 := NB334_353.out; have hnb63 := NB353_342.out; have hnc63 := NB342_353.out
     have hcz64_0 := cz0 BK353.out
     have hcz64_1 := cz1 BK353.out
     have hcz64_2 := cz2 BK353.out
     have hcz64_3 := cz3 BK353.out
     have hcz64_4 := cz4 BK353.out
     have hfz64_0 := blk_frozen BK353.out 0; have hfz64_1 := blk_frozen BK353.out 1; have hfz64_2 := blk_frozen BK353.out 2; have hfz64_3 := blk_frozen BK353.out 3; have hfz64_4 := blk_frozen BK353.out 4
     go_wp2_with (first | ((with_reducible refine gate_builtin (b := .append) (xs := #[.tmp 86, .tmp 88]) rfl ?_); at_builtin; refine Kd.R_append k62 (w0 := w) w.heap.size rfl (.tmp 86) (.tmp 88) 39 62 (.agg #[(.int .i64 0), (.int .i64 0)]) 16 rfl Tryd.underlying39 info62 rfl (by decide) (by omega) (.slice none 0 0) ([] : List (S62)) (⟨0, 1⟩ : S62) [.int .i64 0, .int .i64 1] (fun _ => True) (fun _ => False) rfl rfl ?aP (fun _ hk => hk.elim) ?aF ?aO ?aB ?aS ?aL ?_; (case aP => exact k62_mkM _ _ _ (⟨0, 1⟩ : S62)); (case aB => exact (bB3 HB.out GE334.out GE342.out GE353.out)); (case aF => exact (fun _ _ => trivial)); (case aO => exact ((Kd.R_nil _ _ _ _ (fun _ => True)))); (case aS => exact (below_size (bB3 HB.out GE334.out GE342.out GE353.out))); (case aL => have := LMc61.out; omega); intro v360 w65 ho hb hg hat; rw [← Ny359.out] at ho; replace HO_4 := aM (Kd.R_grown (oR HO_4.out) hg (fun _ _ => by simp [Value.ownBlock])); replace HO_8 := aM (Kd.R_grown (oR HO_8.out) hg (fun _ _ => by simp [Value.ownBlock])); replace HO_343001 := aM (Kd.R_grown (oR HO_343001.out) hg (fun _ _ => by simp [Value.ownBlock])); replace HO_343002 := aM (Kd.S_after (Kd.S_apart_nil (oS HO_343002.out)) hg hat); replace BK334 := aM (blk_grown (g := gb334) (o := .cells #[.string x335000_3, .slice none 0 0, .slice none 0 0] 28 (0, 0)) (kB BK334.out) hg (by simp [Value.ownBlock])); replace BK342 := aM (blk_grown (g := gb342) (o := .cells #[.string (⟨#[97, 108, 112, 104, 97]⟩ : ByteArray), .slice Ao51 x343001_1.length co51, u343002] 28 (0, 0)) (kB BK342.out) hg (by simp [Value.ownBlock])); replace BK353 := aM (blk_grown (g := gb353) (o := .cells #[.string (rdOf ByteArray.empty t347 x9_2), .slice none 0 0, .slice none 0 0, .slice none 0 0, .int .i64 0] 41 (0, 0)) (kB BK353.out) hg (by simp [Value.ownBlock])); replace HO356 := aM (Kd.R_grown (oR HO356.out) hg (fun _ _ => by simp [Value.ownBlock])); replace HB := aM (hb); have HO361 := aM (ho); clear ho hb hg hat; obtain ⟨Ao66, co66, eo66⟩ := Kd.R_slice HO361.out; subst eo66; obtain ⟨hcz67_0, hcz67_1, hcz67_2, hcz67_3, hcz67_4, hfz67_0, hfz67_1, hfz67_2, hfz67_3, hfz67_4⟩ := cd5 BK353.out))
     go_meet
     case rel => exact ⟨_, (y359), (.slice Ao66 y359.length co66), H', ⟨by have := HK1.out; have := HK2.out; have := HK3.out; first | omega | exact Nat.le_refl _⟩, ⟨by refine oR ?_; exact tT HO_4.out BK353.out⟩, ⟨by refine oR ?_; exact tT HO_8.out BK353.out⟩, ⟨by refine oR ?_; exact tT HO_343001.out BK353.out⟩, ⟨by refine oS ?_; exact Kd.S_mono (Kd.S_far (p := ⟨gb353, 1, none⟩) (Kd.S_mono HO_343002.out (fun k_ hk => (⟨hk, hk.1⟩ : _ ∧ k_ ≠ gb353))) (fun _ hk => hk.2) (.slice Ao66 y359.length co66)) (fun _ hk => ⟨hk.1.2, hk.1.1⟩)⟩, ⟨by refine oR ?_; exact tT HO361.out BK353.out⟩, ⟨bF BK334.out NB334_353.out⟩, ⟨bF BK342.out NB342_353.out⟩, ⟨bP BK353.out⟩, ⟨bB3 HB.out GE334.out GE342.out GE353.out⟩⟩
    clear HC48
    try clear hx3
    try clear hx35
    try clear hx350_0
    try clear hx350_1
    try clear hx350_2
    try clear hx351_0
    try clear hx352_0
    try clear hx357_0
    obtain ⟨kq, x354001_47, u354001, HA, HJ47, HO_4, HO_8, HO_343001, HO_343002, HO_354001, BK334, BK342, BK353, HB⟩ := hcut
    cases kq with
    | zero => exact absurd HA.out (by simp [r49_Alpha.j3])
    | succ kj47 =>
     have H := HA.out; clear HA
     simp only [r49_Alpha.j3] at H
     obtain ⟨t362, A68, H⟩ := iB H; (try dsimp only at H)
     obtain ⟨c69, H⟩ := iP H; have c69b0 := decide_eq_true c69; clear c69
     obtain ⟨c70, H⟩ := iP H; have c70b0 := decide_eq_true c70; clear c70; obtain ⟨t366, A71, H⟩ := iB H; (try dsimp only at H); have HC72 := aM H; clear H
     try go_wp2
     replace HO_4 := aM (Kd.R_drew HO_4.out); replace HO_8 := aM (Kd.R_drew HO_8.out); replace HO_343001 := aM (Kd.R_drew HO_343001.out); replace HO_343002 := aM (Kd.S_drew HO_343002.out); replace HO_354001 := aM (Kd.R_drew HO_354001.out); replace BK334 := aM (blk_drew BK334.out); replace BK342 := aM (blk_drew BK342.out); replace BK353 := aM (blk_drew BK353.out); replace HB := aM (below_drew1 HB.out); have p365 : 0 ≤ (x9_2 : Int) := dT; have q365 : x9_2 < (t347.length : Int) := dT
     try (obtain ⟨Aoz365, coz365, eoz365⟩ := Kd.R_slice HO_8.out; subst eoz365)
     obtain ⟨ad365, e365, hx365_0⟩ := Kd.at_string (Kd.R_reads' HO_8.out).2.2 x9_2 p365 q365; obtain rfl : ad352 = ad365 := (by injection e365); replace p365 := eq_true p365; replace q365 := eq_true q365
     refine start_ (n := 7) (S := fun w' => w'.cell? (ad352.add (x9_2).toNat) = some (.string (rdOf ByteArray.empty t347 x9_2))) (ds := []) #[false, false, false, false, false, false, false] (by kernel_rfl) rfl rfl (hx365_0) (fun hHeld => ?_)
     generalize wc.drew = w73 at HO_4 HO_8 HO_343001 HO_343002 HO_354001 BK334 BK342 BK353 HB hx365_0 hHeld ⊢
     refine pU 0 91 (by kernel_rfl) ?_
     refine pU 2 93 (by kernel_rfl) ?_
     refine pU 3 94 (by kernel_rfl) ?_
     refine pU 4 95 (by kernel_rfl) ?_
     refine take_ (i := 5) (N := some 96) (v := ?_) (a' := ?_) #[true, false, true, true, true, true, false] rfl rfl (by kernel_rfl) (fun _ _ _ h => h) (Or.inl ⟨by rfl, ?_⟩) hHeld ?_ ?_
     rotate_left
     ·
      intro w' s0
      go_simp
      with_reducible rfl
     rotate_left
     ·
      simp only [Act.put, List.setIfInBounds_toArray, List.set_cons_zero, List.set_cons_succ, i64_w, i32_w]
      rfl
     refine one_ (i := 1) (N := some 92) #[true, true, true, true, true, true, false] rfl rfl (by kernel_rfl) (by decide) (fun K hK => ?_)
     refine goes_ Tryd.func33 (by kernel_rfl) rfl #[.slice A0 l0.length c0] (by rfl) rfl rfl mT ?_
     with_reducible refine (r48_Last.calls kj47 _ _ l0 t362 _ ?side1 ?side2 A68.out).mono ?_
     (case side1 => exact cB HR0.out HB.out)
     (case side2 => exact HC0.out)
     rintro e w74 ⟨v363, rfl, ho0, hb⟩
     have HS0_ := (hb.cell (World.block_lt_of_cell? _ _ (hHeld))).trans (hHeld)
     refine ⟨_, rfl, ?_⟩
     replace HO_4 := aM (Kd.R_below (oR HO_4.out) hb); replace HO_343001 := aM (Kd.R_below (oR HO_343001.out) hb); replace HO_343002 := aM (Kd.S_below (oS HO_343002.out) hb); replace HO_354001 := aM (Kd.R_below (oR HO_354001.out) hb); have HO364 := aM (Kd.R_lower (Kd.R_new' ho0 (Kd.R_lt (oR HO_8.out))) (below_size (bB3 HB.out GE334.out GE342.out GE353.out))); replace HO_8 := aM (Kd.R_elder' (oR HO_8.out) (Kd.R_base ho0) hb); replace BK334 := aM (kW BK334.out hb); replace BK342 := aM (kW BK342.out hb); replace BK353 := aM (kW BK353.out hb); replace HB := aM (below_step (bB3 HB.out GE334.out GE342.out GE353.out) hb)
     (try clear hb)
     (try clear hb2)
     (try clear hk)
     (try clear hi)
     (try clear ho0)
     obtain ⟨Ao75, co75, eo75⟩ := Kd.R_slice HO364.out
     (first | subst eo75 | (injection eo75 with f1_ f2_ f3_; have f4_ := f1_.symm; have f5_ := f3_.symm; clear f1_ f2_ f3_; subst f4_; subst f5_))
     refine hK.out _ _ (HS0_) (fun hHeld => ?_)
     clear hK K
     refine nU 92 ?_
     refine one_ (i := 6) (N := some 97) #[true, true, true, true, true, true, true] rfl rfl (by kernel_rfl) (by decide) (fun K hK => ?_)
     refine goes_ Tryd.func13 (by kernel_rfl) rfl #[.slice Ao75 t362.length co75, .string (rdOf ByteArray.empty t347 x9_2)] (by rfl) rfl rfl mT ?_
     with_reducible refine (r48_Has.calls kj47 _ _ t362 (rdOf ByteArray.empty t347 x9_2) t366 _ ?side1 ?side2 A71.out).mono ?_
     (case side1 => repeat (first | exact (Kd.R_reads' HO364.out).2.2 | (with_reducible refine Kd.C_alloc ?_ _) | (with_reducible refine Kd.C_drewN ?_ _) | (with_reducible refine Kd.C_drew ?_)))
     (case side2 => exact (Kd.R_reads' HO364.out).2.1)
     rintro e w' ⟨rfl, ⟨nd, rfl⟩⟩
     refine ⟨_, rfl, ?_⟩
     refine hK.out _ _ (hHeld) (fun hHeld => ?_)
     clear hK K
     refine nU 97 ?_
     refine done_ (by kernel_rfl) ?_
     go_upto_if 97 with (fail)
     go_cut [] (fun wc => ∃ (kq : Nat) (x354002_71 : List (S62)) (u354002 : Value), Aside0 (r49_Alpha.j4 kq l0 t335 t347 x9_2 (⟨#[97, 108, 112, 104, 97]⟩ : ByteArray) x343001_1 x343002_2 (rdOf ByteArray.empty t347 x9_2) x354001_47 x354002_71 0 = some (r1, r2, r3, r4)) ∧ Aside0 (kq ≤ kj47) ∧ Aside0 (Kd.R k57 57 wc w.heap.size (fun _ => True) (.slice Ao11 t335.length co11) t335) ∧ Aside0 (Kd.R Kd.string 9 wc w.heap.size (fun _ => True) (.slice (some ad352) t347.length co29) t347) ∧ Aside0 (Kd.R k59 59 wc w.heap.size (fun _ => True) (.slice Ao51 x343001_1.length co51) x343001_1) ∧ Aside0 (Kd.S k41 41 wc w.heap.size (fun k_ => some k_ ≠ (u354001 : Value).ownBlock ∧ some k_ ≠ (u354002 : Value).ownBlock ∧ k_ ≠ gb353) u343002 x343002_2) ∧ Aside0 (Kd.R k62 62 wc w.heap.size (fun k_ => some k_ ≠ (u354002 : Value).ownBlock) u354001 x354001_47) ∧ Aside0 (Kd.R k62 62 wc w.heap.size (fun k_ => some k_ ≠ (u354001 : Value).ownBlock) u354002 x354002_71) ∧ Aside0 (wc.heap[gb334]? = some (.cells #[.string x335000_3, (.slice none 0 0), (.slice none 0 0)] 28 (0, 0))) ∧ Aside0 (wc.heap[gb342]? = some (.cells #[.string (⟨#[97, 108, 112, 104, 97]⟩ : ByteArray), (.slice Ao51 x343001_1.length co51), u343002] 28 (0, 0))) ∧ Aside0 (wc.heap[gb353]? = some (.cells #[.string (rdOf ByteArray.empty t347 x9_2), u354001, u354002, (.slice none 0 0), .int .i64 0] 41 (0, 0))) ∧ Aside0 (Below w.heap.size w wc))
     case first =>
      have H := HC72.out; clear HC72
      by_cases c76 : t366 = true
      rotate_left
      ·
       replace c76 := Bool.eq_false_iff.mpr c76
       subst c76
       have H1 : (r49_Alpha.j4 kj47 l0 t335 t347 x9_2 (⟨#[97, 108, 112, 104, 97]⟩ : ByteArray) x343001_1 x343002_2 (rdOf ByteArray.empty t347 x9_2) x354001_47 ([] : List (S62)) 0) = some (r1, r2, r3, r4) := by rw [if_neg (show ¬ (false = true) by decide)] at H; exact H
       clear H; have H := H1; clear H1
       have H' := aM H
       clear H
       go_wp2
       go_meet
       case rel => exact ⟨_, (([] : List (S62))), (.slice none 0 0), H', ⟨by have := HK1.out; have := HK2.out; have := HK3.out; have := HJ47.out; first | omega | exact Nat.le_refl _⟩, ⟨oR HO_4.out⟩, ⟨by refine oR ?_; exact Kd.R_mono HO_8.out (fun _ hk => trivial)⟩, ⟨oR HO_343001.out⟩, ⟨by refine oS ?_; exact Kd.S_mono HO_343002.out (fun _ hk => ⟨hk.1, ⟨(by simp [Value.ownBlock]), hk.2⟩⟩)⟩, ⟨by refine oR ?_; exact Kd.R_mono HO_354001.out (fun _ hk => (by simp [Value.ownBlock]))⟩, ⟨nT⟩, ⟨kB BK334.out⟩, ⟨kB BK342.out⟩, ⟨kB BK353.out⟩, ⟨bB3 HB.out GE334.out GE342.out GE353.out⟩⟩
      subst c76
      have H1 : (if ([] : List (S62)).length < 8796093022208 then (r49_Alpha.j4 kj47 l0 t335 t347 x9_2 (⟨#[97, 108, 112, 104, 97]⟩ : ByteArray) x343001_1 x343002_2 (rdOf ByteArray.empty t347 x9_2) x354001_47 (([] : List (S62)) ++ [(⟨1, 1⟩ : S62)]) 0) else (none)) = some (r1, r2, r3, r4) := by rw [if_pos rfl] at H; exact H
      clear H; have H := H1; clear H1
      obtain ⟨c77, H⟩ := iP H; have LMc77 := aM c77; clear c77
      obtain ⟨y367, hy367⟩ : ∃ y_ : List (S62), y_ = (([] : List (S62)) ++ [(⟨1, 1⟩ : S62)]) := ⟨_, rfl⟩
      replace H : (r49_Alpha.j4 kj47 l0 t335 t347 x9_2 (⟨#[97, 108, 112, 104, 97]⟩ : ByteArray) x343001_1 x343002_2 (rdOf ByteArray.empty t347 x9_2) x354001_47 y367 0) = some (r1, r2, r3, r4) := yT hy367 H
      have Ny367 := aM hy367; clear hy367
      have H' := aM H
      clear H; have hnb78 := NB353_334.out; have hnc78 := NB334_353.out; have hnb79 := NB353_342.out; have hnc79 := NB342_353.out
      have hcz80_0 := cz0 BK353.out
      have hcz80_1 := cz1 BK353.out
      have hcz80_2 := cz2 BK353.out
      have hcz80_3 := cz3 BK353.out
      have hcz80_4 := cz4 BK353.out
      have hfz80_0 := blk_frozen BK353.out 0; have hfz80_1 := blk_frozen BK353.out 1; have hfz80_2 := blk_frozen BK353.out 2; have hfz80_3 := blk_frozen BK353.out 3; have hfz80_4 := blk_frozen BK353.out 4
      go_wp2_with (first | ((with_reducible refine gate_builtin (b := .append) (xs := #[.tmp 99, .tmp 101]) rfl ?_); at_builtin; refine Kd.R_append k62 (w0 := w) w.heap.size rfl (.tmp 99) (.tmp 101) 39 62 (.agg #[(.int .i64 0), (.int .i64 0)]) 16 rfl Tryd.underlying39 info62 rfl (by decide) (by omega) (.slice none 0 0) ([] : List (S62)) (⟨1, 1⟩ : S62) [.int .i64 1, .int .i64 1] (fun k_ => some k_ ≠ (u354001 : Value).ownBlock) (fun _ => False) rfl rfl ?aP (fun _ hk => hk.elim) ?aF ?aO ?aB ?aS ?aL ?_; (case aP => exact k62_mkM _ _ _ (⟨1, 1⟩ : S62)); (case aB => exact (bB3 HB.out GE334.out GE342.out GE353.out)); (case aF => exact (fun k_ hk => Kd.fresh' (Kd.R_lt (oR HO_354001.out)) k_ hk)); (case aO => exact ((Kd.R_nil _ _ _ _ (fun k_ => some k_ ≠ (u354001 : Value).ownBlock)))); (case aS => exact (below_size (bB3 HB.out GE334.out GE342.out GE353.out))); (case aL => have := LMc77.out; omega); intro v368 w81 ho hb hg hat; rw [← Ny367.out] at ho; replace HO_4 := aM (Kd.R_grown (oR HO_4.out) hg (fun _ _ => by simp [Value.ownBlock])); replace HO_8 := aM (Kd.R_grown (oR HO_8.out) hg (fun _ _ => by simp [Value.ownBlock])); replace HO_343001 := aM (Kd.R_grown (oR HO_343001.out) hg (fun _ _ => by simp [Value.ownBlock])); replace HO_343002 := aM (Kd.S_after (Kd.S_apart_nil (oS HO_343002.out)) hg hat); replace HO_354001 := aM (Kd.R_after (Kd.R_apart_nil (oR HO_354001.out)) hg hat); replace BK334 := aM (blk_grown (g := gb334) (o := .cells #[.string x335000_3, .slice none 0 0, .slice none 0 0] 28 (0, 0)) (kB BK334.out) hg (by simp [Value.ownBlock])); replace BK342 := aM (blk_grown (g := gb342) (o := .cells #[.string (⟨#[97, 108, 112, 104, 97]⟩ : ByteArray), .slice Ao51 x343001_1.length co51, u343002] 28 (0, 0)) (kB BK342.out) hg (by simp [Value.ownBlock])); replace BK353 := aM (blk_grown (g := gb353) (o := .cells #[.string (rdOf ByteArray.empty t347 x9_2), u354001, .slice none 0 0, .slice none 0 0, .int .i64 0] 41 (0, 0)) (kB BK353.out) hg (by simp [Value.ownBlock])); replace HO364 := aM (Kd.R_grown (oR HO364.out) hg (fun _ _ => by simp [Value.ownBlock])); replace HB := aM (hb); have HO369 := aM (ho); clear ho hb hg hat; obtain ⟨Ao82, co82, eo82⟩ := Kd.R_slice HO369.out; subst eo82; obtain ⟨hcz83_0, hcz83_1, hcz83_2, hcz83_3, hcz83_4, hfz83_0, hfz83_1, hfz83_2, hfz83_3, hfz83_4⟩ := cd5 BK353.out))
      go_meet
      case rel => exact ⟨_, (y367), (.slice Ao82 y367.length co82), H', ⟨by have := HK1.out; have := HK2.out; have := HK3.out; have := HJ47.out; first | omega | exact Nat.le_refl _⟩, ⟨by refine oR ?_; exact tT HO_4.out BK353.out⟩, ⟨by refine oR ?_; exact tT HO_8.out BK353.out⟩, ⟨by refine oR ?_; exact tT HO_343001.out BK353.out⟩, ⟨by refine oS ?_; exact Kd.S_mono (Kd.S_far (p := ⟨gb353, 2, none⟩) (Kd.S_mono HO_343002.out (fun k_ hk => (⟨hk, hk.1.2⟩ : _ ∧ k_ ≠ gb353))) (fun _ hk => hk.2) (.slice Ao82 y367.length co82)) (fun _ hk => ⟨hk.1.1.1, ⟨hk.1.2, hk.1.1.2⟩⟩)⟩, ⟨by refine oR ?_; exact tM HO_354001.out BK353.out (fun _ hk => hk.1.2)⟩, ⟨by refine oR ?_; exact tM HO369.out BK353.out (fun _ hk => hk.1)⟩, ⟨bF BK334.out NB334_353.out⟩, ⟨bF BK342.out NB342_353.out⟩, ⟨bP BK353.out⟩, ⟨bB3 HB.out GE334.out GE342.out GE353.out⟩⟩
     clear HC72
     try clear hx3
     try clear hx35
     try clear hx36
     try clear hx350_0
     try clear hx350_1
     try clear hx350_2
     try clear hx351_0
     try clear hx352_0
     try clear hx357_0
     try clear hx365_0
     obtain ⟨kq, x354002_71, u354002, HA, HJ71, HO_4, HO_8, HO_343001, HO_343002, HO_354001, HO_354002, BK334, BK342, BK353, HB⟩ := hcut
     cases kq with
     | zero => exact absurd HA.out (by simp [r49_Alpha.j4])
     | succ kj71 =>
      have H := HA.out; clear HA
      simp only [r49_Alpha.j4] at H
      have H' := aM H
      clear H
      go_wp2
      go_loopg [12] kj71 (fun kq v12 w' => ∃ (x12_6 : Int) (x354001_6 : List (S62)) (x354002_6 : List (S62)) (u354001 : Value) (u354002 : Value), v12 = .int .i64 x12_6 ∧ Aside0 (r49_Alpha.l3 kq l0 t335 t347 x9_2 x12_6 (⟨#[97, 108, 112, 104, 97]⟩ : ByteArray) x343001_1 x343002_2 (rdOf ByteArray.empty t347 x9_2) x354001_6 x354002_6 0 = some (r1, r2, r3, r4)) ∧ Aside0 (kq ≤ kj71) ∧ Aside0 (Kd.R k57 57 w' w.heap.size (fun _ => True) (.slice Ao11 t335.length co11) t335) ∧ Aside0 (Kd.R Kd.string 9 w' w.heap.size (fun _ => True) (.slice (some ad352) t347.length co29) t347) ∧ Aside0 (Kd.R k59 59 w' w.heap.size (fun _ => True) (.slice Ao51 x343001_1.length co51) x343001_1) ∧ Aside0 (Kd.S k41 41 w' w.heap.size (fun k_ => some k_ ≠ (u354001 : Value).ownBlock ∧ some k_ ≠ (u354002 : Value).ownBlock ∧ k_ ≠ gb353) u343002 x343002_2) ∧ Aside0 (Kd.R k62 62 w' w.heap.size (fun k_ => some k_ ≠ (u354002 : Value).ownBlock) u354001 x354001_6) ∧ Aside0 (Kd.R k62 62 w' w.heap.size (fun k_ => some k_ ≠ (u354001 : Value).ownBlock) u354002 x354002_6) ∧ Aside0 (w'.heap[gb334]? = some (.cells #[.string x335000_3, (.slice none 0 0), (.slice none 0 0)] 28 (0, 0))) ∧ Aside0 (w'.heap[gb342]? = some (.cells #[.string (⟨#[97, 108, 112, 104, 97]⟩ : ByteArray), (.slice Ao51 x343001_1.length co51), u343002] 28 (0, 0))) ∧ Aside0 (w'.heap[gb353]? = some (.cells #[.string (rdOf ByteArray.empty t347 x9_2), u354001, u354002, (.slice none 0 0), .int .i64 0] 41 (0, 0))) ∧ Aside0 (Below w.heap.size w w'))
      case atStart => exact ⟨(0), (x354001_47), (x354002_71), (u354001), (u354002), eT, H', ⟨Nat.le_refl _⟩, ⟨oR HO_4.out⟩, ⟨oR HO_8.out⟩, ⟨oR HO_343001.out⟩, ⟨oS HO_343002.out⟩, ⟨oR HO_354001.out⟩, ⟨oR HO_354002.out⟩, ⟨kB BK334.out⟩, ⟨kB BK342.out⟩, ⟨kB BK353.out⟩, ⟨bB3 HB.out GE334.out GE342.out GE353.out⟩⟩
      clear H'
      try clear hx3
      try clear hx35
      try clear hx36
      try clear hx350_0
      try clear hx350_1
      try clear hx350_2
      try clear hx351_0
      try clear hx352_0
      try clear hx357_0
      try clear hx365_0
      obtain ⟨x12_6, x354001_6, x354002_6, u354001, u354002, rfl, HA, HK6, HO_4, HO_8, HO_343001, HO_343002, HO_354001, HO_354002, BK334, BK342, BK353, HB⟩ := hrel
      cases gk with
      | zero => exact absurd HA.out (by simp [r49_Alpha.l3])
      | succ k6 =>
       have H := HA.out; clear HA
       simp only [r49_Alpha.l3] at H
       by_cases c84 : x12_6 < (t335.length : Int)
       rotate_left
       ·
        rw [if_neg c84] at H
        have c84b0 := decide_eq_false c84; clear c84
        obtain ⟨c116, H⟩ := iP H; have LMc116 := aM c116; clear c116
        obtain ⟨y370, hy370⟩ : ∃ y_ : List (S41), y_ = (x343002_2 ++ [(⟨(rdOf ByteArray.empty t347 x9_2), x354001_6, x354002_6, ([] : List (S62)), 0⟩ : S41)]) := ⟨_, rfl⟩
        replace H : (r49_Alpha.l1 k6 l0 t335 t347 (wrap64 (x9_2 + 1)) (⟨#[97, 108, 112, 104, 97]⟩ : ByteArray) x343001_1 y370) = some (r1, r2, r3, r4) := yT hy370 H
        have Ny370 := aM hy370; clear hy370
        have H' := aM H
        clear H; have hnb117 := NB342_334.out; have hnc117 := NB334_342.out; have hnb118 := NB342_353.out; have hnc118 := NB353_342.out
        have hcz119_0 : wr.cell? ⟨gb342, 0, none⟩ = some (.string (⟨#[97, 108, 112, 104, 97]⟩ : ByteArray)) := (blk_cell BK342.out 0).trans rfl
        have hcz119_1 : wr.cell? ⟨gb342, 1, none⟩ = some (.slice Ao51 x343001_1.length co51) := (blk_cell BK342.out 1).trans rfl
        have hcz119_2 : wr.cell? ⟨gb342, 2, none⟩ = some (u343002) := (blk_cell BK342.out 2).trans rfl
        have hfz119_0 := blk_frozen BK342.out 0; have hfz119_1 := blk_frozen BK342.out 1; have hfz119_2 := blk_frozen BK342.out 2; have hnb120 := NB353_334.out; have hnc120 := NB334_353.out
        have hcz121_0 : wr.cell? ⟨gb353, 0, none⟩ = some (.string (rdOf ByteArray.empty t347 x9_2)) := (blk_cell BK353.out 0).trans rfl
        have hcz121_1 : wr.cell? ⟨gb353, 1, none⟩ = some (u354001) := (blk_cell BK353.out 1).trans rfl
        have hcz121_2 : wr.cell? ⟨gb353, 2, none⟩ = some (u354002) := (blk_cell BK353.out 2).trans rfl
        have hcz121_3 : wr.cell? ⟨gb353, 3, none⟩ = some (.slice none 0 0) := (blk_cell BK353.out 3).trans rfl
        have hcz121_4 : wr.cell? ⟨gb353, 4, none⟩ = some (.int .i64 0) := (blk_cell BK353.out 4).trans rfl
        have hfz121_0 := blk_frozen BK353.out 0; have hfz121_1 := blk_frozen BK353.out 1; have hfz121_2 := blk_frozen BK353.out 2; have hfz121_3 := blk_frozen BK353.out 3; have hfz121_4 := blk_frozen BK353.out 4; obtain ⟨Ao123, co123, eo123⟩ := Kd.R_slice HO_354001.out; subst eo123; obtain ⟨Ao124, co124, eo124⟩ := Kd.R_slice HO_354002.out; subst eo124
        go_wp2_with (first | ((with_reducible refine gate_builtin (b := .append) (xs := #[.tmp 141, .tmp 143]) rfl ?_); at_builtin; refine Kd.S_append k41 (w0 := w) w.heap.size rfl (.tmp 141) (.tmp 143) 26 41 (.agg #[(.string ⟨#[]⟩), (.slice none 0 0), (.slice none 0 0), (.slice none 0 0), (.int .i64 0)]) 96 rfl Tryd.underlying26 info41 rfl (by decide) (by omega) u343002 x343002_2 (⟨(rdOf ByteArray.empty t347 x9_2), x354001_6, x354002_6, ([] : List (S62)), 0⟩ : S41) [.string (rdOf ByteArray.empty t347 x9_2), .slice Ao123 x354001_6.length co123, .slice Ao124 x354002_6.length co124, .slice none 0 0, .int .i64 0] (fun k_ => k_ ≠ gb353) (fun k_ => some k_ = (.slice Ao123 x354001_6.length co123 : Value).ownBlock ∨ some k_ = (.slice Ao124 x354002_6.length co124 : Value).ownBlock) rfl rfl ?aP (fun k_ hk_ => hk_.elim (fun h_ => ((Kd.R_mono (ok' := fun k_ => ((fun k_ => k_ ≠ gb353)) k_ ∧ some k_ ≠ (u343002 : Value).ownBlock) (Kd.R_types (Kd.R_apart' (HO_354001.out) (Kd.S_typed HO_343002.out) (by decide)) BK353.out (by decide)) (fun k_ hk => ⟨hk.2, hk.1.2⟩))).1 k_ h_.symm) (fun h_ => ((Kd.R_mono (ok' := fun k_ => ((fun k_ => k_ ≠ gb353)) k_ ∧ some k_ ≠ (u343002 : Value).ownBlock) (Kd.R_types (Kd.R_apart' (HO_354002.out) (Kd.S_typed HO_343002.out) (by decide)) BK353.out (by decide)) (fun k_ hk => ⟨hk.2, hk.1.2⟩))).1 k_ h_.symm)) ?aF ?aO ?aB ?aS ?aL ?_; (case aP => exact k41_mkM _ _ _ (⟨(rdOf ByteArray.empty t347 x9_2), x354001_6, x354002_6, ([] : List (S62)), 0⟩ : S41) (Kd.R_mono (Kd.R_tight rfl (Kd.R_mono (ok' := fun k_ => ((fun k_ => k_ ≠ gb353)) k_ ∧ some k_ ≠ (u343002 : Value).ownBlock) (Kd.R_types (Kd.R_apart' (HO_354001.out) (Kd.S_typed HO_343002.out) (by decide)) BK353.out (by decide)) (fun k_ hk => ⟨hk.2, hk.1.2⟩))) (fun _ h_ => Or.inl h_)) (Kd.R_mono (Kd.R_tight rfl (Kd.R_mono (ok' := fun k_ => ((fun k_ => k_ ≠ gb353)) k_ ∧ some k_ ≠ (u343002 : Value).ownBlock) (Kd.R_types (Kd.R_apart' (HO_354002.out) (Kd.S_typed HO_343002.out) (by decide)) BK353.out (by decide)) (fun k_ hk => ⟨hk.2, hk.1.2⟩))) (fun _ h_ => Or.inr (h_))) (Kd.R_nil _ _ _ _ _)); (case aB => exact (bB3 HB.out GE334.out GE342.out GE353.out)); (case aF => exact (fun k_ hk => Kd.freshB (g := gb353) (o := .cells #[.string (rdOf ByteArray.empty t347 x9_2), .slice Ao123 x354001_6.length co123, .slice Ao124 x354002_6.length co124, .slice none 0 0, .int .i64 0] 41 (0, 0)) (kB BK353.out) k_ hk)); (case aO => exact (by refine oS ?_; exact Kd.S_mono HO_343002.out (fun k_ hk => ⟨hk.2.2, fun e_ => e_.elim (fun h_ => hk.1 h_) (fun h_ => hk.2.1 h_)⟩))); (case aS => exact (below_size (bB3 HB.out GE334.out GE342.out GE353.out))); (case aL => have := LMc116.out; omega); intro v371 w122 ho hb hg hat; rw [← Ny370.out] at ho; replace HO_4 := aM (Kd.R_over' (oR HO_4.out) (Kd.S_typed (oS HO_343002.out)) (by decide) hg); replace HO_8 := aM (Kd.R_over' (oR HO_8.out) (Kd.S_typed (oS HO_343002.out)) (by decide) hg); replace HO_343001 := aM (Kd.R_over' (oR HO_343001.out) (Kd.S_typed (oS HO_343002.out)) (by decide) hg); replace BK334 := aM (blk_grown (g := gb334) (o := .cells #[.string x335000_3, .slice none 0 0, .slice none 0 0] 28 (0, 0)) (kB BK334.out) hg (Kd.S_ne HO_343002.out BK334.out (by decide))); replace BK342 := aM (blk_grown (g := gb342) (o := .cells #[.string (⟨#[97, 108, 112, 104, 97]⟩ : ByteArray), .slice Ao51 x343001_1.length co51, u343002] 28 (0, 0)) (kB BK342.out) hg (Kd.S_ne HO_343002.out BK342.out (by decide))); replace BK353 := aM (blk_grown (g := gb353) (o := .cells #[.string (rdOf ByteArray.empty t347 x9_2), .slice Ao123 x354001_6.length co123, .slice Ao124 x354002_6.length co124, .slice none 0 0, .int .i64 0] 41 (0, 0)) (kB BK353.out) hg (Kd.S_away HO_343002.out (fun _ hk => hk.2.2))); replace HB := aM (hb); have HO372 := aM (ho); clear HO_343002 HO_354001 HO_354002; clear ho hb hg hat; obtain ⟨Ao125, co125, eo125⟩ := Kd.S_slice HO372.out; subst eo125; obtain ⟨hcz126_0, hcz126_1, hcz126_2, hfz126_0, hfz126_1, hfz126_2⟩ := cd3 BK342.out))
        go_roundg k6
        case measure => have := HK1.out; have := HK2.out; have := HK3.out; have := HJ47.out; have := HJ71.out; have := HK6.out; omega
        case rel => exact ⟨(wrap64 (x9_2 + 1)), (x335000_3), (y370), (.slice Ao125 y370.length co125), eT, H', ⟨by have := HK1.out; have := HK2.out; have := HK3.out; have := HJ47.out; have := HJ71.out; have := HK6.out; omega⟩, ⟨by refine oR ?_; exact tT HO_4.out BK342.out⟩, ⟨by refine oR ?_; exact tT HO_8.out BK342.out⟩, ⟨by refine oR ?_; exact tT HO_343001.out BK342.out⟩, ⟨by refine oS ?_; exact sT HO372.out BK342.out⟩, ⟨bF BK334.out NB334_342.out⟩, ⟨bP BK342.out⟩, ⟨bB3 HB.out GE334.out GE342.out GE353.out⟩⟩
       rw [if_pos c84] at H; have c84b0 := decide_eq_true c84; clear c84
       obtain ⟨c85, H⟩ := iP H; have c85b0 := decide_eq_true c85; clear c85; obtain ⟨t374, A86, H⟩ := iB H; (try dsimp only at H)
       by_cases c87 : t374 = true
       rotate_left
       ·
        replace c87 := Bool.eq_false_iff.mpr c87
        subst c87
        have H1 : ((r06_Has.f k6 ((rd_T57 t335 x12_6).f0) x9_2).bind fun t384 => (if t384 = true then (if x354002_6.length < 8796093022208 then (r49_Alpha.l3 k6 l0 t335 t347 x9_2 (wrap64 (x12_6 + 1)) (⟨#[97, 108, 112, 104, 97]⟩ : ByteArray) x343001_1 x343002_2 (rdOf ByteArray.empty t347 x9_2) x354001_6 (x354002_6 ++ [(⟨wrap64 (x12_6 + 2), 1⟩ : S62)]) 0) else (none)) else (r49_Alpha.l3 k6 l0 t335 t347 x9_2 (wrap64 (x12_6 + 1)) (⟨#[97, 108, 112, 104, 97]⟩ : ByteArray) x343001_1 x343002_2 (rdOf ByteArray.empty t347 x9_2) x354001_6 x354002_6 0))) = some (r1, r2, r3, r4) := by rw [if_neg (show ¬ (false = true) by decide)] at H; exact H
        clear H; have H := H1; clear H1; obtain ⟨t384, A107, H⟩ := iB H; (try dsimp only at H)
        by_cases c108 : t384 = true
        rotate_left
        ·
         replace c108 := Bool.eq_false_iff.mpr c108
         subst c108
         have H1 : (r49_Alpha.l3 k6 l0 t335 t347 x9_2 (wrap64 (x12_6 + 1)) (⟨#[97, 108, 112, 104, 97]⟩ : ByteArray) x343001_1 x343002_2 (rdOf ByteArray.empty t347 x9_2) x354001_6 x354002_6 0) = some (r1, r2, r3, r4) := by rw [if_neg (show ¬ (false = true) by decide)] at H; exact H
         clear H; have H := H1; clear H1
         have H' := aM H
         clear H; have p373 : 0 ≤ (x12_6 : Int) := dT; have q373 : x12_6 < (t335.length : Int) := dT
         try (obtain ⟨Aoz373, coz373, eoz373⟩ := Kd.R_slice HO_4.out; subst eoz373)
         obtain ⟨ad373, e373, hx373_0, hx373_1⟩ := at_T57 (Kd.R_reads' HO_4.out).2.2 x12_6 p373 q373; cases e373; replace p373 := eq_true p373; replace q373 := eq_true q373
         go_wp2_with (first | ((with_reducible refine gate_callee (f := 34) rfl ?_); refine gM (some 116) Tryd.func34 #[.int .u64 ((rd_T57 t335 x12_6).f1), .int .i64 x9_2] ?_; (with_reducible refine (r06_Has.calls k6 ((rd_T57 t335 x12_6).f1) x9_2 false _ A86.out).mono ?_); rintro e w' ⟨rfl, ⟨nd, rfl⟩⟩; refine ⟨_, rfl, ?_⟩; have p383 : 0 ≤ (x12_6 : Int) := dT; have q383 : x12_6 < (t335.length : Int) := dT; obtain ⟨ad383, e383, hx383_0, hx383_1⟩ := at_T57 (Kd.R_reads' HO_4.out).2.2 x12_6 p383 q383; obtain rfl : ad373 = ad383 := (by injection e383); replace p383 := eq_true p383; replace q383 := eq_true q383) | ((with_reducible refine gate_callee (f := 34) rfl ?_); refine gM (some 131) Tryd.func34 #[.int .u64 ((rd_T57 t335 x12_6).f0), .int .i64 x9_2] ?_; (with_reducible refine (r06_Has.calls k6 ((rd_T57 t335 x12_6).f0) x9_2 false _ A107.out).mono ?_); rintro e w' ⟨rfl, ⟨nd, rfl⟩⟩; refine ⟨_, rfl, ?_⟩))
         go_roundg k6
         case measure => have := HK1.out; have := HK2.out; have := HK3.out; have := HJ47.out; have := HJ71.out; have := HK6.out; omega
         case rel => exact ⟨(wrap64 (x12_6 + 1)), (x354001_6), (x354002_6), (u354001), (u354002), eT, H', ⟨by have := HK1.out; have := HK2.out; have := HK3.out; have := HJ47.out; have := HJ71.out; have := HK6.out; omega⟩, ⟨oR HO_4.out⟩, ⟨oR HO_8.out⟩, ⟨oR HO_343001.out⟩, ⟨oS HO_343002.out⟩, ⟨oR HO_354001.out⟩, ⟨oR HO_354002.out⟩, ⟨kB BK334.out⟩, ⟨kB BK342.out⟩, ⟨kB BK353.out⟩, ⟨bB3 HB.out GE334.out GE342.out GE353.out⟩⟩
        subst c108
        have H1 : (if x354002_6.length < 8796093022208 then (r49_Alpha.l3 k6 l0 t335 t347 x9_2 (wrap64 (x12_6 + 1)) (⟨#[97, 108, 112, 104, 97]⟩ : ByteArray) x343001_1 x343002_2 (rdOf ByteArray.empty t347 x9_2) x354001_6 (x354002_6 ++ [(⟨wrap64 (x12_6 + 2), 1⟩ : S62)]) 0) else (none)) = some (r1, r2, r3, r4) := by rw [if_pos rfl] at H; exact H
        clear H; have H := H1; clear H1
        obtain ⟨c109, H⟩ := iP H; have LMc109 := aM c109; clear c109
        obtain ⟨y385, hy385⟩ : ∃ y_ : List (S62), y_ = (x354002_6 ++ [(⟨wrap64 (x12_6 + 2), 1⟩ : S62)]) := ⟨_, rfl⟩
        replace H : (r49_Alpha.l3 k6 l0 t335 t347 x9_2 (wrap64 (x12_6 + 1)) (⟨#[97, 108, 112, 104, 97]⟩ : ByteArray) x343001_1 x343002_2 (rdOf ByteArray.empty t347 x9_2) x354001_6 y385 0) = some (r1, r2, r3, r4) := yT hy385 H
        have Ny385 := aM hy385; clear hy385
        have H' := aM H
        clear H; have p373 : 0 ≤ (x12_6 : Int) := dT; have q373 : x12_6 < (t335.length : Int) := dT
        try (obtain ⟨Aoz373, coz373, eoz373⟩ := Kd.R_slice HO_4.out; subst eoz373)
        obtain ⟨ad373, e373, hx373_0, hx373_1⟩ := at_T57 (Kd.R_reads' HO_4.out).2.2 x12_6 p373 q373; cases e373; replace p373 := eq_true p373; replace q373 := eq_true q373
        go_wp2_with (first | ((with_reducible refine gate_callee (f := 34) rfl ?_); refine gM (some 116) Tryd.func34 #[.int .u64 ((rd_T57 t335 x12_6).f1), .int .i64 x9_2] ?_; (with_reducible refine (r06_Has.calls k6 ((rd_T57 t335 x12_6).f1) x9_2 false _ A86.out).mono ?_); rintro e w' ⟨rfl, ⟨nd, rfl⟩⟩; refine ⟨_, rfl, ?_⟩; (try (rw [drewN_self wr]; generalize hq_ : World.drewN wr _ = wr; have n0_ : Aside0 (Kd.R k59 59 wr w.heap.size (fun _ => True) (.slice Ao51 x343001_1.length co51) x343001_1) := ⟨by rw [← hq_]; exact (oR HO_343001.out)⟩; have n1_ : Aside0 (Kd.S k41 41 wr w.heap.size (fun k_ => some k_ ≠ (u354001 : Value).ownBlock ∧ some k_ ≠ (u354002 : Value).ownBlock ∧ k_ ≠ gb353) u343002 x343002_2) := ⟨by rw [← hq_]; exact (oS HO_343002.out)⟩; have n2_ : Aside0 (Kd.R k62 62 wr w.heap.size (fun k_ => some k_ ≠ (u354002 : Value).ownBlock) u354001 x354001_6) := ⟨by rw [← hq_]; exact (oR HO_354001.out)⟩; have n3_ : Aside0 (Kd.R k62 62 wr w.heap.size (fun k_ => some k_ ≠ (u354001 : Value).ownBlock) u354002 x354002_6) := ⟨by rw [← hq_]; exact (oR HO_354002.out)⟩; have n4_ : Aside0 (Kd.R k57 57 wr w.heap.size (fun _ => True) (.slice (some ad373) t335.length co11) t335) := ⟨by rw [← hq_]; exact (oR HO_4.out)⟩; have n5_ : Aside0 (Kd.R Kd.string 9 wr w.heap.size (fun _ => True) (.slice (some ad352) t347.length co29) t347) := ⟨by rw [← hq_]; exact (oR HO_8.out)⟩; have n6_ : Aside0 (wr.heap[gb334]? = some (.cells #[.string x335000_3, .slice none 0 0, .slice none 0 0] 28 (0, 0))) := ⟨by rw [← hq_]; exact (kB BK334.out)⟩; have n7_ : Aside0 (wr.heap[gb342]? = some (.cells #[.string (⟨#[97, 108, 112, 104, 97]⟩ : ByteArray), .slice Ao51 x343001_1.length co51, u343002] 28 (0, 0))) := ⟨by rw [← hq_]; exact (kB BK342.out)⟩; have n8_ : Aside0 (wr.heap[gb353]? = some (.cells #[.string (rdOf ByteArray.empty t347 x9_2), u354001, u354002, .slice none 0 0, .int .i64 0] 41 (0, 0))) := ⟨by rw [← hq_]; exact (kB BK353.out)⟩; have n9_ : Aside0 (Below w.heap.size w wr) := ⟨by rw [← hq_]; exact (bB3 HB.out GE334.out GE342.out GE353.out)⟩; clear HO_343001 HO_343002 HO_354001 HO_354002 HO_4 HO_8 BK334 BK342 BK353 HB hq_; have HO_343001 := n0_; have HO_343002 := n1_; have HO_354001 := n2_; have HO_354002 := n3_; have HO_4 := n4_; have HO_8 := n5_; have BK334 := n6_; have BK342 := n7_; have BK353 := n8_; have HB := n9_; clear n0_ n1_ n2_ n3_ n4_ n5_ n6_ n7_ n8_ n9_)); have p383 : 0 ≤ (x12_6 : Int) := dT; have q383 : x12_6 < (t335.length : Int) := dT; obtain ⟨ad383, e383, hx383_0, hx383_1⟩ := at_T57 (Kd.R_reads' HO_4.out).2.2 x12_6 p383 q383; obtain rfl : ad373 = ad383 := (by injection e383); replace p383 := eq_true p383; replace q383 := eq_true q383) | ((with_reducible refine gate_callee (f := 34) rfl ?_); refine gM (some 131) Tryd.func34 #[.int .u64 ((rd_T57 t335 x12_6).f0), .int .i64 x9_2] ?_; (with_reducible refine (r06_Has.calls k6 ((rd_T57 t335 x12_6).f0) x9_2 true _ A107.out).mono ?_); rintro e w' ⟨rfl, ⟨nd, rfl⟩⟩; refine ⟨_, rfl, ?_⟩; (try (rw [drewN_self wr]; generalize hq_ : World.drewN wr _ = wr; have n0_ : Aside0 (Kd.R k59 59 wr w.heap.size (fun _ => True) (.slice Ao51 x343001_1.length co51) x343001_1) := ⟨by rw [← hq_]; exact (oR HO_343001.out)⟩; have n1_ : Aside0 (Kd.S k41 41 wr w.heap.size (fun k_ => some k_ ≠ (u354001 : Value).ownBlock ∧ some k_ ≠ (u354002 : Value).ownBlock ∧ k_ ≠ gb353) u343002 x343002_2) := ⟨by rw [← hq_]; exact (oS HO_343002.out)⟩; have n2_ : Aside0 (Kd.R k62 62 wr w.heap.size (fun k_ => some k_ ≠ (u354002 : Value).ownBlock) u354001 x354001_6) := ⟨by rw [← hq_]; exact (oR HO_354001.out)⟩; have n3_ : Aside0 (Kd.R k62 62 wr w.heap.size (fun k_ => some k_ ≠ (u354001 : Value).ownBlock) u354002 x354002_6) := ⟨by rw [← hq_]; exact (oR HO_354002.out)⟩; have n4_ : Aside0 (Kd.R k57 57 wr w.heap.size (fun _ => True) (.slice (some ad373) t335.length co11) t335) := ⟨by rw [← hq_]; exact (oR HO_4.out)⟩; have n5_ : Aside0 (Kd.R Kd.string 9 wr w.heap.size (fun _ => True) (.slice (some ad352) t347.length co29) t347) := ⟨by rw [← hq_]; exact (oR HO_8.out)⟩; have n6_ : Aside0 (wr.heap[gb334]? = some (.cells #[.string x335000_3, .slice none 0 0, .slice none 0 0] 28 (0, 0))) := ⟨by rw [← hq_]; exact (kB BK334.out)⟩; have n7_ : Aside0 (wr.heap[gb342]? = some (.cells #[.string (⟨#[97, 108, 112, 104, 97]⟩ : ByteArray), .slice Ao51 x343001_1.length co51, u343002] 28 (0, 0))) := ⟨by rw [← hq_]; exact (kB BK342.out)⟩; have n8_ : Aside0 (wr.heap[gb353]? = some (.cells #[.string (rdOf ByteArray.empty t347 x9_2), u354001, u354002, .slice none 0 0, .int .i64 0] 41 (0, 0))) := ⟨by rw [← hq_]; exact (kB BK353.out)⟩; have n9_ : Aside0 (Below w.heap.size w wr) := ⟨by rw [← hq_]; exact (bB3 HB.out GE334.out GE342.out GE353.out)⟩; clear HO_343001 HO_343002 HO_354001 HO_354002 HO_4 HO_8 BK334 BK342 BK353 HB hq_; have HO_343001 := n0_; have HO_343002 := n1_; have HO_354001 := n2_; have HO_354002 := n3_; have HO_4 := n4_; have HO_8 := n5_; have BK334 := n6_; have BK342 := n7_; have BK353 := n8_; have HB := n9_; clear n0_ n1_ n2_ n3_ n4_ n5_ n6_ n7_ n8_ n9_)); have hnb110 := NB353_334.out; have hnc110 := NB334_353.out; have hnb111 := NB353_342.out; have hnc111 := NB342_353.out; have hcz112_0 : wr.cell? ⟨gb353, 0, none⟩ = some (.string (rdOf ByteArray.empty t347 x9_2)) := (blk_cell BK353.out 0).trans rfl; have hcz112_1 : wr.cell? ⟨gb353, 1, none⟩ = some (u354001) := (blk_cell BK353.out 1).trans rfl; have hcz112_2 : wr.cell? ⟨gb353, 2, none⟩ = some (u354002) := (blk_cell BK353.out 2).trans rfl; have hcz112_3 : wr.cell? ⟨gb353, 3, none⟩ = some (.slice none 0 0) := (blk_cell BK353.out 3).trans rfl; have hcz112_4 : wr.cell? ⟨gb353, 4, none⟩ = some (.int .i64 0) := (blk_cell BK353.out 4).trans rfl; have hfz112_0 := blk_frozen BK353.out 0; have hfz112_1 := blk_frozen BK353.out 1; have hfz112_2 := blk_frozen BK353.out 2; have hfz112_3 := blk_frozen BK353.out 3; have hfz112_4 := blk_frozen BK353.out 4) | ((with_reducible refine gate_builtin (b := .append) (xs := #[.tmp 133, .tmp 137]) rfl ?_); at_builtin; refine Kd.R_append k62 (w0 := w) w.heap.size rfl (.tmp 133) (.tmp 137) 39 62 (.agg #[(.int .i64 0), (.int .i64 0)]) 16 rfl Tryd.underlying39 info62 rfl (by decide) (by omega) u354002 x354002_6 (⟨wrap64 (x12_6 + 2), 1⟩ : S62) [.int .i64 (wrap64 (x12_6 + 2)), .int .i64 1] (fun k_ => some k_ ≠ (u354001 : Value).ownBlock) (fun _ => False) rfl rfl ?aP (fun _ hk => hk.elim) ?aF ?aO ?aB ?aS ?aL ?_; (case aP => exact k62_mkM _ _ _ (⟨wrap64 (x12_6 + 2), 1⟩ : S62)); (case aB => exact (bB3 HB.out GE334.out GE342.out GE353.out)); (case aF => exact (fun k_ hk => Kd.fresh' (Kd.R_lt (oR HO_354001.out)) k_ hk)); (case aO => exact (oR HO_354002.out)); (case aS => exact (below_size (bB3 HB.out GE334.out GE342.out GE353.out))); (case aL => have := LMc109.out; omega); intro v386 w113 ho hb hg hat; rw [← Ny385.out] at ho; replace HO_4 := aM (Kd.R_over' (oR HO_4.out) (Kd.R_typed (oR HO_354002.out)) (by decide) hg); replace HO_8 := aM (Kd.R_over' (oR HO_8.out) (Kd.R_typed (oR HO_354002.out)) (by decide) hg); replace HO_343001 := aM (Kd.R_over' (oR HO_343001.out) (Kd.R_typed (oR HO_354002.out)) (by decide) hg); replace HO_343002 := aM (Kd.S_after (ok := (fun k_ => some k_ ≠ (u354001 : Value).ownBlock ∧ k_ ≠ gb353)) (by refine oS ?_; exact Kd.S_mono HO_343002.out (fun _ hk => ⟨⟨hk.1, hk.2.2⟩, hk.2.1⟩)) hg hat); replace HO_354001 := aM (Kd.R_after (ok := (fun _ => True)) (by refine oR ?_; exact Kd.R_mono HO_354001.out (fun _ hk => ⟨trivial, hk⟩)) hg hat); replace BK334 := aM (blk_grown (g := gb334) (o := .cells #[.string x335000_3, .slice none 0 0, .slice none 0 0] 28 (0, 0)) (kB BK334.out) hg (Kd.R_ne HO_354002.out BK334.out (by decide))); replace BK342 := aM (blk_grown (g := gb342) (o := .cells #[.string (⟨#[97, 108, 112, 104, 97]⟩ : ByteArray), .slice Ao51 x343001_1.length co51, u343002] 28 (0, 0)) (kB BK342.out) hg (Kd.R_ne HO_354002.out BK342.out (by decide))); replace BK353 := aM (blk_grown (g := gb353) (o := .cells #[.string (rdOf ByteArray.empty t347 x9_2), u354001, u354002, .slice none 0 0, .int .i64 0] 41 (0, 0)) (kB BK353.out) hg (Kd.R_ne HO_354002.out BK353.out (by decide))); replace HB := aM (hb); have HO387 := aM (ho); clear HO_354002; clear ho hb hg hat; obtain ⟨Ao114, co114, eo114⟩ := Kd.R_slice HO387.out; subst eo114; obtain ⟨hcz115_0, hcz115_1, hcz115_2, hcz115_3, hcz115_4, hfz115_0, hfz115_1, hfz115_2, hfz115_3, hfz115_4⟩ := cd5 BK353.out))
        go_roundg k6
        case measure => have := HK1.out; have := HK2.out; have := HK3.out; have := HJ47.out; have := HJ71.out; have := HK6.out; omega
        case rel => exact ⟨(wrap64 (x12_6 + 1)), (x354001_6), (y385), (u354001), (.slice Ao114 y385.length co114), eT, H', ⟨by have := HK1.out; have := HK2.out; have := HK3.out; have := HJ47.out; have := HJ71.out; have := HK6.out; omega⟩, ⟨by refine oR ?_; exact tT HO_4.out BK353.out⟩, ⟨by refine oR ?_; exact tT HO_8.out BK353.out⟩, ⟨by refine oR ?_; exact tT HO_343001.out BK353.out⟩, ⟨by refine oS ?_; exact Kd.S_mono (Kd.S_far (p := ⟨gb353, 2, none⟩) (Kd.S_mono HO_343002.out (fun k_ hk => (⟨hk, hk.1.2⟩ : _ ∧ k_ ≠ gb353))) (fun _ hk => hk.2) (.slice Ao114 y385.length co114)) (fun _ hk => ⟨hk.1.1.1, ⟨hk.1.2, hk.1.1.2⟩⟩)⟩, ⟨by refine oR ?_; exact tM HO_354001.out BK353.out (fun _ hk => hk.1.2)⟩, ⟨by refine oR ?_; exact tM HO387.out BK353.out (fun _ hk => hk.1)⟩, ⟨bF BK334.out NB334_353.out⟩, ⟨bF BK342.out NB342_353.out⟩, ⟨bP BK353.out⟩, ⟨bB3 HB.out GE334.out GE342.out GE353.out⟩⟩
       subst c87
       have H1 : (if x354001_6.length < 8796093022208 then ((some (x354001_6 ++ [(⟨wrap64 (x12_6 + 2), 1⟩ : S62)] : List (S62))).bind fun y375 => ((r06_Has.f k6 ((rd_T57 t335 x12_6).f0) x9_2).bind fun t379 => (if t379 = true then (if x354002_6.length < 8796093022208 then (r49_Alpha.l3 k6 l0 t335 t347 x9_2 (wrap64 (x12_6 + 1)) (⟨#[97, 108, 112, 104, 97]⟩ : ByteArray) x343001_1 x343002_2 (rdOf ByteArray.empty t347 x9_2) y375 (x354002_6 ++ [(⟨wrap64 (x12_6 + 2), 1⟩ : S62)]) 0) else (none)) else (r49_Alpha.l3 k6 l0 t335 t347 x9_2 (wrap64 (x12_6 + 1)) (⟨#[97, 108, 112, 104, 97]⟩ : ByteArray) x343001_1 x343002_2 (rdOf ByteArray.empty t347 x9_2) y375 x354002_6 0)))) else (none)) = some (r1, r2, r3, r4) := by rw [if_pos rfl] at H; exact H
       clear H; have H := H1; clear H1
       obtain ⟨c88, H⟩ := iP H; have LMc88 := aM c88; clear c88
       obtain ⟨y375, hy375⟩ : ∃ y_ : List (S62), y_ = (x354001_6 ++ [(⟨wrap64 (x12_6 + 2), 1⟩ : S62)]) := ⟨_, rfl⟩
       replace H : ((r06_Has.f k6 ((rd_T57 t335 x12_6).f0) x9_2).bind fun t379 => (if t379 = true then (if x354002_6.length < 8796093022208 then (r49_Alpha.l3 k6 l0 t335 t347 x9_2 (wrap64 (x12_6 + 1)) (⟨#[97, 108, 112, 104, 97]⟩ : ByteArray) x343001_1 x343002_2 (rdOf ByteArray.empty t347 x9_2) y375 (x354002_6 ++ [(⟨wrap64 (x12_6 + 2), 1⟩ : S62)]) 0) else (none)) else (r49_Alpha.l3 k6 l0 t335 t347 x9_2 (wrap64 (x12_6 + 1)) (⟨#[97, 108, 112, 104, 97]⟩ : ByteArray) x343001_1 x343002_2 (rdOf ByteArray.empty t347 x9_2) y375 x354002_6 0))) = some (r1, r2, r3, r4) := yT hy375 H
       have Ny375 := aM hy375; clear hy375; obtain ⟨t379, A89, H⟩ := iB H; (try dsimp only at H)
       by_cases c90 : t379 = true
       rotate_left
       ·
        replace c90 := Bool.eq_false_iff.mpr c90
        subst c90
        have H1 : (r49_Alpha.l3 k6 l0 t335 t347 x9_2 (wrap64 (x12_6 + 1)) (⟨#[97, 108, 112, 104, 97]⟩ : ByteArray) x343001_1 x343002_2 (rdOf ByteArray.empty t347 x9_2) y375 x354002_6 0) = some (r1, r2, r3, r4) := by rw [if_neg (show ¬ (false = true) by decide)] at H; exact H
        clear H; have H := H1; clear H1
        have H' := aM H
        clear H; have p373 : 0 ≤ (x12_6 : Int) := dT; have q373 : x12_6 < (t335.length : Int) := dT
        try (obtain ⟨Aoz373, coz373, eoz373⟩ := Kd.R_slice HO_4.out; subst eoz373)
        obtain ⟨ad373, e373, hx373_0, hx373_1⟩ := at_T57 (Kd.R_reads' HO_4.out).2.2 x12_6 p373 q373; cases e373; replace p373 := eq_true p373; replace q373 := eq_true q373
        go_wp2_with (first | ((with_reducible refine gate_callee (f := 34) rfl ?_); refine gM (some 116) Tryd.func34 #[.int .u64 ((rd_T57 t335 x12_6).f1), .int .i64 x9_2] ?_; (with_reducible refine (r06_Has.calls k6 ((rd_T57 t335 x12_6).f1) x9_2 true _ A86.out).mono ?_); rintro e w' ⟨rfl, ⟨nd, rfl⟩⟩; refine ⟨_, rfl, ?_⟩; (try (rw [drewN_self wr]; generalize hq_ : World.drewN wr _ = wr; have n0_ : Aside0 (Kd.R k59 59 wr w.heap.size (fun _ => True) (.slice Ao51 x343001_1.length co51) x343001_1) := ⟨by rw [← hq_]; exact (oR HO_343001.out)⟩; have n1_ : Aside0 (Kd.S k41 41 wr w.heap.size (fun k_ => some k_ ≠ (u354001 : Value).ownBlock ∧ some k_ ≠ (u354002 : Value).ownBlock ∧ k_ ≠ gb353) u343002 x343002_2) := ⟨by rw [← hq_]; exact (oS HO_343002.out)⟩; have n2_ : Aside0 (Kd.R k62 62 wr w.heap.size (fun k_ => some k_ ≠ (u354002 : Value).ownBlock) u354001 x354001_6) := ⟨by rw [← hq_]; exact (oR HO_354001.out)⟩; have n3_ : Aside0 (Kd.R k62 62 wr w.heap.size (fun k_ => some k_ ≠ (u354001 : Value).ownBlock) u354002 x354002_6) := ⟨by rw [← hq_]; exact (oR HO_354002.out)⟩; have n4_ : Aside0 (Kd.R k57 57 wr w.heap.size (fun _ => True) (.slice (some ad373) t335.length co11) t335) := ⟨by rw [← hq_]; exact (oR HO_4.out)⟩; have n5_ : Aside0 (Kd.R Kd.string 9 wr w.heap.size (fun _ => True) (.slice (some ad352) t347.length co29) t347) := ⟨by rw [← hq_]; exact (oR HO_8.out)⟩; have n6_ : Aside0 (wr.heap[gb334]? = some (.cells #[.string x335000_3, .slice none 0 0, .slice none 0 0] 28 (0, 0))) := ⟨by rw [← hq_]; exact (kB BK334.out)⟩; have n7_ : Aside0 (wr.heap[gb342]? = some (.cells #[.string (⟨#[97, 108, 112, 104, 97]⟩ : ByteArray), .slice Ao51 x343001_1.length co51, u343002] 28 (0, 0))) := ⟨by rw [← hq_]; exact (kB BK342.out)⟩; have n8_ : Aside0 (wr.heap[gb353]? = some (.cells #[.string (rdOf ByteArray.empty t347 x9_2), u354001, u354002, .slice none 0 0, .int .i64 0] 41 (0, 0))) := ⟨by rw [← hq_]; exact (kB BK353.out)⟩; have n9_ : Aside0 (Below w.heap.size w wr) := ⟨by rw [← hq_]; exact (bB3 HB.out GE334.out GE342.out GE353.out)⟩; clear HO_343001 HO_343002 HO_354001 HO_354002 HO_4 HO_8 BK334 BK342 BK353 HB hq_; have HO_343001 := n0_; have HO_343002 := n1_; have HO_354001 := n2_; have HO_354002 := n3_; have HO_4 := n4_; have HO_8 := n5_; have BK334 := n6_; have BK342 := n7_; have BK353 := n8_; have HB := n9_; clear n0_ n1_ n2_ n3_ n4_ n5_ n6_ n7_ n8_ n9_)); have hnb101 := NB353_334.out; have hnc101 := NB334_353.out; have hnb102 := NB353_342.out; have hnc102 := NB342_353.out; have hcz103_0 : wr.cell? ⟨gb353, 0, none⟩ = some (.string (rdOf ByteArray.empty t347 x9_2)) := (blk_cell BK353.out 0).trans rfl; have hcz103_1 : wr.cell? ⟨gb353, 1, none⟩ = some (u354001) := (blk_cell BK353.out 1).trans rfl; have hcz103_2 : wr.cell? ⟨gb353, 2, none⟩ = some (u354002) := (blk_cell BK353.out 2).trans rfl; have hcz103_3 : wr.cell? ⟨gb353, 3, none⟩ = some (.slice none 0 0) := (blk_cell BK353.out 3).trans rfl; have hcz103_4 : wr.cell? ⟨gb353, 4, none⟩ = some (.int .i64 0) := (blk_cell BK353.out 4).trans rfl; have hfz103_0 := blk_frozen BK353.out 0; have hfz103_1 := blk_frozen BK353.out 1; have hfz103_2 := blk_frozen BK353.out 2; have hfz103_3 := blk_frozen BK353.out 3; have hfz103_4 := blk_frozen BK353.out 4) | ((with_reducible refine gate_builtin (b := .append) (xs := #[.tmp 118, .tmp 122]) rfl ?_); at_builtin; refine Kd.R_append k62 (w0 := w) w.heap.size rfl (.tmp 118) (.tmp 122) 39 62 (.agg #[(.int .i64 0), (.int .i64 0)]) 16 rfl Tryd.underlying39 info62 rfl (by decide) (by omega) u354001 x354001_6 (⟨wrap64 (x12_6 + 2), 1⟩ : S62) [.int .i64 (wrap64 (x12_6 + 2)), .int .i64 1] (fun k_ => some k_ ≠ (u354002 : Value).ownBlock) (fun _ => False) rfl rfl ?aP (fun _ hk => hk.elim) ?aF ?aO ?aB ?aS ?aL ?_; (case aP => exact k62_mkM _ _ _ (⟨wrap64 (x12_6 + 2), 1⟩ : S62)); (case aB => exact (bB3 HB.out GE334.out GE342.out GE353.out)); (case aF => exact (fun k_ hk => Kd.fresh' (Kd.R_lt (oR HO_354002.out)) k_ hk)); (case aO => exact (oR HO_354001.out)); (case aS => exact (below_size (bB3 HB.out GE334.out GE342.out GE353.out))); (case aL => have := LMc88.out; omega); intro v376 w104 ho hb hg hat; rw [← Ny375.out] at ho; replace HO_4 := aM (Kd.R_over' (oR HO_4.out) (Kd.R_typed (oR HO_354001.out)) (by decide) hg); replace HO_8 := aM (Kd.R_over' (oR HO_8.out) (Kd.R_typed (oR HO_354001.out)) (by decide) hg); replace HO_343001 := aM (Kd.R_over' (oR HO_343001.out) (Kd.R_typed (oR HO_354001.out)) (by decide) hg); replace HO_343002 := aM (Kd.S_after (ok := (fun k_ => some k_ ≠ (u354002 : Value).ownBlock ∧ k_ ≠ gb353)) (by refine oS ?_; exact Kd.S_mono HO_343002.out (fun _ hk => ⟨⟨hk.2.1, hk.2.2⟩, hk.1⟩)) hg hat); replace HO_354002 := aM (Kd.R_after (ok := (fun _ => True)) (by refine oR ?_; exact Kd.R_mono HO_354002.out (fun _ hk => ⟨trivial, hk⟩)) hg hat); replace BK334 := aM (blk_grown (g := gb334) (o := .cells #[.string x335000_3, .slice none 0 0, .slice none 0 0] 28 (0, 0)) (kB BK334.out) hg (Kd.R_ne HO_354001.out BK334.out (by decide))); replace BK342 := aM (blk_grown (g := gb342) (o := .cells #[.string (⟨#[97, 108, 112, 104, 97]⟩ : ByteArray), .slice Ao51 x343001_1.length co51, u343002] 28 (0, 0)) (kB BK342.out) hg (Kd.R_ne HO_354001.out BK342.out (by decide))); replace BK353 := aM (blk_grown (g := gb353) (o := .cells #[.string (rdOf ByteArray.empty t347 x9_2), u354001, u354002, .slice none 0 0, .int .i64 0] 41 (0, 0)) (kB BK353.out) hg (Kd.R_ne HO_354001.out BK353.out (by decide))); replace HB := aM (hb); have HO377 := aM (ho); clear HO_354001; clear ho hb hg hat; obtain ⟨Ao105, co105, eo105⟩ := Kd.R_slice HO377.out; subst eo105; obtain ⟨hcz106_0, hcz106_1, hcz106_2, hcz106_3, hcz106_4, hfz106_0, hfz106_1, hfz106_2, hfz106_3, hfz106_4⟩ := cd5 BK353.out; have p378 : 0 ≤ (x12_6 : Int) := dT; have q378 : x12_6 < (t335.length : Int) := dT; obtain ⟨ad378, e378, hx378_0, hx378_1⟩ := at_T57 (Kd.R_reads' HO_4.out).2.2 x12_6 p378 q378; obtain rfl : ad373 = ad378 := (by injection e378); have hn378_0 : ad373.block ≠ gb353 := Kd.own_blk (Kd.R_ne HO_4.out BK353.out (by decide)); replace hx378_0 := (cell_far (p := ⟨gb353, 1, none⟩) (by first | (rw [add_block]; exact hn378_0) | (show (Addr.add _ _).block ≠ _; rw [add_block]; exact hn378_0) | exact hn378_0) (.slice Ao105 y375.length co105)).trans hx378_0; replace hx378_1 := (cell_far (p := ⟨gb353, 1, none⟩) (by first | (rw [add_block]; exact hn378_0) | (show (Addr.add _ _).block ≠ _; rw [add_block]; exact hn378_0) | exact hn378_0) (.slice Ao105 y375.length co105)).trans hx378_1; clear hn378_0; replace p378 := eq_true p378; replace q378 := eq_true q378) | ((with_reducible refine gate_callee (f := 34) rfl ?_); refine gM (some 131) Tryd.func34 #[.int .u64 ((rd_T57 t335 x12_6).f0), .int .i64 x9_2] ?_; (with_reducible refine (r06_Has.calls k6 ((rd_T57 t335 x12_6).f0) x9_2 false _ A89.out).mono ?_); rintro e w' ⟨rfl, ⟨nd, rfl⟩⟩; refine ⟨_, rfl, ?_⟩))
        go_roundg k6
        case measure => have := HK1.out; have := HK2.out; have := HK3.out; have := HJ47.out; have := HJ71.out; have := HK6.out; omega
        case rel => exact ⟨(wrap64 (x12_6 + 1)), (y375), (x354002_6), (.slice Ao105 y375.length co105), (u354002), eT, H', ⟨by have := HK1.out; have := HK2.out; have := HK3.out; have := HJ47.out; have := HJ71.out; have := HK6.out; omega⟩, ⟨by refine oR ?_; exact tT HO_4.out BK353.out⟩, ⟨by refine oR ?_; exact tT HO_8.out BK353.out⟩, ⟨by refine oR ?_; exact tT HO_343001.out BK353.out⟩, ⟨by refine oS ?_; exact Kd.S_mono (Kd.S_far (p := ⟨gb353, 1, none⟩) (Kd.S_mono HO_343002.out (fun k_ hk => (⟨hk, hk.1.2⟩ : _ ∧ k_ ≠ gb353))) (fun _ hk => hk.2) (.slice Ao105 y375.length co105)) (fun _ hk => ⟨hk.1.2, ⟨hk.1.1.1, hk.1.1.2⟩⟩)⟩, ⟨by refine oR ?_; exact tM HO377.out BK353.out (fun _ hk => hk.1)⟩, ⟨by refine oR ?_; exact tM HO_354002.out BK353.out (fun _ hk => hk.1.2)⟩, ⟨bF BK334.out NB334_353.out⟩, ⟨bF BK342.out NB342_353.out⟩, ⟨bP BK353.out⟩, ⟨bB3 HB.out GE334.out GE342.out GE353.out⟩⟩
       subst c90
       have H1 : (if x354002_6.length < 8796093022208 then (r49_Alpha.l3 k6 l0 t335 t347 x9_2 (wrap64 (x12_6 + 1)) (⟨#[97, 108, 112, 104, 97]⟩ : ByteArray) x343001_1 x343002_2 (rdOf ByteArray.empty t347 x9_2) y375 (x354002_6 ++ [(⟨wrap64 (x12_6 + 2), 1⟩ : S62)]) 0) else (none)) = some (r1, r2, r3, r4) := by rw [if_pos rfl] at H; exact H
       clear H; have H := H1; clear H1
       obtain ⟨c91, H⟩ := iP H; have LMc91 := aM c91; clear c91
       obtain ⟨y380, hy380⟩ : ∃ y_ : List (S62), y_ = (x354002_6 ++ [(⟨wrap64 (x12_6 + 2), 1⟩ : S62)]) := ⟨_, rfl⟩
       replace H : (r49_Alpha.l3 k6 l0 t335 t347 x9_2 (wrap64 (x12_6 + 1)) (⟨#[97, 108, 112, 104, 97]⟩ : ByteArray) x343001_1 x343002_2 (rdOf ByteArray.empty t347 x9_2) y375 y380 0) = some (r1, r2, r3, r4) := yT hy380 H
       have Ny380 := aM hy380; clear hy380
       have H' := aM H
       clear H; have p373 : 0 ≤ (x12_6 : Int) := dT; have q373 : x12_6 < (t335.length : Int) := dT
       try (obtain ⟨Aoz373, coz373, eoz373⟩ := Kd.R_slice HO_4.out; subst eoz373)
       obtain ⟨ad373, e373, hx373_0, hx373_1⟩ := at_T57 (Kd.R_reads' HO_4.out).2.2 x12_6 p373 q373; cases e373; replace p373 := eq_true p373; replace q373 := eq_true q373
       go_wp2_with (first | ((with_reducible refine gate_callee (f := 34) rfl ?_); refine gM (some 116) Tryd.func34 #[.int .u64 ((rd_T57 t335 x12_6).f1), .int .i64 x9_2] ?_; (with_reducible refine (r06_Has.calls k6 ((rd_T57 t335 x12_6).f1) x9_2 true _ A86.out).mono ?_); rintro e w' ⟨rfl, ⟨nd, rfl⟩⟩; refine ⟨_, rfl, ?_⟩; (try (rw [drewN_self wr]; generalize hq_ : World.drewN wr _ = wr; have n0_ : Aside0 (Kd.R k59 59 wr w.heap.size (fun _ => True) (.slice Ao51 x343001_1.length co51) x343001_1) := ⟨by rw [← hq_]; exact (oR HO_343001.out)⟩; have n1_ : Aside0 (Kd.S k41 41 wr w.heap.size (fun k_ => some k_ ≠ (u354001 : Value).ownBlock ∧ some k_ ≠ (u354002 : Value).ownBlock ∧ k_ ≠ gb353) u343002 x343002_2) := ⟨by rw [← hq_]; exact (oS HO_343002.out)⟩; have n2_ : Aside0 (Kd.R k62 62 wr w.heap.size (fun k_ => some k_ ≠ (u354002 : Value).ownBlock) u354001 x354001_6) := ⟨by rw [← hq_]; exact (oR HO_354001.out)⟩; have n3_ : Aside0 (Kd.R k62 62 wr w.heap.size (fun k_ => some k_ ≠ (u354001 : Value).ownBlock) u354002 x354002_6) := ⟨by rw [← hq_]; exact (oR HO_354002.out)⟩; have n4_ : Aside0 (Kd.R k57 57 wr w.heap.size (fun _ => True) (.slice (some ad373) t335.length co11) t335) := ⟨by rw [← hq_]; exact (oR HO_4.out)⟩; have n5_ : Aside0 (Kd.R Kd.string 9 wr w.heap.size (fun _ => True) (.slice (some ad352) t347.length co29) t347) := ⟨by rw [← hq_]; exact (oR HO_8.out)⟩; have n6_ : Aside0 (wr.heap[gb334]? = some (.cells #[.string x335000_3, .slice none 0 0, .slice none 0 0] 28 (0, 0))) := ⟨by rw [← hq_]; exact (kB BK334.out)⟩; have n7_ : Aside0 (wr.heap[gb342]? = some (.cells #[.string (⟨#[97, 108, 112, 104, 97]⟩ : ByteArray), .slice Ao51 x343001_1.length co51, u343002] 28 (0, 0))) := ⟨by rw [← hq_]; exact (kB BK342.out)⟩; have n8_ : Aside0 (wr.heap[gb353]? = some (.cells #[.string (rdOf ByteArray.empty t347 x9_2), u354001, u354002, .slice none 0 0, .int .i64 0] 41 (0, 0))) := ⟨by rw [← hq_]; exact (kB BK353.out)⟩; have n9_ : Aside0 (Below w.heap.size w wr) := ⟨by rw [← hq_]; exact (bB3 HB.out GE334.out GE342.out GE353.out)⟩; clear HO_343001 HO_343002 HO_354001 HO_354002 HO_4 HO_8 BK334 BK342 BK353 HB hq_; have HO_343001 := n0_; have HO_343002 := n1_; have HO_354001 := n2_; have HO_354002 := n3_; have HO_4 := n4_; have HO_8 := n5_; have BK334 := n6_; have BK342 := n7_; have BK353 := n8_; have HB := n9_; clear n0_ n1_ n2_ n3_ n4_ n5_ n6_ n7_ n8_ n9_)); have hnb92 := NB353_334.out; have hnc92 := NB334_353.out; have hnb93 := NB353_342.out; have hnc93 := NB342_353.out; have hcz94_0 : wr.cell? ⟨gb353, 0, none⟩ = some (.string (rdOf ByteArray.empty t347 x9_2)) := (blk_cell BK353.out 0).trans rfl; have hcz94_1 : wr.cell? ⟨gb353, 1, none⟩ = some (u354001) := (blk_cell BK353.out 1).trans rfl; have hcz94_2 : wr.cell? ⟨gb353, 2, none⟩ = some (u354002) := (blk_cell BK353.out 2).trans rfl; have hcz94_3 : wr.cell? ⟨gb353, 3, none⟩ = some (.slice none 0 0) := (blk_cell BK353.out 3).trans rfl; have hcz94_4 : wr.cell? ⟨gb353, 4, none⟩ = some (.int .i64 0) := (blk_cell BK353.out 4).trans rfl; have hfz94_0 := blk_frozen BK353.out 0; have hfz94_1 := blk_frozen BK353.out 1; have hfz94_2 := blk_frozen BK353.out 2; have hfz94_3 := blk_frozen BK353.out 3; have hfz94_4 := blk_frozen BK353.out 4) | ((with_reducible refine gate_builtin (b := .append) (xs := #[.tmp 118, .tmp 122]) rfl ?_); at_builtin; refine Kd.R_append k62 (w0 := w) w.heap.size rfl (.tmp 118) (.tmp 122) 39 62 (.agg #[(.int .i64 0), (.int .i64 0)]) 16 rfl Tryd.underlying39 info62 rfl (by decide) (by omega) u354001 x354001_6 (⟨wrap64 (x12_6 + 2), 1⟩ : S62) [.int .i64 (wrap64 (x12_6 + 2)), .int .i64 1] (fun k_ => some k_ ≠ (u354002 : Value).ownBlock) (fun _ => False) rfl rfl ?aP (fun _ hk => hk.elim) ?aF ?aO ?aB ?aS ?aL ?_; (case aP => exact k62_mkM _ _ _ (⟨wrap64 (x12_6 + 2), 1⟩ : S62)); (case aB => exact (bB3 HB.out GE334.out GE342.out GE353.out)); (case aF => exact (fun k_ hk => Kd.fresh' (Kd.R_lt (oR HO_354002.out)) k_ hk)); (case aO => exact (oR HO_354001.out)); (case aS => exact (below_size (bB3 HB.out GE334.out GE342.out GE353.out))); (case aL => have := LMc88.out; omega); intro v376 w95 ho hb hg hat; rw [← Ny375.out] at ho; replace HO_4 := aM (Kd.R_over' (oR HO_4.out) (Kd.R_typed (oR HO_354001.out)) (by decide) hg); replace HO_8 := aM (Kd.R_over' (oR HO_8.out) (Kd.R_typed (oR HO_354001.out)) (by decide) hg); replace HO_343001 := aM (Kd.R_over' (oR HO_343001.out) (Kd.R_typed (oR HO_354001.out)) (by decide) hg); replace HO_343002 := aM (Kd.S_after (ok := (fun k_ => some k_ ≠ (u354002 : Value).ownBlock ∧ k_ ≠ gb353)) (by refine oS ?_; exact Kd.S_mono HO_343002.out (fun _ hk => ⟨⟨hk.2.1, hk.2.2⟩, hk.1⟩)) hg hat); replace HO_354002 := aM (Kd.R_after (ok := (fun _ => True)) (by refine oR ?_; exact Kd.R_mono HO_354002.out (fun _ hk => ⟨trivial, hk⟩)) hg hat); replace BK334 := aM (blk_grown (g := gb334) (o := .cells #[.string x335000_3, .slice none 0 0, .slice none 0 0] 28 (0, 0)) (kB BK334.out) hg (Kd.R_ne HO_354001.out BK334.out (by decide))); replace BK342 := aM (blk_grown (g := gb342) (o := .cells #[.string (⟨#[97, 108, 112, 104, 97]⟩ : ByteArray), .slice Ao51 x343001_1.length co51, u343002] 28 (0, 0)) (kB BK342.out) hg (Kd.R_ne HO_354001.out BK342.out (by decide))); replace BK353 := aM (blk_grown (g := gb353) (o := .cells #[.string (rdOf ByteArray.empty t347 x9_2), u354001, u354002, .slice none 0 0, .int .i64 0] 41 (0, 0)) (kB BK353.out) hg (Kd.R_ne HO_354001.out BK353.out (by decide))); replace HB := aM (hb); have HO377 := aM (ho); clear HO_354001; clear ho hb hg hat; obtain ⟨Ao96, co96, eo96⟩ := Kd.R_slice HO377.out; subst eo96; obtain ⟨hcz97_0, hcz97_1, hcz97_2, hcz97_3, hcz97_4, hfz97_0, hfz97_1, hfz97_2, hfz97_3, hfz97_4⟩ := cd5 BK353.out; have p378 : 0 ≤ (x12_6 : Int) := dT; have q378 : x12_6 < (t335.length : Int) := dT; obtain ⟨ad378, e378, hx378_0, hx378_1⟩ := at_T57 (Kd.R_reads' HO_4.out).2.2 x12_6 p378 q378; obtain rfl : ad373 = ad378 := (by injection e378); have hn378_0 : ad373.block ≠ gb353 := Kd.own_blk (Kd.R_ne HO_4.out BK353.out (by decide)); replace hx378_0 := (cell_far (p := ⟨gb353, 1, none⟩) (by first | (rw [add_block]; exact hn378_0) | (show (Addr.add _ _).block ≠ _; rw [add_block]; exact hn378_0) | exact hn378_0) (.slice Ao96 y375.length co96)).trans hx378_0; replace hx378_1 := (cell_far (p := ⟨gb353, 1, none⟩) (by first | (rw [add_block]; exact hn378_0) | (show (Addr.add _ _).block ≠ _; rw [add_block]; exact hn378_0) | exact hn378_0) (.slice Ao96 y375.length co96)).trans hx378_1; clear hn378_0; replace p378 := eq_true p378; replace q378 := eq_true q378) | ((with_reducible refine gate_callee (f := 34) rfl ?_); refine gM (some 131) Tryd.func34 #[.int .u64 ((rd_T57 t335 x12_6).f0), .int .i64 x9_2] ?_; (with_reducible refine (r06_Has.calls k6 ((rd_T57 t335 x12_6).f0) x9_2 true _ A89.out).mono ?_); rintro e w' ⟨rfl, ⟨nd, rfl⟩⟩; refine ⟨_, rfl, ?_⟩) | ((with_reducible refine gate_builtin (b := .append) (xs := #[.tmp 133, .tmp 137]) rfl ?_); at_builtin; refine Kd.R_append k62 (w0 := w) w.heap.size rfl (.tmp 133) (.tmp 137) 39 62 (.agg #[(.int .i64 0), (.int .i64 0)]) 16 rfl Tryd.underlying39 info62 rfl (by decide) (by omega) u354002 x354002_6 (⟨wrap64 (x12_6 + 2), 1⟩ : S62) [.int .i64 (wrap64 (x12_6 + 2)), .int .i64 1] (fun k_ => some k_ ≠ (.slice Ao96 y375.length co96 : Value).ownBlock) (fun _ => False) rfl (by first | (go_simp; done) | (go_simp; rfl)) ?aP (fun _ hk => hk.elim) ?aF ?aO ?aB ?aS ?aL ?_; (case aP => exact k62_mkM _ _ _ (⟨wrap64 (x12_6 + 2), 1⟩ : S62)); (case aB => exact (bB3 HB.out GE334.out GE342.out GE353.out)); (case aF => exact (fun k_ hk => Kd.fresh' (Kd.R_lt (by refine oR ?_; exact (tR HO377.out BK353.out))) k_ hk)); (case aO => exact (by refine oR ?_; exact tM HO_354002.out BK353.out (fun _ hk => hk.1.2))); (case aS => exact (below_size (bB3 HB.out GE334.out GE342.out GE353.out))); (case aL => have := LMc91.out; omega); intro v381 w98 ho hb hg hat; rw [← Ny380.out] at ho; replace HO_4 := aM (Kd.R_over' (by refine oR ?_; exact (tR HO_4.out BK353.out)) (Kd.R_typed (by refine oR ?_; exact (tR HO_354002.out BK353.out))) (by decide) hg); replace HO_8 := aM (Kd.R_over' (by refine oR ?_; exact (tR HO_8.out BK353.out)) (Kd.R_typed (by refine oR ?_; exact (tR HO_354002.out BK353.out))) (by decide) hg); replace HO_343001 := aM (Kd.R_over' (by refine oR ?_; exact (tR HO_343001.out BK353.out)) (Kd.R_typed (by refine oR ?_; exact (tR HO_354002.out BK353.out))) (by decide) hg); replace HO_343002 := aM (Kd.S_after (ok := (fun k_ => some k_ ≠ (.slice Ao96 y375.length co96 : Value).ownBlock ∧ k_ ≠ gb353)) (by refine oS ?_; exact Kd.S_mono (Kd.S_far (p := ⟨gb353, 1, none⟩) (Kd.S_mono HO_343002.out (fun k_ hk => (⟨hk, hk.1.2⟩ : _ ∧ k_ ≠ gb353))) (fun _ hk => hk.2) (.slice Ao96 y375.length co96)) (fun _ hk => ⟨⟨hk.1.2, hk.1.1.2⟩, hk.1.1.1⟩)) hg hat); replace BK334 := aM (blk_grown (g := gb334) (o := .cells #[.string x335000_3, .slice none 0 0, .slice none 0 0] 28 (0, 0)) (bF BK334.out NB334_353.out) hg (Kd.R_ne HO_354002.out BK334.out (by decide))); replace BK342 := aM (blk_grown (g := gb342) (o := .cells #[.string (⟨#[97, 108, 112, 104, 97]⟩ : ByteArray), .slice Ao51 x343001_1.length co51, u343002] 28 (0, 0)) (bF BK342.out NB342_353.out) hg (Kd.R_ne HO_354002.out BK342.out (by decide))); replace HO377 := aM (Kd.R_after (ok := (fun _ => True)) (by refine oR ?_; exact tM HO377.out BK353.out (fun _ hk => ⟨trivial, hk.1⟩)) hg hat); replace BK353 := aM (blk_grown (g := gb353) (o := .cells #[.string (rdOf ByteArray.empty t347 x9_2), .slice Ao96 y375.length co96, u354002, .slice none 0 0, .int .i64 0] 41 (0, 0)) (bP BK353.out) hg (Kd.R_ne HO_354002.out BK353.out (by decide))); replace HB := aM (hb); have HO382 := aM (ho); clear HO_354002; clear ho hb hg hat; obtain ⟨Ao99, co99, eo99⟩ := Kd.R_slice HO382.out; subst eo99; obtain ⟨hcz100_0, hcz100_1, hcz100_2, hcz100_3, hcz100_4, hfz100_0, hfz100_1, hfz100_2, hfz100_3, hfz100_4⟩ := cd5 BK353.out))
       go_roundg k6
       case measure => have := HK1.out; have := HK2.out; have := HK3.out; have := HJ47.out; have := HJ71.out; have := HK6.out; omega
       case rel => exact ⟨(wrap64 (x12_6 + 1)), (y375), (y380), (.slice Ao96 y375.length co96), (.slice Ao99 y380.length co99), eT, H', ⟨by have := HK1.out; have := HK2.out; have := HK3.out; have := HJ47.out; have := HJ71.out; have := HK6.out; omega⟩, ⟨by refine oR ?_; exact tT HO_4.out BK353.out⟩, ⟨by refine oR ?_; exact tT HO_8.out BK353.out⟩, ⟨by refine oR ?_; exact tT HO_343001.out BK353.out⟩, ⟨by refine oS ?_; exact Kd.S_mono (Kd.S_far (p := ⟨gb353, 2, none⟩) (Kd.S_mono HO_343002.out (fun k_ hk => (⟨hk, hk.1.2⟩ : _ ∧ k_ ≠ gb353))) (fun _ hk => hk.2) (.slice Ao99 y380.length co99)) (fun _ hk => ⟨hk.1.1.1, ⟨hk.1.2, hk.1.1.2⟩⟩)⟩, ⟨by refine oR ?_; exact tM HO377.out BK353.out (fun _ hk => hk.1.2)⟩, ⟨by refine oR ?_; exact tM HO382.out BK353.out (fun _ hk => hk.1)⟩, ⟨bF BK334.out NB334_353.out⟩, ⟨bF BK342.out NB342_353.out⟩, ⟨bP BK353.out⟩, ⟨bB3 HB.out GE334.out GE342.out GE353.out⟩⟩

attribute [local go_sem high] eqA62

/-! ### r09_SameArcs: function 35 -/
def r09_SameArcs.l0 : Nat → List (S62) → List (S62) → Int → Option (Bool)
 | 0, _, _, _ => none
 | k + 1, x0, x1, x5 => if x5 < (x0.length : Int) then (if 0 ≤ x5 then (if x5 < (x1.length : Int) then (if (!(((rd_T62 x0 x5).f0) == ((rd_T62 x1 x5).f0)) || (!(((rd_T62 x0 x5).f1) == ((rd_T62 x1 x5).f1)))) = true then (some false) else (r09_SameArcs.l0 k x0 x1 (wrap64 (x5 + 1)))) else (none)) else (none)) else (some true)
def r09_SameArcs.f (k : Nat) (l0 : List (S62)) (l1 : List (S62)) : Option (Bool) := if (l0.length : Int) = (l1.length : Int) then (r09_SameArcs.l0 k l0 l1 0) else (some false)
theorem r09_SameArcs.mono_l : ∀ k, (∀ y0 y1 y2, LeO (r09_SameArcs.l0 k y0 y1 y2) (r09_SameArcs.l0 (k + 1) y0 y1 y2))
 | 0 => fun _ _ _ r h => by simp [r09_SameArcs.l0] at h
 | k + 1 => by
  have ih0 := r09_SameArcs.mono_l k
  ·
   intro y0 y1 y2
   unfold r09_SameArcs.l0
   repeat' first
   | (with_reducible first | apply ih0 | exact LeO.refl _ | exact LeO.none _ | refine LeO.ite ?_ ?_ | refine LeO.bind ?_ (fun _ => ?_))
theorem r09_SameArcs.mono : ∀ a0 a1 k, LeO (r09_SameArcs.f k a0 a1) (r09_SameArcs.f (k + 1) a0 a1) := by
 intro a0 a1 k
 have ih0 := r09_SameArcs.mono_l k
 unfold r09_SameArcs.f
 repeat' first
   | (with_reducible first | apply ih0 | exact LeO.refl _ | exact LeO.none _ | refine LeO.ite ?_ ?_ | refine LeO.bind ?_ (fun _ => ?_))
set_option maxHeartbeats 8000000 in
set_option maxRecDepth 100000 in
theorem r09_SameArcs.calls (k : Nat) (A0 : Option Addr) (c0 : Nat) (l0 : List (S62)) (A1 : Option Addr) (c1 : Nat) (l1 : List (S62)) (r : Bool) (w : World) (hr0 : Kd.C k62 w A0 l0.length l0) (hc0 : l0.length ≤ c0) (hr1 : Kd.C k62 w A1 l1.length l1) (hc1 : l1.length ≤ c1) (h : r09_SameArcs.f k l0 l1 = some r) :
  Calls Tryd.prog 35 #[.slice A0 l0.length c0, .slice A1 l1.length c1] w fun e w' => e = .returned (.bool r) ∧ Drawn0 w w' := by
 have hu62 := Tryd.underlying62; have hu3 := Tryd.underlying3; have HR0 := aM hr0; have HC0 := aM hc0; clear hr0 hc0; have HR1 := aM hr1; have HC1 := aM hc1; clear hr1 hc1; have H : (if (l0.length : Int) = (l1.length : Int) then (r09_SameArcs.l0 k l0 l1 0) else (some false)) = some r := h; clear h
 by_cases c3 : (l0.length : Int) = (l1.length : Int)
 rotate_left
 ·
  rw [if_neg c3] at H
  have c3b0 : ((l0.length : Int) == (l1.length : Int)) = false := beq_eq_false_iff_ne.mpr c3; have c3b1 : ((l0.length : Int) != (l1.length : Int)) = true := bne_iff_ne.mpr c3
  have c3b2 : (l0.length == l1.length) = false := by first | simpa using c3 | (simp at c3 ⊢; omega)
  obtain rfl := Option.some.inj H
  go_enter Tryd.func35, Tryd.ntmps35
  go_wp2
  repeat (go_quiet (fail); try go_wp2)
  go_ret
  exact ⟨by first | rfl | (simp; done) | (simp [*]; done), by repeat (first | exact Drawn0.refl _ | apply Drawn0.step)⟩


 rw [if_pos c3] at H; have c3b0 : ((l0.length : Int) == (l1.length : Int)) = true := beq_iff_eq.mpr c3; have c3b1 : ((l0.length : Int) != (l1.length : Int)) = false := bne_eq_false_iff_eq.mpr c3
 have c3b2 : (l0.length == l1.length) = true := by first | simpa using c3 | (simp at c3 ⊢; omega)
 clear c3
 have H' := aM H
 clear H
 go_enter Tryd.func35, Tryd.ntmps35
 go_wp2
 repeat (go_quiet (fail); try go_wp2)
 go_loopg [5] k (fun kq v5 w' => ∃ (x5_1 : Int), v5 = .int .i64 x5_1 ∧ Aside0 (r09_SameArcs.l0 kq l0 l1 x5_1 = some r) ∧ Aside0 (kq ≤ k) ∧ Drawn0 w w')
 case atStart => exact ⟨(0), eT, H', ⟨Nat.le_refl _⟩, by repeat (first | exact Drawn0.refl _ | apply Drawn0.step)⟩
 clear H'
 obtain ⟨x5_1, rfl, HA, HK1, ⟨m1, rfl⟩⟩ := hrel
 cases gk with
 | zero => exact absurd HA.out (by simp [r09_SameArcs.l0])
 | succ k1 =>
  have H := HA.out; clear HA
  simp only [r09_SameArcs.l0] at H
  by_cases c4 : x5_1 < (l0.length : Int)
  rotate_left
  ·
   rw [if_neg c4] at H
   have c4b0 := decide_eq_false c4; clear c4
   obtain rfl := Option.some.inj H
   go_wp2
   repeat (go_quiet (fail); try go_wp2)
   go_ret
   exact ⟨by first | rfl | (simp; done) | (simp [*]; done), by repeat (first | exact Drawn0.refl _ | apply Drawn0.step)⟩
  rw [if_pos c4] at H; have c4b0 := decide_eq_true c4; clear c4
  obtain ⟨c5, H⟩ := iP H; have c5b0 := decide_eq_true c5; clear c5
  obtain ⟨c6, H⟩ := iP H; have c6b0 := decide_eq_true c6; clear c6
  by_cases c7 : (!(((rd_T62 l0 x5_1).f0) == ((rd_T62 l1 x5_1).f0)) || (!(((rd_T62 l0 x5_1).f1) == ((rd_T62 l1 x5_1).f1)))) = true
  ·
   rw [if_pos c7] at H
   have c7b0 : (!(((rd_T62 l0 x5_1).f0) == ((rd_T62 l1 x5_1).f0)) || (!(((rd_T62 l0 x5_1).f1) == ((rd_T62 l1 x5_1).f1)))) = true := c7; clear c7
   obtain rfl := Option.some.inj H
   obtain ⟨p388, q388, ad388, e388, hx388_0, hx388_1⟩ := aT (at_T62 HR0.out x5_1); cases e388; obtain ⟨p389, q389, ad389, e389, hx389_0, hx389_1⟩ := aT (at_T62 HR1.out x5_1); cases e389
   go_wp2
   repeat (go_quiet (fail); try go_wp2)
   go_ret
   exact ⟨by first | rfl | (simp; done) | (simp [*]; done), by repeat (first | exact Drawn0.refl _ | apply Drawn0.step)⟩
  rw [if_neg c7] at H
  have c7b0 : (!(((rd_T62 l0 x5_1).f0) == ((rd_T62 l1 x5_1).f0)) || (!(((rd_T62 l0 x5_1).f1) == ((rd_T62 l1 x5_1).f1)))) = false := by simpa using c7
  clear c7
  have H' := aM H
  clear H; obtain ⟨p388, q388, ad388, e388, hx388_0, hx388_1⟩ := aT (at_T62 HR0.out x5_1); cases e388; obtain ⟨p389, q389, ad389, e389, hx389_0, hx389_1⟩ := aT (at_T62 HR1.out x5_1); cases e389
  go_wp2
  repeat (go_quiet (fail); try go_wp2)
  go_roundg k1
  case measure => have := HK1.out; omega
  case rel => exact ⟨(wrap64 (x5_1 + 1)), eT, H', ⟨by have := HK1.out; omega⟩, by repeat (first | exact Drawn0.refl _ | apply Drawn0.step)⟩

attribute [local go_sem high] eqA59

/-! ### r09_Equal: function 11 -/
mutual
def r09_Equal.j0 : Nat → Bool → ByteArray → List (S59) → List (S41) → ByteArray → List (S59) → List (S41) → Option (Bool)
 | 0, _, _, _, _, _, _, _ => none
 | k + 1, x31, x391000, x391001, x391002, x392000, x392001, x392002 => if x31 = true then (none) else (r09_Equal.l0 k 0 x391000 x391001 x391002 x392000 x392001 x392002)
def r09_Equal.l0 : Nat → Int → ByteArray → List (S59) → List (S41) → ByteArray → List (S59) → List (S41) → Option (Bool)
 | 0, _, _, _, _, _, _, _ => none
 | k + 1, x5, x391000, x391001, x391002, x392000, x392001, x392002 => if x5 < (x391001.length : Int) then (if 0 ≤ x5 then (if x5 < (x392001.length : Int) then (if (!((((rd_T59 x391001 x5).f0).toList) == (((rd_T59 x392001 x5).f0).toList)) || (!(((rd_T59 x391001 x5).f1) == ((rd_T59 x392001 x5).f1)) || (!(((rd_T59 x391001 x5).f2) == ((rd_T59 x392001 x5).f2))))) = true then (none) else (r09_Equal.l0 k (wrap64 (x5 + 1)) x391000 x391001 x391002 x392000 x392001 x392002)) else (none)) else (none)) else (r09_Equal.l1 k 0 x391000 x391001 x391002 x392000 x392001 x392002)
def r09_Equal.l1 : Nat → Int → ByteArray → List (S59) → List (S41) → ByteArray → List (S59) → List (S41) → Option (Bool)
 | 0, _, _, _, _, _, _, _ => none
 | k + 1, x6, x391000, x391001, x391002, x392000, x392001, x392002 => if x6 < (x391002.length : Int) then (if 0 ≤ x6 then (if x6 < (x392002.length : Int) then (if ((rd_T41 x391002 x6).f0).toList = ((rd_T41 x392002 x6).f0).toList then (if ((rd_T41 x391002 x6).f4) = ((rd_T41 x392002 x6).f4) then ((r09_SameArcs.f k ((rd_T41 x391002 x6).f1) ((rd_T41 x392002 x6).f1)).bind fun t398 => (if t398 = true then ((r09_SameArcs.f k ((rd_T41 x391002 x6).f2) ((rd_T41 x392002 x6).f2)).bind fun t399 => (if t399 = true then ((r09_SameArcs.f k ((rd_T41 x391002 x6).f3) ((rd_T41 x392002 x6).f3)).bind fun t400 => (if t400 = true then (r09_Equal.l1 k (wrap64 (x6 + 1)) x391000 x391001 x391002 x392000 x392001 x392002) else (none))) else (none))) else (none))) else (none)) else (none)) else (none)) else (none)) else (some true)
end
def r09_Equal.f (k : Nat) (a0_0 : ByteArray) (l0_1 : List (S59)) (l0_2 : List (S41)) (a1_0 : ByteArray) (l1_1 : List (S59)) (l1_2 : List (S41)) : Option (Bool) := if a0_0.toList = a1_0.toList then (if (l0_1.length : Int) = (l1_1.length : Int) then (r09_Equal.j0 k ((l0_2.length : Int) != (l1_2.length : Int)) a0_0 l0_1 l0_2 a1_0 l1_1 l1_2) else (r09_Equal.j0 k true a0_0 l0_1 l0_2 a1_0 l1_1 l1_2)) else (r09_Equal.j0 k true a0_0 l0_1 l0_2 a1_0 l1_1 l1_2)
theorem r09_Equal.mono_l : ∀ k, (∀ y0 y1 y2 y3 y4 y5 y6, LeO (r09_Equal.j0 k y0 y1 y2 y3 y4 y5 y6) (r09_Equal.j0 (k + 1) y0 y1 y2 y3 y4 y5 y6)) ∧ (∀ y0 y1 y2 y3 y4 y5 y6, LeO (r09_Equal.l0 k y0 y1 y2 y3 y4 y5 y6) (r09_Equal.l0 (k + 1) y0 y1 y2 y3 y4 y5 y6)) ∧ (∀ y0 y1 y2 y3 y4 y5 y6, LeO (r09_Equal.l1 k y0 y1 y2 y3 y4 y5 y6) (r09_Equal.l1 (k + 1) y0 y1 y2 y3 y4 y5 y6))
 | 0 => ⟨fun _ _ _ _ _ _ _ r h => by simp [r09_Equal.j0] at h, fun _ _ _ _ _ _ _ r h => by simp [r09_Equal.l0] at h, fun _ _ _ _ _ _ _ r h => by simp [r09_Equal.l1] at h⟩
 | k + 1 => by
  obtain ⟨ih0, ih1, ih2⟩ := r09_Equal.mono_l k
  refine ⟨?_, ?_, ?_⟩ <;> intros <;> (first | unfold r09_Equal.j0 | unfold r09_Equal.l0 | unfold r09_Equal.l1)
  all_goals repeat' first
   | (with_reducible first | apply ih0 | apply ih1 | apply ih2 | apply r09_SameArcs.mono | exact LeO.refl _ | exact LeO.none _ | refine LeO.ite ?_ ?_ | refine LeO.bind ?_ (fun _ => ?_))
theorem r09_Equal.mono : ∀ a0 a1 a2 a3 a4 a5 k, LeO (r09_Equal.f k a0 a1 a2 a3 a4 a5) (r09_Equal.f (k + 1) a0 a1 a2 a3 a4 a5) := by
 intro a0 a1 a2 a3 a4 a5 k
 obtain ⟨ih0, ih1, ih2⟩ := r09_Equal.mono_l k
 unfold r09_Equal.f
 repeat' first
   | (with_reducible first | apply ih0 | apply ih1 | apply ih2 | apply r09_SameArcs.mono | exact LeO.refl _ | exact LeO.none _ | refine LeO.ite ?_ ?_ | refine LeO.bind ?_ (fun _ => ?_))
def r09_Equal.T6 : Bool × List (List Nat × List Nat) := (true, [([], []), ([0], [0]), ([], []), ([1, 2], [1, 2]), ([3], [3]), ([], []), ([5], [5]), ([], []), ([6, 7], [6, 7]), ([8], [8]), ([4, 9], [4, 9])])
def r09_Equal.B6 : List Nat := [0, 1, 0, 7, 15, 0, 32, 0, 224, 480, 1023]
theorem r09_Equal.tab6 : rtab .any (opsOf Tryd.f11 6) = r09_Equal.T6 := by kernel_rfl
theorem r09_Equal.bits6 : waitsOk r09_Equal.T6.2 r09_Equal.B6 = true := by kernel_rfl
def r09_Equal.T11 : Bool × List (List Nat × List Nat) := (true, [([], []), ([0], [0]), ([], []), ([1, 2], [1, 2]), ([3], [3]), ([], []), ([5], [5]), ([], []), ([6, 7], [6, 7]), ([8], [8]), ([], []), ([], []), ([10, 4, 0, 1, 2, 3, 4, 10, 11], [4, 10]), ([11, 9, 12, 0, 1, 2, 3, 4, 5, 6, 7, 8, 9, 10, 11, 12], [9, 11])])
def r09_Equal.B11 : List Nat := [0, 1, 0, 7, 15, 0, 32, 0, 224, 480, 0, 0, 3103, 8191]
theorem r09_Equal.tab11 : rtab .any (opsOf Tryd.f11 11) = r09_Equal.T11 := by kernel_rfl
theorem r09_Equal.bits11 : waitsOk r09_Equal.T11.2 r09_Equal.B11 = true := by kernel_rfl
set_option maxHeartbeats 8000000 in
set_option maxRecDepth 100000 in
theorem r09_Equal.calls (k : Nat) (a0_0 : ByteArray) (A0_1 : Option Addr) (c0_1 : Nat) (l0_1 : List (S59)) (A0_2 : Option Addr) (c0_2 : Nat) (l0_2 : List (S41)) (a1_0 : ByteArray) (A1_1 : Option Addr) (c1_1 : Nat) (l1_1 : List (S59)) (A1_2 : Option Addr) (c1_2 : Nat) (l1_2 : List (S41)) (r : Bool) (w : World) (hr0_1 : Kd.C k59 w A0_1 l0_1.length l0_1) (hc0_1 : l0_1.length ≤ c0_1) (hr0_2 : Kd.C k41 w A0_2 l0_2.length l0_2) (hc0_2 : l0_2.length ≤ c0_2) (hr1_1 : Kd.C k59 w A1_1 l1_1.length l1_1) (hc1_1 : l1_1.length ≤ c1_1) (hr1_2 : Kd.C k41 w A1_2 l1_2.length l1_2) (hc1_2 : l1_2.length ≤ c1_2) (h : r09_Equal.f k a0_0 l0_1 l0_2 a1_0 l1_1 l1_2 = some r) :
  Calls Tryd.prog 11 #[.agg #[.string a0_0, .slice A0_1 l0_1.length c0_1, .slice A0_2 l0_2.length c0_2], .agg #[.string a1_0, .slice A1_1 l1_1.length c1_1, .slice A1_2 l1_2.length c1_2]] w fun e w' => e = .returned (.bool r) ∧ Below w.heap.size w w' := by
 have hu28 := Tryd.underlying28; have hu9 := Tryd.underlying9; have hu25 := Tryd.underlying25; have hu26 := Tryd.underlying26; have hu59 := Tryd.underlying59; have hu3 := Tryd.underlying3; have hu9 := Tryd.underlying9; have hu41 := Tryd.underlying41; have hu3 := Tryd.underlying3; have hu9 := Tryd.underlying9; have hu39 := Tryd.underlying39; have HR0_1 := aM hr0_1; have HC0_1 := aM hc0_1; clear hr0_1 hc0_1; have HR0_2 := aM hr0_2; have HC0_2 := aM hc0_2; clear hr0_2 hc0_2; have HR1_1 := aM hr1_1; have HC1_1 := aM hc1_1; clear hr1_1 hc1_1; have HR1_2 := aM hr1_2; have HC1_2 := aM hc1_2; clear hr1_2 hc1_2; have HB := aM (Below.refl w.heap.size w); have H : (if a0_0.toList = a1_0.toList then (if (l0_1.length : Int) = (l1_1.length : Int) then (r09_Equal.j0 k ((l0_2.length : Int) != (l1_2.length : Int)) a0_0 l0_1 l0_2 a1_0 l1_1 l1_2) else (r09_Equal.j0 k true a0_0 l0_1 l0_2 a1_0 l1_1 l1_2)) else (r09_Equal.j0 k true a0_0 l0_1 l0_2 a1_0 l1_1 l1_2)) = some r := h; clear h; have HC3 := aM H; clear H
 go_enter Tryd.func11, Tryd.ntmps11
 go_upto_region 1 with (first | ((with_reducible refine gate_dst (N := 2) rfl ?_); (try (refine gate_guard (by rfl) ?_; dsimp only)); refine bX 2 (cs := #[.string a0_0, .slice A0_1 l0_1.length c0_1, .slice A0_2 l0_2.length c0_2]) (t := 28) ?_; intro gb390 hg w4 hbox hb; have BK390 := aM (hbox); have GW390 := aM (gE hg (below_size (bB HB.out))); have GE390 := GW390; replace HB := aM (below_step (bB HB.out) hb); clear hb hbox hg) | ((with_reducible refine gate_dst (N := 3) rfl ?_); (try (refine gate_guard (by rfl) ?_; dsimp only)); refine bX 3 (cs := #[.string a1_0, .slice A1_1 l1_1.length c1_1, .slice A1_2 l1_2.length c1_2]) (t := 28) ?_; intro gb391 hg w5 hbox hb; have BK391 := aM (hbox); have GW391 := aM (gE hg (below_size (bB1 HB.out GE390.out))); have GE391 := GW391; replace HB := aM (below_step (bB1 HB.out GE390.out) hb); have NB390_391 := aM (gL hg (kL BK390.out)); have NB391_390 := aM (gG hg (kL BK390.out)); replace BK390 := aM (kW BK390.out hb); clear hb hbox hg))
 (try simp only [Act.put, List.setIfInBounds_toArray, List.set_cons_zero, List.set_cons_succ])
 go_cut [31] (fun v31 wc => ∃ (kq : Nat) (x31_2 : Bool), v31 = .bool x31_2 ∧ Aside0 (r09_Equal.j0 kq x31_2 a0_0 l0_1 l0_2 a1_0 l1_1 l1_2 = some r) ∧ Aside0 (kq ≤ k) ∧ Aside0 (wc.heap[gb390]? = some (.cells #[.string a0_0, (.slice A0_1 l0_1.length c0_1), (.slice A0_2 l0_2.length c0_2)] 28 (0, 0))) ∧ Aside0 (wc.heap[gb391]? = some (.cells #[.string a1_0, (.slice A1_1 l1_1.length c1_1), (.slice A1_2 l1_2.length c1_2)] 28 (0, 0))) ∧ Aside0 (Below w.heap.size w wc))
 case first =>
  have H := HC3.out; clear HC3
  by_cases c6 : a0_0.toList = a1_0.toList
  rotate_left
  ·
   rw [if_neg c6] at H
   have c6b0 : (a0_0.toList == a1_0.toList) = false := beq_eq_false_iff_ne.mpr c6; have c6b1 : (a0_0.toList != a1_0.toList) = true := bne_iff_ne.mpr c6
   (first | rw [c6b0] | (simp only [i64_w, i32_w]; rw [c6b0]) | skip)
   have H' := aM H
   clear H; have hnb14 := NB390_391.out; have hnc14 := NB391_390.out
   have hcz15_0 := cz0 BK390.out
   have hcz15_1 := cz1 BK390.out
   have hcz15_2 := cz2 BK390.out
   have hfz15_0 := blk_frozen BK390.out 0; have hfz15_1 := blk_frozen BK390.out 1; have hfz15_2 := blk_frozen BK390.out 2
   have hcz16_0 := cz0 BK391.out
   have hcz16_1 := cz1 BK391.out
   have hcz16_2 := cz2 BK391.out
   have hfz16_0 := blk_frozen BK391.out 0; have hfz16_1 := blk_frozen BK391.out 1; have hfz16_2 := blk_frozen BK391.out 2
   go_wp2
   go_meet
   case rel => exact ⟨_, (true), eT, H', ⟨by first | omega | exact Nat.le_refl _⟩, ⟨kB BK390.out⟩, ⟨kB BK391.out⟩, ⟨bB2 HB.out GE390.out GE391.out⟩⟩
  rw [if_pos c6] at H; have c6b0 : (a0_0.toList == a1_0.toList) = true := beq_iff_eq.mpr c6; have c6b1 : (a0_0.toList != a1_0.toList) = false := bne_eq_false_iff_eq.mpr c6; clear c6
  (first | rw [c6b0] | (simp only [i64_w, i32_w]; rw [c6b0]) | skip)
  by_cases c7 : (l0_1.length : Int) = (l1_1.length : Int)
  rotate_left
  ·
   rw [if_neg c7] at H
   have c7b0 : ((l0_1.length : Int) == (l1_1.length : Int)) = false := beq_eq_false_iff_ne.mpr c7; have c7b1 : ((l0_1.length : Int) != (l1_1.length : Int)) = true := bne_iff_ne.mpr c7
   have c7b2 : (l0_1.length == l1_1.length) = false := by first | simpa using c7 | (simp at c7 ⊢; omega)
   have H' := aM H
   clear H; have hnb11 := NB390_391.out; have hnc11 := NB391_390.out
   have hcz12_0 := cz0 BK390.out
   have hcz12_1 := cz1 BK390.out
   have hcz12_2 := cz2 BK390.out
   have hfz12_0 := blk_frozen BK390.out 0; have hfz12_1 := blk_frozen BK390.out 1; have hfz12_2 := blk_frozen BK390.out 2
   have hcz13_0 := cz0 BK391.out
   have hcz13_1 := cz1 BK391.out
   have hcz13_2 := cz2 BK391.out
   have hfz13_0 := blk_frozen BK391.out 0; have hfz13_1 := blk_frozen BK391.out 1; have hfz13_2 := blk_frozen BK391.out 2
   go_wp2
   go_meet
   case rel => exact ⟨_, (true), eT, H', ⟨by first | omega | exact Nat.le_refl _⟩, ⟨kB BK390.out⟩, ⟨kB BK391.out⟩, ⟨bB2 HB.out GE390.out GE391.out⟩⟩
  rw [if_pos c7] at H; have c7b0 : ((l0_1.length : Int) == (l1_1.length : Int)) = true := beq_iff_eq.mpr c7; have c7b1 : ((l0_1.length : Int) != (l1_1.length : Int)) = false := bne_eq_false_iff_eq.mpr c7
  have c7b2 : (l0_1.length == l1_1.length) = true := by first | simpa using c7 | (simp at c7 ⊢; omega)
  clear c7
  have H' := aM H
  clear H; have hnb8 := NB390_391.out; have hnc8 := NB391_390.out
  have hcz9_0 := cz0 BK390.out
  have hcz9_1 := cz1 BK390.out
  have hcz9_2 := cz2 BK390.out
  have hfz9_0 := blk_frozen BK390.out 0; have hfz9_1 := blk_frozen BK390.out 1; have hfz9_2 := blk_frozen BK390.out 2
  have hcz10_0 := cz0 BK391.out
  have hcz10_1 := cz1 BK391.out
  have hcz10_2 := cz2 BK391.out
  have hfz10_0 := blk_frozen BK391.out 0; have hfz10_1 := blk_frozen BK391.out 1; have hfz10_2 := blk_frozen BK391.out 2
  go_wp2
  go_meet
  case rel => exact ⟨_, (((l0_2.length : Int) != (l1_2.length : Int))), eT, H', ⟨by first | omega | exact Nat.le_refl _⟩, ⟨kB BK390.out⟩, ⟨kB BK391.out⟩, ⟨bB2 HB.out GE390.out GE391.out⟩⟩
 clear HC3; obtain ⟨kq, x31_2, rfl, HA, HJ2, BK390, BK391, HB⟩ := hcut
 cases kq with
 | zero => exact absurd HA.out (by simp [r09_Equal.j0])
 | succ kj2 =>
  have H := HA.out; clear HA
  simp only [r09_Equal.j0] at H
  by_cases c17 : x31_2 = true
  ·
   subst c17
   have H1 : (none) = some r := by rw [if_pos rfl] at H; exact H
   clear H; have H := H1; clear H1
   exact absurd H (by simp)
  replace c17 := Bool.eq_false_iff.mpr c17; subst c17
  have H1 : (r09_Equal.l0 kj2 0 a0_0 l0_1 l0_2 a1_0 l1_1 l1_2) = some r := by rw [if_neg (show ¬ (false = true) by decide)] at H; exact H
  clear H; have H := H1; clear H1
  have H' := aM H
  clear H
  go_wp2
  go_loopg [5] kj2 (fun kq v5 w' => ∃ (x5_2 : Int), v5 = .int .i64 x5_2 ∧ Aside0 (r09_Equal.l0 kq x5_2 a0_0 l0_1 l0_2 a1_0 l1_1 l1_2 = some r) ∧ Aside0 (kq ≤ kj2) ∧ Aside0 (w'.heap[gb390]? = some (.cells #[.string a0_0, (.slice A0_1 l0_1.length c0_1), (.slice A0_2 l0_2.length c0_2)] 28 (0, 0))) ∧ Aside0 (w'.heap[gb391]? = some (.cells #[.string a1_0, (.slice A1_1 l1_1.length c1_1), (.slice A1_2 l1_2.length c1_2)] 28 (0, 0))) ∧ Aside0 (Below w.heap.size w w'))
  case atStart => exact ⟨(0), eT, H', ⟨Nat.le_refl _⟩, ⟨kB BK390.out⟩, ⟨kB BK391.out⟩, ⟨bB2 HB.out GE390.out GE391.out⟩⟩
  clear H'; obtain ⟨x5_2, rfl, HA, HK2, BK390, BK391, HB⟩ := hrel
  cases gk with
  | zero => exact absurd HA.out (by simp [r09_Equal.l0])
  | succ k2 =>
   have H := HA.out; clear HA
   simp only [r09_Equal.l0] at H
   by_cases c18 : x5_2 < (l0_1.length : Int)
   ·
    rw [if_pos c18] at H
    have c18b0 := decide_eq_true c18; clear c18
    obtain ⟨c19, H⟩ := iP H; have c19b0 := decide_eq_true c19; clear c19
    obtain ⟨c20, H⟩ := iP H; have c20b0 := decide_eq_true c20; clear c20
    obtain ⟨c21, H⟩ := iN H
    have c21b0 : (!((((rd_T59 l0_1 x5_2).f0).toList) == (((rd_T59 l1_1 x5_2).f0).toList)) || (!(((rd_T59 l0_1 x5_2).f1) == ((rd_T59 l1_1 x5_2).f1)) || (!(((rd_T59 l0_1 x5_2).f2) == ((rd_T59 l1_1 x5_2).f2))))) = false := by simpa using c21
    clear c21
    have H' := aM H
    clear H; have hnb22 := NB390_391.out; have hnc22 := NB391_390.out
    have hcz23_0 : wr.cell? ⟨gb390, 0, none⟩ = some (.string a0_0) := (blk_cell BK390.out 0).trans rfl
    have hcz23_1 : wr.cell? ⟨gb390, 1, none⟩ = some (.slice A0_1 l0_1.length c0_1) := (blk_cell BK390.out 1).trans rfl
    have hcz23_2 : wr.cell? ⟨gb390, 2, none⟩ = some (.slice A0_2 l0_2.length c0_2) := (blk_cell BK390.out 2).trans rfl
    have hfz23_0 := blk_frozen BK390.out 0; have hfz23_1 := blk_frozen BK390.out 1; have hfz23_2 := blk_frozen BK390.out 2
    try go_wp2
    replace BK390 := aM (blk_drew BK390.out); replace BK391 := aM (blk_drew BK391.out); replace HB := aM (below_drew1 HB.out); obtain ⟨p392, q392, ad392, e392, hx392_0, hx392_1, hx392_2⟩ := aT (at_T59 HR0_1.out x5_2); have hw392_2 := hx392_2; have hw392_1 := hx392_1; have hw392_0 := hx392_0; cases e392
    try replace hx392_0 := kX HB.out hx392_0
    try replace hx392_1 := kX HB.out hx392_1
    try replace hx392_2 := kX HB.out hx392_2; obtain ⟨p393, q393, ad393, e393, hx393_0, hx393_1, hx393_2⟩ := aT (at_T59 HR1_1.out x5_2); have hw393_2 := hx393_2; have hw393_1 := hx393_1; have hw393_0 := hx393_0; cases e393
    try replace hx393_0 := kX HB.out hx393_0
    try replace hx393_1 := kX HB.out hx393_1
    try replace hx393_2 := kX HB.out hx393_2
    refine start_ (n := 11) (S := fun w' => w'.cell? ⟨gb390, 0, none⟩ = some (.string a0_0) ∧ w'.cell? ⟨gb390, 1, none⟩ = some (.slice (some ad392) l0_1.length c0_1) ∧ w'.cell? ⟨gb390, 2, none⟩ = some (.slice A0_2 l0_2.length c0_2) ∧ w'.cell? ⟨gb391, 0, none⟩ = some (.string a1_0) ∧ w'.cell? ⟨gb391, 1, none⟩ = some (.slice (some ad393) l1_1.length c1_1) ∧ w'.cell? ⟨gb391, 2, none⟩ = some (.slice A1_2 l1_2.length c1_2) ∧ w'.cell? (ad392.add ((x5_2).toNat * 3)) = some (.string ((rd_T59 l0_1 x5_2).f0)) ∧ w'.cell? ⟨(ad392.add ((x5_2).toNat * 3)).block, (ad392.add ((x5_2).toNat * 3)).off + 1, none⟩ = some (.int .i64 ((rd_T59 l0_1 x5_2).f1)) ∧ w'.cell? ⟨(ad392.add ((x5_2).toNat * 3)).block, (ad392.add ((x5_2).toNat * 3)).off + 2, none⟩ = some (.int .i64 ((rd_T59 l0_1 x5_2).f2)) ∧ w'.cell? (ad393.add ((x5_2).toNat * 3)) = some (.string ((rd_T59 l1_1 x5_2).f0)) ∧ w'.cell? ⟨(ad393.add ((x5_2).toNat * 3)).block, (ad393.add ((x5_2).toNat * 3)).off + 1, none⟩ = some (.int .i64 ((rd_T59 l1_1 x5_2).f1)) ∧ w'.cell? ⟨(ad393.add ((x5_2).toNat * 3)).block, (ad393.add ((x5_2).toNat * 3)).off + 2, none⟩ = some (.int .i64 ((rd_T59 l1_1 x5_2).f2))) (ds := []) #[false, false, false, false, false, false, false, false, false, false, false] (by kernel_rfl) rfl rfl ⟨(blk_cell BK390.out 0).trans rfl, (blk_cell BK390.out 1).trans rfl, (blk_cell BK390.out 2).trans rfl, (blk_cell BK391.out 0).trans rfl, (blk_cell BK391.out 1).trans rfl, (blk_cell BK391.out 2).trans rfl, ((HB.out.cell (World.block_lt_of_cell? w _ hw392_0)).trans hw392_0), ((HB.out.cell (World.block_lt_of_cell? w _ hw392_1)).trans hw392_1), ((HB.out.cell (World.block_lt_of_cell? w _ hw392_2)).trans hw392_2), ((HB.out.cell (World.block_lt_of_cell? w _ hw393_0)).trans hw393_0), ((HB.out.cell (World.block_lt_of_cell? w _ hw393_1)).trans hw393_1), ((HB.out.cell (World.block_lt_of_cell? w _ hw393_2)).trans hw393_2)⟩ (fun hHeld => ?_); refine with_tabW r09_Equal.tab6 r09_Equal.bits6 (fun HT_ HW_ => ?_)
    generalize wr.drew = w24 at BK390 BK391 HB hx392_0 hx392_1 hx392_2 hx393_0 hx393_1 hx393_2 hHeld ⊢
    refine pU 0 39 (any_of HT_.out (by kernel_rfl)) ?_
    refine pU 2 41 (any_of HT_.out (by kernel_rfl)) ?_
    refine pU 5 44 (any_of HT_.out (by kernel_rfl)) ?_
    refine pU 7 46 (any_of HT_.out (by kernel_rfl)) ?_
    refine tU 1 40 (take_ofW HT_.out HW_.out (by kernel_rfl)) hHeld ?_
    refine pU 3 42 (any_of HT_.out (by kernel_rfl)) ?_
    refine tU 4 43 (take_ofW HT_.out HW_.out (by kernel_rfl)) hHeld ?_
    refine tU 6 45 (take_ofW HT_.out HW_.out (by kernel_rfl)) hHeld ?_
    refine pU 8 47 (any_of HT_.out (by kernel_rfl)) ?_
    refine tU 9 48 (take_ofW HT_.out HW_.out (by kernel_rfl)) hHeld ?_
    refine pU 10 49 (any_of HT_.out (by kernel_rfl)) ?_
    refine done_ (done_of HT_.out (by kernel_rfl)) ?_
    try go_wp2
    go_roundg k2
    case measure => have := HJ2.out; have := HK2.out; omega
    case rel => exact ⟨(wrap64 (x5_2 + 1)), eT, H', ⟨by have := HJ2.out; have := HK2.out; omega⟩, ⟨kB BK390.out⟩, ⟨kB BK391.out⟩, ⟨bB2 HB.out GE390.out GE391.out⟩⟩
   rw [if_neg c18] at H; have c18b0 := decide_eq_false c18; clear c18
   have H' := aM H
   clear H; have hnb25 := NB390_391.out; have hnc25 := NB391_390.out
   have hcz26_0 : wr.cell? ⟨gb390, 0, none⟩ = some (.string a0_0) := (blk_cell BK390.out 0).trans rfl
   have hcz26_1 : wr.cell? ⟨gb390, 1, none⟩ = some (.slice A0_1 l0_1.length c0_1) := (blk_cell BK390.out 1).trans rfl
   have hcz26_2 : wr.cell? ⟨gb390, 2, none⟩ = some (.slice A0_2 l0_2.length c0_2) := (blk_cell BK390.out 2).trans rfl
   have hfz26_0 := blk_frozen BK390.out 0; have hfz26_1 := blk_frozen BK390.out 1; have hfz26_2 := blk_frozen BK390.out 2
   go_wp2
   go_loopg [6] k2 (fun kq v6 w' => ∃ (x6_3 : Int), v6 = .int .i64 x6_3 ∧ Aside0 (r09_Equal.l1 kq x6_3 a0_0 l0_1 l0_2 a1_0 l1_1 l1_2 = some r) ∧ Aside0 (kq ≤ k2) ∧ Aside0 (w'.heap[gb390]? = some (.cells #[.string a0_0, (.slice A0_1 l0_1.length c0_1), (.slice A0_2 l0_2.length c0_2)] 28 (0, 0))) ∧ Aside0 (w'.heap[gb391]? = some (.cells #[.string a1_0, (.slice A1_1 l1_1.length c1_1), (.slice A1_2 l1_2.length c1_2)] 28 (0, 0))) ∧ Aside0 (Below w.heap.size w w'))
   case atStart => exact ⟨(0), eT, H', ⟨Nat.le_refl _⟩, ⟨kB BK390.out⟩, ⟨kB BK391.out⟩, ⟨bB2 HB.out GE390.out GE391.out⟩⟩
   clear H'
   try clear hx3
   try clear hx392_0
   try clear hx392_1
   try clear hx392_2
   try clear hx393_0
   try clear hx393_1
   try clear hx393_2
   obtain ⟨x6_3, rfl, HA, HK3, BK390, BK391, HB⟩ := hrel
   cases gk with
   | zero => exact absurd HA.out (by simp [r09_Equal.l1])
   | succ k3 =>
    have H := HA.out; clear HA
    simp only [r09_Equal.l1] at H
    by_cases c27 : x6_3 < (l0_2.length : Int)
    rotate_left
    ·
     rw [if_neg c27] at H
     have c27b0 := decide_eq_false c27; clear c27
     obtain rfl := Option.some.inj H
     have hnb61 := NB390_391.out; have hnc61 := NB391_390.out
     have hcz62_0 : wr.cell? ⟨gb390, 0, none⟩ = some (.string a0_0) := (blk_cell BK390.out 0).trans rfl
     have hcz62_1 : wr.cell? ⟨gb390, 1, none⟩ = some (.slice A0_1 l0_1.length c0_1) := (blk_cell BK390.out 1).trans rfl
     have hcz62_2 : wr.cell? ⟨gb390, 2, none⟩ = some (.slice A0_2 l0_2.length c0_2) := (blk_cell BK390.out 2).trans rfl
     have hfz62_0 := blk_frozen BK390.out 0; have hfz62_1 := blk_frozen BK390.out 1; have hfz62_2 := blk_frozen BK390.out 2
     go_wp2
     go_ret
     exact ⟨rT, bB2 HB.out GE390.out GE391.out⟩


    rw [if_pos c27] at H; have c27b0 := decide_eq_true c27; clear c27
    obtain ⟨c28, H⟩ := iP H; have c28b0 := decide_eq_true c28; clear c28
    obtain ⟨c29, H⟩ := iP H; have c29b0 := decide_eq_true c29; clear c29
    obtain ⟨c30, H⟩ := iP H; have c30b0 : (((rd_T41 l0_2 x6_3).f0).toList == ((rd_T41 l1_2 x6_3).f0).toList) = true := beq_iff_eq.mpr c30; have c30b1 : (((rd_T41 l0_2 x6_3).f0).toList != ((rd_T41 l1_2 x6_3).f0).toList) = false := bne_eq_false_iff_eq.mpr c30; clear c30
    obtain ⟨c31, H⟩ := iP H; have c31b0 : (((rd_T41 l0_2 x6_3).f4) == ((rd_T41 l1_2 x6_3).f4)) = true := beq_iff_eq.mpr c31; have c31b1 : (((rd_T41 l0_2 x6_3).f4) != ((rd_T41 l1_2 x6_3).f4)) = false := bne_eq_false_iff_eq.mpr c31; clear c31; obtain ⟨t398, A32, H⟩ := iB H; (try dsimp only at H)
    by_cases c33 : t398 = true
    rotate_left
    ·
     replace c33 := Bool.eq_false_iff.mpr c33
     subst c33
     have H1 : (none) = some r := by rw [if_neg (show ¬ (false = true) by decide)] at H; exact H
     clear H; have H := H1; clear H1
     exact absurd H (by simp)
    subst c33
    have H1 : ((r09_SameArcs.f k3 ((rd_T41 l0_2 x6_3).f2) ((rd_T41 l1_2 x6_3).f2)).bind fun t399 => (if t399 = true then ((r09_SameArcs.f k3 ((rd_T41 l0_2 x6_3).f3) ((rd_T41 l1_2 x6_3).f3)).bind fun t400 => (if t400 = true then (r09_Equal.l1 k3 (wrap64 (x6_3 + 1)) a0_0 l0_1 l0_2 a1_0 l1_1 l1_2) else (none))) else (none))) = some r := by rw [if_pos rfl] at H; exact H
    clear H; have H := H1; clear H1; obtain ⟨t399, A34, H⟩ := iB H; (try dsimp only at H)
    by_cases c35 : t399 = true
    rotate_left
    ·
     replace c35 := Bool.eq_false_iff.mpr c35
     subst c35
     have H1 : (none) = some r := by rw [if_neg (show ¬ (false = true) by decide)] at H; exact H
     clear H; have H := H1; clear H1
     exact absurd H (by simp)
    subst c35
    have H1 : ((r09_SameArcs.f k3 ((rd_T41 l0_2 x6_3).f3) ((rd_T41 l1_2 x6_3).f3)).bind fun t400 => (if t400 = true then (r09_Equal.l1 k3 (wrap64 (x6_3 + 1)) a0_0 l0_1 l0_2 a1_0 l1_1 l1_2) else (none))) = some r := by rw [if_pos rfl] at H; exact H
    clear H; have H := H1; clear H1; obtain ⟨t400, A36, H⟩ := iB H; (try dsimp only at H)
    by_cases c37 : t400 = true
    rotate_left
    ·
     replace c37 := Bool.eq_false_iff.mpr c37
     subst c37
     have H1 : (none) = some r := by rw [if_neg (show ¬ (false = true) by decide)] at H; exact H
     clear H; have H := H1; clear H1
     exact absurd H (by simp)
    subst c37
    have H1 : (r09_Equal.l1 k3 (wrap64 (x6_3 + 1)) a0_0 l0_1 l0_2 a1_0 l1_1 l1_2) = some r := by rw [if_pos rfl] at H; exact H
    clear H; have H := H1; clear H1
    have H' := aM H
    clear H; have hnb38 := NB390_391.out; have hnc38 := NB391_390.out
    have hcz39_0 : wr.cell? ⟨gb390, 0, none⟩ = some (.string a0_0) := (blk_cell BK390.out 0).trans rfl
    have hcz39_1 : wr.cell? ⟨gb390, 1, none⟩ = some (.slice A0_1 l0_1.length c0_1) := (blk_cell BK390.out 1).trans rfl
    have hcz39_2 : wr.cell? ⟨gb390, 2, none⟩ = some (.slice A0_2 l0_2.length c0_2) := (blk_cell BK390.out 2).trans rfl
    have hfz39_0 := blk_frozen BK390.out 0; have hfz39_1 := blk_frozen BK390.out 1; have hfz39_2 := blk_frozen BK390.out 2
    try go_wp2
    replace BK390 := aM (blk_drew BK390.out); replace BK391 := aM (blk_drew BK391.out); replace HB := aM (below_drew1 HB.out); obtain ⟨p394, q394, ad394, A394_1, c394_1, A394_2, c394_2, A394_3, c394_3, e394, hx394_0, hx394_1, hx394_2, hx394_3, hx394_4, hl394_1, hi394_1, hl394_2, hi394_2, hl394_3, hi394_3⟩ := aT (at_T41 HR0_2.out x6_3); have hw394_4 := hx394_4; have hw394_3 := hx394_3; have hw394_2 := hx394_2; have hw394_1 := hx394_1; have hw394_0 := hx394_0; cases e394
    try replace hx394_0 := kX HB.out hx394_0
    try replace hx394_1 := kX HB.out hx394_1
    try replace hx394_2 := kX HB.out hx394_2
    try replace hx394_3 := kX HB.out hx394_3
    try replace hx394_4 := kX HB.out hx394_4
    have HR394_1 := aM hi394_1; have HC394_1 := aM hl394_1; clear hi394_1 hl394_1; have HR394_2 := aM hi394_2; have HC394_2 := aM hl394_2; clear hi394_2 hl394_2; have HR394_3 := aM hi394_3; have HC394_3 := aM hl394_3; clear hi394_3 hl394_3; obtain ⟨p395, q395, ad395, A395_1, c395_1, A395_2, c395_2, A395_3, c395_3, e395, hx395_0, hx395_1, hx395_2, hx395_3, hx395_4, hl395_1, hi395_1, hl395_2, hi395_2, hl395_3, hi395_3⟩ := aT (at_T41 HR1_2.out x6_3); have hw395_4 := hx395_4; have hw395_3 := hx395_3; have hw395_2 := hx395_2; have hw395_1 := hx395_1; have hw395_0 := hx395_0; cases e395
    try replace hx395_0 := kX HB.out hx395_0
    try replace hx395_1 := kX HB.out hx395_1
    try replace hx395_2 := kX HB.out hx395_2
    try replace hx395_3 := kX HB.out hx395_3
    try replace hx395_4 := kX HB.out hx395_4
    have HR395_1 := aM hi395_1; have HC395_1 := aM hl395_1; clear hi395_1 hl395_1; have HR395_2 := aM hi395_2; have HC395_2 := aM hl395_2; clear hi395_2 hl395_2; have HR395_3 := aM hi395_3; have HC395_3 := aM hl395_3; clear hi395_3 hl395_3
    refine start_ (n := 14) (S := fun w' => w'.cell? ⟨gb390, 0, none⟩ = some (.string a0_0) ∧ w'.cell? ⟨gb390, 1, none⟩ = some (.slice A0_1 l0_1.length c0_1) ∧ w'.cell? ⟨gb390, 2, none⟩ = some (.slice (some ad394) l0_2.length c0_2) ∧ w'.cell? ⟨gb391, 0, none⟩ = some (.string a1_0) ∧ w'.cell? ⟨gb391, 1, none⟩ = some (.slice A1_1 l1_1.length c1_1) ∧ w'.cell? ⟨gb391, 2, none⟩ = some (.slice (some ad395) l1_2.length c1_2) ∧ w'.cell? (ad394.add ((x6_3).toNat * 5)) = some (.string ((rd_T41 l0_2 x6_3).f0)) ∧ w'.cell? ⟨(ad394.add ((x6_3).toNat * 5)).block, (ad394.add ((x6_3).toNat * 5)).off + 1, none⟩ = some (.slice A394_1 ((rd_T41 l0_2 x6_3).f1).length c394_1) ∧ w'.cell? ⟨(ad394.add ((x6_3).toNat * 5)).block, (ad394.add ((x6_3).toNat * 5)).off + 2, none⟩ = some (.slice A394_2 ((rd_T41 l0_2 x6_3).f2).length c394_2) ∧ w'.cell? ⟨(ad394.add ((x6_3).toNat * 5)).block, (ad394.add ((x6_3).toNat * 5)).off + 3, none⟩ = some (.slice A394_3 ((rd_T41 l0_2 x6_3).f3).length c394_3) ∧ w'.cell? ⟨(ad394.add ((x6_3).toNat * 5)).block, (ad394.add ((x6_3).toNat * 5)).off + 4, none⟩ = some (.int .i64 ((rd_T41 l0_2 x6_3).f4)) ∧ w'.cell? (ad395.add ((x6_3).toNat * 5)) = some (.string ((rd_T41 l1_2 x6_3).f0)) ∧ w'.cell? ⟨(ad395.add ((x6_3).toNat * 5)).block, (ad395.add ((x6_3).toNat * 5)).off + 1, none⟩ = some (.slice A395_1 ((rd_T41 l1_2 x6_3).f1).length c395_1) ∧ w'.cell? ⟨(ad395.add ((x6_3).toNat * 5)).block, (ad395.add ((x6_3).toNat * 5)).off + 2, none⟩ = some (.slice A395_2 ((rd_T41 l1_2 x6_3).f2).length c395_2) ∧ w'.cell? ⟨(ad395.add ((x6_3).toNat * 5)).block, (ad395.add ((x6_3).toNat * 5)).off + 3, none⟩ = some (.slice A395_3 ((rd_T41 l1_2 x6_3).f3).length c395_3) ∧ w'.cell? ⟨(ad395.add ((x6_3).toNat * 5)).block, (ad395.add ((x6_3).toNat * 5)).off + 4, none⟩ = some (.int .i64 ((rd_T41 l1_2 x6_3).f4))) (ds := []) #[false, false, false, false, false, false, false, false, false, false, false, false, false, false] (by kernel_rfl) rfl rfl ⟨(blk_cell BK390.out 0).trans rfl, (blk_cell BK390.out 1).trans rfl, (blk_cell BK390.out 2).trans rfl, (blk_cell BK391.out 0).trans rfl, (blk_cell BK391.out 1).trans rfl, (blk_cell BK391.out 2).trans rfl, ((HB.out.cell (World.block_lt_of_cell? w _ hw394_0)).trans hw394_0), ((HB.out.cell (World.block_lt_of_cell? w _ hw394_1)).trans hw394_1), ((HB.out.cell (World.block_lt_of_cell? w _ hw394_2)).trans hw394_2), ((HB.out.cell (World.block_lt_of_cell? w _ hw394_3)).trans hw394_3), ((HB.out.cell (World.block_lt_of_cell? w _ hw394_4)).trans hw394_4), ((HB.out.cell (World.block_lt_of_cell? w _ hw395_0)).trans hw395_0), ((HB.out.cell (World.block_lt_of_cell? w _ hw395_1)).trans hw395_1), ((HB.out.cell (World.block_lt_of_cell? w _ hw395_2)).trans hw395_2), ((HB.out.cell (World.block_lt_of_cell? w _ hw395_3)).trans hw395_3), ((HB.out.cell (World.block_lt_of_cell? w _ hw395_4)).trans hw395_4)⟩ (fun hHeld => ?_); refine with_tabW r09_Equal.tab11 r09_Equal.bits11 (fun HT_ HW_ => ?_)
    generalize wr.drew = w40 at BK390 BK391 HB HR394_1 HR394_2 HR394_3 HR395_1 HR395_2 HR395_3 hx394_0 hx394_1 hx394_2 hx394_3 hx394_4 hx395_0 hx395_1 hx395_2 hx395_3 hx395_4 hHeld ⊢
    refine pU 0 57 (any_of HT_.out (by kernel_rfl)) ?_
    refine pU 2 59 (any_of HT_.out (by kernel_rfl)) ?_
    refine pU 5 62 (any_of HT_.out (by kernel_rfl)) ?_
    refine pU 7 64 (any_of HT_.out (by kernel_rfl)) ?_
    refine tU 1 58 (take_ofW HT_.out HW_.out (by kernel_rfl)) hHeld ?_
    refine pU 3 60 (any_of HT_.out (by kernel_rfl)) ?_
    refine tU 4 61 (take_ofW HT_.out HW_.out (by kernel_rfl)) hHeld ?_
    refine tU 6 63 (take_ofW HT_.out HW_.out (by kernel_rfl)) hHeld ?_
    refine pU 8 65 (any_of HT_.out (by kernel_rfl)) ?_
    refine tU 9 66 (take_ofW HT_.out HW_.out (by kernel_rfl)) hHeld ?_
    refine join_ (σ := Nat × Nat) 2 #[true, true, true, true, true, true, true, true, true, true, true, true, false, false] (fun s_ => [(7, .pointer (some ⟨s_.1, 0, none⟩)), (8, .pointer (some ⟨s_.2, 0, none⟩))]) (fun s_ w' => (w'.cell? ⟨gb390, 0, none⟩ = some (.string a0_0) ∧ w'.cell? ⟨gb390, 1, none⟩ = some (.slice A0_1 l0_1.length c0_1) ∧ w'.cell? ⟨gb390, 2, none⟩ = some (.slice (some ad394) l0_2.length c0_2) ∧ w'.cell? ⟨gb391, 0, none⟩ = some (.string a1_0) ∧ w'.cell? ⟨gb391, 1, none⟩ = some (.slice A1_1 l1_1.length c1_1) ∧ w'.cell? ⟨gb391, 2, none⟩ = some (.slice (some ad395) l1_2.length c1_2) ∧ w'.cell? (ad394.add ((x6_3).toNat * 5)) = some (.string ((rd_T41 l0_2 x6_3).f0)) ∧ w'.cell? ⟨(ad394.add ((x6_3).toNat * 5)).block, (ad394.add ((x6_3).toNat * 5)).off + 1, none⟩ = some (.slice A394_1 ((rd_T41 l0_2 x6_3).f1).length c394_1) ∧ w'.cell? ⟨(ad394.add ((x6_3).toNat * 5)).block, (ad394.add ((x6_3).toNat * 5)).off + 2, none⟩ = some (.slice A394_2 ((rd_T41 l0_2 x6_3).f2).length c394_2) ∧ w'.cell? ⟨(ad394.add ((x6_3).toNat * 5)).block, (ad394.add ((x6_3).toNat * 5)).off + 3, none⟩ = some (.slice A394_3 ((rd_T41 l0_2 x6_3).f3).length c394_3) ∧ w'.cell? ⟨(ad394.add ((x6_3).toNat * 5)).block, (ad394.add ((x6_3).toNat * 5)).off + 4, none⟩ = some (.int .i64 ((rd_T41 l0_2 x6_3).f4)) ∧ w'.cell? (ad395.add ((x6_3).toNat * 5)) = some (.string ((rd_T41 l1_2 x6_3).f0)) ∧ w'.cell? ⟨(ad395.add ((x6_3).toNat * 5)).block, (ad395.add ((x6_3).toNat * 5)).off + 1, none⟩ = some (.slice A395_1 ((rd_T41 l1_2 x6_3).f1).length c395_1) ∧ w'.cell? ⟨(ad395.add ((x6_3).toNat * 5)).block, (ad395.add ((x6_3).toNat * 5)).off + 2, none⟩ = some (.slice A395_2 ((rd_T41 l1_2 x6_3).f2).length c395_2) ∧ w'.cell? ⟨(ad395.add ((x6_3).toNat * 5)).block, (ad395.add ((x6_3).toNat * 5)).off + 3, none⟩ = some (.slice A395_3 ((rd_T41 l1_2 x6_3).f3).length c395_3) ∧ w'.cell? ⟨(ad395.add ((x6_3).toNat * 5)).block, (ad395.add ((x6_3).toNat * 5)).off + 4, none⟩ = some (.int .i64 ((rd_T41 l1_2 x6_3).f4))) ∧ (w'.heap[gb390]? = some (.cells #[.string a0_0, .slice A0_1 l0_1.length c0_1, .slice (some ad394) l0_2.length c0_2] 28 (0, 0))) ∧ (w'.heap[gb391]? = some (.cells #[.string a1_0, .slice A1_1 l1_1.length c1_1, .slice (some ad395) l1_2.length c1_2] 28 (0, 0))) ∧ (w'.heap[s_.1]? = some (.cells #[.string (⟨#[]⟩ : ByteArray), .slice none 0 0, .slice none 0 0, .slice none 0 0, .int .i64 0] 41 (0, 0))) ∧ (w'.heap[s_.2]? = some (.cells #[.string (⟨#[]⟩ : ByteArray), .slice none 0 0, .slice none 0 0, .slice none 0 0, .int .i64 0] 41 (0, 0))) ∧ (w.heap.size ≤ s_.1) ∧ (w.heap.size ≤ s_.1) ∧ (gb390 ≠ s_.1) ∧ (s_.1 ≠ gb390) ∧ (gb391 ≠ s_.1) ∧ (s_.1 ≠ gb391) ∧ (s_.2 ≠ s_.1) ∧ (s_.1 ≠ s_.2) ∧ (w.heap.size ≤ s_.2) ∧ (w.heap.size ≤ s_.2) ∧ (gb390 ≠ s_.2) ∧ (s_.2 ≠ gb390) ∧ (gb391 ≠ s_.2) ∧ (s_.2 ≠ gb391) ∧ (Below w.heap.size w w')) ?_ ?_
    rotate_left
    ·
     intro hCont
     refine two_ (i := 10) (j := 11) (Ni := some 7) (Nj := some 8) #[true, true, true, true, true, true, true, true, true, true, true, false, false, false] #[true, true, true, true, true, true, true, true, true, true, false, true, false, false] rfl rfl rfl rfl (two_of HT_.out (by kernel_rfl)) (by decide) (by decide) (fun K hK => ?_) (fun K hK => ?_)
     ·
      skip
      refine box_step ?hg (N := 7) ?hd (cs := #[.string (⟨#[]⟩ : ByteArray), .slice none 0 0, .slice none 0 0, .slice none 0 0, .int .i64 0]) (t := 41) ?hr ?_; (case hd => rfl); (case hg => rfl); (case hr => first | (go_simp; done) | (go_simp; rfl))
      intro gb396 hg w41 hbox hb
      have BK396 := aM (hbox); have GW396 := aM (gE hg (below_size (bB2 HB.out GE390.out GE391.out))); have GE396 := GW396; replace HB := aM (below_step (bB2 HB.out GE390.out GE391.out) hb); have NB390_396 := aM (gL hg (kL BK390.out)); have NB396_390 := aM (gG hg (kL BK390.out)); replace BK390 := aM (kW BK390.out hb); have NB391_396 := aM (gL hg (kL BK391.out)); have NB396_391 := aM (gG hg (kL BK391.out)); replace BK391 := aM (kW BK391.out hb); clear hb hbox hg
      refine hK.out _ _ ⟨(blk_cell BK390.out 0).trans rfl, (blk_cell BK390.out 1).trans rfl, (blk_cell BK390.out 2).trans rfl, (blk_cell BK391.out 0).trans rfl, (blk_cell BK391.out 1).trans rfl, (blk_cell BK391.out 2).trans rfl, ((HB.out.cell (World.block_lt_of_cell? w _ hw394_0)).trans hw394_0), ((HB.out.cell (World.block_lt_of_cell? w _ hw394_1)).trans hw394_1), ((HB.out.cell (World.block_lt_of_cell? w _ hw394_2)).trans hw394_2), ((HB.out.cell (World.block_lt_of_cell? w _ hw394_3)).trans hw394_3), ((HB.out.cell (World.block_lt_of_cell? w _ hw394_4)).trans hw394_4), ((HB.out.cell (World.block_lt_of_cell? w _ hw395_0)).trans hw395_0), ((HB.out.cell (World.block_lt_of_cell? w _ hw395_1)).trans hw395_1), ((HB.out.cell (World.block_lt_of_cell? w _ hw395_2)).trans hw395_2), ((HB.out.cell (World.block_lt_of_cell? w _ hw395_3)).trans hw395_3), ((HB.out.cell (World.block_lt_of_cell? w _ hw395_4)).trans hw395_4)⟩ (fun hHeld => ?_)
      clear hK K
      refine nU 7 ?_
      refine one_ (i := 11) (N := some 8) #[true, true, true, true, true, true, true, true, true, true, true, true, false, false] rfl rfl (one_of HT_.out (by kernel_rfl)) (by decide) (fun K hK => ?_)
      refine box_step ?hg (N := 8) ?hd (cs := #[.string (⟨#[]⟩ : ByteArray), .slice none 0 0, .slice none 0 0, .slice none 0 0, .int .i64 0]) (t := 41) ?hr ?_; (case hd => rfl); (case hg => rfl); (case hr => first | (go_simp; done) | (go_simp; rfl))
      intro gb397 hg w42 hbox hb
      have BK397 := aM (hbox); have GW397 := aM (gE hg (below_size (bB3 HB.out GE390.out GE391.out GE396.out))); have GE397 := GW397; replace HB := aM (below_step (bB3 HB.out GE390.out GE391.out GE396.out) hb); have NB390_397 := aM (gL hg (kL BK390.out)); have NB397_390 := aM (gG hg (kL BK390.out)); replace BK390 := aM (kW BK390.out hb); have NB391_397 := aM (gL hg (kL BK391.out)); have NB397_391 := aM (gG hg (kL BK391.out)); replace BK391 := aM (kW BK391.out hb); have NB396_397 := aM (gL hg (kL BK396.out)); have NB397_396 := aM (gG hg (kL BK396.out)); replace BK396 := aM (kW BK396.out hb); clear hb hbox hg
      refine hK.out _ _ ⟨(blk_cell BK390.out 0).trans rfl, (blk_cell BK390.out 1).trans rfl, (blk_cell BK390.out 2).trans rfl, (blk_cell BK391.out 0).trans rfl, (blk_cell BK391.out 1).trans rfl, (blk_cell BK391.out 2).trans rfl, ((HB.out.cell (World.block_lt_of_cell? w _ hw394_0)).trans hw394_0), ((HB.out.cell (World.block_lt_of_cell? w _ hw394_1)).trans hw394_1), ((HB.out.cell (World.block_lt_of_cell? w _ hw394_2)).trans hw394_2), ((HB.out.cell (World.block_lt_of_cell? w _ hw394_3)).trans hw394_3), ((HB.out.cell (World.block_lt_of_cell? w _ hw394_4)).trans hw394_4), ((HB.out.cell (World.block_lt_of_cell? w _ hw395_0)).trans hw395_0), ((HB.out.cell (World.block_lt_of_cell? w _ hw395_1)).trans hw395_1), ((HB.out.cell (World.block_lt_of_cell? w _ hw395_2)).trans hw395_2), ((HB.out.cell (World.block_lt_of_cell? w _ hw395_3)).trans hw395_3), ((HB.out.cell (World.block_lt_of_cell? w _ hw395_4)).trans hw395_4)⟩ (fun hHeld => ?_)
      clear hK K
      refine nU 8 ?_
      exact norm_ (by simp only [putAll, Act.put, List.setIfInBounds_toArray, List.set_cons_zero, List.set_cons_succ]) (hCont (gb396, gb397) _ ⟨hHeld, (kB BK390.out), (kB BK391.out), (kB BK396.out), (kB BK397.out), GW396.out, GE396.out, NB390_396.out, NB396_390.out, NB391_396.out, NB396_391.out, NB397_396.out, NB396_397.out, GW397.out, GE397.out, NB390_397.out, NB397_390.out, NB391_397.out, NB397_391.out, (bB4 HB.out GE390.out GE391.out GE396.out GE397.out)⟩)
     ·
      skip
      refine box_step ?hg (N := 8) ?hd (cs := #[.string (⟨#[]⟩ : ByteArray), .slice none 0 0, .slice none 0 0, .slice none 0 0, .int .i64 0]) (t := 41) ?hr ?_; (case hd => rfl); (case hg => rfl); (case hr => first | (go_simp; done) | (go_simp; rfl))
      intro gb397 hg w41 hbox hb
      have BK397 := aM (hbox); have GW397 := aM (gE hg (below_size (bB2 HB.out GE390.out GE391.out))); have GE397 := GW397; replace HB := aM (below_step (bB2 HB.out GE390.out GE391.out) hb); have NB390_397 := aM (gL hg (kL BK390.out)); have NB397_390 := aM (gG hg (kL BK390.out)); replace BK390 := aM (kW BK390.out hb); have NB391_397 := aM (gL hg (kL BK391.out)); have NB397_391 := aM (gG hg (kL BK391.out)); replace BK391 := aM (kW BK391.out hb); clear hb hbox hg
      refine hK.out _ _ ⟨(blk_cell BK390.out 0).trans rfl, (blk_cell BK390.out 1).trans rfl, (blk_cell BK390.out 2).trans rfl, (blk_cell BK391.out 0).trans rfl, (blk_cell BK391.out 1).trans rfl, (blk_cell BK391.out 2).trans rfl, ((HB.out.cell (World.block_lt_of_cell? w _ hw394_0)).trans hw394_0), ((HB.out.cell (World.block_lt_of_cell? w _ hw394_1)).trans hw394_1), ((HB.out.cell (World.block_lt_of_cell? w _ hw394_2)).trans hw394_2), ((HB.out.cell (World.block_lt_of_cell? w _ hw394_3)).trans hw394_3), ((HB.out.cell (World.block_lt_of_cell? w _ hw394_4)).trans hw394_4), ((HB.out.cell (World.block_lt_of_cell? w _ hw395_0)).trans hw395_0), ((HB.out.cell (World.block_lt_of_cell? w _ hw395_1)).trans hw395_1), ((HB.out.cell (World.block_lt_of_cell? w _ hw395_2)).trans hw395_2), ((HB.out.cell (World.block_lt_of_cell? w _ hw395_3)).trans hw395_3), ((HB.out.cell (World.block_lt_of_cell? w _ hw395_4)).trans hw395_4)⟩ (fun hHeld => ?_)
      clear hK K
      refine nU 8 ?_
      refine one_ (i := 10) (N := some 7) #[true, true, true, true, true, true, true, true, true, true, true, true, false, false] rfl rfl (one_of HT_.out (by kernel_rfl)) (by decide) (fun K hK => ?_)
      refine box_step ?hg (N := 7) ?hd (cs := #[.string (⟨#[]⟩ : ByteArray), .slice none 0 0, .slice none 0 0, .slice none 0 0, .int .i64 0]) (t := 41) ?hr ?_; (case hd => rfl); (case hg => rfl); (case hr => first | (go_simp; done) | (go_simp; rfl))
      intro gb396 hg w42 hbox hb
      have BK396 := aM (hbox); have GW396 := aM (gE hg (below_size (bB3 HB.out GE390.out GE391.out GE397.out))); have GE396 := GW396; replace HB := aM (below_step (bB3 HB.out GE390.out GE391.out GE397.out) hb); have NB390_396 := aM (gL hg (kL BK390.out)); have NB396_390 := aM (gG hg (kL BK390.out)); replace BK390 := aM (kW BK390.out hb); have NB391_396 := aM (gL hg (kL BK391.out)); have NB396_391 := aM (gG hg (kL BK391.out)); replace BK391 := aM (kW BK391.out hb); have NB397_396 := aM (gL hg (kL BK397.out)); have NB396_397 := aM (gG hg (kL BK397.out)); replace BK397 := aM (kW BK397.out hb); clear hb hbox hg
      refine hK.out _ _ ⟨(blk_cell BK390.out 0).trans rfl, (blk_cell BK390.out 1).trans rfl, (blk_cell BK390.out 2).trans rfl, (blk_cell BK391.out 0).trans rfl, (blk_cell BK391.out 1).trans rfl, (blk_cell BK391.out 2).trans rfl, ((HB.out.cell (World.block_lt_of_cell? w _ hw394_0)).trans hw394_0), ((HB.out.cell (World.block_lt_of_cell? w _ hw394_1)).trans hw394_1), ((HB.out.cell (World.block_lt_of_cell? w _ hw394_2)).trans hw394_2), ((HB.out.cell (World.block_lt_of_cell? w _ hw394_3)).trans hw394_3), ((HB.out.cell (World.block_lt_of_cell? w _ hw394_4)).trans hw394_4), ((HB.out.cell (World.block_lt_of_cell? w _ hw395_0)).trans hw395_0), ((HB.out.cell (World.block_lt_of_cell? w _ hw395_1)).trans hw395_1), ((HB.out.cell (World.block_lt_of_cell? w _ hw395_2)).trans hw395_2), ((HB.out.cell (World.block_lt_of_cell? w _ hw395_3)).trans hw395_3), ((HB.out.cell (World.block_lt_of_cell? w _ hw395_4)).trans hw395_4)⟩ (fun hHeld => ?_)
      clear hK K
      refine nU 7 ?_
      exact norm_ (by simp only [putAll, Act.put, List.setIfInBounds_toArray, List.set_cons_zero, List.set_cons_succ]) (hCont (gb396, gb397) _ ⟨hHeld, (kB BK390.out), (kB BK391.out), (kB BK396.out), (kB BK397.out), GW396.out, GE396.out, NB390_396.out, NB396_390.out, NB391_396.out, NB396_391.out, NB397_396.out, NB396_397.out, GW397.out, GE397.out, NB390_397.out, NB397_390.out, NB391_397.out, NB397_391.out, (bB4 HB.out GE390.out GE391.out GE397.out GE396.out)⟩)
    rintro ⟨gb396, gb397⟩ w43 ⟨hS_, h0_, h1_, h2_, h3_, h4_, h5_, h6_, h7_, h8_, h9_, h10_, h11_, h12_, h13_, h14_, h15_, h16_, h17_, h18_⟩
    have n0_ : Aside0 (w43.heap[gb390]? = some (.cells #[.string a0_0, .slice A0_1 l0_1.length c0_1, .slice (some ad394) l0_2.length c0_2] 28 (0, 0))) := ⟨h0_⟩; have n1_ : Aside0 (w43.heap[gb391]? = some (.cells #[.string a1_0, .slice A1_1 l1_1.length c1_1, .slice (some ad395) l1_2.length c1_2] 28 (0, 0))) := ⟨h1_⟩
    have n2_ : Aside0 (w43.heap[gb396]? = some (.cells #[.string (⟨#[]⟩ : ByteArray), .slice none 0 0, .slice none 0 0, .slice none 0 0, .int .i64 0] 41 (0, 0))) := ⟨h2_⟩
    have n3_ : Aside0 (w43.heap[gb397]? = some (.cells #[.string (⟨#[]⟩ : ByteArray), .slice none 0 0, .slice none 0 0, .slice none 0 0, .int .i64 0] 41 (0, 0))) := ⟨h3_⟩
    have n4_ : Aside0 (w.heap.size ≤ gb396) := ⟨h4_⟩; have n5_ : Aside0 (w.heap.size ≤ gb396) := ⟨h5_⟩; have n6_ : Aside0 (gb390 ≠ gb396) := ⟨h6_⟩; have n7_ : Aside0 (gb396 ≠ gb390) := ⟨h7_⟩; have n8_ : Aside0 (gb391 ≠ gb396) := ⟨h8_⟩; have n9_ : Aside0 (gb396 ≠ gb391) := ⟨h9_⟩; have n10_ : Aside0 (gb397 ≠ gb396) := ⟨h10_⟩; have n11_ : Aside0 (gb396 ≠ gb397) := ⟨h11_⟩; have n12_ : Aside0 (w.heap.size ≤ gb397) := ⟨h12_⟩; have n13_ : Aside0 (w.heap.size ≤ gb397) := ⟨h13_⟩; have n14_ : Aside0 (gb390 ≠ gb397) := ⟨h14_⟩; have n15_ : Aside0 (gb397 ≠ gb390) := ⟨h15_⟩; have n16_ : Aside0 (gb391 ≠ gb397) := ⟨h16_⟩; have n17_ : Aside0 (gb397 ≠ gb391) := ⟨h17_⟩; have n18_ : Aside0 (Below w.heap.size w w43) := ⟨h18_⟩; clear BK390; clear BK391; clear HB; clear h0_ h1_ h2_ h3_ h4_ h5_ h6_ h7_ h8_ h9_ h10_ h11_ h12_ h13_ h14_ h15_ h16_ h17_ h18_; have BK390 := n0_; have BK391 := n1_; have BK396 := n2_; have BK397 := n3_; have GW396 := n4_; have GE396 := n5_; have NB390_396 := n6_; have NB396_390 := n7_; have NB391_396 := n8_; have NB396_391 := n9_; have NB397_396 := n10_; have NB396_397 := n11_; have GW397 := n12_; have GE397 := n13_; have NB390_397 := n14_; have NB397_390 := n15_; have NB391_397 := n16_; have NB397_391 := n17_; have HB := n18_; clear n0_ n1_ n2_ n3_ n4_ n5_ n6_ n7_ n8_ n9_ n10_ n11_ n12_ n13_ n14_ n15_ n16_ n17_ n18_
    have hHeld : w43.cell? ⟨gb390, 0, none⟩ = some (.string a0_0) ∧ w43.cell? ⟨gb390, 1, none⟩ = some (.slice A0_1 l0_1.length c0_1) ∧ w43.cell? ⟨gb390, 2, none⟩ = some (.slice (some ad394) l0_2.length c0_2) ∧ w43.cell? ⟨gb391, 0, none⟩ = some (.string a1_0) ∧ w43.cell? ⟨gb391, 1, none⟩ = some (.slice A1_1 l1_1.length c1_1) ∧ w43.cell? ⟨gb391, 2, none⟩ = some (.slice (some ad395) l1_2.length c1_2) ∧ w43.cell? (ad394.add ((x6_3).toNat * 5)) = some (.string ((rd_T41 l0_2 x6_3).f0)) ∧ w43.cell? ⟨(ad394.add ((x6_3).toNat * 5)).block, (ad394.add ((x6_3).toNat * 5)).off + 1, none⟩ = some (.slice A394_1 ((rd_T41 l0_2 x6_3).f1).length c394_1) ∧ w43.cell? ⟨(ad394.add ((x6_3).toNat * 5)).block, (ad394.add ((x6_3).toNat * 5)).off + 2, none⟩ = some (.slice A394_2 ((rd_T41 l0_2 x6_3).f2).length c394_2) ∧ w43.cell? ⟨(ad394.add ((x6_3).toNat * 5)).block, (ad394.add ((x6_3).toNat * 5)).off + 3, none⟩ = some (.slice A394_3 ((rd_T41 l0_2 x6_3).f3).length c394_3) ∧ w43.cell? ⟨(ad394.add ((x6_3).toNat * 5)).block, (ad394.add ((x6_3).toNat * 5)).off + 4, none⟩ = some (.int .i64 ((rd_T41 l0_2 x6_3).f4)) ∧ w43.cell? (ad395.add ((x6_3).toNat * 5)) = some (.string ((rd_T41 l1_2 x6_3).f0)) ∧ w43.cell? ⟨(ad395.add ((x6_3).toNat * 5)).block, (ad395.add ((x6_3).toNat * 5)).off + 1, none⟩ = some (.slice A395_1 ((rd_T41 l1_2 x6_3).f1).length c395_1) ∧ w43.cell? ⟨(ad395.add ((x6_3).toNat * 5)).block, (ad395.add ((x6_3).toNat * 5)).off + 2, none⟩ = some (.slice A395_2 ((rd_T41 l1_2 x6_3).f2).length c395_2) ∧ w43.cell? ⟨(ad395.add ((x6_3).toNat * 5)).block, (ad395.add ((x6_3).toNat * 5)).off + 3, none⟩ = some (.slice A395_3 ((rd_T41 l1_2 x6_3).f3).length c395_3) ∧ w43.cell? ⟨(ad395.add ((x6_3).toNat * 5)).block, (ad395.add ((x6_3).toNat * 5)).off + 4, none⟩ = some (.int .i64 ((rd_T41 l1_2 x6_3).f4)) := hS_
    refine norm_ (a' := ?_) ?_ ?_
    rotate_left
    ·
     simp only [putAll, Act.put, List.setIfInBounds_toArray, List.set_cons_zero, List.set_cons_succ]
     rfl
    refine one_ (i := 12) (N := none) #[true, true, true, true, true, true, true, true, true, true, true, true, true, false] rfl rfl (one_of HT_.out (by kernel_rfl)) (by decide) (fun K hK => ?_)
    have hs44 : w43.cell? ⟨gb396, 0, none⟩ = some (.string (⟨#[]⟩ : ByteArray)) := (blk_cell BK396.out 0).trans rfl
    have hfs44 := blk_frozen BK396.out 0; have hns44_0 := NB390_396.out; have hns44_1 := NB391_396.out; have hns44_3 := NB397_396.out; have hms44_0 := NB396_390.out; have hms44_1 := NB396_391.out; have hms44_3 := NB396_397.out
    have hs45 : w43.cell? ⟨gb396, 1, none⟩ = some (.slice none 0 0) := (blk_cell BK396.out 1).trans rfl
    have hfs45 := blk_frozen BK396.out 1; have hns45_0 := NB390_396.out; have hns45_1 := NB391_396.out; have hns45_3 := NB397_396.out; have hms45_0 := NB396_390.out; have hms45_1 := NB396_391.out; have hms45_3 := NB396_397.out
    have hs46 : w43.cell? ⟨gb396, 2, none⟩ = some (.slice none 0 0) := (blk_cell BK396.out 2).trans rfl
    have hfs46 := blk_frozen BK396.out 2; have hns46_0 := NB390_396.out; have hns46_1 := NB391_396.out; have hns46_3 := NB397_396.out; have hms46_0 := NB396_390.out; have hms46_1 := NB396_391.out; have hms46_3 := NB396_397.out
    have hs47 : w43.cell? ⟨gb396, 3, none⟩ = some (.slice none 0 0) := (blk_cell BK396.out 3).trans rfl
    have hfs47 := blk_frozen BK396.out 3; have hns47_0 := NB390_396.out; have hns47_1 := NB391_396.out; have hns47_3 := NB397_396.out; have hms47_0 := NB396_390.out; have hms47_1 := NB396_391.out; have hms47_3 := NB396_397.out
    have hs48 : w43.cell? ⟨gb396, 4, none⟩ = some (.int .i64 0) := (blk_cell BK396.out 4).trans rfl
    have hfs48 := blk_frozen BK396.out 4; have hns48_0 := NB390_396.out; have hns48_1 := NB391_396.out; have hns48_3 := NB397_396.out; have hms48_0 := NB396_390.out; have hms48_1 := NB396_391.out; have hms48_3 := NB396_397.out
    refine skip_ (w1 := ?_) (by rfl) rfl ?_ ?_
    rotate_left
    ·
     go_simp
     rfl
    refine hK.out _ _ ⟨((cell_far (p := ⟨gb396, _, none⟩) NB390_396.out _).trans (((cell_far (p := ⟨gb396, _, none⟩) NB390_396.out _).trans (((cell_far (p := ⟨gb396, _, none⟩) NB390_396.out _).trans (((cell_far (p := ⟨gb396, _, none⟩) NB390_396.out _).trans (((cell_far (p := ⟨gb396, _, none⟩) NB390_396.out _).trans (hHeld.1)))))))))), ((cell_far (p := ⟨gb396, _, none⟩) NB390_396.out _).trans (((cell_far (p := ⟨gb396, _, none⟩) NB390_396.out _).trans (((cell_far (p := ⟨gb396, _, none⟩) NB390_396.out _).trans (((cell_far (p := ⟨gb396, _, none⟩) NB390_396.out _).trans (((cell_far (p := ⟨gb396, _, none⟩) NB390_396.out _).trans (hHeld.2.1)))))))))), ((cell_far (p := ⟨gb396, _, none⟩) NB390_396.out _).trans (((cell_far (p := ⟨gb396, _, none⟩) NB390_396.out _).trans (((cell_far (p := ⟨gb396, _, none⟩) NB390_396.out _).trans (((cell_far (p := ⟨gb396, _, none⟩) NB390_396.out _).trans (((cell_far (p := ⟨gb396, _, none⟩) NB390_396.out _).trans (hHeld.2.2.1)))))))))), ((cell_far (p := ⟨gb396, _, none⟩) NB391_396.out _).trans (((cell_far (p := ⟨gb396, _, none⟩) NB391_396.out _).trans (((cell_far (p := ⟨gb396, _, none⟩) NB391_396.out _).trans (((cell_far (p := ⟨gb396, _, none⟩) NB391_396.out _).trans (((cell_far (p := ⟨gb396, _, none⟩) NB391_396.out _).trans (hHeld.2.2.2.1)))))))))), ((cell_far (p := ⟨gb396, _, none⟩) NB391_396.out _).trans (((cell_far (p := ⟨gb396, _, none⟩) NB391_396.out _).trans (((cell_far (p := ⟨gb396, _, none⟩) NB391_396.out _).trans (((cell_far (p := ⟨gb396, _, none⟩) NB391_396.out _).trans (((cell_far (p := ⟨gb396, _, none⟩) NB391_396.out _).trans (hHeld.2.2.2.2.1)))))))))), ((cell_far (p := ⟨gb396, _, none⟩) NB391_396.out _).trans (((cell_far (p := ⟨gb396, _, none⟩) NB391_396.out _).trans (((cell_far (p := ⟨gb396, _, none⟩) NB391_396.out _).trans (((cell_far (p := ⟨gb396, _, none⟩) NB391_396.out _).trans (((cell_far (p := ⟨gb396, _, none⟩) NB391_396.out _).trans (hHeld.2.2.2.2.2.1)))))))))), ((cell_far (p := ⟨gb396, _, none⟩) (fA hw394_0 GW396.out) _).trans (((cell_far (p := ⟨gb396, _, none⟩) (fA hw394_0 GW396.out) _).trans (((cell_far (p := ⟨gb396, _, none⟩) (fA hw394_0 GW396.out) _).trans (((cell_far (p := ⟨gb396, _, none⟩) (fA hw394_0 GW396.out) _).trans (((cell_far (p := ⟨gb396, _, none⟩) (fA hw394_0 GW396.out) _).trans (hHeld.2.2.2.2.2.2.1)))))))))), ((cell_far (p := ⟨gb396, _, none⟩) (fA hw394_1 GW396.out) _).trans (((cell_far (p := ⟨gb396, _, none⟩) (fA hw394_1 GW396.out) _).trans (((cell_far (p := ⟨gb396, _, none⟩) (fA hw394_1 GW396.out) _).trans (((cell_far (p := ⟨gb396, _, none⟩) (fA hw394_1 GW396.out) _).trans (((cell_far (p := ⟨gb396, _, none⟩) (fA hw394_1 GW396.out) _).trans (hHeld.2.2.2.2.2.2.2.1)))))))))), ((cell_far (p := ⟨gb396, _, none⟩) (fA hw394_2 GW396.out) _).trans (((cell_far (p := ⟨gb396, _, none⟩) (fA hw394_2 GW396.out) _).trans (((cell_far (p := ⟨gb396, _, none⟩) (fA hw394_2 GW396.out) _).trans (((cell_far (p := ⟨gb396, _, none⟩) (fA hw394_2 GW396.out) _).trans (((cell_far (p := ⟨gb396, _, none⟩) (fA hw394_2 GW396.out) _).trans (hHeld.2.2.2.2.2.2.2.2.1)))))))))), ((cell_far (p := ⟨gb396, _, none⟩) (fA hw394_3 GW396.out) _).trans (((cell_far (p := ⟨gb396, _, none⟩) (fA hw394_3 GW396.out) _).trans (((cell_far (p := ⟨gb396, _, none⟩) (fA hw394_3 GW396.out) _).trans (((cell_far (p := ⟨gb396, _, none⟩) (fA hw394_3 GW396.out) _).trans (((cell_far (p := ⟨gb396, _, none⟩) (fA hw394_3 GW396.out) _).trans (hHeld.2.2.2.2.2.2.2.2.2.1)))))))))), ((cell_far (p := ⟨gb396, _, none⟩) (fA hw394_4 GW396.out) _).trans (((cell_far (p := ⟨gb396, _, none⟩) (fA hw394_4 GW396.out) _).trans (((cell_far (p := ⟨gb396, _, none⟩) (fA hw394_4 GW396.out) _).trans (((cell_far (p := ⟨gb396, _, none⟩) (fA hw394_4 GW396.out) _).trans (((cell_far (p := ⟨gb396, _, none⟩) (fA hw394_4 GW396.out) _).trans (hHeld.2.2.2.2.2.2.2.2.2.2.1)))))))))), ((cell_far (p := ⟨gb396, _, none⟩) (fA hw395_0 GW396.out) _).trans (((cell_far (p := ⟨gb396, _, none⟩) (fA hw395_0 GW396.out) _).trans (((cell_far (p := ⟨gb396, _, none⟩) (fA hw395_0 GW396.out) _).trans (((cell_far (p := ⟨gb396, _, none⟩) (fA hw395_0 GW396.out) _).trans (((cell_far (p := ⟨gb396, _, none⟩) (fA hw395_0 GW396.out) _).trans (hHeld.2.2.2.2.2.2.2.2.2.2.2.1)))))))))), ((cell_far (p := ⟨gb396, _, none⟩) (fA hw395_1 GW396.out) _).trans (((cell_far (p := ⟨gb396, _, none⟩) (fA hw395_1 GW396.out) _).trans (((cell_far (p := ⟨gb396, _, none⟩) (fA hw395_1 GW396.out) _).trans (((cell_far (p := ⟨gb396, _, none⟩) (fA hw395_1 GW396.out) _).trans (((cell_far (p := ⟨gb396, _, none⟩) (fA hw395_1 GW396.out) _).trans (hHeld.2.2.2.2.2.2.2.2.2.2.2.2.1)))))))))), ((cell_far (p := ⟨gb396, _, none⟩) (fA hw395_2 GW396.out) _).trans (((cell_far (p := ⟨gb396, _, none⟩) (fA hw395_2 GW396.out) _).trans (((cell_far (p := ⟨gb396, _, none⟩) (fA hw395_2 GW396.out) _).trans (((cell_far (p := ⟨gb396, _, none⟩) (fA hw395_2 GW396.out) _).trans (((cell_far (p := ⟨gb396, _, none⟩) (fA hw395_2 GW396.out) _).trans (hHeld.2.2.2.2.2.2.2.2.2.2.2.2.2.1)))))))))), ((cell_far (p := ⟨gb396, _, none⟩) (fA hw395_3 GW396.out) _).trans (((cell_far (p := ⟨gb396, _, none⟩) (fA hw395_3 GW396.out) _).trans (((cell_far (p := ⟨gb396, _, none⟩) (fA hw395_3 GW396.out) _).trans (((cell_far (p := ⟨gb396, _, none⟩) (fA hw395_3 GW396.out) _).trans (((cell_far (p := ⟨gb396, _, none⟩) (fA hw395_3 GW396.out) _).trans (hHeld.2.2.2.2.2.2.2.2.2.2.2.2.2.2.1)))))))))), ((cell_far (p := ⟨gb396, _, none⟩) (fA hw395_4 GW396.out) _).trans (((cell_far (p := ⟨gb396, _, none⟩) (fA hw395_4 GW396.out) _).trans (((cell_far (p := ⟨gb396, _, none⟩) (fA hw395_4 GW396.out) _).trans (((cell_far (p := ⟨gb396, _, none⟩) (fA hw395_4 GW396.out) _).trans (((cell_far (p := ⟨gb396, _, none⟩) (fA hw395_4 GW396.out) _).trans (hHeld.2.2.2.2.2.2.2.2.2.2.2.2.2.2.2))))))))))⟩ (fun hHeld => ?_)
    clear hK K
    refine one_ (i := 13) (N := none) #[true, true, true, true, true, true, true, true, true, true, true, true, true, true] rfl rfl (one_of HT_.out (by kernel_rfl)) (by decide) (fun K hK => ?_)
    have hs49 : w43.cell? ⟨gb397, 0, none⟩ = some (.string (⟨#[]⟩ : ByteArray)) := (blk_cell BK397.out 0).trans rfl
    have hfs49 := blk_frozen BK397.out 0; have hns49_0 := NB390_397.out; have hns49_1 := NB391_397.out; have hns49_2 := NB396_397.out; have hms49_0 := NB397_390.out; have hms49_1 := NB397_391.out; have hms49_2 := NB397_396.out
    have hs50 : w43.cell? ⟨gb397, 1, none⟩ = some (.slice none 0 0) := (blk_cell BK397.out 1).trans rfl
    have hfs50 := blk_frozen BK397.out 1; have hns50_0 := NB390_397.out; have hns50_1 := NB391_397.out; have hns50_2 := NB396_397.out; have hms50_0 := NB397_390.out; have hms50_1 := NB397_391.out; have hms50_2 := NB397_396.out
    have hs51 : w43.cell? ⟨gb397, 2, none⟩ = some (.slice none 0 0) := (blk_cell BK397.out 2).trans rfl
    have hfs51 := blk_frozen BK397.out 2; have hns51_0 := NB390_397.out; have hns51_1 := NB391_397.out; have hns51_2 := NB396_397.out; have hms51_0 := NB397_390.out; have hms51_1 := NB397_391.out; have hms51_2 := NB397_396.out
    have hs52 : w43.cell? ⟨gb397, 3, none⟩ = some (.slice none 0 0) := (blk_cell BK397.out 3).trans rfl
    have hfs52 := blk_frozen BK397.out 3; have hns52_0 := NB390_397.out; have hns52_1 := NB391_397.out; have hns52_2 := NB396_397.out; have hms52_0 := NB397_390.out; have hms52_1 := NB397_391.out; have hms52_2 := NB397_396.out
    have hs53 : w43.cell? ⟨gb397, 4, none⟩ = some (.int .i64 0) := (blk_cell BK397.out 4).trans rfl
    have hfs53 := blk_frozen BK397.out 4; have hns53_0 := NB390_397.out; have hns53_1 := NB391_397.out; have hns53_2 := NB396_397.out; have hms53_0 := NB397_390.out; have hms53_1 := NB397_391.out; have hms53_2 := NB397_396.out
    refine skip_ (w1 := ?_) (by rfl) rfl ?_ ?_
    rotate_left
    ·
     go_simp
     rfl
    refine hK.out _ _ ⟨((cell_far (p := ⟨gb397, _, none⟩) NB390_397.out _).trans (((cell_far (p := ⟨gb397, _, none⟩) NB390_397.out _).trans (((cell_far (p := ⟨gb397, _, none⟩) NB390_397.out _).trans (((cell_far (p := ⟨gb397, _, none⟩) NB390_397.out _).trans (((cell_far (p := ⟨gb397, _, none⟩) NB390_397.out _).trans (hHeld.1)))))))))), ((cell_far (p := ⟨gb397, _, none⟩) NB390_397.out _).trans (((cell_far (p := ⟨gb397, _, none⟩) NB390_397.out _).trans (((cell_far (p := ⟨gb397, _, none⟩) NB390_397.out _).trans (((cell_far (p := ⟨gb397, _, none⟩) NB390_397.out _).trans (((cell_far (p := ⟨gb397, _, none⟩) NB390_397.out _).trans (hHeld.2.1)))))))))), ((cell_far (p := ⟨gb397, _, none⟩) NB390_397.out _).trans (((cell_far (p := ⟨gb397, _, none⟩) NB390_397.out _).trans (((cell_far (p := ⟨gb397, _, none⟩) NB390_397.out _).trans (((cell_far (p := ⟨gb397, _, none⟩) NB390_397.out _).trans (((cell_far (p := ⟨gb397, _, none⟩) NB390_397.out _).trans (hHeld.2.2.1)))))))))), ((cell_far (p := ⟨gb397, _, none⟩) NB391_397.out _).trans (((cell_far (p := ⟨gb397, _, none⟩) NB391_397.out _).trans (((cell_far (p := ⟨gb397, _, none⟩) NB391_397.out _).trans (((cell_far (p := ⟨gb397, _, none⟩) NB391_397.out _).trans (((cell_far (p := ⟨gb397, _, none⟩) NB391_397.out _).trans (hHeld.2.2.2.1)))))))))), ((cell_far (p := ⟨gb397, _, none⟩) NB391_397.out _).trans (((cell_far (p := ⟨gb397, _, none⟩) NB391_397.out _).trans (((cell_far (p := ⟨gb397, _, none⟩) NB391_397.out _).trans (((cell_far (p := ⟨gb397, _, none⟩) NB391_397.out _).trans (((cell_far (p := ⟨gb397, _, none⟩) NB391_397.out _).trans (hHeld.2.2.2.2.1)))))))))), ((cell_far (p := ⟨gb397, _, none⟩) NB391_397.out _).trans (((cell_far (p := ⟨gb397, _, none⟩) NB391_397.out _).trans (((cell_far (p := ⟨gb397, _, none⟩) NB391_397.out _).trans (((cell_far (p := ⟨gb397, _, none⟩) NB391_397.out _).trans (((cell_far (p := ⟨gb397, _, none⟩) NB391_397.out _).trans (hHeld.2.2.2.2.2.1)))))))))), ((cell_far (p := ⟨gb397, _, none⟩) (fA hw394_0 GW397.out) _).trans (((cell_far (p := ⟨gb397, _, none⟩) (fA hw394_0 GW397.out) _).trans (((cell_far (p := ⟨gb397, _, none⟩) (fA hw394_0 GW397.out) _).trans (((cell_far (p := ⟨gb397, _, none⟩) (fA hw394_0 GW397.out) _).trans (((cell_far (p := ⟨gb397, _, none⟩) (fA hw394_0 GW397.out) _).trans (hHeld.2.2.2.2.2.2.1)))))))))), ((cell_far (p := ⟨gb397, _, none⟩) (fA hw394_1 GW397.out) _).trans (((cell_far (p := ⟨gb397, _, none⟩) (fA hw394_1 GW397.out) _).trans (((cell_far (p := ⟨gb397, _, none⟩) (fA hw394_1 GW397.out) _).trans (((cell_far (p := ⟨gb397, _, none⟩) (fA hw394_1 GW397.out) _).trans (((cell_far (p := ⟨gb397, _, none⟩) (fA hw394_1 GW397.out) _).trans (hHeld.2.2.2.2.2.2.2.1)))))))))), ((cell_far (p := ⟨gb397, _, none⟩) (fA hw394_2 GW397.out) _).trans (((cell_far (p := ⟨gb397, _, none⟩) (fA hw394_2 GW397.out) _).trans (((cell_far (p := ⟨gb397, _, none⟩) (fA hw394_2 GW397.out) _).trans (((cell_far (p := ⟨gb397, _, none⟩) (fA hw394_2 GW397.out) _).trans (((cell_far (p := ⟨gb397, _, none⟩) (fA hw394_2 GW397.out) _).trans (hHeld.2.2.2.2.2.2.2.2.1)))))))))), ((cell_far (p := ⟨gb397, _, none⟩) (fA hw394_3 GW397.out) _).trans (((cell_far (p := ⟨gb397, _, none⟩) (fA hw394_3 GW397.out) _).trans (((cell_far (p := ⟨gb397, _, none⟩) (fA hw394_3 GW397.out) _).trans (((cell_far (p := ⟨gb397, _, none⟩) (fA hw394_3 GW397.out) _).trans (((cell_far (p := ⟨gb397, _, none⟩) (fA hw394_3 GW397.out) _).trans (hHeld.2.2.2.2.2.2.2.2.2.1)))))))))), ((cell_far (p := ⟨gb397, _, none⟩) (fA hw394_4 GW397.out) _).trans (((cell_far (p := ⟨gb397, _, none⟩) (fA hw394_4 GW397.out) _).trans (((cell_far (p := ⟨gb397, _, none⟩) (fA hw394_4 GW397.out) _).trans (((cell_far (p := ⟨gb397, _, none⟩) (fA hw394_4 GW397.out) _).trans (((cell_far (p := ⟨gb397, _, none⟩) (fA hw394_4 GW397.out) _).trans (hHeld.2.2.2.2.2.2.2.2.2.2.1)))))))))), ((cell_far (p := ⟨gb397, _, none⟩) (fA hw395_0 GW397.out) _).trans (((cell_far (p := ⟨gb397, _, none⟩) (fA hw395_0 GW397.out) _).trans (((cell_far (p := ⟨gb397, _, none⟩) (fA hw395_0 GW397.out) _).trans (((cell_far (p := ⟨gb397, _, none⟩) (fA hw395_0 GW397.out) _).trans (((cell_far (p := ⟨gb397, _, none⟩) (fA hw395_0 GW397.out) _).trans (hHeld.2.2.2.2.2.2.2.2.2.2.2.1)))))))))), ((cell_far (p := ⟨gb397, _, none⟩) (fA hw395_1 GW397.out) _).trans (((cell_far (p := ⟨gb397, _, none⟩) (fA hw395_1 GW397.out) _).trans (((cell_far (p := ⟨gb397, _, none⟩) (fA hw395_1 GW397.out) _).trans (((cell_far (p := ⟨gb397, _, none⟩) (fA hw395_1 GW397.out) _).trans (((cell_far (p := ⟨gb397, _, none⟩) (fA hw395_1 GW397.out) _).trans (hHeld.2.2.2.2.2.2.2.2.2.2.2.2.1)))))))))), ((cell_far (p := ⟨gb397, _, none⟩) (fA hw395_2 GW397.out) _).trans (((cell_far (p := ⟨gb397, _, none⟩) (fA hw395_2 GW397.out) _).trans (((cell_far (p := ⟨gb397, _, none⟩) (fA hw395_2 GW397.out) _).trans (((cell_far (p := ⟨gb397, _, none⟩) (fA hw395_2 GW397.out) _).trans (((cell_far (p := ⟨gb397, _, none⟩) (fA hw395_2 GW397.out) _).trans (hHeld.2.2.2.2.2.2.2.2.2.2.2.2.2.1)))))))))), ((cell_far (p := ⟨gb397, _, none⟩) (fA hw395_3 GW397.out) _).trans (((cell_far (p := ⟨gb397, _, none⟩) (fA hw395_3 GW397.out) _).trans (((cell_far (p := ⟨gb397, _, none⟩) (fA hw395_3 GW397.out) _).trans (((cell_far (p := ⟨gb397, _, none⟩) (fA hw395_3 GW397.out) _).trans (((cell_far (p := ⟨gb397, _, none⟩) (fA hw395_3 GW397.out) _).trans (hHeld.2.2.2.2.2.2.2.2.2.2.2.2.2.2.1)))))))))), ((cell_far (p := ⟨gb397, _, none⟩) (fA hw395_4 GW397.out) _).trans (((cell_far (p := ⟨gb397, _, none⟩) (fA hw395_4 GW397.out) _).trans (((cell_far (p := ⟨gb397, _, none⟩) (fA hw395_4 GW397.out) _).trans (((cell_far (p := ⟨gb397, _, none⟩) (fA hw395_4 GW397.out) _).trans (((cell_far (p := ⟨gb397, _, none⟩) (fA hw395_4 GW397.out) _).trans (hHeld.2.2.2.2.2.2.2.2.2.2.2.2.2.2.2))))))))))⟩ (fun hHeld => ?_)
    clear hK K
    refine done_ (done_of HT_.out (by kernel_rfl)) ?_
    have hnb54 := NB396_390.out; have hnc54 := NB390_396.out; have hnb55 := NB396_391.out; have hnc55 := NB391_396.out; have hnb56 := NB396_397.out; have hnc56 := NB397_396.out
    have hcz57_0 := cz0 BK396.out
    have hcz57_1 := cz1 BK396.out
    have hcz57_2 := cz2 BK396.out
    have hcz57_3 := cz3 BK396.out
    have hcz57_4 := cz4 BK396.out
    have hfz57_0 := blk_frozen BK396.out 0; have hfz57_1 := blk_frozen BK396.out 1; have hfz57_2 := blk_frozen BK396.out 2; have hfz57_3 := blk_frozen BK396.out 3; have hfz57_4 := blk_frozen BK396.out 4; have hnb58 := NB397_390.out; have hnc58 := NB390_397.out; have hnb59 := NB397_391.out; have hnc59 := NB391_397.out
    have hcz60_0 := cz0 BK397.out
    have hcz60_1 := cz1 BK397.out
    have hcz60_2 := cz2 BK397.out
    have hcz60_3 := cz3 BK397.out
    have hcz60_4 := cz4 BK397.out
    have hfz60_0 := blk_frozen BK397.out 0; have hfz60_1 := blk_frozen BK397.out 1; have hfz60_2 := blk_frozen BK397.out 2; have hfz60_3 := blk_frozen BK397.out 3; have hfz60_4 := blk_frozen BK397.out 4
    try go_wp2_with (first | (go_at_call 35; (with_reducible refine (r09_SameArcs.calls k3 _ _ ((rd_T41 l0_2 x6_3).f1) _ _ ((rd_T41 l1_2 x6_3).f1) true _ ?side1 ?side2 ?side3 ?side4 A32.out).mono ?_); (case side1 => exact Kd.C_below HR394_1.out (bB4 HB.out GE390.out GE391.out GE396.out GE397.out)); (case side2 => exact HC394_1.out); (case side3 => exact Kd.C_below HR395_1.out (bB4 HB.out GE390.out GE391.out GE396.out GE397.out)); (case side4 => exact HC395_1.out); rintro e w' ⟨rfl, ⟨nd, rfl⟩⟩) | (go_at_call 35; (with_reducible refine (r09_SameArcs.calls k3 _ _ ((rd_T41 l0_2 x6_3).f2) _ _ ((rd_T41 l1_2 x6_3).f2) true _ ?side1 ?side2 ?side3 ?side4 A34.out).mono ?_); (case side1 => exact Kd.C_below HR394_2.out (bB4 HB.out GE390.out GE391.out GE396.out GE397.out)); (case side2 => exact HC394_2.out); (case side3 => exact Kd.C_below HR395_2.out (bB4 HB.out GE390.out GE391.out GE396.out GE397.out)); (case side4 => exact HC395_2.out); rintro e w' ⟨rfl, ⟨nd, rfl⟩⟩) | (go_at_call 35; (with_reducible refine (r09_SameArcs.calls k3 _ _ ((rd_T41 l0_2 x6_3).f3) _ _ ((rd_T41 l1_2 x6_3).f3) true _ ?side1 ?side2 ?side3 ?side4 A36.out).mono ?_); (case side1 => exact Kd.C_below HR394_3.out (bB4 HB.out GE390.out GE391.out GE396.out GE397.out)); (case side2 => exact HC394_3.out); (case side3 => exact Kd.C_below HR395_3.out (bB4 HB.out GE390.out GE391.out GE396.out GE397.out)); (case side4 => exact HC395_3.out); rintro e w' ⟨rfl, ⟨nd, rfl⟩⟩))
    go_roundg k3
    case measure => have := HJ2.out; have := HK2.out; have := HK3.out; omega
    case rel => exact ⟨(wrap64 (x6_3 + 1)), eT, H', ⟨by have := HJ2.out; have := HK2.out; have := HK3.out; omega⟩, ⟨by refine kR ?_; refine blk_far ?_ NB390_397.out _; refine kR ?_; refine blk_far ?_ NB390_397.out _; refine kR ?_; refine blk_far ?_ NB390_397.out _; refine kR ?_; refine blk_far ?_ NB390_397.out _; refine kR ?_; refine blk_far ?_ NB390_397.out _; refine kR ?_; refine blk_far ?_ NB390_396.out _; refine kR ?_; refine blk_far ?_ NB390_396.out _; refine kR ?_; refine blk_far ?_ NB390_396.out _; refine kR ?_; refine blk_far ?_ NB390_396.out _; refine kR ?_; refine blk_far ?_ NB390_396.out _; refine kR ?_; exact BK390.out⟩, ⟨by refine kR ?_; refine blk_far ?_ NB391_397.out _; refine kR ?_; refine blk_far ?_ NB391_397.out _; refine kR ?_; refine blk_far ?_ NB391_397.out _; refine kR ?_; refine blk_far ?_ NB391_397.out _; refine kR ?_; refine blk_far ?_ NB391_397.out _; refine kR ?_; refine blk_far ?_ NB391_396.out _; refine kR ?_; refine blk_far ?_ NB391_396.out _; refine kR ?_; refine blk_far ?_ NB391_396.out _; refine kR ?_; refine blk_far ?_ NB391_396.out _; refine kR ?_; refine blk_far ?_ NB391_396.out _; refine kR ?_; exact BK391.out⟩, ⟨bB4 HB.out GE390.out GE391.out GE396.out GE397.out⟩⟩


/-! ### r09_Name: function 54 -/
mutual
def r09_Name.j0 : Nat → ByteArray → Bool → Option (Bool)
 | 0, _, _ => none
 | k + 1, x0, x14 => if x14 = true then (some false) else (r09_Name.l0 k x0 0)
def r09_Name.l0 : Nat → ByteArray → Int → Option (Bool)
 | 0, _, _ => none
 | k + 1, x0, x3 => if x3 < (x0.size : Int) then (if 0 ≤ x3 then (if (bt x0 x3) ≥ 97 then (if (bt x0 x3) ≤ 122 then (if (bt x0 x3) ≥ 48 then (if (bt x0 x3) ≤ 57 then (r09_Name.l0 k x0 (wrap64 (x3 + 1))) else (r09_Name.l0 k x0 (wrap64 (x3 + 1)))) else (r09_Name.l0 k x0 (wrap64 (x3 + 1)))) else (if (bt x0 x3) ≥ 48 then (if (bt x0 x3) ≤ 57 then (if ((bt x0 x3) = 95) then (r09_Name.l0 k x0 (wrap64 (x3 + 1))) else (if x3 = 0 then (some false) else (r09_Name.l0 k x0 (wrap64 (x3 + 1))))) else (if ((bt x0 x3) = 95) then (r09_Name.l0 k x0 (wrap64 (x3 + 1))) else (if ((bt x0 x3) = 46) then (if x3 = 0 then (some false) else (r09_Name.l0 k x0 (wrap64 (x3 + 1)))) else (some false)))) else (if ((bt x0 x3) = 95) then (r09_Name.l0 k x0 (wrap64 (x3 + 1))) else (if ((bt x0 x3) = 46) then (if x3 = 0 then (some false) else (r09_Name.l0 k x0 (wrap64 (x3 + 1)))) else (some false))))) else (if (bt x0 x3) ≥ 48 then (if (bt x0 x3) ≤ 57 then (if ((bt x0 x3) = 95) then (r09_Name.l0 k x0 (wrap64 (x3 + 1))) else (if x3 = 0 then (some false) else (r09_Name.l0 k x0 (wrap64 (x3 + 1))))) else (if ((bt x0 x3) = 95) then (r09_Name.l0 k x0 (wrap64 (x3 + 1))) else (if ((bt x0 x3) = 46) then (if x3 = 0 then (some false) else (r09_Name.l0 k x0 (wrap64 (x3 + 1)))) else (some false)))) else (if ((bt x0 x3) = 95) then (r09_Name.l0 k x0 (wrap64 (x3 + 1))) else (if ((bt x0 x3) = 46) then (if x3 = 0 then (some false) else (r09_Name.l0 k x0 (wrap64 (x3 + 1)))) else (some false))))) else (none)) else (some true)
end
def r09_Name.f (k : Nat) (a0 : ByteArray) : Option (Bool) := if (a0.size : Int) < 1 then (r09_Name.j0 k a0 true) else (r09_Name.j0 k a0 (decide ((a0.size : Int) > 16)))
theorem r09_Name.mono_l : ∀ k, (∀ y0 y1, LeO (r09_Name.j0 k y0 y1) (r09_Name.j0 (k + 1) y0 y1)) ∧ (∀ y0 y1, LeO (r09_Name.l0 k y0 y1) (r09_Name.l0 (k + 1) y0 y1))
 | 0 => ⟨fun _ _ r h => by simp [r09_Name.j0] at h, fun _ _ r h => by simp [r09_Name.l0] at h⟩
 | k + 1 => by
  obtain ⟨ih0, ih1⟩ := r09_Name.mono_l k
  refine ⟨?_, ?_⟩ <;> intros <;> (first | unfold r09_Name.j0 | unfold r09_Name.l0)
  all_goals repeat' first
   | (with_reducible first | apply ih0 | apply ih1 | exact LeO.refl _ | exact LeO.none _ | refine LeO.ite ?_ ?_ | refine LeO.bind ?_ (fun _ => ?_))
theorem r09_Name.mono : ∀ a0 k, LeO (r09_Name.f k a0) (r09_Name.f (k + 1) a0) := by
 intro a0 k
 obtain ⟨ih0, ih1⟩ := r09_Name.mono_l k
 unfold r09_Name.f
 repeat' first
   | (with_reducible first | apply ih0 | apply ih1 | exact LeO.refl _ | exact LeO.none _ | refine LeO.ite ?_ ?_ | refine LeO.bind ?_ (fun _ => ?_))
set_option maxHeartbeats 8000000 in
set_option maxRecDepth 100000 in
theorem r09_Name.calls (k : Nat) (a0 : ByteArray) (r : Bool) (w : World) (h : r09_Name.f k a0 = some r) :
  Calls Tryd.prog 54 #[.string a0] w fun e w' => e = .returned (.bool r) ∧ Drawn0 w w' := by
 have H : (if (a0.size : Int) < 1 then (r09_Name.j0 k a0 true) else (r09_Name.j0 k a0 (decide ((a0.size : Int) > 16)))) = some r := h; clear h; have HC2 := aM H; clear H
 go_enter Tryd.func54, Tryd.ntmps54
 go_upto_region 1 with (fail)
 go_cut [14] (fun v14 wc => ∃ (kq : Nat) (x14_1 : Bool), v14 = .bool x14_1 ∧ Aside0 (r09_Name.j0 kq a0 x14_1 = some r) ∧ Aside0 (kq ≤ k) ∧ Drawn0 w wc)
 case first =>
  have H := HC2.out; clear HC2
  by_cases c3 : (a0.size : Int) < 1
  ·
   rw [if_pos c3] at H
   have c3b0 := decide_eq_true c3; have c3b1 : decide (a0.size < 1) = true := decide_eq_true (by omega); clear c3
   (first | rw [c3b0] | (simp only [i64_w, i32_w]; rw [c3b0]) | skip)
   have H' := aM H
   clear H
   go_wp2
   go_meet
   case rel => exact ⟨_, (true), eT, H', ⟨by first | omega | exact Nat.le_refl _⟩, by repeat (first | exact Drawn0.refl _ | apply Drawn0.step)⟩
  rw [if_neg c3] at H; have c3b0 := decide_eq_false c3; have c3b1 : decide (a0.size < 1) = false := decide_eq_false (by omega); clear c3
  (first | rw [c3b0] | (simp only [i64_w, i32_w]; rw [c3b0]) | skip)
  have H' := aM H
  clear H
  go_wp2
  go_meet
  case rel => exact ⟨_, (decide ((a0.size : Int) > 16)), eT, H', ⟨by first | omega | exact Nat.le_refl _⟩, by repeat (first | exact Drawn0.refl _ | apply Drawn0.step)⟩
 clear HC2
 obtain ⟨kq, x14_1, rfl, HA, HJ1, ⟨mc1, rfl⟩⟩ := hcut
 cases kq with
 | zero => exact absurd HA.out (by simp [r09_Name.j0])
 | succ kj1 =>
  have H := HA.out; clear HA
  simp only [r09_Name.j0] at H
  by_cases c4 : x14_1 = true
  ·
   subst c4
   have H1 : (some false) = some r := by rw [if_pos rfl] at H; exact H
   clear H; have H := H1; clear H1
   obtain rfl := Option.some.inj H
   go_wp2
   go_ret
   exact ⟨by first | rfl | (simp; done) | (simp [*]; done), by repeat (first | exact Drawn0.refl _ | apply Drawn0.step)⟩
  replace c4 := Bool.eq_false_iff.mpr c4; subst c4
  have H1 : (r09_Name.l0 kj1 a0 0) = some r := by rw [if_neg (show ¬ (false = true) by decide)] at H; exact H
  clear H; have H := H1; clear H1
  have H' := aM H
  clear H
  go_wp2
  go_loopg [3] kj1 (fun kq v3 w' => ∃ (x3_2 : Int), v3 = .int .i64 x3_2 ∧ Aside0 (r09_Name.l0 kq a0 x3_2 = some r) ∧ Aside0 (kq ≤ kj1) ∧ Drawn0 w w')
  case atStart => exact ⟨(0), eT, H', ⟨Nat.le_refl _⟩, by repeat (first | exact Drawn0.refl _ | apply Drawn0.step)⟩
  clear H'
  obtain ⟨x3_2, rfl, HA, HK2, ⟨m2, rfl⟩⟩ := hrel
  cases gk with
  | zero => exact absurd HA.out (by simp [r09_Name.l0])
  | succ k2 =>
   have H := HA.out; clear HA
   simp only [r09_Name.l0] at H
   by_cases c5 : x3_2 < (a0.size : Int)
   rotate_left
   ·
    rw [if_neg c5] at H
    have c5b0 := decide_eq_false c5; clear c5
    obtain rfl := Option.some.inj H
    go_wp2
    go_ret
    exact ⟨by first | rfl | (simp; done) | (simp [*]; done), by repeat (first | exact Drawn0.refl _ | apply Drawn0.step)⟩


   rw [if_pos c5] at H; have c5b0 := decide_eq_true c5; clear c5
   obtain ⟨c6, H⟩ := iP H; have c6b0 := decide_eq_true c6; clear c6
   by_cases c8 : (bt a0 x3_2) ≥ 97
   rotate_left
   ·
    rw [if_neg c8] at H
    have c8b0 : decide (97 ≤ (bt a0 x3_2)) = false := decide_eq_false c8; clear c8
    by_cases c22 : (bt a0 x3_2) ≥ 48
    rotate_left
    ·
     rw [if_neg c22] at H
     have c22b0 : decide (48 ≤ (bt a0 x3_2)) = false := decide_eq_false c22; clear c22
     by_cases c29 : ((bt a0 x3_2) = 95)
     ·
      rw [if_pos c29] at H
      have c29b0 : ((bt a0 x3_2) == 95) = true := beq_iff_eq.mpr c29; have c29b1 : ((bt a0 x3_2) != 95) = false := bne_eq_false_iff_eq.mpr c29; clear c29
      have H' := aM H
      clear H; obtain ⟨p7, q7⟩ := aQ (x3_2) (a0.size : Int); have hx7 := bt_at a0 x3_2
      go_wp2
      go_roundg k2
      case measure => have := HJ1.out; have := HK2.out; omega
      case rel => exact ⟨(wrap64 (x3_2 + 1)), eT, H', ⟨by have := HJ1.out; have := HK2.out; omega⟩, by repeat (first | exact Drawn0.refl _ | apply Drawn0.step)⟩
     rw [if_neg c29] at H; have c29b0 : ((bt a0 x3_2) == 95) = false := beq_eq_false_iff_ne.mpr c29; have c29b1 : ((bt a0 x3_2) != 95) = true := bne_iff_ne.mpr c29
     by_cases c30 : ((bt a0 x3_2) = 46)
     rotate_left
     ·
      rw [if_neg c30] at H
      have c30b0 : ((bt a0 x3_2) == 46) = false := beq_eq_false_iff_ne.mpr c30; have c30b1 : ((bt a0 x3_2) != 46) = true := bne_iff_ne.mpr c30
      obtain rfl := Option.some.inj H
      obtain ⟨p7, q7⟩ := aQ (x3_2) (a0.size : Int); have hx7 := bt_at a0 x3_2
      go_wp2
      go_ret
      exact ⟨by first | rfl | (simp; done) | (simp [*]; done), by repeat (first | exact Drawn0.refl _ | apply Drawn0.step)⟩
     rw [if_pos c30] at H; have c30b0 : ((bt a0 x3_2) == 46) = true := beq_iff_eq.mpr c30; have c30b1 : ((bt a0 x3_2) != 46) = false := bne_eq_false_iff_eq.mpr c30; clear c30
     by_cases c31 : x3_2 = 0
     ·
      rw [if_pos c31] at H
      have c31b0 : (x3_2 == 0) = true := beq_iff_eq.mpr c31; have c31b1 : (x3_2 != 0) = false := bne_eq_false_iff_eq.mpr c31; clear c31
      obtain rfl := Option.some.inj H
      obtain ⟨p7, q7⟩ := aQ (x3_2) (a0.size : Int); have hx7 := bt_at a0 x3_2
      go_wp2
      go_ret
      exact ⟨by first | rfl | (simp; done) | (simp [*]; done), by repeat (first | exact Drawn0.refl _ | apply Drawn0.step)⟩
     rw [if_neg c31] at H; have c31b0 : (x3_2 == 0) = false := beq_eq_false_iff_ne.mpr c31; have c31b1 : (x3_2 != 0) = true := bne_iff_ne.mpr c31
     have H' := aM H
     clear H; obtain ⟨p7, q7⟩ := aQ (x3_2) (a0.size : Int); have hx7 := bt_at a0 x3_2
     go_wp2
     go_roundg k2
     case measure => have := HJ1.out; have := HK2.out; omega
     case rel => exact ⟨(wrap64 (x3_2 + 1)), eT, H', ⟨by have := HJ1.out; have := HK2.out; omega⟩, by repeat (first | exact Drawn0.refl _ | apply Drawn0.step)⟩
    rw [if_pos c22] at H; have c22b0 : decide (48 ≤ (bt a0 x3_2)) = true := decide_eq_true c22; clear c22
    by_cases c23 : (bt a0 x3_2) ≤ 57
    ·
     rw [if_pos c23] at H
     have c23b0 := decide_eq_true c23; clear c23
     by_cases c24 : ((bt a0 x3_2) = 95)
     ·
      rw [if_pos c24] at H
      have c24b0 : ((bt a0 x3_2) == 95) = true := beq_iff_eq.mpr c24; have c24b1 : ((bt a0 x3_2) != 95) = false := bne_eq_false_iff_eq.mpr c24; clear c24
      have H' := aM H
      clear H; obtain ⟨p7, q7⟩ := aQ (x3_2) (a0.size : Int); have hx7 := bt_at a0 x3_2
      go_wp2
      go_roundg k2
      case measure => have := HJ1.out; have := HK2.out; omega
      case rel => exact ⟨(wrap64 (x3_2 + 1)), eT, H', ⟨by have := HJ1.out; have := HK2.out; omega⟩, by repeat (first | exact Drawn0.refl _ | apply Drawn0.step)⟩
     rw [if_neg c24] at H; have c24b0 : ((bt a0 x3_2) == 95) = false := beq_eq_false_iff_ne.mpr c24; have c24b1 : ((bt a0 x3_2) != 95) = true := bne_iff_ne.mpr c24
     by_cases c25 : x3_2 = 0
     ·
      rw [if_pos c25] at H
      have c25b0 : (x3_2 == 0) = true := beq_iff_eq.mpr c25; have c25b1 : (x3_2 != 0) = false := bne_eq_false_iff_eq.mpr c25; clear c25
      obtain rfl := Option.some.inj H
      obtain ⟨p7, q7⟩ := aQ (x3_2) (a0.size : Int); have hx7 := bt_at a0 x3_2
      go_wp2
      go_ret
      exact ⟨by first | rfl | (simp; done) | (simp [*]; done), by repeat (first | exact Drawn0.refl _ | apply Drawn0.step)⟩
     rw [if_neg c25] at H; have c25b0 : (x3_2 == 0) = false := beq_eq_false_iff_ne.mpr c25; have c25b1 : (x3_2 != 0) = true := bne_iff_ne.mpr c25
     have H' := aM H
     clear H; obtain ⟨p7, q7⟩ := aQ (x3_2) (a0.size : Int); have hx7 := bt_at a0 x3_2
     go_wp2
     go_roundg k2
     case measure => have := HJ1.out; have := HK2.out; omega
     case rel => exact ⟨(wrap64 (x3_2 + 1)), eT, H', ⟨by have := HJ1.out; have := HK2.out; omega⟩, by repeat (first | exact Drawn0.refl _ | apply Drawn0.step)⟩
    rw [if_neg c23] at H; have c23b0 := decide_eq_false c23; clear c23
    by_cases c26 : ((bt a0 x3_2) = 95)
    ·
     rw [if_pos c26] at H
     have c26b0 : ((bt a0 x3_2) == 95) = true := beq_iff_eq.mpr c26; have c26b1 : ((bt a0 x3_2) != 95) = false := bne_eq_false_iff_eq.mpr c26; clear c26
     have H' := aM H
     clear H; obtain ⟨p7, q7⟩ := aQ (x3_2) (a0.size : Int); have hx7 := bt_at a0 x3_2
     go_wp2
     go_roundg k2
     case measure => have := HJ1.out; have := HK2.out; omega
     case rel => exact ⟨(wrap64 (x3_2 + 1)), eT, H', ⟨by have := HJ1.out; have := HK2.out; omega⟩, by repeat (first | exact Drawn0.refl _ | apply Drawn0.step)⟩
    rw [if_neg c26] at H; have c26b0 : ((bt a0 x3_2) == 95) = false := beq_eq_false_iff_ne.mpr c26; have c26b1 : ((bt a0 x3_2) != 95) = true := bne_iff_ne.mpr c26
    by_cases c27 : ((bt a0 x3_2) = 46)
    rotate_left
    ·
     rw [if_neg c27] at H
     have c27b0 : ((bt a0 x3_2) == 46) = false := beq_eq_false_iff_ne.mpr c27; have c27b1 : ((bt a0 x3_2) != 46) = true := bne_iff_ne.mpr c27
     obtain rfl := Option.some.inj H
     obtain ⟨p7, q7⟩ := aQ (x3_2) (a0.size : Int); have hx7 := bt_at a0 x3_2
     go_wp2
     go_ret
     exact ⟨by first | rfl | (simp; done) | (simp [*]; done), by repeat (first | exact Drawn0.refl _ | apply Drawn0.step)⟩
    rw [if_pos c27] at H; have c27b0 : ((bt a0 x3_2) == 46) = true := beq_iff_eq.mpr c27; have c27b1 : ((bt a0 x3_2) != 46) = false := bne_eq_false_iff_eq.mpr c27; clear c27
    by_cases c28 : x3_2 = 0
    ·
     rw [if_pos c28] at H
     have c28b0 : (x3_2 == 0) = true := beq_iff_eq.mpr c28; have c28b1 : (x3_2 != 0) = false := bne_eq_false_iff_eq.mpr c28; clear c28
     obtain rfl := Option.some.inj H
     obtain ⟨p7, q7⟩ := aQ (x3_2) (a0.size : Int); have hx7 := bt_at a0 x3_2
     go_wp2
     go_ret
     exact ⟨by first | rfl | (simp; done) | (simp [*]; done), by repeat (first | exact Drawn0.refl _ | apply Drawn0.step)⟩
    rw [if_neg c28] at H; have c28b0 : (x3_2 == 0) = false := beq_eq_false_iff_ne.mpr c28; have c28b1 : (x3_2 != 0) = true := bne_iff_ne.mpr c28
    have H' := aM H
    clear H; obtain ⟨p7, q7⟩ := aQ (x3_2) (a0.size : Int); have hx7 := bt_at a0 x3_2
    go_wp2
    go_roundg k2
    case measure => have := HJ1.out; have := HK2.out; omega
    case rel => exact ⟨(wrap64 (x3_2 + 1)), eT, H', ⟨by have := HJ1.out; have := HK2.out; omega⟩, by repeat (first | exact Drawn0.refl _ | apply Drawn0.step)⟩
   rw [if_pos c8] at H; have c8b0 : decide (97 ≤ (bt a0 x3_2)) = true := decide_eq_true c8; clear c8
   by_cases c9 : (bt a0 x3_2) ≤ 122
   ·
    rw [if_pos c9] at H
    have c9b0 := decide_eq_true c9; clear c9
    by_cases c10 : (bt a0 x3_2) ≥ 48
    rotate_left
    ·
     rw [if_neg c10] at H
     have c10b0 : decide (48 ≤ (bt a0 x3_2)) = false := decide_eq_false c10; clear c10
     have H' := aM H
     clear H; obtain ⟨p7, q7⟩ := aQ (x3_2) (a0.size : Int); have hx7 := bt_at a0 x3_2
     go_wp2
     go_roundg k2
     case measure => have := HJ1.out; have := HK2.out; omega
     case rel => exact ⟨(wrap64 (x3_2 + 1)), eT, H', ⟨by have := HJ1.out; have := HK2.out; omega⟩, by repeat (first | exact Drawn0.refl _ | apply Drawn0.step)⟩
    rw [if_pos c10] at H; have c10b0 : decide (48 ≤ (bt a0 x3_2)) = true := decide_eq_true c10; clear c10
    by_cases c11 : (bt a0 x3_2) ≤ 57
    ·
     rw [if_pos c11] at H
     have c11b0 := decide_eq_true c11; clear c11
     have H' := aM H
     clear H; obtain ⟨p7, q7⟩ := aQ (x3_2) (a0.size : Int); have hx7 := bt_at a0 x3_2
     go_wp2
     go_roundg k2
     case measure => have := HJ1.out; have := HK2.out; omega
     case rel => exact ⟨(wrap64 (x3_2 + 1)), eT, H', ⟨by have := HJ1.out; have := HK2.out; omega⟩, by repeat (first | exact Drawn0.refl _ | apply Drawn0.step)⟩
    rw [if_neg c11] at H; have c11b0 := decide_eq_false c11; clear c11
    have H' := aM H
    clear H; obtain ⟨p7, q7⟩ := aQ (x3_2) (a0.size : Int); have hx7 := bt_at a0 x3_2
    go_wp2
    go_roundg k2
    case measure => have := HJ1.out; have := HK2.out; omega
    case rel => exact ⟨(wrap64 (x3_2 + 1)), eT, H', ⟨by have := HJ1.out; have := HK2.out; omega⟩, by repeat (first | exact Drawn0.refl _ | apply Drawn0.step)⟩
   rw [if_neg c9] at H; have c9b0 := decide_eq_false c9; clear c9
   by_cases c12 : (bt a0 x3_2) ≥ 48
   rotate_left
   ·
    rw [if_neg c12] at H
    have c12b0 : decide (48 ≤ (bt a0 x3_2)) = false := decide_eq_false c12; clear c12
    by_cases c19 : ((bt a0 x3_2) = 95)
    ·
     rw [if_pos c19] at H
     have c19b0 : ((bt a0 x3_2) == 95) = true := beq_iff_eq.mpr c19; have c19b1 : ((bt a0 x3_2) != 95) = false := bne_eq_false_iff_eq.mpr c19; clear c19
     have H' := aM H
     clear H; obtain ⟨p7, q7⟩ := aQ (x3_2) (a0.size : Int); have hx7 := bt_at a0 x3_2
     go_wp2
     go_roundg k2
     case measure => have := HJ1.out; have := HK2.out; omega
     case rel => exact ⟨(wrap64 (x3_2 + 1)), eT, H', ⟨by have := HJ1.out; have := HK2.out; omega⟩, by repeat (first | exact Drawn0.refl _ | apply Drawn0.step)⟩
    rw [if_neg c19] at H; have c19b0 : ((bt a0 x3_2) == 95) = false := beq_eq_false_iff_ne.mpr c19; have c19b1 : ((bt a0 x3_2) != 95) = true := bne_iff_ne.mpr c19
    by_cases c20 : ((bt a0 x3_2) = 46)
    rotate_left
    ·
     rw [if_neg c20] at H
     have c20b0 : ((bt a0 x3_2) == 46) = false := beq_eq_false_iff_ne.mpr c20; have c20b1 : ((bt a0 x3_2) != 46) = true := bne_iff_ne.mpr c20
     obtain rfl := Option.some.inj H
     obtain ⟨p7, q7⟩ := aQ (x3_2) (a0.size : Int); have hx7 := bt_at a0 x3_2
     go_wp2
     go_ret
     exact ⟨by first | rfl | (simp; done) | (simp [*]; done), by repeat (first | exact Drawn0.refl _ | apply Drawn0.step)⟩
    rw [if_pos c20] at H; have c20b0 : ((bt a0 x3_2) == 46) = true := beq_iff_eq.mpr c20; have c20b1 : ((bt a0 x3_2) != 46) = false := bne_eq_false_iff_eq.mpr c20; clear c20
    by_cases c21 : x3_2 = 0
    ·
     rw [if_pos c21] at H
     have c21b0 : (x3_2 == 0) = true := beq_iff_eq.mpr c21; have c21b1 : (x3_2 != 0) = false := bne_eq_false_iff_eq.mpr c21; clear c21
     obtain rfl := Option.some.inj H
     obtain ⟨p7, q7⟩ := aQ (x3_2) (a0.size : Int); have hx7 := bt_at a0 x3_2
     go_wp2
     go_ret
     exact ⟨by first | rfl | (simp; done) | (simp [*]; done), by repeat (first | exact Drawn0.refl _ | apply Drawn0.step)⟩
    rw [if_neg c21] at H; have c21b0 : (x3_2 == 0) = false := beq_eq_false_iff_ne.mpr c21; have c21b1 : (x3_2 != 0) = true := bne_iff_ne.mpr c21
    have H' := aM H
    clear H; obtain ⟨p7, q7⟩ := aQ (x3_2) (a0.size : Int); have hx7 := bt_at a0 x3_2
    go_wp2
    go_roundg k2
    case measure => have := HJ1.out; have := HK2.out; omega
    case rel => exact ⟨(wrap64 (x3_2 + 1)), eT, H', ⟨by have := HJ1.out; have := HK2.out; omega⟩, by repeat (first | exact Drawn0.refl _ | apply Drawn0.step)⟩
   rw [if_pos c12] at H; have c12b0 : decide (48 ≤ (bt a0 x3_2)) = true := decide_eq_true c12; clear c12
   by_cases c13 : (bt a0 x3_2) ≤ 57
   ·
    rw [if_pos c13] at H
    have c13b0 := decide_eq_true c13; clear c13
    by_cases c14 : ((bt a0 x3_2) = 95)
    ·
     rw [if_pos c14] at H
     have c14b0 : ((bt a0 x3_2) == 95) = true := beq_iff_eq.mpr c14; have c14b1 : ((bt a0 x3_2) != 95) = false := bne_eq_false_iff_eq.mpr c14; clear c14
     have H' := aM H
     clear H; obtain ⟨p7, q7⟩ := aQ (x3_2) (a0.size : Int); have hx7 := bt_at a0 x3_2
     go_wp2
     go_roundg k2
     case measure => have := HJ1.out; have := HK2.out; omega
     case rel => exact ⟨(wrap64 (x3_2 + 1)), eT, H', ⟨by have := HJ1.out; have := HK2.out; omega⟩, by repeat (first | exact Drawn0.refl _ | apply Drawn0.step)⟩
    rw [if_neg c14] at H; have c14b0 : ((bt a0 x3_2) == 95) = false := beq_eq_false_iff_ne.mpr c14; have c14b1 : ((bt a0 x3_2) != 95) = true := bne_iff_ne.mpr c14
    by_cases c15 : x3_2 = 0
    ·
     rw [if_pos c15] at H
     have c15b0 : (x3_2 == 0) = true := beq_iff_eq.mpr c15; have c15b1 : (x3_2 != 0) = false := bne_eq_false_iff_eq.mpr c15; clear c15
     obtain rfl := Option.some.inj H
     obtain ⟨p7, q7⟩ := aQ (x3_2) (a0.size : Int); have hx7 := bt_at a0 x3_2
     go_wp2
     go_ret
     exact ⟨by first | rfl | (simp; done) | (simp [*]; done), by repeat (first | exact Drawn0.refl _ | apply Drawn0.step)⟩
    rw [if_neg c15] at H; have c15b0 : (x3_2 == 0) = false := beq_eq_false_iff_ne.mpr c15; have c15b1 : (x3_2 != 0) = true := bne_iff_ne.mpr c15
    have H' := aM H
    clear H; obtain ⟨p7, q7⟩ := aQ (x3_2) (a0.size : Int); have hx7 := bt_at a0 x3_2
    go_wp2
    go_roundg k2
    case measure => have := HJ1.out; have := HK2.out; omega
    case rel => exact ⟨(wrap64 (x3_2 + 1)), eT, H', ⟨by have := HJ1.out; have := HK2.out; omega⟩, by repeat (first | exact Drawn0.refl _ | apply Drawn0.step)⟩
   rw [if_neg c13] at H; have c13b0 := decide_eq_false c13; clear c13
   by_cases c16 : ((bt a0 x3_2) = 95)
   ·
    rw [if_pos c16] at H
    have c16b0 : ((bt a0 x3_2) == 95) = true := beq_iff_eq.mpr c16; have c16b1 : ((bt a0 x3_2) != 95) = false := bne_eq_false_iff_eq.mpr c16; clear c16
    have H' := aM H
    clear H; obtain ⟨p7, q7⟩ := aQ (x3_2) (a0.size : Int); have hx7 := bt_at a0 x3_2
    go_wp2
    go_roundg k2
    case measure => have := HJ1.out; have := HK2.out; omega
    case rel => exact ⟨(wrap64 (x3_2 + 1)), eT, H', ⟨by have := HJ1.out; have := HK2.out; omega⟩, by repeat (first | exact Drawn0.refl _ | apply Drawn0.step)⟩
   rw [if_neg c16] at H; have c16b0 : ((bt a0 x3_2) == 95) = false := beq_eq_false_iff_ne.mpr c16; have c16b1 : ((bt a0 x3_2) != 95) = true := bne_iff_ne.mpr c16
   by_cases c17 : ((bt a0 x3_2) = 46)
   rotate_left
   ·
    rw [if_neg c17] at H
    have c17b0 : ((bt a0 x3_2) == 46) = false := beq_eq_false_iff_ne.mpr c17; have c17b1 : ((bt a0 x3_2) != 46) = true := bne_iff_ne.mpr c17
    obtain rfl := Option.some.inj H
    obtain ⟨p7, q7⟩ := aQ (x3_2) (a0.size : Int); have hx7 := bt_at a0 x3_2
    go_wp2
    go_ret
    exact ⟨by first | rfl | (simp; done) | (simp [*]; done), by repeat (first | exact Drawn0.refl _ | apply Drawn0.step)⟩
   rw [if_pos c17] at H; have c17b0 : ((bt a0 x3_2) == 46) = true := beq_iff_eq.mpr c17; have c17b1 : ((bt a0 x3_2) != 46) = false := bne_eq_false_iff_eq.mpr c17; clear c17
   by_cases c18 : x3_2 = 0
   ·
    rw [if_pos c18] at H
    have c18b0 : (x3_2 == 0) = true := beq_iff_eq.mpr c18; have c18b1 : (x3_2 != 0) = false := bne_eq_false_iff_eq.mpr c18; clear c18
    obtain rfl := Option.some.inj H
    obtain ⟨p7, q7⟩ := aQ (x3_2) (a0.size : Int); have hx7 := bt_at a0 x3_2
    go_wp2
    go_ret
    exact ⟨by first | rfl | (simp; done) | (simp [*]; done), by repeat (first | exact Drawn0.refl _ | apply Drawn0.step)⟩
   rw [if_neg c18] at H; have c18b0 : (x3_2 == 0) = false := beq_eq_false_iff_ne.mpr c18; have c18b1 : (x3_2 != 0) = true := bne_iff_ne.mpr c18
   have H' := aM H
   clear H; obtain ⟨p7, q7⟩ := aQ (x3_2) (a0.size : Int); have hx7 := bt_at a0 x3_2
   go_wp2
   go_roundg k2
   case measure => have := HJ1.out; have := HK2.out; omega
   case rel => exact ⟨(wrap64 (x3_2 + 1)), eT, H', ⟨by have := HJ1.out; have := HK2.out; omega⟩, by repeat (first | exact Drawn0.refl _ | apply Drawn0.step)⟩


section
-- STUBBED 55
/-! ### r09_place: function 55: by hand -/
open Go.Proofs.YtejchnmhlcbfcaaDoor.Iter
attribute [local go_sem] Instr.field asAgg

def placeE (p : S59) : Int := if p.f2 < 0 ∨ 1048576 < p.f2 then 1 else if p.f1 < 0 ∨ 1048576 < p.f1 then 10 else if p.f2 = 0 then 0 else if p.f2 < p.f1 then 10 else 0
/-- The first error of place i, behind its name. -/
def placeF (l1 : List S59) (p : S59) (i : Nat) : Option Int := if ((l1.take i).any fun y => y.f0.toList == p.f0.toList) = true then some 6 else some (placeE p)
def r09_place.f (k : Nat) (a0_0 : ByteArray) (l0_1 : List S59) (l0_2 : List S41) (a1 : Int) : Option Int := if 0 ≤ a1 ∧ a1 < (l0_1.length : Int) ∧ l0_1.length ≤ 1000 then (r09_Name.f k (rd_T59 l0_1 a1).f0).bind fun b => if b = true then placeF l0_1 (rd_T59 l0_1 a1) a1.toNat else some 5 else none
theorem r09_place.mono (a0 : ByteArray) (a1 : List S59) (a2 : List S41) (a3 : Int) (k : Nat) : LeO (r09_place.f k a0 a1 a2 a3) (r09_place.f (k + 1) a0 a1 a2 a3) := by
 unfold r09_place.f
 split
 ·refine LeO.bind (r09_Name.mono _ _) fun b => ?_
  split
  ·exact LeO.refl _
  ·exact LeO.refl _
 ·exact LeO.refl _
theorem np3 {W : World} {g : Nat} {t : TypeId} {x y z : Value} (h : Blk W g t [x, y, z]) : W.cell? ⟨g, 0, none⟩ = some x ∧ W.cell? ⟨g, 1, none⟩ = some y ∧ W.cell? ⟨g, 2, none⟩ = some z := by
 refine ⟨?_, ?_, ?_⟩ <;> simp [World.cell?, show W.heap[g]? = _ from h]

set_option maxHeartbeats 16000000 in
set_option maxRecDepth 100000 in
theorem r09_place.calls (k : Nat) (a0_0 : ByteArray) (A0_1 : Option Addr) (c0_1 : Nat) (l0_1 : List S59) (A0_2 : Option Addr) (c0_2 : Nat) (l0_2 : List S41) (a1 : Int) (r : Int) (w : World) (hr0_1 : Kd.C k59 w A0_1 l0_1.length l0_1) (hc0_1 : l0_1.length ≤ c0_1) (hr0_2 : Kd.C k41 w A0_2 l0_2.length l0_2) (hc0_2 : l0_2.length ≤ c0_2) (h : r09_place.f k a0_0 l0_1 l0_2 a1 = some r) :
  Calls Tryd.prog 55 #[.agg #[.string a0_0, .slice A0_1 l0_1.length c0_1, .slice A0_2 l0_2.length c0_2], .int .i64 a1] w fun e w' => e = .returned (.int .i64 r) ∧ Below w.heap.size w w' := by
 have HR1 := aM hr0_1
 clear hr0_1 hc0_1 hr0_2 hc0_2
 unfold r09_place.f at h
 by_cases hin : 0 ≤ a1 ∧ a1 < (l0_1.length : Int) ∧ l0_1.length ≤ 1000
 ·rw [if_pos hin] at h
  obtain ⟨h0, hlt0, hn1⟩ := hin
  obtain ⟨i, rfl⟩ : ∃ i : Nat, a1 = (i : Int) := ⟨a1.toNat, by omega⟩
  have hil : i < l0_1.length := by omega
  obtain ⟨b, hb, h⟩ := Option.bind_eq_some_iff.mp h
  obtain ⟨ad, e1, hx0, hx1, hx2⟩ := at_T59 HR1.out (i : Int) (by omega) (by omega)
  cases e1
  rw [Int.toNat_natCast] at hx0 hx1 hx2 h
  generalize rd_T59 l0_1 (i : Int) = p at h hb hx0 hx1 hx2
  have HN := aM hb
  have HH0 := aM h
  clear h hb h0
  go_enter Tryd.func55, Tryd.ntmps55
  go_upto_region 2 with (first | ((with_reducible refine gate_dst (N := 2) rfl ?_); refine bX 2 (cs := #[.string a0_0, .slice (some ad) l0_1.length c0_1, .slice A0_2 l0_2.length c0_2]) (t := 28) ?_; intro g1 hg1 w1 hbox1 hb1; have HS1 := aM (show Blk w1 g1 28 [.string a0_0, .slice (some ad) l0_1.length c0_1, .slice A0_2 l0_2.length c0_2] from hbox1); obtain ⟨s0, s1, s2⟩ := np3 HS1.out; have HB1 := aM hb1; have HGA := aM hg1; replace hx0 := (hb1.cell (World.block_lt_of_cell? w _ hx0)).trans hx0; replace hx1 := (hb1.cell (World.block_lt_of_cell? w _ hx1)).trans hx1; replace hx2 := (hb1.cell (World.block_lt_of_cell? w _ hx2)).trans hx2; clear hbox1 hb1 hg1) | ((with_reducible refine gate_dst (N := 5) rfl ?_); refine bX 5 (cs := #[.string ⟨#[]⟩, .int .i64 0, .int .i64 0]) (t := 59) ?_; intro g2 hg2 w4 hbox hb4; have HG4 := aM (show Blk w4 g2 59 [.string ⟨#[]⟩, .int .i64 0, .int .i64 0] from hbox); have hz0 := blk_cell hbox 0; have hz1 := blk_cell hbox 1; have hz2 := blk_cell hbox 2; have hq0 := blk_frozen hbox 0; have hq1 := blk_frozen hbox 1; have hq2 := blk_frozen hbox 2; have HB4 := aM hb4; have HGB := aM hg2; clear hbox hb4 hg2))
  obtain ⟨wr, hW5⟩ : ∃ W5, ((w4.setCell ⟨g2, 0, none⟩ (.string p.f0)).setCell ⟨g2, 1, none⟩ (.int .i64 p.f1)).setCell ⟨g2, 2, none⟩ (.int .i64 p.f2) = W5 := ⟨_, rfl⟩
  have HG := aM (show Blk wr g2 59 [.string p.f0, .int .i64 p.f1, .int .i64 p.f2] from hW5 ▸ blk_set 2 _ (blk_set 1 _ (blk_set 0 _ HG4.out)))
  have hb5 : Below w1.heap.size w1 wr := by rw [← hW5]; exact ((HB4.out.setCell (p := ⟨g2, 0, none⟩) (by rw [HGB.out]; exact Nat.le_refl _) _).setCell (p := ⟨g2, 1, none⟩) (by rw [HGB.out]; exact Nat.le_refl _) _).setCell (p := ⟨g2, 2, none⟩) (by rw [HGB.out]; exact Nat.le_refl _) _
  rw [hW5]
  have HS := aM (blk_later HS1.out hb5)
  have HB := aM (below_step HB1.out hb5)
  clear hW5 HG4 HB4 HGB hb5 HS1 HB1 HGA hz0 hz1 hz2 hq0 hq1 hq2 hx0 hx1 hx2 s0 s1 s2
  obtain ⟨s0, s1, s2⟩ := np3 HS.out
  obtain ⟨t0, t1, t2⟩ := np3 HG.out
  cases b with
  | false =>
   have h := HH0.out
   have h : some (5 : Int) = some r := h
   obtain rfl := Option.some.inj h
   clear h
   go_wp2_with (go_at_call 54; (with_reducible refine (r09_Name.calls k p.f0 false _ HN.out).mono ?_); rintro e w' ⟨rfl, ⟨nd, rfl⟩⟩)
   go_ret
   exact ⟨rfl, by (with_reducible repeat (first | apply pw_below_drewN | apply below_drew1)); exact HB.out⟩
  | true =>
   have h := HH0.out
   rw [if_pos rfl] at h
   have HH := aM h
   clear h HH0
   go_wp2_with (go_at_call 54; (with_reducible refine (r09_Name.calls k p.f0 true _ HN.out).mono ?_); rintro e w' ⟨rfl, ⟨nd, rfl⟩⟩)
   clear s0 s1 s2 t0 t1 t2
   go_loopw [6] (fun v6 wr => ∃ j : Nat, v6 = .int .i64 j ∧ j ≤ i ∧ Aside0 (((l0_1.take j).any fun y => y.f0.toList == p.f0.toList) = false) ∧ Aside0 (Blk wr g1 28 [.string a0_0, .slice (some ad) l0_1.length c0_1, .slice A0_2 l0_2.length c0_2]) ∧ Aside0 (Blk wr g2 59 [.string p.f0, .int .i64 p.f1, .int .i64 p.f2]) ∧ Aside0 (Below w.heap.size w wr)) (fun v6 _ => i - (intOf v6).toNat)
   case atStart => exact ⟨0, rfl, Nat.zero_le _, ⟨rfl⟩, ⟨HS.out⟩, ⟨HG.out⟩, ⟨by (with_reducible repeat (first | apply pw_below_drewN | apply below_drew1)); exact HB.out⟩⟩
   case round =>
    clear HS HG HB
    obtain ⟨j, rfl, hj, HQ, HS, HG, HB⟩ := hrel
    obtain ⟨s0, s1, s2⟩ := np3 HS.out
    obtain ⟨t0, t1, t2⟩ := np3 HG.out
    by_cases hjl : j < i
    ·have hjm : j < l0_1.length := by omega
     obtain ⟨ad2, e2, hy0, _, _⟩ := at_T59 HR1.out (j : Int) (by omega) (by omega)
     cases e2
     rw [Int.toNat_natCast] at hy0
     replace hy0 := (HB.out.cell (World.block_lt_of_cell? w _ hy0)).trans hy0
     have hrd : rd_T59 l0_1 (j : Int) = l0_1[j] := by simp [rd_T59, hjm]
     rw [hrd] at hy0
     clear hrd
     obtain ⟨x, hx⟩ : ∃ x, x = l0_1[j] := ⟨_, rfl⟩
     rw [← hx] at hy0
     by_cases hxs : x.f0.toList = p.f0.toList
     ·have hbeq : (x.f0.toList == p.f0.toList) = true := beq_iff_eq.mpr hxs
      have hr : r = 6 := by
       have e : placeF l0_1 p i = some 6 := by unfold placeF; rw [if_pos]; exact List.any_eq_true.2 ⟨x, (by rw [hx]; exact List.mem_iff_getElem.2 ⟨j, by rw [List.length_take]; omega, List.getElem_take⟩), hbeq⟩
       have H := HH.out
       rw [e] at H
       exact (Option.some.inj H).symm
      subst hr
      clear hx hxs
      go_wp2
      go_region
      go_wp2
      go_ret
      exact ⟨rfl, by (with_reducible repeat (first | apply pw_below_drewN | apply below_drew1)); exact HB.out⟩
     ·have hbeq : (x.f0.toList == p.f0.toList) = false := beq_eq_false_iff_ne.mpr hxs
      have HQ2 := aM (show ((l0_1.take (j + 1)).any fun y => y.f0.toList == p.f0.toList) = false by rw [List.take_succ_eq_append_getElem hjm, List.any_append, HQ.out, ← hx]; simp [hbeq])
      clear hx hxs
      go_wp2
      go_region
      go_wp2
      go_roundw
      case rel => exact ⟨j + 1, by go_num, by omega, HQ2, ⟨HS.out⟩, ⟨HG.out⟩, ⟨by (with_reducible repeat (first | apply pw_below_drewN | apply below_drew1)); exact HB.out⟩⟩
      case measure => simp [intOf]; omega
    ·obtain rfl : j = i := by omega
     have h := HH.out
     unfold placeF at h
     rw [HQ.out, if_neg (by decide)] at h
     have h := Option.some.inj h
     unfold placeE at h
     clear HH HQ hj hjl
     by_cases c2 : p.f2 < 0 ∨ 1048576 < p.f2
     ·rw [if_pos c2] at h
      subst h
      have hc : p.f2 < 0 ∨ (¬ p.f2 < 0 ∧ 1048576 < p.f2) := by omega
      clear c2
      rcases hc with b1 | ⟨b1, b2⟩
      all_goals
       go_wp2
       go_ret
       exact ⟨rfl, HB.out⟩
     ·rw [if_neg c2] at h
      have b1 : ¬ p.f2 < 0 := by omega
      have b2 : ¬ 1048576 < p.f2 := by omega
      clear c2
      by_cases c1 : p.f1 < 0 ∨ 1048576 < p.f1
      ·rw [if_pos c1] at h
       subst h
       have hc : p.f1 < 0 ∨ (¬ p.f1 < 0 ∧ 1048576 < p.f1) := by omega
       clear c1
       rcases hc with b3 | ⟨b3, b4⟩
       all_goals
        go_wp2
        go_ret
        exact ⟨rfl, HB.out⟩
      ·rw [if_neg c1] at h
       have b3 : ¬ p.f1 < 0 := by omega
       have b4 : ¬ 1048576 < p.f1 := by omega
       clear c1
       by_cases c0 : p.f2 = 0
       ·rw [if_pos c0] at h
        subst h
        have q1 : (p.f2 != 0) = false := by rw [c0]; rfl
        clear c0
        go_wp2
        go_ret
        exact ⟨rfl, HB.out⟩
       ·rw [if_neg c0] at h
        have q1 : (p.f2 != 0) = true := bne_iff_ne.2 c0
        clear c0
        by_cases c5 : p.f2 < p.f1
        ·rw [if_pos c5] at h
         subst h
         go_wp2
         go_ret
         exact ⟨rfl, HB.out⟩
        ·rw [if_neg c5] at h
         subst h
         go_wp2
         go_ret
         exact ⟨rfl, HB.out⟩
 ·rw [if_neg hin] at h
  cases h


end



end Go.Proofs.YtejchnmhlcbfcaaDoor.Pr
