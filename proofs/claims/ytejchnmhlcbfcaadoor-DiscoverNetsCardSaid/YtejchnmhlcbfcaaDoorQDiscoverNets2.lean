/- Functions that the statement reaches: what each answers, and that the program answers it (written by a program of this work). -/
import Derived.Test.YtejchnmhlcbfcaaDoorProg
import Derived.Below
import Derived.Deep.Draws
import Derived.Deep.AppendLies
import Derived.Maps.AppendAt
import Derived.OwnWalk
import Derived.Laws.BytesArg
import Derived.Laws.MakeOwn
import Derived.Laws.OwnMore
import Derived.Deep.OwnRows
import Derived.Tactics
import Derived.Lib.ConvBytes
import Derived.Laws.Slices
import Derived.WalkKit
import Derived.KernelRfl
import Derived.RowKit3
import Derived.Deep.LoopGhost
import Derived.Deep.QuietTactic
import Derived.BigQuiet
import Derived.WideLaws
import Derived.Deep.DeepCutAuto
import Derived.Deep.CutBlock
import Derived.Deep.RegionHeld3
import Derived.Laws.Rows
import Derived.Lib.AppendStr
import Derived.ArgAppend
import Derived.Laws.IdiomCopy
import Derived.OrdersHeld
import Derived.Laws.BitsLemmas
import Derived.RowKit
import Derived.WalkMore
import Derived.ChangeKeysEq
import Derived.Test.YtejchnmhlcbfcaaDoorVDiscoverNets
import Derived.Test.YtejchnmhlcbfcaaDoorQDiscoverNets0
import Derived.Test.YtejchnmhlcbfcaaDoorQDiscoverNets1
namespace Go.Proofs.YtejchnmhlcbfcaaDoor.Pr
open Go.RowKit Go.Proofs.YtejchnmhlcbfcaaDoorW.PrintWords Go.Proofs.YtejchnmhlcbfcaaDoorW.PrintLast Go.Proofs.YtejchnmhlcbfcaaDoorW.PrintMore
attribute [local go_sem] Instr.field asAgg
attribute [local go_sem] max2_int min2_int max_two min_two max_three min_three max_four min_four   -- for this text's walks alone
set_option linter.unusedVariables false
set_option linter.unusedSimpArgs false
/-! ### d_Alpha: function 9 -/
mutual
def d_Alpha.l0 : Nat → List (List ByteArray) → List (S57) → Int → Int → ByteArray → List (S59) → Option (ByteArray × (List (S59)) × (List (S41)) × Int)
 | 0, _, _, _, _, _, _ => none
 | k + 1, x0, x4, x36, x37, x226000, x226001 => if x37 < x36 then ((strconv_Itoa_24.f x37).bind fun t226 => (if 2 + t226.size ≤ 9223372036854775807 then (if x226001.length < 4398046511104 then (d_Alpha.l0 k x0 x4 x36 (wrap64 (x37 + 1)) x226000 (x226001 ++ [(⟨(⟨#[95, 112]⟩ : ByteArray) ++ t226, 0, 0⟩ : S59)])) else (none)) else (none))) else ((e_First.f k x0).bind fun t230 => ((e_Last.f k x0).bind fun t233 => ((e_Activities.f k x0).bind fun t236 => (d_Alpha.l1 k x4 t230 t233 t236 (t236.length : Int) 0 x226000 x226001 ([] : List (S41))))))
def d_Alpha.l1 : Nat → List (S57) → List ByteArray → List ByteArray → List ByteArray → Int → Int → ByteArray → List (S59) → List (S41) → Option (ByteArray × (List (S59)) × (List (S41)) × Int)
 | 0, _, _, _, _, _, _, _, _, _ => none
 | k + 1, x4, x8, x9, x55, x56, x57, x226000, x226001, x226002 => if x57 < x56 then (if 0 ≤ x57 then (if x57 < (x55.length : Int) then (d_Alpha.l2 k x4 x8 x9 x57 (rdOf ByteArray.empty x55 x57) x55 x56 x57 x226001 (x226001.length : Int) 0 x226000 x226001 x226002) else (none)) else (none)) else (some (x226000, x226001, x226002, 0))
def d_Alpha.l2 : Nat → List (S57) → List ByteArray → List ByteArray → Int → ByteArray → List ByteArray → Int → Int → List (S59) → Int → Int → ByteArray → List (S59) → List (S41) → Option (ByteArray × (List (S59)) × (List (S41)) × Int)
 | 0, _, _, _, _, _, _, _, _, _, _, _, _, _, _ => none
 | k + 1, x4, x8, x9, x10, x11, x55, x56, x57, x63, x64, x65, x226000, x226001, x226002 => if x65 < x64 then (if 0 ≤ x65 then (if x65 < (x63.length : Int) then (if ((rd_T59 x63 x65).f0).toList = x11.toList then (some ((⟨#[]⟩ : ByteArray), ([] : List (S59)), ([] : List (S41)), 6)) else (d_Alpha.l2 k x4 x8 x9 x10 x11 x55 x56 x57 x63 x64 (wrap64 (x65 + 1)) x226000 x226001 x226002)) else (none)) else (none)) else ((d_among.f k x8 x11).bind fun t243 => (if t243 = true then (if ([] : List (S62)).length < 8796093022208 then (d_Alpha.j3 k x4 x8 x9 x10 x11 x55 x56 x57 x226000 x226001 x226002 x11 (([] : List (S62)) ++ [(⟨0, 1⟩ : S62)]) 0) else (none)) else (d_Alpha.j3 k x4 x8 x9 x10 x11 x55 x56 x57 x226000 x226001 x226002 x11 ([] : List (S62)) 0)))
def d_Alpha.j3 : Nat → List (S57) → List ByteArray → List ByteArray → Int → ByteArray → List ByteArray → Int → Int → ByteArray → List (S59) → List (S41) → ByteArray → List (S62) → Int → Option (ByteArray × (List (S59)) × (List (S41)) × Int)
 | 0, _, _, _, _, _, _, _, _, _, _, _, _, _, _ => none
 | k + 1, x4, x8, x9, x10, x11, x55, x56, x57, x226000, x226001, x226002, x243000, x243001, x243004 => (d_among.f k x9 x11).bind fun t247 => (if t247 = true then (if ([] : List (S62)).length < 8796093022208 then (d_Alpha.j4 k x4 x8 x9 x10 x55 x56 x57 x226000 x226001 x226002 x243000 x243001 (([] : List (S62)) ++ [(⟨1, 1⟩ : S62)]) x243004) else (none)) else (d_Alpha.j4 k x4 x8 x9 x10 x55 x56 x57 x226000 x226001 x226002 x243000 x243001 ([] : List (S62)) x243004))
def d_Alpha.j4 : Nat → List (S57) → List ByteArray → List ByteArray → Int → List ByteArray → Int → Int → ByteArray → List (S59) → List (S41) → ByteArray → List (S62) → List (S62) → Int → Option (ByteArray × (List (S59)) × (List (S41)) × Int)
 | 0, _, _, _, _, _, _, _, _, _, _, _, _, _, _ => none
 | k + 1, x4, x8, x9, x10, x55, x56, x57, x226000, x226001, x226002, x243000, x243001, x243002, x243004 => d_Alpha.l3 k x4 x8 x9 x10 x55 x56 x57 x4 (x4.length : Int) 0 x226000 x226001 x226002 x243000 x243001 x243002 x243004
def d_Alpha.l3 : Nat → List (S57) → List ByteArray → List ByteArray → Int → List ByteArray → Int → Int → List (S57) → Int → Int → ByteArray → List (S59) → List (S41) → ByteArray → List (S62) → List (S62) → Int → Option (ByteArray × (List (S59)) × (List (S41)) × Int)
 | 0, _, _, _, _, _, _, _, _, _, _, _, _, _, _, _, _, _ => none
 | k + 1, x4, x8, x9, x10, x55, x56, x57, x95, x96, x97, x226000, x226001, x226002, x243000, x243001, x243002, x243004 => if x97 < x96 then (if 0 ≤ x97 then (if x97 < (x95.length : Int) then ((d_has.f ((rd_T57 x95 x97).f1) x10).bind fun t256 => (if t256 = true then (if x243001.length < 8796093022208 then ((some (x243001 ++ [(⟨wrap64 (x97 + 2), 1⟩ : S62)] : List (S62))).bind fun y257 => ((d_has.f ((rd_T57 x95 x97).f0) x10).bind fun t260 => (if t260 = true then (if x243002.length < 8796093022208 then (d_Alpha.l3 k x4 x8 x9 x10 x55 x56 x57 x95 x96 (wrap64 (x97 + 1)) x226000 x226001 x226002 x243000 y257 (x243002 ++ [(⟨wrap64 (x97 + 2), 1⟩ : S62)]) x243004) else (none)) else (d_Alpha.l3 k x4 x8 x9 x10 x55 x56 x57 x95 x96 (wrap64 (x97 + 1)) x226000 x226001 x226002 x243000 y257 x243002 x243004)))) else (none)) else ((d_has.f ((rd_T57 x95 x97).f0) x10).bind fun t264 => (if t264 = true then (if x243002.length < 8796093022208 then (d_Alpha.l3 k x4 x8 x9 x10 x55 x56 x57 x95 x96 (wrap64 (x97 + 1)) x226000 x226001 x226002 x243000 x243001 (x243002 ++ [(⟨wrap64 (x97 + 2), 1⟩ : S62)]) x243004) else (none)) else (d_Alpha.l3 k x4 x8 x9 x10 x55 x56 x57 x95 x96 (wrap64 (x97 + 1)) x226000 x226001 x226002 x243000 x243001 x243002 x243004))))) else (none)) else (none)) else (if x226002.length < 1466015503701 then (d_Alpha.l1 k x4 x8 x9 x55 x56 (wrap64 (x57 + 1)) x226000 x226001 (x226002 ++ [(⟨x243000, x243001, x243002, ([] : List (S62)), x243004⟩ : S41)])) else (none))
end
def d_Alpha.f (k : Nat) (l0 : List (List ByteArray)) : Option (ByteArray × (List (S59)) × (List (S41)) × Int) := (d_Pairs.f k l0).bind fun bt218 => (if bt218.2 = 0 then (if (wrap64 ((bt218.1.length : Int) + 2)) > 24 then (some ((⟨#[]⟩ : ByteArray), ([] : List (S59)), ([] : List (S41)), 2)) else (d_Alpha.l0 k l0 bt218.1 (bt218.1.length : Int) 0 (⟨#[97, 108, 112, 104, 97]⟩ : ByteArray) (([(⟨(⟨#[95, 105, 110]⟩ : ByteArray), 1, 0⟩ : S59), (⟨(⟨#[95, 111, 117, 116]⟩ : ByteArray), 0, 0⟩ : S59)] : List (S59))))) else (some ((⟨#[]⟩ : ByteArray), ([] : List (S59)), ([] : List (S41)), bt218.2)))
theorem d_Alpha.mono_l : ∀ k, (∀ y0 y1 y2 y3 y4 y5, LeO (d_Alpha.l0 k y0 y1 y2 y3 y4 y5) (d_Alpha.l0 (k + 1) y0 y1 y2 y3 y4 y5)) ∧ (∀ y0 y1 y2 y3 y4 y5 y6 y7 y8, LeO (d_Alpha.l1 k y0 y1 y2 y3 y4 y5 y6 y7 y8) (d_Alpha.l1 (k + 1) y0 y1 y2 y3 y4 y5 y6 y7 y8)) ∧ (∀ y0 y1 y2 y3 y4 y5 y6 y7 y8 y9 y10 y11 y12 y13, LeO (d_Alpha.l2 k y0 y1 y2 y3 y4 y5 y6 y7 y8 y9 y10 y11 y12 y13) (d_Alpha.l2 (k + 1) y0 y1 y2 y3 y4 y5 y6 y7 y8 y9 y10 y11 y12 y13)) ∧ (∀ y0 y1 y2 y3 y4 y5 y6 y7 y8 y9 y10 y11 y12 y13, LeO (d_Alpha.j3 k y0 y1 y2 y3 y4 y5 y6 y7 y8 y9 y10 y11 y12 y13) (d_Alpha.j3 (k + 1) y0 y1 y2 y3 y4 y5 y6 y7 y8 y9 y10 y11 y12 y13)) ∧ (∀ y0 y1 y2 y3 y4 y5 y6 y7 y8 y9 y10 y11 y12 y13, LeO (d_Alpha.j4 k y0 y1 y2 y3 y4 y5 y6 y7 y8 y9 y10 y11 y12 y13) (d_Alpha.j4 (k + 1) y0 y1 y2 y3 y4 y5 y6 y7 y8 y9 y10 y11 y12 y13)) ∧ (∀ y0 y1 y2 y3 y4 y5 y6 y7 y8 y9 y10 y11 y12 y13 y14 y15 y16, LeO (d_Alpha.l3 k y0 y1 y2 y3 y4 y5 y6 y7 y8 y9 y10 y11 y12 y13 y14 y15 y16) (d_Alpha.l3 (k + 1) y0 y1 y2 y3 y4 y5 y6 y7 y8 y9 y10 y11 y12 y13 y14 y15 y16))
 | 0 => ⟨fun _ _ _ _ _ _ r h => by simp [d_Alpha.l0] at h, fun _ _ _ _ _ _ _ _ _ r h => by simp [d_Alpha.l1] at h, fun _ _ _ _ _ _ _ _ _ _ _ _ _ _ r h => by simp [d_Alpha.l2] at h, fun _ _ _ _ _ _ _ _ _ _ _ _ _ _ r h => by simp [d_Alpha.j3] at h, fun _ _ _ _ _ _ _ _ _ _ _ _ _ _ r h => by simp [d_Alpha.j4] at h, fun _ _ _ _ _ _ _ _ _ _ _ _ _ _ _ _ _ r h => by simp [d_Alpha.l3] at h⟩
 | k + 1 => by
  obtain ⟨ih0, ih1, ih2, ih3, ih4, ih5⟩ := d_Alpha.mono_l k
  refine ⟨?_, ?_, ?_, ?_, ?_, ?_⟩ <;> intros <;> (first | unfold d_Alpha.l0 | unfold d_Alpha.l1 | unfold d_Alpha.l2 | unfold d_Alpha.j3 | unfold d_Alpha.j4 | unfold d_Alpha.l3)
  all_goals repeat' first
   | (with_reducible first | apply ih0 | apply ih1 | apply ih2 | apply ih3 | apply ih4 | apply ih5 | apply d_Pairs.mono | apply d_among.mono | apply e_Activities.mono | apply e_First.mono | apply e_Last.mono | exact LeO.refl _ | exact LeO.none _ | refine LeO.ite ?_ ?_ | refine LeO.bind ?_ (fun _ => ?_))
theorem d_Alpha.mono : ∀ a0 k, LeO (d_Alpha.f k a0) (d_Alpha.f (k + 1) a0) := by
 intro a0 k
 obtain ⟨ih0, ih1, ih2, ih3, ih4, ih5⟩ := d_Alpha.mono_l k
 unfold d_Alpha.f
 repeat' first
   | (with_reducible first | apply ih0 | apply ih1 | apply ih2 | apply ih3 | apply ih4 | apply ih5 | apply d_Pairs.mono | apply d_among.mono | apply e_Activities.mono | apply e_First.mono | apply e_Last.mono | exact LeO.refl _ | exact LeO.none _ | refine LeO.ite ?_ ?_ | refine LeO.bind ?_ (fun _ => ?_))
def d_Alpha.T10 : Bool × List (List Nat × List Nat) := (true, [([], []), ([0], [0]), ([], []), ([2], [2]), ([3], [3]), ([4], [4]), ([5], [5]), ([1, 6, 3], [1, 6]), ([0, 1, 2, 3, 4, 5, 6, 7], []), ([8, 7, 7, 0, 1, 2, 3, 4, 5, 6, 7], [7, 8])])
def d_Alpha.B10 : List Nat := [0, 1, 0, 4, 12, 28, 60, 127, 255, 511]
theorem d_Alpha.tab10 : rtab .any (opsOf Tryd.f9 10) = d_Alpha.T10 := by kernel_rfl
theorem d_Alpha.bits10 : waitsOk d_Alpha.T10.2 d_Alpha.B10 = true := by kernel_rfl
set_option maxHeartbeats 8000000 in
set_option maxRecDepth 100000 in
theorem d_Alpha.calls (k : Nat) (A0 : Option Addr) (c0 : Nat) (l0 : List (List ByteArray)) (r1 : ByteArray) (r2 : List (S59)) (r3 : List (S41)) (r4 : Int) (w : World) (hr0 : Kd.C (Kd.slice 9 Kd.string) w A0 l0.length l0) (hc0 : l0.length ≤ c0) (h : d_Alpha.f k l0 = some (r1, r2, r3, r4)) :
  Calls Tryd.prog 9 #[.slice A0 l0.length c0] w fun e w' => ∃ v1_ v2_ : Value, e = .returned (.tuple #[.agg #[.string r1, v1_, v2_], .int .i64 r4]) ∧ Kd.R k59 59 w' w.heap.size (fun _ => True) v1_ r2 ∧ Kd.S k41 41 w' w.heap.size (fun _ => True) v2_ r3 ∧ Below w.heap.size w w' := by
 have hu28 := Tryd.underlying28; have hu9 := Tryd.underlying9; have hu25 := Tryd.underlying25; have hu26 := Tryd.underlying26; have hu59 := Tryd.underlying59; have hu3 := Tryd.underlying3; have hu9 := Tryd.underlying9; have hu41 := Tryd.underlying41; have hu3 := Tryd.underlying3; have hu9 := Tryd.underlying9; have hu39 := Tryd.underlying39; have hu62 := Tryd.underlying62; have hu3 := Tryd.underlying3; have hu57 := Tryd.underlying57; have hu56 := Tryd.underlying56; have HR0 := aM hr0; have HC0 := aM hc0; clear hr0 hc0; have HB := aM (Below.refl w.heap.size w)
 have H : ((d_Pairs.f k l0).bind fun bt218 => (if bt218.2 = 0 then (if (wrap64 ((bt218.1.length : Int) + 2)) > 24 then (some ((⟨#[]⟩ : ByteArray), ([] : List (S59)), ([] : List (S41)), 2)) else (d_Alpha.l0 k l0 bt218.1 (bt218.1.length : Int) 0 (⟨#[97, 108, 112, 104, 97]⟩ : ByteArray) (([(⟨(⟨#[95, 105, 110]⟩ : ByteArray), 1, 0⟩ : S59), (⟨(⟨#[95, 111, 117, 116]⟩ : ByteArray), 0, 0⟩ : S59)] : List (S59))))) else (some ((⟨#[]⟩ : ByteArray), ([] : List (S59)), ([] : List (S41)), bt218.2)))) = some (r1, r2, r3, r4) := h
 clear h; obtain ⟨⟨t218, t219⟩, A2, H⟩ := iB H; (try dsimp only at H)
 by_cases c3 : t219 = 0
 rotate_left
 ·
  rw [if_neg c3] at H
  have c3b0 : (t219 == 0) = false := beq_eq_false_iff_ne.mpr c3; have c3b1 : (t219 != 0) = true := bne_iff_ne.mpr c3
  simp only [Option.some.injEq, Prod.mk.injEq] at H
  obtain ⟨rfl, rfl, rfl, rfl⟩ := H
  go_enter Tryd.func9, Tryd.ntmps9
  go_wp2_with (first | ((with_reducible refine gate_dst (N := 2) rfl ?_); refine bX 2 (cs := #[.string (⟨#[]⟩ : ByteArray), .slice none 0 0, .slice none 0 0]) (t := 28) ?_; intro gb217 hg w150 hbox hb; have BK217 := aM (hbox); have GW217 := aM (gE hg (below_size (bB HB.out))); have GE217 := GW217; replace HB := aM (below_step (bB HB.out) hb); clear hb hbox hg) | ((with_reducible refine gate_callee (f := 22) rfl ?_); refine gM (some 19) Tryd.func22 #[.slice A0 l0.length c0] ?_; (with_reducible refine (d_Pairs.calls k _ _ l0 t218 t219 _ ?side1 ?side2 A2.out).mono ?_); (case side1 => exact cB HR0.out HB.out); (case side2 => exact HC0.out); rintro e w151 ⟨v220, rfl, ho0, hb⟩; refine ⟨_, rfl, ?_⟩; have HO221 := aM (Kd.R_lower ho0 (below_size (bB1 HB.out GE217.out))); replace BK217 := aM (kW BK217.out hb); replace HB := aM (below_step (bB1 HB.out GE217.out) hb); clear hb ho0; obtain ⟨hcz152_0, hcz152_1, hcz152_2, hfz152_0, hfz152_1, hfz152_2⟩ := cd3 BK217.out))
  refine bodyPost_ret (results_ct rfl _ _ gb217 28 #[.string (⟨#[]⟩ : ByteArray), .slice none 0 0, .slice none 0 0] (0, 0) _ rfl (bP BK217.out) Tryd.underlying28 rfl (by kernel_rfl)) rfl ?_
  exact ⟨_, _, rT, nT, nT, bB1 HB.out GE217.out⟩


 rw [if_pos c3] at H; have c3b0 : (t219 == 0) = true := beq_iff_eq.mpr c3; have c3b1 : (t219 != 0) = false := bne_eq_false_iff_eq.mpr c3; clear c3
 by_cases c4 : (wrap64 ((t218.length : Int) + 2)) > 24
 ·
  rw [if_pos c4] at H
  have c4b0 : decide (24 < (wrap64 ((t218.length : Int) + 2))) = true := decide_eq_true c4; clear c4
  simp only [Option.some.injEq, Prod.mk.injEq] at H
  obtain ⟨rfl, rfl, rfl, rfl⟩ := H
  go_enter Tryd.func9, Tryd.ntmps9
  go_wp2_with (first | ((with_reducible refine gate_dst (N := 2) rfl ?_); refine bX 2 (cs := #[.string (⟨#[]⟩ : ByteArray), .slice none 0 0, .slice none 0 0]) (t := 28) ?_; intro gb217 hg w5 hbox hb; have BK217 := aM (hbox); have GW217 := aM (gE hg (below_size (bB HB.out))); have GE217 := GW217; replace HB := aM (below_step (bB HB.out) hb); clear hb hbox hg) | ((with_reducible refine gate_callee (f := 22) rfl ?_); refine gM (some 19) Tryd.func22 #[.slice A0 l0.length c0] ?_; (with_reducible refine (d_Pairs.calls k _ _ l0 t218 t219 _ ?side1 ?side2 A2.out).mono ?_); (case side1 => exact cB HR0.out HB.out); (case side2 => exact HC0.out); rintro e w6 ⟨v220, rfl, ho0, hb⟩; refine ⟨_, rfl, ?_⟩; have HO221 := aM (Kd.R_lower ho0 (below_size (bB1 HB.out GE217.out))); replace BK217 := aM (kW BK217.out hb); replace HB := aM (below_step (bB1 HB.out GE217.out) hb); clear hb ho0; obtain ⟨Ao7, co7, eo7⟩ := Kd.R_slice HO221.out; subst eo7; obtain ⟨hcz8_0, hcz8_1, hcz8_2, hfz8_0, hfz8_1, hfz8_2⟩ := cd3 BK217.out))
  refine bodyPost_ret (results_ct rfl _ _ gb217 28 #[.string (⟨#[]⟩ : ByteArray), .slice none 0 0, .slice none 0 0] (0, 0) _ rfl (bP BK217.out) Tryd.underlying28 rfl (by kernel_rfl)) rfl ?_
  exact ⟨_, _, rT, nT, nT, bB1 HB.out GE217.out⟩
 rw [if_neg c4] at H; have c4b0 : decide (24 < (wrap64 ((t218.length : Int) + 2))) = false := decide_eq_false c4; clear c4
 obtain ⟨y222, hy222⟩ : ∃ y_ : List (S59), y_ = (([(⟨(⟨#[95, 105, 110]⟩ : ByteArray), 1, 0⟩ : S59), (⟨(⟨#[95, 111, 117, 116]⟩ : ByteArray), 0, 0⟩ : S59)] : List (S59))) := ⟨_, rfl⟩
 replace H : (d_Alpha.l0 k l0 t218 (t218.length : Int) 0 (⟨#[97, 108, 112, 104, 97]⟩ : ByteArray) y222) = some (r1, r2, r3, r4) := yT hy222 H
 have Ny222 := aM hy222; clear hy222
 have H' := aM H
 clear H
 go_enter Tryd.func9, Tryd.ntmps9
 go_wp2_with (first | ((with_reducible refine gate_dst (N := 2) rfl ?_); refine bX 2 (cs := #[.string (⟨#[]⟩ : ByteArray), .slice none 0 0, .slice none 0 0]) (t := 28) ?_; intro gb217 hg w9 hbox hb; have BK217 := aM (hbox); have GW217 := aM (gE hg (below_size (bB HB.out))); have GE217 := GW217; replace HB := aM (below_step (bB HB.out) hb); clear hb hbox hg) | ((with_reducible refine gate_callee (f := 22) rfl ?_); refine gM (some 19) Tryd.func22 #[.slice A0 l0.length c0] ?_; (with_reducible refine (d_Pairs.calls k _ _ l0 t218 t219 _ ?side1 ?side2 A2.out).mono ?_); (case side1 => exact cB HR0.out HB.out); (case side2 => exact HC0.out); rintro e w10 ⟨v220, rfl, ho0, hb⟩; refine ⟨_, rfl, ?_⟩; have HO221 := aM (Kd.R_lower ho0 (below_size (bB1 HB.out GE217.out))); replace BK217 := aM (kW BK217.out hb); replace HB := aM (below_step (bB1 HB.out GE217.out) hb); clear hb ho0; obtain ⟨Ao11, co11, eo11⟩ := Kd.R_slice HO221.out; subst eo11) | ((with_reducible refine gate_dst (N := 33) rfl ?_); refine Kd.R_lit k59 _ 59 ?hg (N := 33) ?hd (xs := ([(⟨(⟨#[95, 105, 110]⟩ : ByteArray), 1, 0⟩ : S59), (⟨(⟨#[95, 111, 117, 116]⟩ : ByteArray), 0, 0⟩ : S59)] : List (S59))) (inner := [.string (⟨#[95, 105, 110]⟩ : ByteArray), .int .i64 1, .int .i64 0, .string (⟨#[95, 111, 117, 116]⟩ : ByteArray), .int .i64 0, .int .i64 0]) (ok := fun _ => True) (okp := fun _ => True) ?hr ?hp (fun _ hk => hk) trivial (Below.refl _ _) (Nat.le_refl _) (by simp) ?_; (case hd => rfl); (case hg => rfl); (case hr => first | (go_simp; done) | (go_simp; rfl)); (case hp => exact (Reps.c3 (show Kd.M k59 _ _ _ (⟨(⟨#[95, 105, 110]⟩ : ByteArray), 1, 0⟩ : S59) [.string (⟨#[95, 105, 110]⟩ : ByteArray), .int .i64 1, .int .i64 0] from (k59_mkM _ _ _ (⟨(⟨#[95, 105, 110]⟩ : ByteArray), 1, 0⟩ : S59) )) (Reps.c3 (show Kd.M k59 _ _ _ (⟨(⟨#[95, 111, 117, 116]⟩ : ByteArray), 0, 0⟩ : S59) [.string (⟨#[95, 111, 117, 116]⟩ : ByteArray), .int .i64 0, .int .i64 0] from (k59_mkM _ _ _ (⟨(⟨#[95, 111, 117, 116]⟩ : ByteArray), 0, 0⟩ : S59) )) (Reps.none _ _)))); intro v223 w12 ho13 hb hg_ hnew_; clear hg_ hnew_; (first | rw [← Ny222.out] at ho13 | (simp only [Int.reduceToNat] at ho13; rw [← Ny222.out] at ho13)); replace HO221 := aM (Kd.R_below (oR HO221.out) hb); have HO224 := aM (Kd.R_lower ho13 (below_size (bB1 HB.out GE217.out))); replace BK217 := aM (kW BK217.out hb); replace HB := aM (below_step (bB1 HB.out GE217.out) hb); clear hb ho13; obtain ⟨Ao14, co14, eo14⟩ := Kd.R_slice HO224.out; subst eo14) | ((with_reducible refine gate_dst (N := 6) rfl ?_); refine bX 6 (cs := #[.string (⟨#[]⟩ : ByteArray), .slice none 0 0, .slice none 0 0]) (t := 28) ?_; intro gb225 hg w15 hbox hb; replace HO221 := aM (Kd.R_below (oR HO221.out) hb); replace HO224 := aM (Kd.R_below (oR HO224.out) hb); have BK225 := aM (hbox); have GW225 := aM (gE hg (below_size (bB1 HB.out GE217.out))); have GE225 := GW225; replace HB := aM (below_step (bB1 HB.out GE217.out) hb); have NB217_225 := aM (gL hg (kL BK217.out)); have NB225_217 := aM (gG hg (kL BK217.out)); replace BK217 := aM (kW BK217.out hb); clear hb hbox hg; have hnb16 := NB225_217.out; have hnc16 := NB217_225.out; obtain ⟨hcz17_0, hcz17_1, hcz17_2, hfz17_0, hfz17_1, hfz17_2⟩ := cd3 BK225.out))
 go_loopg [37] k (fun kq v37 w' => ∃ (x37_1 : Int) (x226001_1 : List (S59)) (u226001 : Value), v37 = .int .i64 x37_1 ∧ Aside0 (d_Alpha.l0 kq l0 t218 (t218.length : Int) x37_1 (⟨#[97, 108, 112, 104, 97]⟩ : ByteArray) x226001_1 = some (r1, r2, r3, r4)) ∧ Aside0 (kq ≤ k) ∧ Aside0 (Kd.R k57 57 w' w.heap.size (fun _ => True) (.slice Ao11 t218.length co11) t218) ∧ Aside0 (Kd.R k59 59 w' w.heap.size (fun _ => True) u226001 x226001_1) ∧ Aside0 (w'.heap[gb217]? = some (.cells #[.string (⟨#[]⟩ : ByteArray), (.slice none 0 0), (.slice none 0 0)] 28 (0, 0))) ∧ Aside0 (w'.heap[gb225]? = some (.cells #[.string (⟨#[97, 108, 112, 104, 97]⟩ : ByteArray), u226001, (.slice none 0 0)] 28 (0, 0))) ∧ Aside0 (Below w.heap.size w w'))
 case atStart => exact ⟨(0), (y222), (.slice Ao14 y222.length co14), eT, H', ⟨Nat.le_refl _⟩, ⟨by refine oR ?_; exact tT HO221.out BK225.out⟩, ⟨by refine oR ?_; exact tT HO224.out BK225.out⟩, ⟨bF BK217.out NB217_225.out⟩, ⟨bP BK225.out⟩, ⟨bB2 HB.out GE217.out GE225.out⟩⟩
 clear H'; obtain ⟨x37_1, x226001_1, u226001, rfl, HA, HK1, HO_4, HO_226001, BK217, BK225, HB⟩ := hrel
 cases gk with
 | zero => exact absurd HA.out (by simp [d_Alpha.l0])
 | succ k1 =>
  have H := HA.out; clear HA
  simp only [d_Alpha.l0] at H
  by_cases c18 : x37_1 < (t218.length : Int)
  ·
   rw [if_pos c18] at H
   have c18b0 := decide_eq_true c18; clear c18; obtain ⟨t226, A19, H⟩ := iB H; (try dsimp only at H)
   obtain ⟨c20, H⟩ := iP H; have c20b0 := eq_true c20; have c20b1 : decide (2 + t226.size ≤ 9223372036854775807) = true := decide_eq_true c20
   try have c20b2 : (9223372036854775807 < 2 + t226.size) = False := eq_false (Nat.not_lt.2 c20)
   obtain ⟨c21, H⟩ := iP H; have LMc21 := aM c21; clear c21
   obtain ⟨y227, hy227⟩ : ∃ y_ : List (S59), y_ = (x226001_1 ++ [(⟨(⟨#[95, 112]⟩ : ByteArray) ++ t226, 0, 0⟩ : S59)]) := ⟨_, rfl⟩
   replace H : (d_Alpha.l0 k1 l0 t218 (t218.length : Int) (wrap64 (x37_1 + 1)) (⟨#[97, 108, 112, 104, 97]⟩ : ByteArray) y227) = some (r1, r2, r3, r4) := yT hy227 H
   have Ny227 := aM hy227; clear hy227
   have H' := aM H
   clear H
   try go_wp2
   replace HO_4 := aM (Kd.R_drew HO_4.out); replace HO_226001 := aM (Kd.R_drew HO_226001.out); replace BK217 := aM (blk_drew BK217.out); replace BK225 := aM (blk_drew BK225.out); replace HB := aM (below_drew1 HB.out)
   refine start_ (n := 10) (S := fun w' => w'.cell? ⟨gb225, 0, none⟩ = some (.string (⟨#[97, 108, 112, 104, 97]⟩ : ByteArray)) ∧ w'.cell? ⟨gb225, 1, none⟩ = some (u226001) ∧ w'.cell? ⟨gb225, 2, none⟩ = some (.slice none 0 0)) (ds := [9]) #[false, false, false, false, false, false, false, false, false, false] (by kernel_rfl) rfl rfl ⟨(blk_cell BK225.out 0).trans rfl, (blk_cell BK225.out 1).trans rfl, (blk_cell BK225.out 2).trans rfl⟩ (fun hHeld => ?_); refine with_tabW d_Alpha.tab10 d_Alpha.bits10 (fun HT_ HW_ => ?_)
   generalize wr.drew = w22 at HO_4 HO_226001 BK217 BK225 HB hHeld ⊢
   refine pU 0 40 (any_of HT_.out (by kernel_rfl)) ?_
   refine pU 2 42 (any_of HT_.out (by kernel_rfl)) ?_
   refine tU 1 41 (take_ofW HT_.out HW_.out (by kernel_rfl)) hHeld ?_
   refine one_ (i := 3) (N := some 43) #[true, true, true, true, false, false, false, false, false, false] rfl rfl (one_of HT_.out (by kernel_rfl)) (by decide) (fun K hK => ?_)
   refine goes_ Tryd.func24 (by kernel_rfl) rfl #[.int .i64 x37_1] (by rfl) rfl rfl mT ?_
   with_reducible refine (strconv_Itoa_24.calls x37_1 t226 _ A19.out).mono ?_
   rintro e w' ⟨rfl, ⟨nd, rfl⟩⟩
   refine ⟨_, rfl, ?_⟩
   refine hK.out _ _ ⟨(blk_cell BK225.out 0).trans rfl, (blk_cell BK225.out 1).trans rfl, (blk_cell BK225.out 2).trans rfl⟩ (fun hHeld => ?_)
   clear hK K
   refine nU 43 ?_
   refine pU 4 44 (any_of HT_.out (by kernel_rfl)) ?_
   refine pU 5 45 (any_of HT_.out (by kernel_rfl)) ?_
   refine one_ (i := 6) (N := some 46) #[true, true, true, true, true, true, true, false, false, false] rfl rfl (one_of HT_.out (by kernel_rfl)) (by decide) (fun K hK => ?_)
   refine value_ (w1 := ?_) (v := ?_) (by rfl) rfl ?_ ?_
   rotate_left 2
   ·
    go_simp
    constructor
    ·
     rfl
    ·
     rfl
   refine hK.out _ _ ⟨(blk_cell (blk_alloc BK225.out _) 0).trans rfl, (blk_cell (blk_alloc BK225.out _) 1).trans rfl, (blk_cell (blk_alloc BK225.out _) 2).trans rfl⟩ (fun hHeld => ?_)
   clear hK K
   refine nU 46 ?_
   refine one_ (i := 7) (N := some 47) #[true, true, true, true, true, true, true, true, false, false] rfl rfl (one_of HT_.out (by kernel_rfl)) (by decide) (fun K hK => ?_)
   refine Kd.R_append_step k59 (w0 := w) w.heap.size (by rfl) (.tmp 41) (.tmp 46) 25 59 (.agg #[(.string ⟨#[]⟩), (.int .i64 0), (.int .i64 0)]) 32 rfl Tryd.underlying25 info59 rfl (by decide) (by omega) u226001 x226001_1 (⟨(⟨#[95, 112]⟩ : ByteArray) ++ t226, 0, 0⟩ : S59) [.string ((⟨#[95, 112]⟩ : ByteArray) ++ t226), .int .i64 0, .int .i64 0] (fun _ => True) (fun _ => False) rfl rfl ?aP (fun _ hk => hk.elim) ?aF ?aO ?aB ?aS ?aL ?_
   (case aP => exact k59_mkM _ _ _ (⟨(⟨#[95, 112]⟩ : ByteArray) ++ t226, 0, 0⟩ : S59))
   (case aB => exact (bB2 HB.out GE217.out GE225.out))
   (case aF => exact (fun _ _ => trivial))
   (case aO => exact (oR HO_226001.out))
   (case aS => exact (below_size (bB2 HB.out GE217.out GE225.out)))
   (case aL => have := LMc21.out; omega)
   intro v228 w23 ho hb hg hat
   rw [← Ny227.out] at ho; replace HO_4 := aM (Kd.R_over' (oR HO_4.out) (Kd.R_typed (oR HO_226001.out)) (by decide) hg); replace BK217 := aM (blk_grown (g := gb217) (o := .cells #[.string (⟨#[]⟩ : ByteArray), .slice none 0 0, .slice none 0 0] 28 (0, 0)) (kB BK217.out) hg (Kd.R_ne HO_226001.out BK217.out (by decide))); replace BK225 := aM (blk_grown (g := gb225) (o := .cells #[.string (⟨#[97, 108, 112, 104, 97]⟩ : ByteArray), u226001, .slice none 0 0] 28 (0, 0)) (kB BK225.out) hg (Kd.R_ne HO_226001.out BK225.out (by decide))); replace HB := aM (hb); have HO229 := aM (ho); clear HO_226001; clear ho hb hg hat; obtain ⟨Ao24, co24, eo24⟩ := Kd.R_slice HO229.out
   (first | subst eo24 | (injection eo24 with f1_ f2_ f3_; have f4_ := f1_.symm; have f5_ := f3_.symm; clear f1_ f2_ f3_; subst f4_; subst f5_))
   refine hK.out _ _ ⟨(blk_cell BK225.out 0).trans rfl, (blk_cell BK225.out 1).trans rfl, (blk_cell BK225.out 2).trans rfl⟩ (fun hHeld => ?_)
   clear hK K
   refine nU 47 ?_
   refine pU 8 48 (any_of HT_.out (by kernel_rfl)) ?_
   refine last_ (i := 9) (N := none) #[true, true, true, true, true, true, true, true, true, true] rfl rfl (one_of HT_.out (by kernel_rfl)) (by decide) (fun K hK => ?_)
   have hs25 : w23.cell? ⟨gb225, 1, none⟩ = some (u226001) := (blk_cell BK225.out 1).trans rfl
   have hfs25 := blk_frozen BK225.out 1; have hns25_0 := NB217_225.out; have hms25_0 := NB225_217.out
   refine skip_ (w1 := ?_) (by rfl) rfl ?_ ?_
   rotate_left
   ·
    go_simp
    rfl
   refine hK.out _ _ ?_
   clear hK K
   refine done_ (done_of HT_.out (by kernel_rfl)) ?_
   try go_wp2
   go_roundg k1
   case measure => have := HK1.out; omega
   case rel => exact ⟨(wrap64 (x37_1 + 1)), (y227), (.slice Ao24 y227.length co24), eT, H', ⟨by have := HK1.out; omega⟩, ⟨by refine oR ?_; exact tT HO_4.out BK225.out⟩, ⟨by refine oR ?_; exact tT HO229.out BK225.out⟩, ⟨bF BK217.out NB217_225.out⟩, ⟨bP BK225.out⟩, ⟨bB2 HB.out GE217.out GE225.out⟩⟩
  rw [if_neg c18] at H; have c18b0 := decide_eq_false c18; clear c18; obtain ⟨t230, A26, H⟩ := iB H; (try dsimp only at H); obtain ⟨t233, A27, H⟩ := iB H; (try dsimp only at H); obtain ⟨t236, A28, H⟩ := iB H; (try dsimp only at H)
  have H' := aM H
  clear H
  go_wp2_with (first | ((with_reducible refine gate_callee (f := 25) rfl ?_); refine gM (some 51) Tryd.func25 #[.slice A0 l0.length c0] ?_; (with_reducible refine (e_First.calls k1 _ _ l0 t230 _ ?side1 ?side2 A26.out).mono ?_); (case side1 => exact cB HR0.out HB.out); (case side2 => exact HC0.out); rintro e w29 ⟨v231, rfl, ho0, hb⟩; refine ⟨_, rfl, ?_⟩; replace HO_4 := aM (Kd.R_below (oR HO_4.out) hb); replace HO_226001 := aM (Kd.R_below (oR HO_226001.out) hb); have HO232 := aM (Kd.R_lower ho0 (below_size (bB2 HB.out GE217.out GE225.out))); replace BK217 := aM (kW BK217.out hb); replace BK225 := aM (kW BK225.out hb); replace HB := aM (below_step (bB2 HB.out GE217.out GE225.out) hb); clear hb ho0) | ((with_reducible refine gate_callee (f := 26) rfl ?_); refine gM (some 53) Tryd.func26 #[.slice A0 l0.length c0] ?_; (with_reducible refine (e_Last.calls k1 _ _ l0 t233 _ ?side1 ?side2 A27.out).mono ?_); (case side1 => exact cB HR0.out HB.out); (case side2 => exact HC0.out); rintro e w30 ⟨v234, rfl, ho0, hb⟩; refine ⟨_, rfl, ?_⟩; replace HO_4 := aM (Kd.R_below (oR HO_4.out) hb); replace HO_226001 := aM (Kd.R_below (oR HO_226001.out) hb); have HO235 := aM (Kd.R_lower (Kd.R_new' ho0 (Kd.R_lt (oR HO232.out))) (below_size (bB2 HB.out GE217.out GE225.out))); replace HO232 := aM (Kd.R_elder' (oR HO232.out) (Kd.R_base ho0) hb); replace BK217 := aM (kW BK217.out hb); replace BK225 := aM (kW BK225.out hb); replace HB := aM (below_step (bB2 HB.out GE217.out GE225.out) hb); clear hb ho0) | ((with_reducible refine gate_callee (f := 27) rfl ?_); refine gM (some 55) Tryd.func27 #[.slice A0 l0.length c0] ?_; (with_reducible refine (e_Activities.calls k1 _ _ l0 t236 _ ?side1 ?side2 A28.out).mono ?_); (case side1 => exact cB HR0.out HB.out); (case side2 => exact HC0.out); rintro e w31 ⟨v237, rfl, ho0, hb⟩; refine ⟨_, rfl, ?_⟩; replace HO_4 := aM (Kd.R_below (oR HO_4.out) hb); replace HO_226001 := aM (Kd.R_below (oR HO_226001.out) hb); have HO238 := aM (Kd.R_lower (Kd.R_new' (Kd.R_new' ho0 (Kd.R_lt (oR HO232.out))) (Kd.R_lt (oR HO235.out))) (below_size (bB2 HB.out GE217.out GE225.out))); replace HO232 := aM (Kd.R_elder' (oR HO232.out) (Kd.R_base ho0) hb); replace HO235 := aM (Kd.R_elder' (oR HO235.out) (Kd.R_base ho0) hb); replace BK217 := aM (kW BK217.out hb); replace BK225 := aM (kW BK225.out hb); replace HB := aM (below_step (bB2 HB.out GE217.out GE225.out) hb); clear hb ho0; obtain ⟨Ao32, co32, eo32⟩ := Kd.R_slice HO238.out; subst eo32))
  go_loopg [57] k1 (fun kq v57 w' => ∃ (x57_2 : Int) (x218000_2 : ByteArray) (x226002_2 : List (S41)) (u226002 : Value), v57 = .int .i64 x57_2 ∧ Aside0 (d_Alpha.l1 kq t218 t230 t233 t236 (t236.length : Int) x57_2 (⟨#[97, 108, 112, 104, 97]⟩ : ByteArray) x226001_1 x226002_2 = some (r1, r2, r3, r4)) ∧ Aside0 (kq ≤ k1) ∧ Aside0 (Kd.R k57 57 w' w.heap.size (fun _ => True) (.slice Ao11 t218.length co11) t218) ∧ Aside0 (Kd.R Kd.string 9 w' w.heap.size (fun k_ => some k_ ≠ (v234 : Value).ownBlock ∧ some k_ ≠ ((.slice Ao32 t236.length co32) : Value).ownBlock) v231 t230) ∧ Aside0 (Kd.R Kd.string 9 w' w.heap.size (fun k_ => some k_ ≠ (v231 : Value).ownBlock ∧ some k_ ≠ ((.slice Ao32 t236.length co32) : Value).ownBlock) v234 t233) ∧ Aside0 (Kd.R Kd.string 9 w' w.heap.size (fun k_ => some k_ ≠ (v231 : Value).ownBlock ∧ some k_ ≠ (v234 : Value).ownBlock) (.slice Ao32 t236.length co32) t236) ∧ Aside0 (Kd.R k59 59 w' w.heap.size (fun _ => True) u226001 x226001_1) ∧ Aside0 (Kd.S k41 41 w' w.heap.size (fun _ => True) u226002 x226002_2) ∧ Aside0 (w'.heap[gb217]? = some (.cells #[.string x218000_2, (.slice none 0 0), (.slice none 0 0)] 28 (0, 0))) ∧ Aside0 (w'.heap[gb225]? = some (.cells #[.string (⟨#[97, 108, 112, 104, 97]⟩ : ByteArray), u226001, u226002] 28 (0, 0))) ∧ Aside0 (Below w.heap.size w w'))
  case atStart => exact ⟨(0), ((⟨#[]⟩ : ByteArray)), (([] : List (S41))), (.slice none 0 0), eT, H', ⟨Nat.le_refl _⟩, ⟨oR HO_4.out⟩, ⟨by refine oR ?_; exact Kd.R_mono HO232.out (fun _ hk => ⟨hk.1.2, hk.2⟩)⟩, ⟨by refine oR ?_; exact Kd.R_mono HO235.out (fun _ hk => ⟨hk.1.2, hk.2⟩)⟩, ⟨by refine oR ?_; exact Kd.R_mono HO238.out (fun _ hk => ⟨hk.1.2, hk.2⟩)⟩, ⟨oR HO_226001.out⟩, ⟨nT⟩, ⟨kB BK217.out⟩, ⟨kB BK225.out⟩, ⟨bB2 HB.out GE217.out GE225.out⟩⟩
  clear H'; obtain ⟨x57_2, x218000_2, x226002_2, u226002, rfl, HA, HK2, HO_4, HO_8, HO_9, HO_55, HO_226001, HO_226002, BK217, BK225, HB⟩ := hrel
  cases gk with
  | zero => exact absurd HA.out (by simp [d_Alpha.l1])
  | succ k2 =>
   have H := HA.out; clear HA
   simp only [d_Alpha.l1] at H
   by_cases c33 : x57_2 < (t236.length : Int)
   rotate_left
   ·
    rw [if_neg c33] at H
    have c33b0 := decide_eq_false c33; clear c33
    simp only [Option.some.injEq, Prod.mk.injEq] at H
    obtain ⟨rfl, rfl, rfl, rfl⟩ := H; have hnb145 := NB225_217.out; have hnc145 := NB217_225.out
    have hcz146_0 : wr.cell? ⟨gb225, 0, none⟩ = some (.string (⟨#[97, 108, 112, 104, 97]⟩ : ByteArray)) := (blk_cell BK225.out 0).trans rfl
    have hcz146_1 : wr.cell? ⟨gb225, 1, none⟩ = some (u226001) := (blk_cell BK225.out 1).trans rfl
    have hcz146_2 : wr.cell? ⟨gb225, 2, none⟩ = some (u226002) := (blk_cell BK225.out 2).trans rfl
    have hfz146_0 := blk_frozen BK225.out 0; have hfz146_1 := blk_frozen BK225.out 1; have hfz146_2 := blk_frozen BK225.out 2
    have hcz147_0 : wr.cell? ⟨gb217, 0, none⟩ = some (.string x218000_2) := (blk_cell BK217.out 0).trans rfl
    have hcz147_1 : wr.cell? ⟨gb217, 1, none⟩ = some (.slice none 0 0) := (blk_cell BK217.out 1).trans rfl
    have hcz147_2 : wr.cell? ⟨gb217, 2, none⟩ = some (.slice none 0 0) := (blk_cell BK217.out 2).trans rfl
    have hfz147_0 := blk_frozen BK217.out 0; have hfz147_1 := blk_frozen BK217.out 1; have hfz147_2 := blk_frozen BK217.out 2; obtain ⟨Ao148, co148, eo148⟩ := Kd.R_slice HO_226001.out; subst eo148; obtain ⟨Ao149, co149, eo149⟩ := Kd.S_slice HO_226002.out; subst eo149
    go_wp2
    refine bodyPost_ret (results_ct rfl _ _ gb217 28 #[.string (⟨#[97, 108, 112, 104, 97]⟩ : ByteArray), .slice Ao148 x226001_1.length co148, .slice Ao149 x226002_2.length co149] (0, 0) _ rfl (bP BK217.out) Tryd.underlying28 rfl (by kernel_rfl)) rfl ?_
    exact ⟨_, _, rT, by refine oR ?_; exact tT HO_226001.out BK217.out, by refine oS ?_; exact sT HO_226002.out BK217.out, bB2 HB.out GE217.out GE225.out⟩
   rw [if_pos c33] at H; have c33b0 := decide_eq_true c33; clear c33
   obtain ⟨c34, H⟩ := iP H; have c34b0 := decide_eq_true c34; clear c34
   obtain ⟨c35, H⟩ := iP H; have c35b0 := decide_eq_true c35; clear c35
   have H' := aM H
   clear H; have p239 : 0 ≤ (x57_2 : Int) := dT; have q239 : x57_2 < (t236.length : Int) := dT
   try (obtain ⟨Aoz239, coz239, eoz239⟩ := Kd.R_slice HO_55.out; subst eoz239)
   obtain ⟨ad239, e239, hx239_0⟩ := Kd.at_string (Kd.R_reads' HO_55.out).2.2 x57_2 p239 q239; cases e239; replace p239 := eq_true p239; replace q239 := eq_true q239; have hnb36 := NB225_217.out; have hnc36 := NB217_225.out
   have hcz37_0 : wr.cell? ⟨gb225, 0, none⟩ = some (.string (⟨#[97, 108, 112, 104, 97]⟩ : ByteArray)) := (blk_cell BK225.out 0).trans rfl
   have hcz37_1 : wr.cell? ⟨gb225, 1, none⟩ = some (u226001) := (blk_cell BK225.out 1).trans rfl
   have hcz37_2 : wr.cell? ⟨gb225, 2, none⟩ = some (u226002) := (blk_cell BK225.out 2).trans rfl
   have hfz37_0 := blk_frozen BK225.out 0; have hfz37_1 := blk_frozen BK225.out 1; have hfz37_2 := blk_frozen BK225.out 2; obtain ⟨Ao38, co38, eo38⟩ := Kd.R_slice HO_226001.out; subst eo38
   go_wp2
   go_loopg [65] k2 (fun kq v65 w' => ∃ (x65_3 : Int) (x218000_3 : ByteArray), v65 = .int .i64 x65_3 ∧ Aside0 (d_Alpha.l2 kq t218 t230 t233 x57_2 (rdOf ByteArray.empty t236 x57_2) t236 (t236.length : Int) x57_2 x226001_1 (x226001_1.length : Int) x65_3 (⟨#[97, 108, 112, 104, 97]⟩ : ByteArray) x226001_1 x226002_2 = some (r1, r2, r3, r4)) ∧ Aside0 (kq ≤ k2) ∧ Aside0 (Kd.R k57 57 w' w.heap.size (fun _ => True) (.slice Ao11 t218.length co11) t218) ∧ Aside0 (Kd.R Kd.string 9 w' w.heap.size (fun k_ => some k_ ≠ (v234 : Value).ownBlock ∧ some k_ ≠ ((.slice (some ad239) t236.length co32) : Value).ownBlock) v231 t230) ∧ Aside0 (Kd.R Kd.string 9 w' w.heap.size (fun k_ => some k_ ≠ (v231 : Value).ownBlock ∧ some k_ ≠ ((.slice (some ad239) t236.length co32) : Value).ownBlock) v234 t233) ∧ Aside0 (Kd.R Kd.string 9 w' w.heap.size (fun k_ => some k_ ≠ (v231 : Value).ownBlock ∧ some k_ ≠ (v234 : Value).ownBlock) (.slice (some ad239) t236.length co32) t236) ∧ Aside0 (Kd.R k59 59 w' w.heap.size (fun _ => True) (.slice Ao38 x226001_1.length co38) x226001_1) ∧ Aside0 (Kd.R k59 59 w' w.heap.size (fun _ => True) (.slice Ao38 x226001_1.length co38) x226001_1) ∧ Aside0 (Kd.S k41 41 w' w.heap.size (fun _ => True) u226002 x226002_2) ∧ Aside0 (w'.heap[gb217]? = some (.cells #[.string x218000_3, (.slice none 0 0), (.slice none 0 0)] 28 (0, 0))) ∧ Aside0 (w'.heap[gb225]? = some (.cells #[.string (⟨#[97, 108, 112, 104, 97]⟩ : ByteArray), (.slice Ao38 x226001_1.length co38), u226002] 28 (0, 0))) ∧ Aside0 (Below w.heap.size w w'))
   case atStart => exact ⟨(0), (x218000_2), eT, H', ⟨Nat.le_refl _⟩, ⟨oR HO_4.out⟩, ⟨oR HO_8.out⟩, ⟨oR HO_9.out⟩, ⟨oR HO_55.out⟩, ⟨oR HO_226001.out⟩, ⟨oR HO_226001.out⟩, ⟨oS HO_226002.out⟩, ⟨kB BK217.out⟩, ⟨kB BK225.out⟩, ⟨bB2 HB.out GE217.out GE225.out⟩⟩
   clear H'
   try clear hx2
   try clear hx23
   try clear hx239_0
   obtain ⟨x65_3, x218000_3, rfl, HA, HK3, HO_4, HO_8, HO_9, HO_55, HO_63, HO_226001, HO_226002, BK217, BK225, HB⟩ := hrel
   cases gk with
   | zero => exact absurd HA.out (by simp [d_Alpha.l2])
   | succ k3 =>
    have H := HA.out; clear HA
    simp only [d_Alpha.l2] at H
    by_cases c39 : x65_3 < (x226001_1.length : Int)
    ·
     rw [if_pos c39] at H
     have c39b0 := decide_eq_true c39; clear c39
     obtain ⟨c40, H⟩ := iP H; have c40b0 := decide_eq_true c40; clear c40
     obtain ⟨c41, H⟩ := iP H; have c41b0 := decide_eq_true c41; clear c41
     by_cases c42 : ((rd_T59 x226001_1 x65_3).f0).toList = (rdOf ByteArray.empty t236 x57_2).toList
     ·
      rw [if_pos c42] at H
      have c42b0 : (((rd_T59 x226001_1 x65_3).f0).toList == (rdOf ByteArray.empty t236 x57_2).toList) = true := beq_iff_eq.mpr c42; have c42b1 : (((rd_T59 x226001_1 x65_3).f0).toList != (rdOf ByteArray.empty t236 x57_2).toList) = false := bne_eq_false_iff_eq.mpr c42; clear c42
      simp only [Option.some.injEq, Prod.mk.injEq] at H
      obtain ⟨rfl, rfl, rfl, rfl⟩ := H; have p240 : 0 ≤ (x65_3 : Int) := dT; have q240 : x65_3 < (x226001_1.length : Int) := dT
      try (obtain ⟨Aoz240, coz240, eoz240⟩ := Kd.R_slice HO_63.out; subst eoz240)
      obtain ⟨ad240, e240, hx240_0, hx240_1, hx240_2⟩ := at_T59 (Kd.R_reads' HO_63.out).2.2 x65_3 p240 q240; cases e240; replace p240 := eq_true p240; replace q240 := eq_true q240
      go_wp2_with (first | ((with_reducible refine gate_dst (N := 13) rfl ?_); refine bX 13 (cs := #[.string (⟨#[]⟩ : ByteArray), .int .i64 0, .int .i64 0]) (t := 59) ?_; intro gb241 hg w43 hbox hb; replace HO_4 := aM (Kd.R_below (oR HO_4.out) hb); replace HO_8 := aM (Kd.R_below (oR HO_8.out) hb); replace HO_9 := aM (Kd.R_below (oR HO_9.out) hb); replace HO_55 := aM (Kd.R_below (oR HO_55.out) hb); replace HO_63 := aM (Kd.R_below (Kd.R_elderB (oR HO_63.out) gb241 (Nat.le_of_eq hg.symm)) hb); replace HO_226001 := aM (Kd.R_below (Kd.R_elderB (oR HO_226001.out) gb241 (Nat.le_of_eq hg.symm)) hb); replace HO_226002 := aM (Kd.S_below (oS HO_226002.out) hb); have BK241 := aM (hbox); have GW241 := aM (gE hg (below_size (bB2 HB.out GE217.out GE225.out))); have GE241 := GW241; replace HB := aM (below_step (bB2 HB.out GE217.out GE225.out) hb); have NB217_241 := aM (gL hg (kL BK217.out)); have NB241_217 := aM (gG hg (kL BK217.out)); replace BK217 := aM (kW BK217.out hb); have NB225_241 := aM (gL hg (kL BK225.out)); have NB241_225 := aM (gG hg (kL BK225.out)); replace BK225 := aM (kW BK225.out hb); clear hb hbox hg; have hnb44 := NB241_217.out; have hnc44 := NB217_241.out; have hnb45 := NB241_225.out; have hnc45 := NB225_241.out; obtain ⟨hcz46_0, hcz46_1, hcz46_2, hfz46_0, hfz46_1, hfz46_2⟩ := cd3 BK241.out; have hnb47 := NB217_225.out; have hnc47 := NB225_217.out; obtain ⟨hcz48_0, hcz48_1, hcz48_2, hfz48_0, hfz48_1, hfz48_2⟩ := cd3 BK217.out))
      refine bodyPost_ret (results_ct rfl _ _ gb217 28 #[.string (⟨#[]⟩ : ByteArray), .slice none 0 0, .slice none 0 0] (0, 0) _ rfl (by refine kR ?_; refine blk_put (cs := #[.string (⟨#[]⟩ : ByteArray), .slice none 0 0, .slice none 0 0]) ?_ 2 _ rfl; refine kR ?_; refine blk_put (cs := #[.string (⟨#[]⟩ : ByteArray), .slice none 0 0, .slice none 0 0]) ?_ 1 _ rfl; refine kR ?_; refine blk_put (cs := #[.string x218000_3, .slice none 0 0, .slice none 0 0]) ?_ 0 _ rfl; refine kR ?_; refine blk_far ?_ NB217_241.out _; refine kR ?_; refine blk_far ?_ NB217_241.out _; refine kR ?_; refine blk_far ?_ NB217_241.out _; refine kR ?_; exact BK217.out) Tryd.underlying28 rfl (by kernel_rfl)) rfl ?_
      exact ⟨_, _, rT, nT, nT, bB3 HB.out GE217.out GE225.out GE241.out⟩
     rw [if_neg c42] at H; have c42b0 : (((rd_T59 x226001_1 x65_3).f0).toList == (rdOf ByteArray.empty t236 x57_2).toList) = false := beq_eq_false_iff_ne.mpr c42; have c42b1 : (((rd_T59 x226001_1 x65_3).f0).toList != (rdOf ByteArray.empty t236 x57_2).toList) = true := bne_iff_ne.mpr c42
     have H' := aM H
     clear H; have p240 : 0 ≤ (x65_3 : Int) := dT; have q240 : x65_3 < (x226001_1.length : Int) := dT
     try (obtain ⟨Aoz240, coz240, eoz240⟩ := Kd.R_slice HO_63.out; subst eoz240)
     obtain ⟨ad240, e240, hx240_0, hx240_1, hx240_2⟩ := at_T59 (Kd.R_reads' HO_63.out).2.2 x65_3 p240 q240; cases e240; replace p240 := eq_true p240; replace q240 := eq_true q240
     go_wp2_with (first | ((with_reducible refine gate_dst (N := 13) rfl ?_); refine bX 13 (cs := #[.string (⟨#[]⟩ : ByteArray), .int .i64 0, .int .i64 0]) (t := 59) ?_; intro gb241 hg w49 hbox hb; replace HO_4 := aM (Kd.R_below (oR HO_4.out) hb); replace HO_8 := aM (Kd.R_below (oR HO_8.out) hb); replace HO_9 := aM (Kd.R_below (oR HO_9.out) hb); replace HO_55 := aM (Kd.R_below (oR HO_55.out) hb); replace HO_63 := aM (Kd.R_below (Kd.R_elderB (oR HO_63.out) gb241 (Nat.le_of_eq hg.symm)) hb); replace HO_226001 := aM (Kd.R_below (Kd.R_elderB (oR HO_226001.out) gb241 (Nat.le_of_eq hg.symm)) hb); replace HO_226002 := aM (Kd.S_below (oS HO_226002.out) hb); have BK241 := aM (hbox); have GW241 := aM (gE hg (below_size (bB2 HB.out GE217.out GE225.out))); have GE241 := GW241; replace HB := aM (below_step (bB2 HB.out GE217.out GE225.out) hb); have NB217_241 := aM (gL hg (kL BK217.out)); have NB241_217 := aM (gG hg (kL BK217.out)); replace BK217 := aM (kW BK217.out hb); have NB225_241 := aM (gL hg (kL BK225.out)); have NB241_225 := aM (gG hg (kL BK225.out)); replace BK225 := aM (kW BK225.out hb); clear hb hbox hg; have hnb50 := NB241_217.out; have hnc50 := NB217_241.out; have hnb51 := NB241_225.out; have hnc51 := NB225_241.out; obtain ⟨hcz52_0, hcz52_1, hcz52_2, hfz52_0, hfz52_1, hfz52_2⟩ := cd3 BK241.out))
     go_roundg k3
     case measure => have := HK1.out; have := HK2.out; have := HK3.out; omega
     case rel => exact ⟨(wrap64 (x65_3 + 1)), (x218000_3), eT, H', ⟨by have := HK1.out; have := HK2.out; have := HK3.out; omega⟩, ⟨by refine oR ?_; exact tT HO_4.out BK241.out⟩, ⟨by refine oR ?_; exact tM HO_8.out BK241.out (fun _ hk => ⟨hk.1.1, hk.1.2⟩)⟩, ⟨by refine oR ?_; exact tM HO_9.out BK241.out (fun _ hk => ⟨hk.1.1, hk.1.2⟩)⟩, ⟨by refine oR ?_; exact tM HO_55.out BK241.out (fun _ hk => ⟨hk.1.1, hk.1.2⟩)⟩, ⟨by refine oR ?_; exact Kd.R_mono (Kd.R_far (p := ⟨gb241, 2, none⟩) (Kd.R_far (p := ⟨gb241, 1, none⟩) (Kd.R_far (p := ⟨gb241, 0, none⟩) (Kd.R_mono HO_63.out (fun k_ hk => (⟨hk, hk.2⟩ : _ ∧ k_ ≠ gb241))) (fun _ hk => hk.2) (.string ((rd_T59 x226001_1 x65_3).f0))) (fun _ hk => hk.2) (.int .i64 ((rd_T59 x226001_1 x65_3).f1))) (fun _ hk => hk.2) (.int .i64 ((rd_T59 x226001_1 x65_3).f2))) (fun _ hk => trivial)⟩, ⟨by refine oR ?_; exact Kd.R_mono (Kd.R_far (p := ⟨gb241, 2, none⟩) (Kd.R_far (p := ⟨gb241, 1, none⟩) (Kd.R_far (p := ⟨gb241, 0, none⟩) (Kd.R_mono HO_226001.out (fun k_ hk => (⟨hk, hk.2⟩ : _ ∧ k_ ≠ gb241))) (fun _ hk => hk.2) (.string ((rd_T59 x226001_1 x65_3).f0))) (fun _ hk => hk.2) (.int .i64 ((rd_T59 x226001_1 x65_3).f1))) (fun _ hk => hk.2) (.int .i64 ((rd_T59 x226001_1 x65_3).f2))) (fun _ hk => trivial)⟩, ⟨by refine oS ?_; exact sT HO_226002.out BK241.out⟩, ⟨bF BK217.out NB217_241.out⟩, ⟨bF BK225.out NB225_241.out⟩, ⟨bB3 HB.out GE217.out GE225.out GE241.out⟩⟩
    rw [if_neg c39] at H; have c39b0 := decide_eq_false c39; clear c39; obtain ⟨t243, A53, H⟩ := iB H; (try dsimp only at H); have HC54 := aM H; clear H
    go_upto_if 79 with (first | ((with_reducible refine gate_dst (N := 14) rfl ?_); refine bX 14 (cs := #[.string (⟨#[]⟩ : ByteArray), .slice none 0 0, .slice none 0 0, .slice none 0 0, .int .i64 0]) (t := 41) ?_; intro gb242 hg w55 hbox hb; replace HO_4 := aM (Kd.R_below (oR HO_4.out) hb); replace HO_8 := aM (Kd.R_below (oR HO_8.out) hb); replace HO_9 := aM (Kd.R_below (oR HO_9.out) hb); replace HO_55 := aM (Kd.R_below (oR HO_55.out) hb); replace HO_63 := aM (Kd.R_below (oR HO_63.out) hb); replace HO_226001 := aM (Kd.R_below (oR HO_226001.out) hb); replace HO_226002 := aM (Kd.S_below (Kd.S_elderB (oS HO_226002.out) gb242 (Nat.le_of_eq hg.symm)) hb); have BK242 := aM (hbox); have GW242 := aM (gE hg (below_size (bB2 HB.out GE217.out GE225.out))); have GE242 := GW242; replace HB := aM (below_step (bB2 HB.out GE217.out GE225.out) hb); have NB217_242 := aM (gL hg (kL BK217.out)); have NB242_217 := aM (gG hg (kL BK217.out)); replace BK217 := aM (kW BK217.out hb); have NB225_242 := aM (gL hg (kL BK225.out)); have NB242_225 := aM (gG hg (kL BK225.out)); replace BK225 := aM (kW BK225.out hb); clear hb hbox hg; have hnb56 := NB242_217.out; have hnc56 := NB217_242.out; have hnb57 := NB242_225.out; have hnc57 := NB225_242.out; obtain ⟨hcz58_0, hcz58_1, hcz58_2, hcz58_3, hcz58_4, hfz58_0, hfz58_1, hfz58_2, hfz58_3, hfz58_4⟩ := cd5 BK242.out; obtain ⟨Ao59, co59, eo59⟩ := Kd.R_slice HO_8.out; subst eo59) | ((with_reducible refine gate_callee (f := 28) rfl ?_); refine gM (some 79) Tryd.func28 #[.slice Ao59 t230.length co59, .string (rdOf ByteArray.empty t236 x57_2)] ?_; (with_reducible refine (d_among.calls k3 _ _ t230 (rdOf ByteArray.empty t236 x57_2) t243 _ ?side1 ?side2 A53.out).mono ?_); (case side1 => refine (Kd.R_reads' (e := 9) (base := w.heap.size) (ok := fun k_ => (some k_ ≠ (v234 : Value).ownBlock ∧ some k_ ≠ (.slice (some ad239) t236.length co32 : Value).ownBlock)) (n := t230.length) (c := co59) ?_).2.2; exact (by refine oR ?_; exact (tR HO_8.out BK242.out))); (case side2 => exact (Kd.R_reads' HO_8.out).2.1); rintro e w' ⟨rfl, ⟨nd, rfl⟩⟩; refine ⟨_, rfl, ?_⟩))
    (try simp only [Act.put, List.setIfInBounds_toArray, List.set_cons_zero, List.set_cons_succ])
    go_cut [] (fun wc => ∃ (kq : Nat) (x243001_53 : List (S62)) (u243001 : Value), Aside0 (d_Alpha.j3 kq t218 t230 t233 x57_2 (rdOf ByteArray.empty t236 x57_2) t236 (t236.length : Int) x57_2 (⟨#[97, 108, 112, 104, 97]⟩ : ByteArray) x226001_1 x226002_2 (rdOf ByteArray.empty t236 x57_2) x243001_53 0 = some (r1, r2, r3, r4)) ∧ Aside0 (kq ≤ k3) ∧ Aside0 (Kd.R k57 57 wc w.heap.size (fun _ => True) (.slice Ao11 t218.length co11) t218) ∧ Aside0 (Kd.R Kd.string 9 wc w.heap.size (fun k_ => some k_ ≠ (v234 : Value).ownBlock ∧ some k_ ≠ ((.slice (some ad239) t236.length co32) : Value).ownBlock) (.slice Ao59 t230.length co59) t230) ∧ Aside0 (Kd.R Kd.string 9 wc w.heap.size (fun k_ => some k_ ≠ ((.slice Ao59 t230.length co59) : Value).ownBlock ∧ some k_ ≠ ((.slice (some ad239) t236.length co32) : Value).ownBlock) v234 t233) ∧ Aside0 (Kd.R Kd.string 9 wc w.heap.size (fun k_ => some k_ ≠ ((.slice Ao59 t230.length co59) : Value).ownBlock ∧ some k_ ≠ (v234 : Value).ownBlock) (.slice (some ad239) t236.length co32) t236) ∧ Aside0 (Kd.R k59 59 wc w.heap.size (fun _ => True) (.slice Ao38 x226001_1.length co38) x226001_1) ∧ Aside0 (Kd.S k41 41 wc w.heap.size (fun k_ => some k_ ≠ (u243001 : Value).ownBlock ∧ k_ ≠ gb242) u226002 x226002_2) ∧ Aside0 (Kd.R k62 62 wc w.heap.size (fun _ => True) u243001 x243001_53) ∧ Aside0 (wc.heap[gb217]? = some (.cells #[.string x218000_3, (.slice none 0 0), (.slice none 0 0)] 28 (0, 0))) ∧ Aside0 (wc.heap[gb225]? = some (.cells #[.string (⟨#[97, 108, 112, 104, 97]⟩ : ByteArray), (.slice Ao38 x226001_1.length co38), u226002] 28 (0, 0))) ∧ Aside0 (wc.heap[gb242]? = some (.cells #[.string (rdOf ByteArray.empty t236 x57_2), u243001, (.slice none 0 0), (.slice none 0 0), .int .i64 0] 41 (0, 0))) ∧ Aside0 (Below w.heap.size w wc))
    case first =>
     have H := HC54.out; clear HC54
     by_cases c60 : t243 = true
     rotate_left
     ·
      replace c60 := Bool.eq_false_iff.mpr c60
      subst c60
      have H1 : (d_Alpha.j3 k3 t218 t230 t233 x57_2 (rdOf ByteArray.empty t236 x57_2) t236 (t236.length : Int) x57_2 (⟨#[97, 108, 112, 104, 97]⟩ : ByteArray) x226001_1 x226002_2 (rdOf ByteArray.empty t236 x57_2) ([] : List (S62)) 0) = some (r1, r2, r3, r4) := by rw [if_neg (show ¬ (false = true) by decide)] at H; exact H
      clear H; have H := H1; clear H1
      have H' := aM H
      clear H
      go_wp2
      go_meet
      case rel => exact ⟨_, (([] : List (S62))), (.slice none 0 0), H', ⟨by have := HK1.out; have := HK2.out; have := HK3.out; first | omega | exact Nat.le_refl _⟩, ⟨by refine oR ?_; exact tT HO_4.out BK242.out⟩, ⟨by refine oR ?_; exact tM HO_8.out BK242.out (fun _ hk => ⟨hk.1.1, hk.1.2⟩)⟩, ⟨by refine oR ?_; exact tM HO_9.out BK242.out (fun _ hk => ⟨hk.1.1, hk.1.2⟩)⟩, ⟨by refine oR ?_; exact tM HO_55.out BK242.out (fun _ hk => ⟨hk.1.1, hk.1.2⟩)⟩, ⟨by refine oR ?_; exact tT HO_226001.out BK242.out⟩, ⟨by refine oS ?_; exact Kd.S_mono (Kd.S_far (p := ⟨gb242, 4, none⟩) (Kd.S_far (p := ⟨gb242, 3, none⟩) (Kd.S_far (p := ⟨gb242, 2, none⟩) (Kd.S_far (p := ⟨gb242, 1, none⟩) (Kd.S_far (p := ⟨gb242, 0, none⟩) (Kd.S_mono HO_226002.out (fun k_ hk => (⟨hk, hk.2⟩ : _ ∧ k_ ≠ gb242))) (fun _ hk => hk.2) (.string (rdOf ByteArray.empty t236 x57_2))) (fun _ hk => hk.2) (.slice none 0 0)) (fun _ hk => hk.2) (.slice none 0 0)) (fun _ hk => hk.2) (.slice none 0 0)) (fun _ hk => hk.2) (.int .i64 0)) (fun _ hk => ⟨(by simp [Value.ownBlock]), hk.1.2⟩)⟩, ⟨nT⟩, ⟨bF BK217.out NB217_242.out⟩, ⟨bF BK225.out NB225_242.out⟩, ⟨bP BK242.out⟩, ⟨bB3 HB.out GE217.out GE225.out GE242.out⟩⟩
     subst c60
     have H1 : (if ([] : List (S62)).length < 8796093022208 then (d_Alpha.j3 k3 t218 t230 t233 x57_2 (rdOf ByteArray.empty t236 x57_2) t236 (t236.length : Int) x57_2 (⟨#[97, 108, 112, 104, 97]⟩ : ByteArray) x226001_1 x226002_2 (rdOf ByteArray.empty t236 x57_2) (([] : List (S62)) ++ [(⟨0, 1⟩ : S62)]) 0) else (none)) = some (r1, r2, r3, r4) := by rw [if_pos rfl] at H; exact H
     clear H; have H := H1; clear H1
     obtain ⟨c61, H⟩ := iP H; have LMc61 := aM c61; clear c61
     obtain ⟨y244, hy244⟩ : ∃ y_ : List (S62), y_ = (([] : List (S62)) ++ [(⟨0, 1⟩ : S62)]) := ⟨_, rfl⟩
     replace H : (d_Alpha.j3 k3 t218 t230 t233 x57_2 (rdOf ByteArray.empty t236 x57_2) t236 (t236.length : Int) x57_2 (⟨#[97, 108, 112, 104, 97]⟩ : ByteArray) x226001_1 x226002_2 (rdOf ByteArray.empty t236 x57_2) y244 0) = some (r1, r2, r3, r4) := yT hy244 H
     have Ny244 := aM hy244; clear hy244
     have H' := aM H
     clear H; have hnb62 := NB242_217.out; have hnc62 := NB217_242.out; have hnb63 := NB242_225.out; have hnc63 := NB225_242.out
     have hcz64_0 := cz0 BK242.out
     have hcz64_1 := cz1 BK242.out
     have hcz64_2 := cz2 BK242.out
     have hcz64_3 := cz3 BK242.out
     have hcz64_4 := cz4 BK242.out
     have hfz64_0 := blk_frozen BK242.out 0; have hfz64_1 := blk_frozen BK242.out 1; have hfz64_2 := blk_frozen BK242.out 2; have hfz64_3 := blk_frozen BK242.out 3; have hfz64_4 := blk_frozen BK242.out 4
     go_wp2_with (first | ((with_reducible refine gate_builtin (b := .append) (xs := #[.tmp 81, .tmp 83]) rfl ?_); at_builtin; refine Kd.R_append k62 (w0 := w) w.heap.size rfl (.tmp 81) (.tmp 83) 39 62 (.agg #[(.int .i64 0), (.int .i64 0)]) 16 rfl Tryd.underlying39 info62 rfl (by decide) (by omega) (.slice none 0 0) ([] : List (S62)) (⟨0, 1⟩ : S62) [.int .i64 0, .int .i64 1] (fun _ => True) (fun _ => False) rfl (by first | (go_simp; done) | (go_simp; rfl)) ?aP (fun _ hk => hk.elim) ?aF ?aO ?aB ?aS ?aL ?_; (case aP => exact k62_mkM _ _ _ (⟨0, 1⟩ : S62)); (case aB => exact (bB3 HB.out GE217.out GE225.out GE242.out)); (case aF => exact (fun _ _ => trivial)); (case aO => exact ((Kd.R_nil _ _ _ _ (fun _ => True)))); (case aS => exact (below_size (bB3 HB.out GE217.out GE225.out GE242.out))); (case aL => have := LMc61.out; omega); intro v245 w65 ho hb hg hat; rw [← Ny244.out] at ho; replace HO_4 := aM (Kd.R_grown (by refine oR ?_; exact (tR HO_4.out BK242.out)) hg (fun _ _ => by simp [Value.ownBlock])); replace HO_8 := aM (Kd.R_grown (by refine oR ?_; exact (tR HO_8.out BK242.out)) hg (fun _ _ => by simp [Value.ownBlock])); replace HO_9 := aM (Kd.R_grown (by refine oR ?_; exact (tR HO_9.out BK242.out)) hg (fun _ _ => by simp [Value.ownBlock])); replace HO_55 := aM (Kd.R_grown (by refine oR ?_; exact (tR HO_55.out BK242.out)) hg (fun _ _ => by simp [Value.ownBlock])); replace HO_63 := aM (Kd.R_grown (by refine oR ?_; exact (tR HO_63.out BK242.out)) hg (fun _ _ => by simp [Value.ownBlock])); replace HO_226001 := aM (Kd.R_grown (by refine oR ?_; exact (tR HO_226001.out BK242.out)) hg (fun _ _ => by simp [Value.ownBlock])); replace HO_226002 := aM (Kd.S_after (Kd.S_apart_nil (by refine oS ?_; exact (sU gb242 HO_226002.out))) hg hat); replace BK217 := aM (blk_grown (g := gb217) (o := .cells #[.string x218000_3, .slice none 0 0, .slice none 0 0] 28 (0, 0)) (bF BK217.out NB217_242.out) hg (by simp [Value.ownBlock])); replace BK225 := aM (blk_grown (g := gb225) (o := .cells #[.string (⟨#[97, 108, 112, 104, 97]⟩ : ByteArray), .slice Ao38 x226001_1.length co38, u226002] 28 (0, 0)) (bF BK225.out NB225_242.out) hg (by simp [Value.ownBlock])); replace BK242 := aM (blk_grown (g := gb242) (o := .cells #[.string (rdOf ByteArray.empty t236 x57_2), .slice none 0 0, .slice none 0 0, .slice none 0 0, .int .i64 0] 41 (0, 0)) (bP BK242.out) hg (by simp [Value.ownBlock])); replace HB := aM (hb); have HO246 := aM (ho); clear ho hb hg hat; obtain ⟨Ao66, co66, eo66⟩ := Kd.R_slice HO246.out; subst eo66; obtain ⟨hcz67_0, hcz67_1, hcz67_2, hcz67_3, hcz67_4, hfz67_0, hfz67_1, hfz67_2, hfz67_3, hfz67_4⟩ := cd5 BK242.out))
     go_meet
     case rel => exact ⟨_, (y244), (.slice Ao66 y244.length co66), H', ⟨by have := HK1.out; have := HK2.out; have := HK3.out; first | omega | exact Nat.le_refl _⟩, ⟨by refine oR ?_; exact tT HO_4.out BK242.out⟩, ⟨by refine oR ?_; exact tM HO_8.out BK242.out (fun _ hk => ⟨hk.1.1, hk.1.2⟩)⟩, ⟨by refine oR ?_; exact tM HO_9.out BK242.out (fun _ hk => ⟨hk.1.1, hk.1.2⟩)⟩, ⟨by refine oR ?_; exact tM HO_55.out BK242.out (fun _ hk => ⟨hk.1.1, hk.1.2⟩)⟩, ⟨by refine oR ?_; exact tT HO_226001.out BK242.out⟩, ⟨by refine oS ?_; exact Kd.S_mono (Kd.S_far (p := ⟨gb242, 1, none⟩) (Kd.S_mono HO_226002.out (fun k_ hk => (⟨hk, hk.1.2⟩ : _ ∧ k_ ≠ gb242))) (fun _ hk => hk.2) (.slice Ao66 y244.length co66)) (fun _ hk => ⟨hk.1.2, hk.1.1.2⟩)⟩, ⟨by refine oR ?_; exact tT HO246.out BK242.out⟩, ⟨bF BK217.out NB217_242.out⟩, ⟨bF BK225.out NB225_242.out⟩, ⟨bP BK242.out⟩, ⟨bB3 HB.out GE217.out GE225.out GE242.out⟩⟩
    clear HC54
    try clear hx2
    try clear hx23
    try clear hx24
    try clear hx239_0
    try clear hx240_0
    try clear hx240_1
    try clear hx240_2
    obtain ⟨kq, x243001_53, u243001, HA, HJ53, HO_4, HO_8, HO_9, HO_55, HO_226001, HO_226002, HO_243001, BK217, BK225, BK242, HB⟩ := hcut
    cases kq with
    | zero => exact absurd HA.out (by simp [d_Alpha.j3])
    | succ kj53 =>
     have H := HA.out; clear HA
     simp only [d_Alpha.j3] at H
     obtain ⟨t247, A68, H⟩ := iB H; (try dsimp only at H); have HC69 := aM H; clear H; obtain ⟨Ao70, co70, eo70⟩ := Kd.R_slice HO_9.out; subst eo70
     go_upto_if 88 with (first | ((with_reducible refine gate_callee (f := 28) rfl ?_); refine gM (some 88) Tryd.func28 #[.slice Ao70 t233.length co70, .string (rdOf ByteArray.empty t236 x57_2)] ?_; (with_reducible refine (d_among.calls kj53 _ _ t233 (rdOf ByteArray.empty t236 x57_2) t247 _ ?side1 ?side2 A68.out).mono ?_); (case side1 => repeat (first | exact (Kd.R_reads' HO_9.out).2.2 | (with_reducible refine Kd.C_alloc ?_ _) | (with_reducible refine Kd.C_drewN ?_ _) | (with_reducible refine Kd.C_drew ?_))); (case side2 => exact (Kd.R_reads' HO_9.out).2.1); rintro e w' ⟨rfl, ⟨nd, rfl⟩⟩; refine ⟨_, rfl, ?_⟩))
     (try simp only [Act.put, List.setIfInBounds_toArray, List.set_cons_zero, List.set_cons_succ])
     go_cut [] (fun wc => ∃ (kq : Nat) (x243002_68 : List (S62)) (u243002 : Value), Aside0 (d_Alpha.j4 kq t218 t230 t233 x57_2 t236 (t236.length : Int) x57_2 (⟨#[97, 108, 112, 104, 97]⟩ : ByteArray) x226001_1 x226002_2 (rdOf ByteArray.empty t236 x57_2) x243001_53 x243002_68 0 = some (r1, r2, r3, r4)) ∧ Aside0 (kq ≤ kj53) ∧ Aside0 (Kd.R k57 57 wc w.heap.size (fun _ => True) (.slice Ao11 t218.length co11) t218) ∧ Aside0 (Kd.R Kd.string 9 wc w.heap.size (fun k_ => some k_ ≠ ((.slice Ao70 t233.length co70) : Value).ownBlock ∧ some k_ ≠ ((.slice (some ad239) t236.length co32) : Value).ownBlock) (.slice Ao59 t230.length co59) t230) ∧ Aside0 (Kd.R Kd.string 9 wc w.heap.size (fun k_ => some k_ ≠ ((.slice Ao59 t230.length co59) : Value).ownBlock ∧ some k_ ≠ ((.slice (some ad239) t236.length co32) : Value).ownBlock) (.slice Ao70 t233.length co70) t233) ∧ Aside0 (Kd.R Kd.string 9 wc w.heap.size (fun k_ => some k_ ≠ ((.slice Ao59 t230.length co59) : Value).ownBlock ∧ some k_ ≠ ((.slice Ao70 t233.length co70) : Value).ownBlock) (.slice (some ad239) t236.length co32) t236) ∧ Aside0 (Kd.R k59 59 wc w.heap.size (fun _ => True) (.slice Ao38 x226001_1.length co38) x226001_1) ∧ Aside0 (Kd.S k41 41 wc w.heap.size (fun k_ => some k_ ≠ (u243001 : Value).ownBlock ∧ some k_ ≠ (u243002 : Value).ownBlock ∧ k_ ≠ gb242) u226002 x226002_2) ∧ Aside0 (Kd.R k62 62 wc w.heap.size (fun k_ => some k_ ≠ (u243002 : Value).ownBlock) u243001 x243001_53) ∧ Aside0 (Kd.R k62 62 wc w.heap.size (fun k_ => some k_ ≠ (u243001 : Value).ownBlock) u243002 x243002_68) ∧ Aside0 (wc.heap[gb217]? = some (.cells #[.string x218000_3, (.slice none 0 0), (.slice none 0 0)] 28 (0, 0))) ∧ Aside0 (wc.heap[gb225]? = some (.cells #[.string (⟨#[97, 108, 112, 104, 97]⟩ : ByteArray), (.slice Ao38 x226001_1.length co38), u226002] 28 (0, 0))) ∧ Aside0 (wc.heap[gb242]? = some (.cells #[.string (rdOf ByteArray.empty t236 x57_2), u243001, u243002, (.slice none 0 0), .int .i64 0] 41 (0, 0))) ∧ Aside0 (Below w.heap.size w wc))
     case first =>
      have H := HC69.out; clear HC69
      by_cases c71 : t247 = true
      rotate_left
      ·
       replace c71 := Bool.eq_false_iff.mpr c71
       subst c71
       have H1 : (d_Alpha.j4 kj53 t218 t230 t233 x57_2 t236 (t236.length : Int) x57_2 (⟨#[97, 108, 112, 104, 97]⟩ : ByteArray) x226001_1 x226002_2 (rdOf ByteArray.empty t236 x57_2) x243001_53 ([] : List (S62)) 0) = some (r1, r2, r3, r4) := by rw [if_neg (show ¬ (false = true) by decide)] at H; exact H
       clear H; have H := H1; clear H1
       have H' := aM H
       clear H
       go_wp2
       go_meet
       case rel => exact ⟨_, (([] : List (S62))), (.slice none 0 0), H', ⟨by have := HK1.out; have := HK2.out; have := HK3.out; have := HJ53.out; first | omega | exact Nat.le_refl _⟩, ⟨oR HO_4.out⟩, ⟨oR HO_8.out⟩, ⟨oR HO_9.out⟩, ⟨oR HO_55.out⟩, ⟨oR HO_226001.out⟩, ⟨by refine oS ?_; exact Kd.S_mono HO_226002.out (fun _ hk => ⟨hk.1, ⟨(by simp [Value.ownBlock]), hk.2⟩⟩)⟩, ⟨by refine oR ?_; exact Kd.R_mono HO_243001.out (fun _ hk => (by simp [Value.ownBlock]))⟩, ⟨nT⟩, ⟨kB BK217.out⟩, ⟨kB BK225.out⟩, ⟨kB BK242.out⟩, ⟨bB3 HB.out GE217.out GE225.out GE242.out⟩⟩
      subst c71
      have H1 : (if ([] : List (S62)).length < 8796093022208 then (d_Alpha.j4 kj53 t218 t230 t233 x57_2 t236 (t236.length : Int) x57_2 (⟨#[97, 108, 112, 104, 97]⟩ : ByteArray) x226001_1 x226002_2 (rdOf ByteArray.empty t236 x57_2) x243001_53 (([] : List (S62)) ++ [(⟨1, 1⟩ : S62)]) 0) else (none)) = some (r1, r2, r3, r4) := by rw [if_pos rfl] at H; exact H
      clear H; have H := H1; clear H1
      obtain ⟨c72, H⟩ := iP H; have LMc72 := aM c72; clear c72
      obtain ⟨y248, hy248⟩ : ∃ y_ : List (S62), y_ = (([] : List (S62)) ++ [(⟨1, 1⟩ : S62)]) := ⟨_, rfl⟩
      replace H : (d_Alpha.j4 kj53 t218 t230 t233 x57_2 t236 (t236.length : Int) x57_2 (⟨#[97, 108, 112, 104, 97]⟩ : ByteArray) x226001_1 x226002_2 (rdOf ByteArray.empty t236 x57_2) x243001_53 y248 0) = some (r1, r2, r3, r4) := yT hy248 H
      have Ny248 := aM hy248; clear hy248
      have H' := aM H
      clear H; have hnb73 := NB242_217.out; have hnc73 := NB217_242.out; have hnb74 := NB242_225.out; have hnc74 := NB225_242.out
      have hcz75_0 : wc.cell? ⟨gb242, 0, none⟩ = some (.string (rdOf ByteArray.empty t236 x57_2)) := (blk_cell BK242.out 0).trans rfl
      have hcz75_1 : wc.cell? ⟨gb242, 1, none⟩ = some (u243001) := (blk_cell BK242.out 1).trans rfl
      have hcz75_2 : wc.cell? ⟨gb242, 2, none⟩ = some (.slice none 0 0) := (blk_cell BK242.out 2).trans rfl
      have hcz75_3 : wc.cell? ⟨gb242, 3, none⟩ = some (.slice none 0 0) := (blk_cell BK242.out 3).trans rfl
      have hcz75_4 : wc.cell? ⟨gb242, 4, none⟩ = some (.int .i64 0) := (blk_cell BK242.out 4).trans rfl
      have hfz75_0 := blk_frozen BK242.out 0; have hfz75_1 := blk_frozen BK242.out 1; have hfz75_2 := blk_frozen BK242.out 2; have hfz75_3 := blk_frozen BK242.out 3; have hfz75_4 := blk_frozen BK242.out 4
      go_wp2_with (first | ((with_reducible refine gate_builtin (b := .append) (xs := #[.tmp 90, .tmp 92]) rfl ?_); at_builtin; refine Kd.R_append k62 (w0 := w) w.heap.size rfl (.tmp 90) (.tmp 92) 39 62 (.agg #[(.int .i64 0), (.int .i64 0)]) 16 rfl Tryd.underlying39 info62 rfl (by decide) (by omega) (.slice none 0 0) ([] : List (S62)) (⟨1, 1⟩ : S62) [.int .i64 1, .int .i64 1] (fun k_ => some k_ ≠ (u243001 : Value).ownBlock) (fun _ => False) rfl rfl ?aP (fun _ hk => hk.elim) ?aF ?aO ?aB ?aS ?aL ?_; (case aP => exact k62_mkM _ _ _ (⟨1, 1⟩ : S62)); (case aB => exact (bB3 HB.out GE217.out GE225.out GE242.out)); (case aF => exact (fun k_ hk => Kd.fresh' (Kd.R_lt (oR HO_243001.out)) k_ hk)); (case aO => exact ((Kd.R_nil _ _ _ _ (fun k_ => some k_ ≠ (u243001 : Value).ownBlock)))); (case aS => exact (below_size (bB3 HB.out GE217.out GE225.out GE242.out))); (case aL => have := LMc72.out; omega); intro v249 w76 ho hb hg hat; rw [← Ny248.out] at ho; replace HO_4 := aM (Kd.R_grown (oR HO_4.out) hg (fun _ _ => by simp [Value.ownBlock])); replace HO_8 := aM (Kd.R_grown (oR HO_8.out) hg (fun _ _ => by simp [Value.ownBlock])); replace HO_9 := aM (Kd.R_grown (oR HO_9.out) hg (fun _ _ => by simp [Value.ownBlock])); replace HO_55 := aM (Kd.R_grown (oR HO_55.out) hg (fun _ _ => by simp [Value.ownBlock])); replace HO_226001 := aM (Kd.R_grown (oR HO_226001.out) hg (fun _ _ => by simp [Value.ownBlock])); replace HO_226002 := aM (Kd.S_after (Kd.S_apart_nil (oS HO_226002.out)) hg hat); replace HO_243001 := aM (Kd.R_after (Kd.R_apart_nil (oR HO_243001.out)) hg hat); replace BK217 := aM (blk_grown (g := gb217) (o := .cells #[.string x218000_3, .slice none 0 0, .slice none 0 0] 28 (0, 0)) (kB BK217.out) hg (by simp [Value.ownBlock])); replace BK225 := aM (blk_grown (g := gb225) (o := .cells #[.string (⟨#[97, 108, 112, 104, 97]⟩ : ByteArray), .slice Ao38 x226001_1.length co38, u226002] 28 (0, 0)) (kB BK225.out) hg (by simp [Value.ownBlock])); replace BK242 := aM (blk_grown (g := gb242) (o := .cells #[.string (rdOf ByteArray.empty t236 x57_2), u243001, .slice none 0 0, .slice none 0 0, .int .i64 0] 41 (0, 0)) (kB BK242.out) hg (by simp [Value.ownBlock])); replace HB := aM (hb); have HO250 := aM (ho); clear ho hb hg hat; obtain ⟨Ao77, co77, eo77⟩ := Kd.R_slice HO250.out; subst eo77; obtain ⟨hcz78_0, hcz78_1, hcz78_2, hcz78_3, hcz78_4, hfz78_0, hfz78_1, hfz78_2, hfz78_3, hfz78_4⟩ := cd5 BK242.out))
      go_meet
      case rel => exact ⟨_, (y248), (.slice Ao77 y248.length co77), H', ⟨by have := HK1.out; have := HK2.out; have := HK3.out; have := HJ53.out; first | omega | exact Nat.le_refl _⟩, ⟨by refine oR ?_; exact tT HO_4.out BK242.out⟩, ⟨by refine oR ?_; exact tM HO_8.out BK242.out (fun _ hk => ⟨hk.1.1, hk.1.2⟩)⟩, ⟨by refine oR ?_; exact tM HO_9.out BK242.out (fun _ hk => ⟨hk.1.1, hk.1.2⟩)⟩, ⟨by refine oR ?_; exact tM HO_55.out BK242.out (fun _ hk => ⟨hk.1.1, hk.1.2⟩)⟩, ⟨by refine oR ?_; exact tT HO_226001.out BK242.out⟩, ⟨by refine oS ?_; exact Kd.S_mono (Kd.S_far (p := ⟨gb242, 2, none⟩) (Kd.S_mono HO_226002.out (fun k_ hk => (⟨hk, hk.1.2⟩ : _ ∧ k_ ≠ gb242))) (fun _ hk => hk.2) (.slice Ao77 y248.length co77)) (fun _ hk => ⟨hk.1.1.1, ⟨hk.1.2, hk.1.1.2⟩⟩)⟩, ⟨by refine oR ?_; exact tM HO_243001.out BK242.out (fun _ hk => hk.1.2)⟩, ⟨by refine oR ?_; exact tM HO250.out BK242.out (fun _ hk => hk.1)⟩, ⟨bF BK217.out NB217_242.out⟩, ⟨bF BK225.out NB225_242.out⟩, ⟨bP BK242.out⟩, ⟨bB3 HB.out GE217.out GE225.out GE242.out⟩⟩
     clear HC69
     try clear hx2
     try clear hx23
     try clear hx24
     try clear hx239_0
     try clear hx240_0
     try clear hx240_1
     try clear hx240_2
     obtain ⟨kq, x243002_68, u243002, HA, HJ68, HO_4, HO_8, HO_9, HO_55, HO_226001, HO_226002, HO_243001, HO_243002, BK217, BK225, BK242, HB⟩ := hcut
     cases kq with
     | zero => exact absurd HA.out (by simp [d_Alpha.j4])
     | succ kj68 =>
      have H := HA.out; clear HA
      simp only [d_Alpha.j4] at H
      have H' := aM H
      clear H
      go_wp2
      go_loopg [97] kj68 (fun kq v97 w' => ∃ (x97_6 : Int) (x243001_6 : List (S62)) (x243002_6 : List (S62)) (u243001 : Value) (u243002 : Value), v97 = .int .i64 x97_6 ∧ Aside0 (d_Alpha.l3 kq t218 t230 t233 x57_2 t236 (t236.length : Int) x57_2 t218 (t218.length : Int) x97_6 (⟨#[97, 108, 112, 104, 97]⟩ : ByteArray) x226001_1 x226002_2 (rdOf ByteArray.empty t236 x57_2) x243001_6 x243002_6 0 = some (r1, r2, r3, r4)) ∧ Aside0 (kq ≤ kj68) ∧ Aside0 (Kd.R k57 57 w' w.heap.size (fun _ => True) (.slice Ao11 t218.length co11) t218) ∧ Aside0 (Kd.R Kd.string 9 w' w.heap.size (fun k_ => some k_ ≠ ((.slice Ao70 t233.length co70) : Value).ownBlock ∧ some k_ ≠ ((.slice (some ad239) t236.length co32) : Value).ownBlock) (.slice Ao59 t230.length co59) t230) ∧ Aside0 (Kd.R Kd.string 9 w' w.heap.size (fun k_ => some k_ ≠ ((.slice Ao59 t230.length co59) : Value).ownBlock ∧ some k_ ≠ ((.slice (some ad239) t236.length co32) : Value).ownBlock) (.slice Ao70 t233.length co70) t233) ∧ Aside0 (Kd.R Kd.string 9 w' w.heap.size (fun k_ => some k_ ≠ ((.slice Ao59 t230.length co59) : Value).ownBlock ∧ some k_ ≠ ((.slice Ao70 t233.length co70) : Value).ownBlock) (.slice (some ad239) t236.length co32) t236) ∧ Aside0 (Kd.R k57 57 w' w.heap.size (fun _ => True) (.slice Ao11 t218.length co11) t218) ∧ Aside0 (Kd.R k59 59 w' w.heap.size (fun _ => True) (.slice Ao38 x226001_1.length co38) x226001_1) ∧ Aside0 (Kd.S k41 41 w' w.heap.size (fun k_ => some k_ ≠ (u243001 : Value).ownBlock ∧ some k_ ≠ (u243002 : Value).ownBlock ∧ k_ ≠ gb242) u226002 x226002_2) ∧ Aside0 (Kd.R k62 62 w' w.heap.size (fun k_ => some k_ ≠ (u243002 : Value).ownBlock) u243001 x243001_6) ∧ Aside0 (Kd.R k62 62 w' w.heap.size (fun k_ => some k_ ≠ (u243001 : Value).ownBlock) u243002 x243002_6) ∧ Aside0 (w'.heap[gb217]? = some (.cells #[.string x218000_3, (.slice none 0 0), (.slice none 0 0)] 28 (0, 0))) ∧ Aside0 (w'.heap[gb225]? = some (.cells #[.string (⟨#[97, 108, 112, 104, 97]⟩ : ByteArray), (.slice Ao38 x226001_1.length co38), u226002] 28 (0, 0))) ∧ Aside0 (w'.heap[gb242]? = some (.cells #[.string (rdOf ByteArray.empty t236 x57_2), u243001, u243002, (.slice none 0 0), .int .i64 0] 41 (0, 0))) ∧ Aside0 (Below w.heap.size w w'))
      case atStart => exact ⟨(0), (x243001_53), (x243002_68), (u243001), (u243002), eT, H', ⟨Nat.le_refl _⟩, ⟨oR HO_4.out⟩, ⟨oR HO_8.out⟩, ⟨oR HO_9.out⟩, ⟨oR HO_55.out⟩, ⟨oR HO_4.out⟩, ⟨oR HO_226001.out⟩, ⟨oS HO_226002.out⟩, ⟨oR HO_243001.out⟩, ⟨oR HO_243002.out⟩, ⟨kB BK217.out⟩, ⟨kB BK225.out⟩, ⟨kB BK242.out⟩, ⟨bB3 HB.out GE217.out GE225.out GE242.out⟩⟩
      clear H'
      try clear hx2
      try clear hx23
      try clear hx24
      try clear hx239_0
      try clear hx240_0
      try clear hx240_1
      try clear hx240_2
      obtain ⟨x97_6, x243001_6, x243002_6, u243001, u243002, rfl, HA, HK6, HO_4, HO_8, HO_9, HO_55, HO_95, HO_226001, HO_226002, HO_243001, HO_243002, BK217, BK225, BK242, HB⟩ := hrel
      cases gk with
      | zero => exact absurd HA.out (by simp [d_Alpha.l3])
      | succ k6 =>
       have H := HA.out; clear HA
       simp only [d_Alpha.l3] at H
       by_cases c79 : x97_6 < (t218.length : Int)
       rotate_left
       ·
        rw [if_neg c79] at H
        have c79b0 := decide_eq_false c79; clear c79
        obtain ⟨c134, H⟩ := iP H; have LMc134 := aM c134; clear c134
        obtain ⟨y251, hy251⟩ : ∃ y_ : List (S41), y_ = (x226002_2 ++ [(⟨(rdOf ByteArray.empty t236 x57_2), x243001_6, x243002_6, ([] : List (S62)), 0⟩ : S41)]) := ⟨_, rfl⟩
        replace H : (d_Alpha.l1 k6 t218 t230 t233 t236 (t236.length : Int) (wrap64 (x57_2 + 1)) (⟨#[97, 108, 112, 104, 97]⟩ : ByteArray) x226001_1 y251) = some (r1, r2, r3, r4) := yT hy251 H
        have Ny251 := aM hy251; clear hy251
        have H' := aM H
        clear H; have hnb135 := NB225_217.out; have hnc135 := NB217_225.out; have hnb136 := NB225_242.out; have hnc136 := NB242_225.out
        have hcz137_0 : wr.cell? ⟨gb225, 0, none⟩ = some (.string (⟨#[97, 108, 112, 104, 97]⟩ : ByteArray)) := (blk_cell BK225.out 0).trans rfl
        have hcz137_1 : wr.cell? ⟨gb225, 1, none⟩ = some (.slice Ao38 x226001_1.length co38) := (blk_cell BK225.out 1).trans rfl
        have hcz137_2 : wr.cell? ⟨gb225, 2, none⟩ = some (u226002) := (blk_cell BK225.out 2).trans rfl
        have hfz137_0 := blk_frozen BK225.out 0; have hfz137_1 := blk_frozen BK225.out 1; have hfz137_2 := blk_frozen BK225.out 2; have hnb138 := NB242_217.out; have hnc138 := NB217_242.out
        have hcz139_0 : wr.cell? ⟨gb242, 0, none⟩ = some (.string (rdOf ByteArray.empty t236 x57_2)) := (blk_cell BK242.out 0).trans rfl
        have hcz139_1 : wr.cell? ⟨gb242, 1, none⟩ = some (u243001) := (blk_cell BK242.out 1).trans rfl
        have hcz139_2 : wr.cell? ⟨gb242, 2, none⟩ = some (u243002) := (blk_cell BK242.out 2).trans rfl
        have hcz139_3 : wr.cell? ⟨gb242, 3, none⟩ = some (.slice none 0 0) := (blk_cell BK242.out 3).trans rfl
        have hcz139_4 : wr.cell? ⟨gb242, 4, none⟩ = some (.int .i64 0) := (blk_cell BK242.out 4).trans rfl
        have hfz139_0 := blk_frozen BK242.out 0; have hfz139_1 := blk_frozen BK242.out 1; have hfz139_2 := blk_frozen BK242.out 2; have hfz139_3 := blk_frozen BK242.out 3; have hfz139_4 := blk_frozen BK242.out 4; obtain ⟨Ao141, co141, eo141⟩ := Kd.R_slice HO_243001.out; subst eo141; obtain ⟨Ao142, co142, eo142⟩ := Kd.R_slice HO_243002.out; subst eo142
        go_wp2_with (first | ((with_reducible refine gate_builtin (b := .append) (xs := #[.tmp 128, .tmp 130]) rfl ?_); at_builtin; refine Kd.S_append k41 (w0 := w) w.heap.size rfl (.tmp 128) (.tmp 130) 26 41 (.agg #[(.string ⟨#[]⟩), (.slice none 0 0), (.slice none 0 0), (.slice none 0 0), (.int .i64 0)]) 96 rfl Tryd.underlying26 info41 rfl (by decide) (by omega) u226002 x226002_2 (⟨(rdOf ByteArray.empty t236 x57_2), x243001_6, x243002_6, ([] : List (S62)), 0⟩ : S41) [.string (rdOf ByteArray.empty t236 x57_2), .slice Ao141 x243001_6.length co141, .slice Ao142 x243002_6.length co142, .slice none 0 0, .int .i64 0] (fun k_ => k_ ≠ gb242) (fun k_ => some k_ = (.slice Ao141 x243001_6.length co141 : Value).ownBlock ∨ some k_ = (.slice Ao142 x243002_6.length co142 : Value).ownBlock) rfl rfl ?aP (fun k_ hk_ => hk_.elim (fun h_ => ((Kd.R_mono (ok' := fun k_ => ((fun k_ => k_ ≠ gb242)) k_ ∧ some k_ ≠ (u226002 : Value).ownBlock) (Kd.R_types (Kd.R_apart' (HO_243001.out) (Kd.S_typed HO_226002.out) (by decide)) BK242.out (by decide)) (fun k_ hk => ⟨hk.2, hk.1.2⟩))).1 k_ h_.symm) (fun h_ => ((Kd.R_mono (ok' := fun k_ => ((fun k_ => k_ ≠ gb242)) k_ ∧ some k_ ≠ (u226002 : Value).ownBlock) (Kd.R_types (Kd.R_apart' (HO_243002.out) (Kd.S_typed HO_226002.out) (by decide)) BK242.out (by decide)) (fun k_ hk => ⟨hk.2, hk.1.2⟩))).1 k_ h_.symm)) ?aF ?aO ?aB ?aS ?aL ?_; (case aP => exact k41_mkM _ _ _ (⟨(rdOf ByteArray.empty t236 x57_2), x243001_6, x243002_6, ([] : List (S62)), 0⟩ : S41) (Kd.R_mono (Kd.R_tight rfl (Kd.R_mono (ok' := fun k_ => ((fun k_ => k_ ≠ gb242)) k_ ∧ some k_ ≠ (u226002 : Value).ownBlock) (Kd.R_types (Kd.R_apart' (HO_243001.out) (Kd.S_typed HO_226002.out) (by decide)) BK242.out (by decide)) (fun k_ hk => ⟨hk.2, hk.1.2⟩))) (fun _ h_ => Or.inl h_)) (Kd.R_mono (Kd.R_tight rfl (Kd.R_mono (ok' := fun k_ => ((fun k_ => k_ ≠ gb242)) k_ ∧ some k_ ≠ (u226002 : Value).ownBlock) (Kd.R_types (Kd.R_apart' (HO_243002.out) (Kd.S_typed HO_226002.out) (by decide)) BK242.out (by decide)) (fun k_ hk => ⟨hk.2, hk.1.2⟩))) (fun _ h_ => Or.inr (h_))) (Kd.R_nil _ _ _ _ _)); (case aB => exact (bB3 HB.out GE217.out GE225.out GE242.out)); (case aF => exact (fun k_ hk => Kd.freshB (g := gb242) (o := .cells #[.string (rdOf ByteArray.empty t236 x57_2), .slice Ao141 x243001_6.length co141, .slice Ao142 x243002_6.length co142, .slice none 0 0, .int .i64 0] 41 (0, 0)) (kB BK242.out) k_ hk)); (case aO => exact (by refine oS ?_; exact Kd.S_mono HO_226002.out (fun k_ hk => ⟨hk.2.2, fun e_ => e_.elim (fun h_ => hk.1 h_) (fun h_ => hk.2.1 h_)⟩))); (case aS => exact (below_size (bB3 HB.out GE217.out GE225.out GE242.out))); (case aL => have := LMc134.out; omega); intro v252 w140 ho hb hg hat; rw [← Ny251.out] at ho; replace HO_4 := aM (Kd.R_over' (oR HO_4.out) (Kd.S_typed (oS HO_226002.out)) (by decide) hg); replace HO_8 := aM (Kd.R_over' (oR HO_8.out) (Kd.S_typed (oS HO_226002.out)) (by decide) hg); replace HO_9 := aM (Kd.R_over' (oR HO_9.out) (Kd.S_typed (oS HO_226002.out)) (by decide) hg); replace HO_55 := aM (Kd.R_over' (oR HO_55.out) (Kd.S_typed (oS HO_226002.out)) (by decide) hg); replace HO_95 := aM (Kd.R_over' (oR HO_95.out) (Kd.S_typed (oS HO_226002.out)) (by decide) hg); replace HO_226001 := aM (Kd.R_over' (oR HO_226001.out) (Kd.S_typed (oS HO_226002.out)) (by decide) hg); replace BK217 := aM (blk_grown (g := gb217) (o := .cells #[.string x218000_3, .slice none 0 0, .slice none 0 0] 28 (0, 0)) (kB BK217.out) hg (Kd.S_ne HO_226002.out BK217.out (by decide))); replace BK225 := aM (blk_grown (g := gb225) (o := .cells #[.string (⟨#[97, 108, 112, 104, 97]⟩ : ByteArray), .slice Ao38 x226001_1.length co38, u226002] 28 (0, 0)) (kB BK225.out) hg (Kd.S_ne HO_226002.out BK225.out (by decide))); replace BK242 := aM (blk_grown (g := gb242) (o := .cells #[.string (rdOf ByteArray.empty t236 x57_2), .slice Ao141 x243001_6.length co141, .slice Ao142 x243002_6.length co142, .slice none 0 0, .int .i64 0] 41 (0, 0)) (kB BK242.out) hg (Kd.S_away HO_226002.out (fun _ hk => hk.2.2))); replace HB := aM (hb); have HO253 := aM (ho); clear HO_226002 HO_243001 HO_243002; clear ho hb hg hat; obtain ⟨Ao143, co143, eo143⟩ := Kd.S_slice HO253.out; subst eo143; obtain ⟨hcz144_0, hcz144_1, hcz144_2, hfz144_0, hfz144_1, hfz144_2⟩ := cd3 BK225.out))
        go_roundg k6
        case measure => have := HK1.out; have := HK2.out; have := HK3.out; have := HJ53.out; have := HJ68.out; have := HK6.out; omega
        case rel => exact ⟨(wrap64 (x57_2 + 1)), (x218000_3), (y251), (.slice Ao143 y251.length co143), eT, H', ⟨by have := HK1.out; have := HK2.out; have := HK3.out; have := HJ53.out; have := HJ68.out; have := HK6.out; omega⟩, ⟨by refine oR ?_; exact tT HO_4.out BK225.out⟩, ⟨by refine oR ?_; exact tM HO_8.out BK225.out (fun _ hk => ⟨hk.1.1, hk.1.2⟩)⟩, ⟨by refine oR ?_; exact tM HO_9.out BK225.out (fun _ hk => ⟨hk.1.1, hk.1.2⟩)⟩, ⟨by refine oR ?_; exact tM HO_55.out BK225.out (fun _ hk => ⟨hk.1.1, hk.1.2⟩)⟩, ⟨by refine oR ?_; exact tT HO_226001.out BK225.out⟩, ⟨by refine oS ?_; exact sT HO253.out BK225.out⟩, ⟨bF BK217.out NB217_225.out⟩, ⟨bP BK225.out⟩, ⟨bB3 HB.out GE217.out GE225.out GE242.out⟩⟩
       rw [if_pos c79] at H; have c79b0 := decide_eq_true c79; clear c79
       obtain ⟨c80, H⟩ := iP H; have c80b0 := decide_eq_true c80; clear c80
       obtain ⟨c81, H⟩ := iP H; have c81b0 := decide_eq_true c81; clear c81; obtain ⟨t256, A82, H⟩ := iB H; (try dsimp only at H)
       by_cases c83 : t256 = true
       rotate_left
       ·
        replace c83 := Bool.eq_false_iff.mpr c83
        subst c83
        have H1 : ((d_has.f ((rd_T57 t218 x97_6).f0) x57_2).bind fun t264 => (if t264 = true then (if x243002_6.length < 8796093022208 then (d_Alpha.l3 k6 t218 t230 t233 x57_2 t236 (t236.length : Int) x57_2 t218 (t218.length : Int) (wrap64 (x97_6 + 1)) (⟨#[97, 108, 112, 104, 97]⟩ : ByteArray) x226001_1 x226002_2 (rdOf ByteArray.empty t236 x57_2) x243001_6 (x243002_6 ++ [(⟨wrap64 (x97_6 + 2), 1⟩ : S62)]) 0) else (none)) else (d_Alpha.l3 k6 t218 t230 t233 x57_2 t236 (t236.length : Int) x57_2 t218 (t218.length : Int) (wrap64 (x97_6 + 1)) (⟨#[97, 108, 112, 104, 97]⟩ : ByteArray) x226001_1 x226002_2 (rdOf ByteArray.empty t236 x57_2) x243001_6 x243002_6 0))) = some (r1, r2, r3, r4) := by rw [if_neg (show ¬ (false = true) by decide)] at H; exact H
        clear H; have H := H1; clear H1; obtain ⟨t264, A115, H⟩ := iB H; (try dsimp only at H)
        by_cases c116 : t264 = true
        rotate_left
        ·
         replace c116 := Bool.eq_false_iff.mpr c116
         subst c116
         have H1 : (d_Alpha.l3 k6 t218 t230 t233 x57_2 t236 (t236.length : Int) x57_2 t218 (t218.length : Int) (wrap64 (x97_6 + 1)) (⟨#[97, 108, 112, 104, 97]⟩ : ByteArray) x226001_1 x226002_2 (rdOf ByteArray.empty t236 x57_2) x243001_6 x243002_6 0) = some (r1, r2, r3, r4) := by rw [if_neg (show ¬ (false = true) by decide)] at H; exact H
         clear H; have H := H1; clear H1
         have H' := aM H
         clear H; have p254 : 0 ≤ (x97_6 : Int) := dT; have q254 : x97_6 < (t218.length : Int) := dT
         try (obtain ⟨Aoz254, coz254, eoz254⟩ := Kd.R_slice HO_95.out; subst eoz254)
         obtain ⟨ad254, e254, hx254_0, hx254_1⟩ := at_T57 (Kd.R_reads' HO_95.out).2.2 x97_6 p254 q254; cases e254; replace p254 := eq_true p254; replace q254 := eq_true q254
         go_wp2_with (first | ((with_reducible refine gate_dst (N := 16) rfl ?_); refine bX 16 (cs := #[.int .u64 0, .int .u64 0]) (t := 57) ?_; intro gb255 hg w129 hbox hb; replace HO_4 := aM (Kd.R_below (Kd.R_elderB (oR HO_4.out) gb255 (Nat.le_of_eq hg.symm)) hb); replace HO_8 := aM (Kd.R_below (oR HO_8.out) hb); replace HO_9 := aM (Kd.R_below (oR HO_9.out) hb); replace HO_55 := aM (Kd.R_below (oR HO_55.out) hb); replace HO_95 := aM (Kd.R_below (Kd.R_elderB (oR HO_95.out) gb255 (Nat.le_of_eq hg.symm)) hb); replace HO_226001 := aM (Kd.R_below (oR HO_226001.out) hb); replace HO_226002 := aM (Kd.S_below (oS HO_226002.out) hb); replace HO_243001 := aM (Kd.R_below (oR HO_243001.out) hb); replace HO_243002 := aM (Kd.R_below (oR HO_243002.out) hb); have BK255 := aM (hbox); have GW255 := aM (gE hg (below_size (bB3 HB.out GE217.out GE225.out GE242.out))); have GE255 := GW255; replace HB := aM (below_step (bB3 HB.out GE217.out GE225.out GE242.out) hb); have NB217_255 := aM (gL hg (kL BK217.out)); have NB255_217 := aM (gG hg (kL BK217.out)); replace BK217 := aM (kW BK217.out hb); have NB225_255 := aM (gL hg (kL BK225.out)); have NB255_225 := aM (gG hg (kL BK225.out)); replace BK225 := aM (kW BK225.out hb); have NB242_255 := aM (gL hg (kL BK242.out)); have NB255_242 := aM (gG hg (kL BK242.out)); replace BK242 := aM (kW BK242.out hb); clear hb hbox hg; have hnb130 := NB255_217.out; have hnc130 := NB217_255.out; have hnb131 := NB255_225.out; have hnc131 := NB225_255.out; have hnb132 := NB255_242.out; have hnc132 := NB242_255.out; obtain ⟨hcz133_0, hcz133_1, hfz133_0, hfz133_1⟩ := cd2 BK255.out) | ((with_reducible refine gate_callee (f := 29) rfl ?_); refine gM (some 105) Tryd.func29 #[.int .u64 ((rd_T57 t218 x97_6).f1), .int .i64 x57_2] ?_; (with_reducible refine (d_has.calls ((rd_T57 t218 x97_6).f1) x57_2 false _ A82.out).mono ?_); rintro e w' ⟨rfl, ⟨nd, rfl⟩⟩; refine ⟨_, rfl, ?_⟩) | ((with_reducible refine gate_callee (f := 29) rfl ?_); refine gM (some 117) Tryd.func29 #[.int .u64 ((rd_T57 t218 x97_6).f0), .int .i64 x57_2] ?_; (with_reducible refine (d_has.calls ((rd_T57 t218 x97_6).f0) x57_2 false _ A115.out).mono ?_); rintro e w' ⟨rfl, ⟨nd, rfl⟩⟩; refine ⟨_, rfl, ?_⟩))
         go_roundg k6
         case measure => have := HK1.out; have := HK2.out; have := HK3.out; have := HJ53.out; have := HJ68.out; have := HK6.out; omega
         case rel => exact ⟨(wrap64 (x97_6 + 1)), (x243001_6), (x243002_6), (u243001), (u243002), eT, H', ⟨by have := HK1.out; have := HK2.out; have := HK3.out; have := HJ53.out; have := HJ68.out; have := HK6.out; omega⟩, ⟨by refine oR ?_; exact Kd.R_mono (Kd.R_far (p := ⟨gb255, 1, none⟩) (Kd.R_far (p := ⟨gb255, 0, none⟩) (Kd.R_mono HO_4.out (fun k_ hk => (⟨hk, hk.2⟩ : _ ∧ k_ ≠ gb255))) (fun _ hk => hk.2) (.int .u64 ((rd_T57 t218 x97_6).f0))) (fun _ hk => hk.2) (.int .u64 ((rd_T57 t218 x97_6).f1))) (fun _ hk => trivial)⟩, ⟨by refine oR ?_; exact tM HO_8.out BK255.out (fun _ hk => ⟨hk.1.1, hk.1.2⟩)⟩, ⟨by refine oR ?_; exact tM HO_9.out BK255.out (fun _ hk => ⟨hk.1.1, hk.1.2⟩)⟩, ⟨by refine oR ?_; exact tM HO_55.out BK255.out (fun _ hk => ⟨hk.1.1, hk.1.2⟩)⟩, ⟨by refine oR ?_; exact Kd.R_mono (Kd.R_far (p := ⟨gb255, 1, none⟩) (Kd.R_far (p := ⟨gb255, 0, none⟩) (Kd.R_mono HO_95.out (fun k_ hk => (⟨hk, hk.2⟩ : _ ∧ k_ ≠ gb255))) (fun _ hk => hk.2) (.int .u64 ((rd_T57 t218 x97_6).f0))) (fun _ hk => hk.2) (.int .u64 ((rd_T57 t218 x97_6).f1))) (fun _ hk => trivial)⟩, ⟨by refine oR ?_; exact tT HO_226001.out BK255.out⟩, ⟨by refine oS ?_; exact sM HO_226002.out BK255.out (fun _ hk => ⟨hk.1.1, ⟨hk.1.2.1, hk.1.2.2⟩⟩)⟩, ⟨by refine oR ?_; exact tM HO_243001.out BK255.out (fun _ hk => hk.1)⟩, ⟨by refine oR ?_; exact tM HO_243002.out BK255.out (fun _ hk => hk.1)⟩, ⟨bF BK217.out NB217_255.out⟩, ⟨bF BK225.out NB225_255.out⟩, ⟨bF BK242.out NB242_255.out⟩, ⟨bB4 HB.out GE217.out GE225.out GE242.out GE255.out⟩⟩
        subst c116
        have H1 : (if x243002_6.length < 8796093022208 then (d_Alpha.l3 k6 t218 t230 t233 x57_2 t236 (t236.length : Int) x57_2 t218 (t218.length : Int) (wrap64 (x97_6 + 1)) (⟨#[97, 108, 112, 104, 97]⟩ : ByteArray) x226001_1 x226002_2 (rdOf ByteArray.empty t236 x57_2) x243001_6 (x243002_6 ++ [(⟨wrap64 (x97_6 + 2), 1⟩ : S62)]) 0) else (none)) = some (r1, r2, r3, r4) := by rw [if_pos rfl] at H; exact H
        clear H; have H := H1; clear H1
        obtain ⟨c117, H⟩ := iP H; have LMc117 := aM c117; clear c117
        obtain ⟨y265, hy265⟩ : ∃ y_ : List (S62), y_ = (x243002_6 ++ [(⟨wrap64 (x97_6 + 2), 1⟩ : S62)]) := ⟨_, rfl⟩
        replace H : (d_Alpha.l3 k6 t218 t230 t233 x57_2 t236 (t236.length : Int) x57_2 t218 (t218.length : Int) (wrap64 (x97_6 + 1)) (⟨#[97, 108, 112, 104, 97]⟩ : ByteArray) x226001_1 x226002_2 (rdOf ByteArray.empty t236 x57_2) x243001_6 y265 0) = some (r1, r2, r3, r4) := yT hy265 H
        have Ny265 := aM hy265; clear hy265
        have H' := aM H
        clear H; have p254 : 0 ≤ (x97_6 : Int) := dT; have q254 : x97_6 < (t218.length : Int) := dT
        try (obtain ⟨Aoz254, coz254, eoz254⟩ := Kd.R_slice HO_95.out; subst eoz254)
        obtain ⟨ad254, e254, hx254_0, hx254_1⟩ := at_T57 (Kd.R_reads' HO_95.out).2.2 x97_6 p254 q254; cases e254; replace p254 := eq_true p254; replace q254 := eq_true q254
        go_wp2_with (first | ((with_reducible refine gate_dst (N := 16) rfl ?_); refine bX 16 (cs := #[.int .u64 0, .int .u64 0]) (t := 57) ?_; intro gb255 hg w118 hbox hb; replace HO_4 := aM (Kd.R_below (Kd.R_elderB (oR HO_4.out) gb255 (Nat.le_of_eq hg.symm)) hb); replace HO_8 := aM (Kd.R_below (oR HO_8.out) hb); replace HO_9 := aM (Kd.R_below (oR HO_9.out) hb); replace HO_55 := aM (Kd.R_below (oR HO_55.out) hb); replace HO_95 := aM (Kd.R_below (Kd.R_elderB (oR HO_95.out) gb255 (Nat.le_of_eq hg.symm)) hb); replace HO_226001 := aM (Kd.R_below (oR HO_226001.out) hb); replace HO_226002 := aM (Kd.S_below (oS HO_226002.out) hb); replace HO_243001 := aM (Kd.R_below (oR HO_243001.out) hb); replace HO_243002 := aM (Kd.R_below (oR HO_243002.out) hb); have BK255 := aM (hbox); have GW255 := aM (gE hg (below_size (bB3 HB.out GE217.out GE225.out GE242.out))); have GE255 := GW255; replace HB := aM (below_step (bB3 HB.out GE217.out GE225.out GE242.out) hb); have NB217_255 := aM (gL hg (kL BK217.out)); have NB255_217 := aM (gG hg (kL BK217.out)); replace BK217 := aM (kW BK217.out hb); have NB225_255 := aM (gL hg (kL BK225.out)); have NB255_225 := aM (gG hg (kL BK225.out)); replace BK225 := aM (kW BK225.out hb); have NB242_255 := aM (gL hg (kL BK242.out)); have NB255_242 := aM (gG hg (kL BK242.out)); replace BK242 := aM (kW BK242.out hb); clear hb hbox hg; have hnb119 := NB255_217.out; have hnc119 := NB217_255.out; have hnb120 := NB255_225.out; have hnc120 := NB225_255.out; have hnb121 := NB255_242.out; have hnc121 := NB242_255.out; obtain ⟨hcz122_0, hcz122_1, hfz122_0, hfz122_1⟩ := cd2 BK255.out) | ((with_reducible refine gate_callee (f := 29) rfl ?_); refine gM (some 105) Tryd.func29 #[.int .u64 ((rd_T57 t218 x97_6).f1), .int .i64 x57_2] ?_; (with_reducible refine (d_has.calls ((rd_T57 t218 x97_6).f1) x57_2 false _ A82.out).mono ?_); rintro e w' ⟨rfl, ⟨nd, rfl⟩⟩; refine ⟨_, rfl, ?_⟩) | ((with_reducible refine gate_callee (f := 29) rfl ?_); refine gM (some 117) Tryd.func29 #[.int .u64 ((rd_T57 t218 x97_6).f0), .int .i64 x57_2] ?_; (with_reducible refine (d_has.calls ((rd_T57 t218 x97_6).f0) x57_2 true _ A115.out).mono ?_); rintro e w' ⟨rfl, ⟨nd, rfl⟩⟩; refine ⟨_, rfl, ?_⟩; have hnb123 := NB242_217.out; have hnc123 := NB217_242.out; have hnb124 := NB242_225.out; have hnc124 := NB225_242.out; obtain ⟨hcz125_0, hcz125_1, hcz125_2, hcz125_3, hcz125_4, hfz125_0, hfz125_1, hfz125_2, hfz125_3, hfz125_4⟩ := cd5 BK242.out) | ((with_reducible refine gate_builtin (b := .append) (xs := #[.tmp 119, .tmp 123]) rfl ?_); at_builtin; refine Kd.R_append k62 (w0 := w) w.heap.size rfl (.tmp 119) (.tmp 123) 39 62 (.agg #[(.int .i64 0), (.int .i64 0)]) 16 rfl Tryd.underlying39 info62 rfl (by decide) (by omega) u243002 x243002_6 (⟨wrap64 (x97_6 + 2), 1⟩ : S62) [.int .i64 (wrap64 (x97_6 + 2)), .int .i64 1] (fun k_ => some k_ ≠ (u243001 : Value).ownBlock) (fun _ => False) rfl (by first | (go_simp; done) | (go_simp; rfl)) ?aP (fun _ hk => hk.elim) ?aF ?aO ?aB ?aS ?aL ?_; (case aP => exact k62_mkM _ _ _ (⟨wrap64 (x97_6 + 2), 1⟩ : S62)); (case aB => exact (bB4 HB.out GE217.out GE225.out GE242.out GE255.out)); (case aF => exact (fun k_ hk => Kd.fresh' (Kd.R_lt (by refine oR ?_; exact (tR HO_243001.out BK255.out))) k_ hk)); (case aO => exact (by refine oR ?_; exact tM HO_243002.out BK255.out (fun _ hk => hk.1))); (case aS => exact (below_size (bB4 HB.out GE217.out GE225.out GE242.out GE255.out))); (case aL => have := LMc117.out; omega); intro v266 w126 ho hb hg hat; rw [← Ny265.out] at ho; replace HO_4 := aM (Kd.R_over' (by refine oR ?_; exact (uR gb255 HO_4.out)) (Kd.R_typed (by refine oR ?_; exact (tR HO_243002.out BK255.out))) (by decide) hg); replace HO_8 := aM (Kd.R_over' (by refine oR ?_; exact (tR HO_8.out BK255.out)) (Kd.R_typed (by refine oR ?_; exact (tR HO_243002.out BK255.out))) (by decide) hg); replace HO_9 := aM (Kd.R_over' (by refine oR ?_; exact (tR HO_9.out BK255.out)) (Kd.R_typed (by refine oR ?_; exact (tR HO_243002.out BK255.out))) (by decide) hg); replace HO_55 := aM (Kd.R_over' (by refine oR ?_; exact (tR HO_55.out BK255.out)) (Kd.R_typed (by refine oR ?_; exact (tR HO_243002.out BK255.out))) (by decide) hg); replace HO_95 := aM (Kd.R_over' (by refine oR ?_; exact (uR gb255 HO_95.out)) (Kd.R_typed (by refine oR ?_; exact (tR HO_243002.out BK255.out))) (by decide) hg); replace HO_226001 := aM (Kd.R_over' (by refine oR ?_; exact (tR HO_226001.out BK255.out)) (Kd.R_typed (by refine oR ?_; exact (tR HO_243002.out BK255.out))) (by decide) hg); replace HO_226002 := aM (Kd.S_after (ok := (fun k_ => some k_ ≠ (u243001 : Value).ownBlock ∧ k_ ≠ gb242)) (by refine oS ?_; exact sM HO_226002.out BK255.out (fun _ hk => ⟨⟨hk.1.1, hk.1.2.2⟩, hk.1.2.1⟩)) hg hat); replace HO_243001 := aM (Kd.R_after (ok := (fun _ => True)) (by refine oR ?_; exact tM HO_243001.out BK255.out (fun _ hk => ⟨trivial, hk.1⟩)) hg hat); replace BK217 := aM (blk_grown (g := gb217) (o := .cells #[.string x218000_3, .slice none 0 0, .slice none 0 0] 28 (0, 0)) (bF BK217.out NB217_255.out) hg (Kd.R_ne HO_243002.out BK217.out (by decide))); replace BK225 := aM (blk_grown (g := gb225) (o := .cells #[.string (⟨#[97, 108, 112, 104, 97]⟩ : ByteArray), .slice Ao38 x226001_1.length co38, u226002] 28 (0, 0)) (bF BK225.out NB225_255.out) hg (Kd.R_ne HO_243002.out BK225.out (by decide))); replace BK242 := aM (blk_grown (g := gb242) (o := .cells #[.string (rdOf ByteArray.empty t236 x57_2), u243001, u243002, .slice none 0 0, .int .i64 0] 41 (0, 0)) (bF BK242.out NB242_255.out) hg (Kd.R_ne HO_243002.out BK242.out (by decide))); replace BK255 := aM (blk_grown (g := gb255) (o := .cells #[.int .u64 ((rd_T57 t218 x97_6).f0), .int .u64 ((rd_T57 t218 x97_6).f1)] 57 (0, 0)) (bP BK255.out) hg (Kd.R_ne HO_243002.out BK255.out (by decide))); replace HB := aM (hb); have HO267 := aM (ho); clear HO_243002; clear ho hb hg hat; obtain ⟨Ao127, co127, eo127⟩ := Kd.R_slice HO267.out; subst eo127; obtain ⟨hcz128_0, hcz128_1, hcz128_2, hcz128_3, hcz128_4, hfz128_0, hfz128_1, hfz128_2, hfz128_3, hfz128_4⟩ := cd5 BK242.out))
        go_roundg k6
        case measure => have := HK1.out; have := HK2.out; have := HK3.out; have := HJ53.out; have := HJ68.out; have := HK6.out; omega
        case rel => exact ⟨(wrap64 (x97_6 + 1)), (x243001_6), (y265), (u243001), (.slice Ao127 y265.length co127), eT, H', ⟨by have := HK1.out; have := HK2.out; have := HK3.out; have := HJ53.out; have := HJ68.out; have := HK6.out; omega⟩, ⟨by refine oR ?_; exact tT HO_4.out BK242.out⟩, ⟨by refine oR ?_; exact tM HO_8.out BK242.out (fun _ hk => ⟨hk.1.1, hk.1.2⟩)⟩, ⟨by refine oR ?_; exact tM HO_9.out BK242.out (fun _ hk => ⟨hk.1.1, hk.1.2⟩)⟩, ⟨by refine oR ?_; exact tM HO_55.out BK242.out (fun _ hk => ⟨hk.1.1, hk.1.2⟩)⟩, ⟨by refine oR ?_; exact tT HO_95.out BK242.out⟩, ⟨by refine oR ?_; exact tT HO_226001.out BK242.out⟩, ⟨by refine oS ?_; exact Kd.S_mono (Kd.S_far (p := ⟨gb242, 2, none⟩) (Kd.S_mono HO_226002.out (fun k_ hk => (⟨hk, hk.1.2⟩ : _ ∧ k_ ≠ gb242))) (fun _ hk => hk.2) (.slice Ao127 y265.length co127)) (fun _ hk => ⟨hk.1.1.1, ⟨hk.1.2, hk.1.1.2⟩⟩)⟩, ⟨by refine oR ?_; exact tM HO_243001.out BK242.out (fun _ hk => hk.1.2)⟩, ⟨by refine oR ?_; exact tM HO267.out BK242.out (fun _ hk => hk.1)⟩, ⟨bF BK217.out NB217_242.out⟩, ⟨bF BK225.out NB225_242.out⟩, ⟨bP BK242.out⟩, ⟨bB4 HB.out GE217.out GE225.out GE242.out GE255.out⟩⟩
       subst c83
       have H1 : (if x243001_6.length < 8796093022208 then ((some (x243001_6 ++ [(⟨wrap64 (x97_6 + 2), 1⟩ : S62)] : List (S62))).bind fun y257 => ((d_has.f ((rd_T57 t218 x97_6).f0) x57_2).bind fun t260 => (if t260 = true then (if x243002_6.length < 8796093022208 then (d_Alpha.l3 k6 t218 t230 t233 x57_2 t236 (t236.length : Int) x57_2 t218 (t218.length : Int) (wrap64 (x97_6 + 1)) (⟨#[97, 108, 112, 104, 97]⟩ : ByteArray) x226001_1 x226002_2 (rdOf ByteArray.empty t236 x57_2) y257 (x243002_6 ++ [(⟨wrap64 (x97_6 + 2), 1⟩ : S62)]) 0) else (none)) else (d_Alpha.l3 k6 t218 t230 t233 x57_2 t236 (t236.length : Int) x57_2 t218 (t218.length : Int) (wrap64 (x97_6 + 1)) (⟨#[97, 108, 112, 104, 97]⟩ : ByteArray) x226001_1 x226002_2 (rdOf ByteArray.empty t236 x57_2) y257 x243002_6 0)))) else (none)) = some (r1, r2, r3, r4) := by rw [if_pos rfl] at H; exact H
       clear H; have H := H1; clear H1
       obtain ⟨c84, H⟩ := iP H; have LMc84 := aM c84; clear c84
       obtain ⟨y257, hy257⟩ : ∃ y_ : List (S62), y_ = (x243001_6 ++ [(⟨wrap64 (x97_6 + 2), 1⟩ : S62)]) := ⟨_, rfl⟩
       replace H : ((d_has.f ((rd_T57 t218 x97_6).f0) x57_2).bind fun t260 => (if t260 = true then (if x243002_6.length < 8796093022208 then (d_Alpha.l3 k6 t218 t230 t233 x57_2 t236 (t236.length : Int) x57_2 t218 (t218.length : Int) (wrap64 (x97_6 + 1)) (⟨#[97, 108, 112, 104, 97]⟩ : ByteArray) x226001_1 x226002_2 (rdOf ByteArray.empty t236 x57_2) y257 (x243002_6 ++ [(⟨wrap64 (x97_6 + 2), 1⟩ : S62)]) 0) else (none)) else (d_Alpha.l3 k6 t218 t230 t233 x57_2 t236 (t236.length : Int) x57_2 t218 (t218.length : Int) (wrap64 (x97_6 + 1)) (⟨#[97, 108, 112, 104, 97]⟩ : ByteArray) x226001_1 x226002_2 (rdOf ByteArray.empty t236 x57_2) y257 x243002_6 0))) = some (r1, r2, r3, r4) := yT hy257 H
       have Ny257 := aM hy257; clear hy257; obtain ⟨t260, A85, H⟩ := iB H; (try dsimp only at H)
       by_cases c86 : t260 = true
       rotate_left
       ·
        replace c86 := Bool.eq_false_iff.mpr c86
        subst c86
        have H1 : (d_Alpha.l3 k6 t218 t230 t233 x57_2 t236 (t236.length : Int) x57_2 t218 (t218.length : Int) (wrap64 (x97_6 + 1)) (⟨#[97, 108, 112, 104, 97]⟩ : ByteArray) x226001_1 x226002_2 (rdOf ByteArray.empty t236 x57_2) y257 x243002_6 0) = some (r1, r2, r3, r4) := by rw [if_neg (show ¬ (false = true) by decide)] at H; exact H
        clear H; have H := H1; clear H1
        have H' := aM H
        clear H; have p254 : 0 ≤ (x97_6 : Int) := dT; have q254 : x97_6 < (t218.length : Int) := dT
        try (obtain ⟨Aoz254, coz254, eoz254⟩ := Kd.R_slice HO_95.out; subst eoz254)
        obtain ⟨ad254, e254, hx254_0, hx254_1⟩ := at_T57 (Kd.R_reads' HO_95.out).2.2 x97_6 p254 q254; cases e254; replace p254 := eq_true p254; replace q254 := eq_true q254
        go_wp2_with (first | ((with_reducible refine gate_dst (N := 16) rfl ?_); refine bX 16 (cs := #[.int .u64 0, .int .u64 0]) (t := 57) ?_; intro gb255 hg w103 hbox hb; replace HO_4 := aM (Kd.R_below (Kd.R_elderB (oR HO_4.out) gb255 (Nat.le_of_eq hg.symm)) hb); replace HO_8 := aM (Kd.R_below (oR HO_8.out) hb); replace HO_9 := aM (Kd.R_below (oR HO_9.out) hb); replace HO_55 := aM (Kd.R_below (oR HO_55.out) hb); replace HO_95 := aM (Kd.R_below (Kd.R_elderB (oR HO_95.out) gb255 (Nat.le_of_eq hg.symm)) hb); replace HO_226001 := aM (Kd.R_below (oR HO_226001.out) hb); replace HO_226002 := aM (Kd.S_below (oS HO_226002.out) hb); replace HO_243001 := aM (Kd.R_below (oR HO_243001.out) hb); replace HO_243002 := aM (Kd.R_below (oR HO_243002.out) hb); have BK255 := aM (hbox); have GW255 := aM (gE hg (below_size (bB3 HB.out GE217.out GE225.out GE242.out))); have GE255 := GW255; replace HB := aM (below_step (bB3 HB.out GE217.out GE225.out GE242.out) hb); have NB217_255 := aM (gL hg (kL BK217.out)); have NB255_217 := aM (gG hg (kL BK217.out)); replace BK217 := aM (kW BK217.out hb); have NB225_255 := aM (gL hg (kL BK225.out)); have NB255_225 := aM (gG hg (kL BK225.out)); replace BK225 := aM (kW BK225.out hb); have NB242_255 := aM (gL hg (kL BK242.out)); have NB255_242 := aM (gG hg (kL BK242.out)); replace BK242 := aM (kW BK242.out hb); clear hb hbox hg; have hnb104 := NB255_217.out; have hnc104 := NB217_255.out; have hnb105 := NB255_225.out; have hnc105 := NB225_255.out; have hnb106 := NB255_242.out; have hnc106 := NB242_255.out; obtain ⟨hcz107_0, hcz107_1, hfz107_0, hfz107_1⟩ := cd2 BK255.out) | ((with_reducible refine gate_callee (f := 29) rfl ?_); refine gM (some 105) Tryd.func29 #[.int .u64 ((rd_T57 t218 x97_6).f1), .int .i64 x57_2] ?_; (with_reducible refine (d_has.calls ((rd_T57 t218 x97_6).f1) x57_2 true _ A82.out).mono ?_); rintro e w' ⟨rfl, ⟨nd, rfl⟩⟩; refine ⟨_, rfl, ?_⟩; have hnb108 := NB242_217.out; have hnc108 := NB217_242.out; have hnb109 := NB242_225.out; have hnc109 := NB225_242.out; obtain ⟨hcz110_0, hcz110_1, hcz110_2, hcz110_3, hcz110_4, hfz110_0, hfz110_1, hfz110_2, hfz110_3, hfz110_4⟩ := cd5 BK242.out) | ((with_reducible refine gate_builtin (b := .append) (xs := #[.tmp 107, .tmp 111]) rfl ?_); at_builtin; refine Kd.R_append k62 (w0 := w) w.heap.size rfl (.tmp 107) (.tmp 111) 39 62 (.agg #[(.int .i64 0), (.int .i64 0)]) 16 rfl Tryd.underlying39 info62 rfl (by decide) (by omega) u243001 x243001_6 (⟨wrap64 (x97_6 + 2), 1⟩ : S62) [.int .i64 (wrap64 (x97_6 + 2)), .int .i64 1] (fun k_ => some k_ ≠ (u243002 : Value).ownBlock) (fun _ => False) rfl (by first | (go_simp; done) | (go_simp; rfl)) ?aP (fun _ hk => hk.elim) ?aF ?aO ?aB ?aS ?aL ?_; (case aP => exact k62_mkM _ _ _ (⟨wrap64 (x97_6 + 2), 1⟩ : S62)); (case aB => exact (bB4 HB.out GE217.out GE225.out GE242.out GE255.out)); (case aF => exact (fun k_ hk => Kd.fresh' (Kd.R_lt (by refine oR ?_; exact (tR HO_243002.out BK255.out))) k_ hk)); (case aO => exact (by refine oR ?_; exact tM HO_243001.out BK255.out (fun _ hk => hk.1))); (case aS => exact (below_size (bB4 HB.out GE217.out GE225.out GE242.out GE255.out))); (case aL => have := LMc84.out; omega); intro v258 w111 ho hb hg hat; rw [← Ny257.out] at ho; replace HO_4 := aM (Kd.R_over' (by refine oR ?_; exact (uR gb255 HO_4.out)) (Kd.R_typed (by refine oR ?_; exact (tR HO_243001.out BK255.out))) (by decide) hg); replace HO_8 := aM (Kd.R_over' (by refine oR ?_; exact (tR HO_8.out BK255.out)) (Kd.R_typed (by refine oR ?_; exact (tR HO_243001.out BK255.out))) (by decide) hg); replace HO_9 := aM (Kd.R_over' (by refine oR ?_; exact (tR HO_9.out BK255.out)) (Kd.R_typed (by refine oR ?_; exact (tR HO_243001.out BK255.out))) (by decide) hg); replace HO_55 := aM (Kd.R_over' (by refine oR ?_; exact (tR HO_55.out BK255.out)) (Kd.R_typed (by refine oR ?_; exact (tR HO_243001.out BK255.out))) (by decide) hg); replace HO_95 := aM (Kd.R_over' (by refine oR ?_; exact (uR gb255 HO_95.out)) (Kd.R_typed (by refine oR ?_; exact (tR HO_243001.out BK255.out))) (by decide) hg); replace HO_226001 := aM (Kd.R_over' (by refine oR ?_; exact (tR HO_226001.out BK255.out)) (Kd.R_typed (by refine oR ?_; exact (tR HO_243001.out BK255.out))) (by decide) hg); replace HO_226002 := aM (Kd.S_after (ok := (fun k_ => some k_ ≠ (u243002 : Value).ownBlock ∧ k_ ≠ gb242)) (by refine oS ?_; exact sM HO_226002.out BK255.out (fun _ hk => ⟨⟨hk.1.2.1, hk.1.2.2⟩, hk.1.1⟩)) hg hat); replace HO_243002 := aM (Kd.R_after (ok := (fun _ => True)) (by refine oR ?_; exact tM HO_243002.out BK255.out (fun _ hk => ⟨trivial, hk.1⟩)) hg hat); replace BK217 := aM (blk_grown (g := gb217) (o := .cells #[.string x218000_3, .slice none 0 0, .slice none 0 0] 28 (0, 0)) (bF BK217.out NB217_255.out) hg (Kd.R_ne HO_243001.out BK217.out (by decide))); replace BK225 := aM (blk_grown (g := gb225) (o := .cells #[.string (⟨#[97, 108, 112, 104, 97]⟩ : ByteArray), .slice Ao38 x226001_1.length co38, u226002] 28 (0, 0)) (bF BK225.out NB225_255.out) hg (Kd.R_ne HO_243001.out BK225.out (by decide))); replace BK242 := aM (blk_grown (g := gb242) (o := .cells #[.string (rdOf ByteArray.empty t236 x57_2), u243001, u243002, .slice none 0 0, .int .i64 0] 41 (0, 0)) (bF BK242.out NB242_255.out) hg (Kd.R_ne HO_243001.out BK242.out (by decide))); replace BK255 := aM (blk_grown (g := gb255) (o := .cells #[.int .u64 ((rd_T57 t218 x97_6).f0), .int .u64 ((rd_T57 t218 x97_6).f1)] 57 (0, 0)) (bP BK255.out) hg (Kd.R_ne HO_243001.out BK255.out (by decide))); replace HB := aM (hb); have HO259 := aM (ho); clear HO_243001; clear ho hb hg hat; obtain ⟨Ao112, co112, eo112⟩ := Kd.R_slice HO259.out; subst eo112; obtain ⟨hcz113_0, hcz113_1, hcz113_2, hcz113_3, hcz113_4, hfz113_0, hfz113_1, hfz113_2, hfz113_3, hfz113_4⟩ := cd5 BK242.out; obtain ⟨hcz114_0, hcz114_1, hfz114_0, hfz114_1⟩ := cd2 BK255.out) | ((with_reducible refine gate_callee (f := 29) rfl ?_); refine gM (some 117) Tryd.func29 #[.int .u64 ((rd_T57 t218 x97_6).f0), .int .i64 x57_2] ?_; (with_reducible refine (d_has.calls ((rd_T57 t218 x97_6).f0) x57_2 false _ A85.out).mono ?_); rintro e w' ⟨rfl, ⟨nd, rfl⟩⟩; refine ⟨_, rfl, ?_⟩))
        go_roundg k6
        case measure => have := HK1.out; have := HK2.out; have := HK3.out; have := HJ53.out; have := HJ68.out; have := HK6.out; omega
        case rel => exact ⟨(wrap64 (x97_6 + 1)), (y257), (x243002_6), (.slice Ao112 y257.length co112), (u243002), eT, H', ⟨by have := HK1.out; have := HK2.out; have := HK3.out; have := HJ53.out; have := HJ68.out; have := HK6.out; omega⟩, ⟨by refine oR ?_; exact tT HO_4.out BK242.out⟩, ⟨by refine oR ?_; exact tM HO_8.out BK242.out (fun _ hk => ⟨hk.1.1, hk.1.2⟩)⟩, ⟨by refine oR ?_; exact tM HO_9.out BK242.out (fun _ hk => ⟨hk.1.1, hk.1.2⟩)⟩, ⟨by refine oR ?_; exact tM HO_55.out BK242.out (fun _ hk => ⟨hk.1.1, hk.1.2⟩)⟩, ⟨by refine oR ?_; exact tT HO_95.out BK242.out⟩, ⟨by refine oR ?_; exact tT HO_226001.out BK242.out⟩, ⟨by refine oS ?_; exact Kd.S_mono (Kd.S_far (p := ⟨gb242, 1, none⟩) (Kd.S_mono HO_226002.out (fun k_ hk => (⟨hk, hk.1.2⟩ : _ ∧ k_ ≠ gb242))) (fun _ hk => hk.2) (.slice Ao112 y257.length co112)) (fun _ hk => ⟨hk.1.2, ⟨hk.1.1.1, hk.1.1.2⟩⟩)⟩, ⟨by refine oR ?_; exact tM HO259.out BK242.out (fun _ hk => hk.1)⟩, ⟨by refine oR ?_; exact tM HO_243002.out BK242.out (fun _ hk => hk.1.2)⟩, ⟨bF BK217.out NB217_242.out⟩, ⟨bF BK225.out NB225_242.out⟩, ⟨bP BK242.out⟩, ⟨bB4 HB.out GE217.out GE225.out GE242.out GE255.out⟩⟩
       subst c86
       have H1 : (if x243002_6.length < 8796093022208 then (d_Alpha.l3 k6 t218 t230 t233 x57_2 t236 (t236.length : Int) x57_2 t218 (t218.length : Int) (wrap64 (x97_6 + 1)) (⟨#[97, 108, 112, 104, 97]⟩ : ByteArray) x226001_1 x226002_2 (rdOf ByteArray.empty t236 x57_2) y257 (x243002_6 ++ [(⟨wrap64 (x97_6 + 2), 1⟩ : S62)]) 0) else (none)) = some (r1, r2, r3, r4) := by rw [if_pos rfl] at H; exact H
       clear H; have H := H1; clear H1
       obtain ⟨c87, H⟩ := iP H; have LMc87 := aM c87; clear c87
       obtain ⟨y261, hy261⟩ : ∃ y_ : List (S62), y_ = (x243002_6 ++ [(⟨wrap64 (x97_6 + 2), 1⟩ : S62)]) := ⟨_, rfl⟩
       replace H : (d_Alpha.l3 k6 t218 t230 t233 x57_2 t236 (t236.length : Int) x57_2 t218 (t218.length : Int) (wrap64 (x97_6 + 1)) (⟨#[97, 108, 112, 104, 97]⟩ : ByteArray) x226001_1 x226002_2 (rdOf ByteArray.empty t236 x57_2) y257 y261 0) = some (r1, r2, r3, r4) := yT hy261 H
       have Ny261 := aM hy261; clear hy261
       have H' := aM H
       clear H; have p254 : 0 ≤ (x97_6 : Int) := dT; have q254 : x97_6 < (t218.length : Int) := dT
       try (obtain ⟨Aoz254, coz254, eoz254⟩ := Kd.R_slice HO_95.out; subst eoz254)
       obtain ⟨ad254, e254, hx254_0, hx254_1⟩ := at_T57 (Kd.R_reads' HO_95.out).2.2 x97_6 p254 q254; cases e254; replace p254 := eq_true p254; replace q254 := eq_true q254
       go_wp2_with (first | ((with_reducible refine gate_dst (N := 16) rfl ?_); refine bX 16 (cs := #[.int .u64 0, .int .u64 0]) (t := 57) ?_; intro gb255 hg w88 hbox hb; replace HO_4 := aM (Kd.R_below (Kd.R_elderB (oR HO_4.out) gb255 (Nat.le_of_eq hg.symm)) hb); replace HO_8 := aM (Kd.R_below (oR HO_8.out) hb); replace HO_9 := aM (Kd.R_below (oR HO_9.out) hb); replace HO_55 := aM (Kd.R_below (oR HO_55.out) hb); replace HO_95 := aM (Kd.R_below (Kd.R_elderB (oR HO_95.out) gb255 (Nat.le_of_eq hg.symm)) hb); replace HO_226001 := aM (Kd.R_below (oR HO_226001.out) hb); replace HO_226002 := aM (Kd.S_below (oS HO_226002.out) hb); replace HO_243001 := aM (Kd.R_below (oR HO_243001.out) hb); replace HO_243002 := aM (Kd.R_below (oR HO_243002.out) hb); have BK255 := aM (hbox); have GW255 := aM (gE hg (below_size (bB3 HB.out GE217.out GE225.out GE242.out))); have GE255 := GW255; replace HB := aM (below_step (bB3 HB.out GE217.out GE225.out GE242.out) hb); have NB217_255 := aM (gL hg (kL BK217.out)); have NB255_217 := aM (gG hg (kL BK217.out)); replace BK217 := aM (kW BK217.out hb); have NB225_255 := aM (gL hg (kL BK225.out)); have NB255_225 := aM (gG hg (kL BK225.out)); replace BK225 := aM (kW BK225.out hb); have NB242_255 := aM (gL hg (kL BK242.out)); have NB255_242 := aM (gG hg (kL BK242.out)); replace BK242 := aM (kW BK242.out hb); clear hb hbox hg; have hnb89 := NB255_217.out; have hnc89 := NB217_255.out; have hnb90 := NB255_225.out; have hnc90 := NB225_255.out; have hnb91 := NB255_242.out; have hnc91 := NB242_255.out; obtain ⟨hcz92_0, hcz92_1, hfz92_0, hfz92_1⟩ := cd2 BK255.out) | ((with_reducible refine gate_callee (f := 29) rfl ?_); refine gM (some 105) Tryd.func29 #[.int .u64 ((rd_T57 t218 x97_6).f1), .int .i64 x57_2] ?_; (with_reducible refine (d_has.calls ((rd_T57 t218 x97_6).f1) x57_2 true _ A82.out).mono ?_); rintro e w' ⟨rfl, ⟨nd, rfl⟩⟩; refine ⟨_, rfl, ?_⟩; have hnb93 := NB242_217.out; have hnc93 := NB217_242.out; have hnb94 := NB242_225.out; have hnc94 := NB225_242.out; obtain ⟨hcz95_0, hcz95_1, hcz95_2, hcz95_3, hcz95_4, hfz95_0, hfz95_1, hfz95_2, hfz95_3, hfz95_4⟩ := cd5 BK242.out) | ((with_reducible refine gate_builtin (b := .append) (xs := #[.tmp 107, .tmp 111]) rfl ?_); at_builtin; refine Kd.R_append k62 (w0 := w) w.heap.size rfl (.tmp 107) (.tmp 111) 39 62 (.agg #[(.int .i64 0), (.int .i64 0)]) 16 rfl Tryd.underlying39 info62 rfl (by decide) (by omega) u243001 x243001_6 (⟨wrap64 (x97_6 + 2), 1⟩ : S62) [.int .i64 (wrap64 (x97_6 + 2)), .int .i64 1] (fun k_ => some k_ ≠ (u243002 : Value).ownBlock) (fun _ => False) rfl (by first | (go_simp; done) | (go_simp; rfl)) ?aP (fun _ hk => hk.elim) ?aF ?aO ?aB ?aS ?aL ?_; (case aP => exact k62_mkM _ _ _ (⟨wrap64 (x97_6 + 2), 1⟩ : S62)); (case aB => exact (bB4 HB.out GE217.out GE225.out GE242.out GE255.out)); (case aF => exact (fun k_ hk => Kd.fresh' (Kd.R_lt (by refine oR ?_; exact (tR HO_243002.out BK255.out))) k_ hk)); (case aO => exact (by refine oR ?_; exact tM HO_243001.out BK255.out (fun _ hk => hk.1))); (case aS => exact (below_size (bB4 HB.out GE217.out GE225.out GE242.out GE255.out))); (case aL => have := LMc84.out; omega); intro v258 w96 ho hb hg hat; rw [← Ny257.out] at ho; replace HO_4 := aM (Kd.R_over' (by refine oR ?_; exact (uR gb255 HO_4.out)) (Kd.R_typed (by refine oR ?_; exact (tR HO_243001.out BK255.out))) (by decide) hg); replace HO_8 := aM (Kd.R_over' (by refine oR ?_; exact (tR HO_8.out BK255.out)) (Kd.R_typed (by refine oR ?_; exact (tR HO_243001.out BK255.out))) (by decide) hg); replace HO_9 := aM (Kd.R_over' (by refine oR ?_; exact (tR HO_9.out BK255.out)) (Kd.R_typed (by refine oR ?_; exact (tR HO_243001.out BK255.out))) (by decide) hg); replace HO_55 := aM (Kd.R_over' (by refine oR ?_; exact (tR HO_55.out BK255.out)) (Kd.R_typed (by refine oR ?_; exact (tR HO_243001.out BK255.out))) (by decide) hg); replace HO_95 := aM (Kd.R_over' (by refine oR ?_; exact (uR gb255 HO_95.out)) (Kd.R_typed (by refine oR ?_; exact (tR HO_243001.out BK255.out))) (by decide) hg); replace HO_226001 := aM (Kd.R_over' (by refine oR ?_; exact (tR HO_226001.out BK255.out)) (Kd.R_typed (by refine oR ?_; exact (tR HO_243001.out BK255.out))) (by decide) hg); replace HO_226002 := aM (Kd.S_after (ok := (fun k_ => some k_ ≠ (u243002 : Value).ownBlock ∧ k_ ≠ gb242)) (by refine oS ?_; exact sM HO_226002.out BK255.out (fun _ hk => ⟨⟨hk.1.2.1, hk.1.2.2⟩, hk.1.1⟩)) hg hat); replace HO_243002 := aM (Kd.R_after (ok := (fun _ => True)) (by refine oR ?_; exact tM HO_243002.out BK255.out (fun _ hk => ⟨trivial, hk.1⟩)) hg hat); replace BK217 := aM (blk_grown (g := gb217) (o := .cells #[.string x218000_3, .slice none 0 0, .slice none 0 0] 28 (0, 0)) (bF BK217.out NB217_255.out) hg (Kd.R_ne HO_243001.out BK217.out (by decide))); replace BK225 := aM (blk_grown (g := gb225) (o := .cells #[.string (⟨#[97, 108, 112, 104, 97]⟩ : ByteArray), .slice Ao38 x226001_1.length co38, u226002] 28 (0, 0)) (bF BK225.out NB225_255.out) hg (Kd.R_ne HO_243001.out BK225.out (by decide))); replace BK242 := aM (blk_grown (g := gb242) (o := .cells #[.string (rdOf ByteArray.empty t236 x57_2), u243001, u243002, .slice none 0 0, .int .i64 0] 41 (0, 0)) (bF BK242.out NB242_255.out) hg (Kd.R_ne HO_243001.out BK242.out (by decide))); replace BK255 := aM (blk_grown (g := gb255) (o := .cells #[.int .u64 ((rd_T57 t218 x97_6).f0), .int .u64 ((rd_T57 t218 x97_6).f1)] 57 (0, 0)) (bP BK255.out) hg (Kd.R_ne HO_243001.out BK255.out (by decide))); replace HB := aM (hb); have HO259 := aM (ho); clear HO_243001; clear ho hb hg hat; obtain ⟨Ao97, co97, eo97⟩ := Kd.R_slice HO259.out; subst eo97; obtain ⟨hcz98_0, hcz98_1, hcz98_2, hcz98_3, hcz98_4, hfz98_0, hfz98_1, hfz98_2, hfz98_3, hfz98_4⟩ := cd5 BK242.out; obtain ⟨hcz99_0, hcz99_1, hfz99_0, hfz99_1⟩ := cd2 BK255.out) | ((with_reducible refine gate_callee (f := 29) rfl ?_); refine gM (some 117) Tryd.func29 #[.int .u64 ((rd_T57 t218 x97_6).f0), .int .i64 x57_2] ?_; (with_reducible refine (d_has.calls ((rd_T57 t218 x97_6).f0) x57_2 true _ A85.out).mono ?_); rintro e w' ⟨rfl, ⟨nd, rfl⟩⟩; refine ⟨_, rfl, ?_⟩) | ((with_reducible refine gate_builtin (b := .append) (xs := #[.tmp 119, .tmp 123]) rfl ?_); at_builtin; refine Kd.R_append k62 (w0 := w) w.heap.size rfl (.tmp 119) (.tmp 123) 39 62 (.agg #[(.int .i64 0), (.int .i64 0)]) 16 rfl Tryd.underlying39 info62 rfl (by decide) (by omega) u243002 x243002_6 (⟨wrap64 (x97_6 + 2), 1⟩ : S62) [.int .i64 (wrap64 (x97_6 + 2)), .int .i64 1] (fun k_ => some k_ ≠ (.slice Ao97 y257.length co97 : Value).ownBlock) (fun _ => False) rfl (by first | (go_simp; done) | (go_simp; rfl)) ?aP (fun _ hk => hk.elim) ?aF ?aO ?aB ?aS ?aL ?_; (case aP => exact k62_mkM _ _ _ (⟨wrap64 (x97_6 + 2), 1⟩ : S62)); (case aB => exact (bB4 HB.out GE217.out GE225.out GE242.out GE255.out)); (case aF => exact (fun k_ hk => Kd.fresh' (Kd.R_lt (by refine oR ?_; exact (tR HO259.out BK242.out))) k_ hk)); (case aO => exact (by refine oR ?_; exact tM HO_243002.out BK242.out (fun _ hk => hk.1.2))); (case aS => exact (below_size (bB4 HB.out GE217.out GE225.out GE242.out GE255.out))); (case aL => have := LMc87.out; omega); intro v262 w100 ho hb hg hat; rw [← Ny261.out] at ho; replace HO_4 := aM (Kd.R_over' (by refine oR ?_; exact (tR HO_4.out BK242.out)) (Kd.R_typed (by refine oR ?_; exact (tR HO_243002.out BK242.out))) (by decide) hg); replace HO_8 := aM (Kd.R_over' (by refine oR ?_; exact (tR HO_8.out BK242.out)) (Kd.R_typed (by refine oR ?_; exact (tR HO_243002.out BK242.out))) (by decide) hg); replace HO_9 := aM (Kd.R_over' (by refine oR ?_; exact (tR HO_9.out BK242.out)) (Kd.R_typed (by refine oR ?_; exact (tR HO_243002.out BK242.out))) (by decide) hg); replace HO_55 := aM (Kd.R_over' (by refine oR ?_; exact (tR HO_55.out BK242.out)) (Kd.R_typed (by refine oR ?_; exact (tR HO_243002.out BK242.out))) (by decide) hg); replace HO_95 := aM (Kd.R_over' (by refine oR ?_; exact (tR HO_95.out BK242.out)) (Kd.R_typed (by refine oR ?_; exact (tR HO_243002.out BK242.out))) (by decide) hg); replace HO_226001 := aM (Kd.R_over' (by refine oR ?_; exact (tR HO_226001.out BK242.out)) (Kd.R_typed (by refine oR ?_; exact (tR HO_243002.out BK242.out))) (by decide) hg); replace HO_226002 := aM (Kd.S_after (ok := (fun k_ => some k_ ≠ (.slice Ao97 y257.length co97 : Value).ownBlock ∧ k_ ≠ gb242)) (by refine oS ?_; exact Kd.S_mono (Kd.S_far (p := ⟨gb242, 1, none⟩) (Kd.S_mono HO_226002.out (fun k_ hk => (⟨hk, hk.1.2⟩ : _ ∧ k_ ≠ gb242))) (fun _ hk => hk.2) (.slice Ao97 y257.length co97)) (fun _ hk => ⟨⟨hk.1.2, hk.1.1.2⟩, hk.1.1.1⟩)) hg hat); replace BK217 := aM (blk_grown (g := gb217) (o := .cells #[.string x218000_3, .slice none 0 0, .slice none 0 0] 28 (0, 0)) (bF BK217.out NB217_242.out) hg (Kd.R_ne HO_243002.out BK217.out (by decide))); replace BK225 := aM (blk_grown (g := gb225) (o := .cells #[.string (⟨#[97, 108, 112, 104, 97]⟩ : ByteArray), .slice Ao38 x226001_1.length co38, u226002] 28 (0, 0)) (bF BK225.out NB225_242.out) hg (Kd.R_ne HO_243002.out BK225.out (by decide))); replace BK255 := aM (blk_grown (g := gb255) (o := .cells #[.int .u64 ((rd_T57 t218 x97_6).f0), .int .u64 ((rd_T57 t218 x97_6).f1)] 57 (0, 0)) (bF BK255.out NB255_242.out) hg (Kd.R_ne HO_243002.out BK255.out (by decide))); replace HO259 := aM (Kd.R_after (ok := (fun _ => True)) (by refine oR ?_; exact tM HO259.out BK242.out (fun _ hk => ⟨trivial, hk.1⟩)) hg hat); replace BK242 := aM (blk_grown (g := gb242) (o := .cells #[.string (rdOf ByteArray.empty t236 x57_2), .slice Ao97 y257.length co97, u243002, .slice none 0 0, .int .i64 0] 41 (0, 0)) (bP BK242.out) hg (Kd.R_ne HO_243002.out BK242.out (by decide))); replace HB := aM (hb); have HO263 := aM (ho); clear HO_243002; clear ho hb hg hat; obtain ⟨Ao101, co101, eo101⟩ := Kd.R_slice HO263.out; subst eo101; obtain ⟨hcz102_0, hcz102_1, hcz102_2, hcz102_3, hcz102_4, hfz102_0, hfz102_1, hfz102_2, hfz102_3, hfz102_4⟩ := cd5 BK242.out))
       go_roundg k6
       case measure => have := HK1.out; have := HK2.out; have := HK3.out; have := HJ53.out; have := HJ68.out; have := HK6.out; omega
       case rel => exact ⟨(wrap64 (x97_6 + 1)), (y257), (y261), (.slice Ao97 y257.length co97), (.slice Ao101 y261.length co101), eT, H', ⟨by have := HK1.out; have := HK2.out; have := HK3.out; have := HJ53.out; have := HJ68.out; have := HK6.out; omega⟩, ⟨by refine oR ?_; exact tT HO_4.out BK242.out⟩, ⟨by refine oR ?_; exact tM HO_8.out BK242.out (fun _ hk => ⟨hk.1.1, hk.1.2⟩)⟩, ⟨by refine oR ?_; exact tM HO_9.out BK242.out (fun _ hk => ⟨hk.1.1, hk.1.2⟩)⟩, ⟨by refine oR ?_; exact tM HO_55.out BK242.out (fun _ hk => ⟨hk.1.1, hk.1.2⟩)⟩, ⟨by refine oR ?_; exact tT HO_95.out BK242.out⟩, ⟨by refine oR ?_; exact tT HO_226001.out BK242.out⟩, ⟨by refine oS ?_; exact Kd.S_mono (Kd.S_far (p := ⟨gb242, 2, none⟩) (Kd.S_mono HO_226002.out (fun k_ hk => (⟨hk, hk.1.2⟩ : _ ∧ k_ ≠ gb242))) (fun _ hk => hk.2) (.slice Ao101 y261.length co101)) (fun _ hk => ⟨hk.1.1.1, ⟨hk.1.2, hk.1.1.2⟩⟩)⟩, ⟨by refine oR ?_; exact tM HO259.out BK242.out (fun _ hk => hk.1.2)⟩, ⟨by refine oR ?_; exact tM HO263.out BK242.out (fun _ hk => hk.1)⟩, ⟨bF BK217.out NB217_242.out⟩, ⟨bF BK225.out NB225_242.out⟩, ⟨bP BK242.out⟩, ⟨bB4 HB.out GE217.out GE225.out GE242.out GE255.out⟩⟩


/-! ### r48_Name: function 73 -/
def r48_Name.l0 : Nat → ByteArray → Int → Option (Bool)
 | 0, _, _ => none
 | k + 1, x0, x3 => if x3 < (x0.size : Int) then (if 0 ≤ x3 then (if (bt x0 x3) ≥ 97 then (if (bt x0 x3) ≤ 122 then (r48_Name.l0 k x0 (wrap64 (x3 + 1))) else (if ((bt x0 x3) = 95) then (r48_Name.l0 k x0 (wrap64 (x3 + 1))) else (if x3 = 0 then (some false) else (if (bt x0 x3) = 46 then (r48_Name.l0 k x0 (wrap64 (x3 + 1))) else (if (bt x0 x3) < 48 then (some false) else (if (bt x0 x3) > 57 then (some false) else (r48_Name.l0 k x0 (wrap64 (x3 + 1))))))))) else (if ((bt x0 x3) = 95) then (r48_Name.l0 k x0 (wrap64 (x3 + 1))) else (if x3 = 0 then (some false) else (if (bt x0 x3) = 46 then (r48_Name.l0 k x0 (wrap64 (x3 + 1))) else (if (bt x0 x3) < 48 then (some false) else (if (bt x0 x3) > 57 then (some false) else (r48_Name.l0 k x0 (wrap64 (x3 + 1))))))))) else (none)) else (if (x0.size : Int) ≥ 1 then (some (decide ((x0.size : Int) ≤ 16))) else (some false))
def r48_Name.f (k : Nat) (a0 : ByteArray) : Option (Bool) := r48_Name.l0 k a0 0
theorem r48_Name.mono_l : ∀ k, (∀ y0 y1, LeO (r48_Name.l0 k y0 y1) (r48_Name.l0 (k + 1) y0 y1))
 | 0 => fun _ _ r h => by simp [r48_Name.l0] at h
 | k + 1 => by
  have ih0 := r48_Name.mono_l k
  ·
   intro y0 y1
   unfold r48_Name.l0
   repeat' first
   | (with_reducible first | apply ih0 | exact LeO.refl _ | exact LeO.none _ | refine LeO.ite ?_ ?_ | refine LeO.bind ?_ (fun _ => ?_))
theorem r48_Name.mono : ∀ a0 k, LeO (r48_Name.f k a0) (r48_Name.f (k + 1) a0) := by
 intro a0 k
 have ih0 := r48_Name.mono_l k
 unfold r48_Name.f
 repeat' first
   | (with_reducible first | apply ih0 | exact LeO.refl _ | exact LeO.none _ | refine LeO.ite ?_ ?_ | refine LeO.bind ?_ (fun _ => ?_))
set_option maxHeartbeats 8000000 in
set_option maxRecDepth 100000 in
theorem r48_Name.calls (k : Nat) (a0 : ByteArray) (r : Bool) (w : World) (h : r48_Name.f k a0 = some r) :
  Calls Tryd.prog 73 #[.string a0] w fun e w' => e = .returned (.bool r) ∧ Drawn0 w w' := by
 have H : (r48_Name.l0 k a0 0) = some r := h; clear h
 have H' := aM H
 clear H
 go_enter Tryd.func73, Tryd.ntmps73
 go_wp2
 go_loopg [3] k (fun kq v3 w' => ∃ (x3_1 : Int), v3 = .int .i64 x3_1 ∧ Aside0 (r48_Name.l0 kq a0 x3_1 = some r) ∧ Aside0 (kq ≤ k) ∧ Drawn0 w w')
 case atStart => exact ⟨(0), eT, H', ⟨Nat.le_refl _⟩, by repeat (first | exact Drawn0.refl _ | apply Drawn0.step)⟩
 clear H'
 obtain ⟨x3_1, rfl, HA, HK1, ⟨m1, rfl⟩⟩ := hrel
 cases gk with
 | zero => exact absurd HA.out (by simp [r48_Name.l0])
 | succ k1 =>
  have H := HA.out; clear HA
  simp only [r48_Name.l0] at H
  by_cases c2 : x3_1 < (a0.size : Int)
  rotate_left
  ·
   rw [if_neg c2] at H
   have c2b0 := decide_eq_false c2; clear c2
   by_cases c26 : (a0.size : Int) ≥ 1
   ·
    rw [if_pos c26] at H
    have c26b0 : decide (1 ≤ (a0.size : Int)) = true := decide_eq_true c26; have c26b1 : decide (1 ≤ a0.size) = true := decide_eq_true (by omega); clear c26
    obtain rfl := Option.some.inj H
    go_wp2
    go_ret
    exact ⟨by first | rfl | (simp; done) | (simp [*]; done), by repeat (first | exact Drawn0.refl _ | apply Drawn0.step)⟩
   rw [if_neg c26] at H; have c26b0 : decide (1 ≤ (a0.size : Int)) = false := decide_eq_false c26; have c26b1 : decide (1 ≤ a0.size) = false := decide_eq_false (by omega); clear c26
   obtain rfl := Option.some.inj H
   go_wp2
   go_ret
   exact ⟨by first | rfl | (simp; done) | (simp [*]; done), by repeat (first | exact Drawn0.refl _ | apply Drawn0.step)⟩


  rw [if_pos c2] at H; have c2b0 := decide_eq_true c2; clear c2
  obtain ⟨c3, H⟩ := iP H; have c3b0 := decide_eq_true c3; clear c3
  by_cases c5 : (bt a0 x3_1) ≥ 97
  rotate_left
  ·
   rw [if_neg c5] at H
   have c5b0 : decide (97 ≤ (bt a0 x3_1)) = false := decide_eq_false c5; clear c5
   by_cases c18 : ((bt a0 x3_1) = 95)
   ·
    rw [if_pos c18] at H
    have c18b0 : ((bt a0 x3_1) == 95) = true := beq_iff_eq.mpr c18; have c18b1 : ((bt a0 x3_1) != 95) = false := bne_eq_false_iff_eq.mpr c18; clear c18
    have H' := aM H
    clear H; obtain ⟨p4, q4⟩ := aQ (x3_1) (a0.size : Int); have hx4 := bt_at a0 x3_1; obtain ⟨p17, q17⟩ := aQ (x3_1) (a0.size : Int); have hx17 := bt_at a0 x3_1
    go_wp2
    go_roundg k1
    case measure => have := HK1.out; omega
    case rel => exact ⟨(wrap64 (x3_1 + 1)), eT, H', ⟨by have := HK1.out; omega⟩, by repeat (first | exact Drawn0.refl _ | apply Drawn0.step)⟩
   rw [if_neg c18] at H; have c18b0 : ((bt a0 x3_1) == 95) = false := beq_eq_false_iff_ne.mpr c18; have c18b1 : ((bt a0 x3_1) != 95) = true := bne_iff_ne.mpr c18
   by_cases c19 : x3_1 = 0
   ·
    rw [if_pos c19] at H
    have c19b0 : (x3_1 == 0) = true := beq_iff_eq.mpr c19; have c19b1 : (x3_1 != 0) = false := bne_eq_false_iff_eq.mpr c19; clear c19
    obtain rfl := Option.some.inj H
    obtain ⟨p4, q4⟩ := aQ (x3_1) (a0.size : Int); have hx4 := bt_at a0 x3_1; obtain ⟨p17, q17⟩ := aQ (x3_1) (a0.size : Int); have hx17 := bt_at a0 x3_1
    go_wp2
    go_ret
    exact ⟨by first | rfl | (simp; done) | (simp [*]; done), by repeat (first | exact Drawn0.refl _ | apply Drawn0.step)⟩
   rw [if_neg c19] at H; have c19b0 : (x3_1 == 0) = false := beq_eq_false_iff_ne.mpr c19; have c19b1 : (x3_1 != 0) = true := bne_iff_ne.mpr c19
   by_cases c21 : (bt a0 x3_1) = 46
   ·
    rw [if_pos c21] at H
    have c21b0 : ((bt a0 x3_1) == 46) = true := beq_iff_eq.mpr c21; have c21b1 : ((bt a0 x3_1) != 46) = false := bne_eq_false_iff_eq.mpr c21; clear c21
    have H' := aM H
    clear H; obtain ⟨p4, q4⟩ := aQ (x3_1) (a0.size : Int); have hx4 := bt_at a0 x3_1; obtain ⟨p17, q17⟩ := aQ (x3_1) (a0.size : Int); have hx17 := bt_at a0 x3_1; obtain ⟨p20, q20⟩ := aQ (x3_1) (a0.size : Int); have hx20 := bt_at a0 x3_1
    go_wp2
    go_roundg k1
    case measure => have := HK1.out; omega
    case rel => exact ⟨(wrap64 (x3_1 + 1)), eT, H', ⟨by have := HK1.out; omega⟩, by repeat (first | exact Drawn0.refl _ | apply Drawn0.step)⟩
   rw [if_neg c21] at H; have c21b0 : ((bt a0 x3_1) == 46) = false := beq_eq_false_iff_ne.mpr c21; have c21b1 : ((bt a0 x3_1) != 46) = true := bne_iff_ne.mpr c21
   by_cases c23 : (bt a0 x3_1) < 48
   ·
    rw [if_pos c23] at H
    have c23b0 := decide_eq_true c23; clear c23
    obtain rfl := Option.some.inj H
    obtain ⟨p4, q4⟩ := aQ (x3_1) (a0.size : Int); have hx4 := bt_at a0 x3_1; obtain ⟨p17, q17⟩ := aQ (x3_1) (a0.size : Int); have hx17 := bt_at a0 x3_1; obtain ⟨p20, q20⟩ := aQ (x3_1) (a0.size : Int); have hx20 := bt_at a0 x3_1; obtain ⟨p22, q22⟩ := aQ (x3_1) (a0.size : Int); have hx22 := bt_at a0 x3_1
    go_wp2
    go_ret
    exact ⟨by first | rfl | (simp; done) | (simp [*]; done), by repeat (first | exact Drawn0.refl _ | apply Drawn0.step)⟩
   rw [if_neg c23] at H; have c23b0 := decide_eq_false c23; clear c23
   by_cases c25 : (bt a0 x3_1) > 57
   ·
    rw [if_pos c25] at H
    have c25b0 : decide (57 < (bt a0 x3_1)) = true := decide_eq_true c25; clear c25
    obtain rfl := Option.some.inj H
    obtain ⟨p4, q4⟩ := aQ (x3_1) (a0.size : Int); have hx4 := bt_at a0 x3_1; obtain ⟨p17, q17⟩ := aQ (x3_1) (a0.size : Int); have hx17 := bt_at a0 x3_1; obtain ⟨p20, q20⟩ := aQ (x3_1) (a0.size : Int); have hx20 := bt_at a0 x3_1; obtain ⟨p22, q22⟩ := aQ (x3_1) (a0.size : Int); have hx22 := bt_at a0 x3_1; obtain ⟨p24, q24⟩ := aQ (x3_1) (a0.size : Int); have hx24 := bt_at a0 x3_1
    go_wp2
    go_ret
    exact ⟨by first | rfl | (simp; done) | (simp [*]; done), by repeat (first | exact Drawn0.refl _ | apply Drawn0.step)⟩
   rw [if_neg c25] at H; have c25b0 : decide (57 < (bt a0 x3_1)) = false := decide_eq_false c25; clear c25
   have H' := aM H
   clear H; obtain ⟨p4, q4⟩ := aQ (x3_1) (a0.size : Int); have hx4 := bt_at a0 x3_1; obtain ⟨p17, q17⟩ := aQ (x3_1) (a0.size : Int); have hx17 := bt_at a0 x3_1; obtain ⟨p20, q20⟩ := aQ (x3_1) (a0.size : Int); have hx20 := bt_at a0 x3_1; obtain ⟨p22, q22⟩ := aQ (x3_1) (a0.size : Int); have hx22 := bt_at a0 x3_1; obtain ⟨p24, q24⟩ := aQ (x3_1) (a0.size : Int); have hx24 := bt_at a0 x3_1
   go_wp2
   go_roundg k1
   case measure => have := HK1.out; omega
   case rel => exact ⟨(wrap64 (x3_1 + 1)), eT, H', ⟨by have := HK1.out; omega⟩, by repeat (first | exact Drawn0.refl _ | apply Drawn0.step)⟩
  rw [if_pos c5] at H; have c5b0 : decide (97 ≤ (bt a0 x3_1)) = true := decide_eq_true c5; clear c5
  by_cases c7 : (bt a0 x3_1) ≤ 122
  ·
   rw [if_pos c7] at H
   have c7b0 := decide_eq_true c7; clear c7
   have H' := aM H
   clear H; obtain ⟨p4, q4⟩ := aQ (x3_1) (a0.size : Int); have hx4 := bt_at a0 x3_1; obtain ⟨p6, q6⟩ := aQ (x3_1) (a0.size : Int); have hx6 := bt_at a0 x3_1
   go_wp2
   go_roundg k1
   case measure => have := HK1.out; omega
   case rel => exact ⟨(wrap64 (x3_1 + 1)), eT, H', ⟨by have := HK1.out; omega⟩, by repeat (first | exact Drawn0.refl _ | apply Drawn0.step)⟩
  rw [if_neg c7] at H; have c7b0 := decide_eq_false c7; clear c7
  by_cases c9 : ((bt a0 x3_1) = 95)
  ·
   rw [if_pos c9] at H
   have c9b0 : ((bt a0 x3_1) == 95) = true := beq_iff_eq.mpr c9; have c9b1 : ((bt a0 x3_1) != 95) = false := bne_eq_false_iff_eq.mpr c9; clear c9
   have H' := aM H
   clear H; obtain ⟨p4, q4⟩ := aQ (x3_1) (a0.size : Int); have hx4 := bt_at a0 x3_1; obtain ⟨p6, q6⟩ := aQ (x3_1) (a0.size : Int); have hx6 := bt_at a0 x3_1; obtain ⟨p8, q8⟩ := aQ (x3_1) (a0.size : Int); have hx8 := bt_at a0 x3_1
   go_wp2
   go_roundg k1
   case measure => have := HK1.out; omega
   case rel => exact ⟨(wrap64 (x3_1 + 1)), eT, H', ⟨by have := HK1.out; omega⟩, by repeat (first | exact Drawn0.refl _ | apply Drawn0.step)⟩
  rw [if_neg c9] at H; have c9b0 : ((bt a0 x3_1) == 95) = false := beq_eq_false_iff_ne.mpr c9; have c9b1 : ((bt a0 x3_1) != 95) = true := bne_iff_ne.mpr c9
  by_cases c10 : x3_1 = 0
  ·
   rw [if_pos c10] at H
   have c10b0 : (x3_1 == 0) = true := beq_iff_eq.mpr c10; have c10b1 : (x3_1 != 0) = false := bne_eq_false_iff_eq.mpr c10; clear c10
   obtain rfl := Option.some.inj H
   obtain ⟨p4, q4⟩ := aQ (x3_1) (a0.size : Int); have hx4 := bt_at a0 x3_1; obtain ⟨p6, q6⟩ := aQ (x3_1) (a0.size : Int); have hx6 := bt_at a0 x3_1; obtain ⟨p8, q8⟩ := aQ (x3_1) (a0.size : Int); have hx8 := bt_at a0 x3_1
   go_wp2
   go_ret
   exact ⟨by first | rfl | (simp; done) | (simp [*]; done), by repeat (first | exact Drawn0.refl _ | apply Drawn0.step)⟩
  rw [if_neg c10] at H; have c10b0 : (x3_1 == 0) = false := beq_eq_false_iff_ne.mpr c10; have c10b1 : (x3_1 != 0) = true := bne_iff_ne.mpr c10
  by_cases c12 : (bt a0 x3_1) = 46
  ·
   rw [if_pos c12] at H
   have c12b0 : ((bt a0 x3_1) == 46) = true := beq_iff_eq.mpr c12; have c12b1 : ((bt a0 x3_1) != 46) = false := bne_eq_false_iff_eq.mpr c12; clear c12
   have H' := aM H
   clear H; obtain ⟨p4, q4⟩ := aQ (x3_1) (a0.size : Int); have hx4 := bt_at a0 x3_1; obtain ⟨p6, q6⟩ := aQ (x3_1) (a0.size : Int); have hx6 := bt_at a0 x3_1; obtain ⟨p8, q8⟩ := aQ (x3_1) (a0.size : Int); have hx8 := bt_at a0 x3_1; obtain ⟨p11, q11⟩ := aQ (x3_1) (a0.size : Int); have hx11 := bt_at a0 x3_1
   go_wp2
   go_roundg k1
   case measure => have := HK1.out; omega
   case rel => exact ⟨(wrap64 (x3_1 + 1)), eT, H', ⟨by have := HK1.out; omega⟩, by repeat (first | exact Drawn0.refl _ | apply Drawn0.step)⟩
  rw [if_neg c12] at H; have c12b0 : ((bt a0 x3_1) == 46) = false := beq_eq_false_iff_ne.mpr c12; have c12b1 : ((bt a0 x3_1) != 46) = true := bne_iff_ne.mpr c12
  by_cases c14 : (bt a0 x3_1) < 48
  ·
   rw [if_pos c14] at H
   have c14b0 := decide_eq_true c14; clear c14
   obtain rfl := Option.some.inj H
   obtain ⟨p4, q4⟩ := aQ (x3_1) (a0.size : Int); have hx4 := bt_at a0 x3_1; obtain ⟨p6, q6⟩ := aQ (x3_1) (a0.size : Int); have hx6 := bt_at a0 x3_1; obtain ⟨p8, q8⟩ := aQ (x3_1) (a0.size : Int); have hx8 := bt_at a0 x3_1; obtain ⟨p11, q11⟩ := aQ (x3_1) (a0.size : Int); have hx11 := bt_at a0 x3_1; obtain ⟨p13, q13⟩ := aQ (x3_1) (a0.size : Int); have hx13 := bt_at a0 x3_1
   go_wp2
   go_ret
   exact ⟨by first | rfl | (simp; done) | (simp [*]; done), by repeat (first | exact Drawn0.refl _ | apply Drawn0.step)⟩
  rw [if_neg c14] at H; have c14b0 := decide_eq_false c14; clear c14
  by_cases c16 : (bt a0 x3_1) > 57
  ·
   rw [if_pos c16] at H
   have c16b0 : decide (57 < (bt a0 x3_1)) = true := decide_eq_true c16; clear c16
   obtain rfl := Option.some.inj H
   obtain ⟨p4, q4⟩ := aQ (x3_1) (a0.size : Int); have hx4 := bt_at a0 x3_1; obtain ⟨p6, q6⟩ := aQ (x3_1) (a0.size : Int); have hx6 := bt_at a0 x3_1; obtain ⟨p8, q8⟩ := aQ (x3_1) (a0.size : Int); have hx8 := bt_at a0 x3_1; obtain ⟨p11, q11⟩ := aQ (x3_1) (a0.size : Int); have hx11 := bt_at a0 x3_1; obtain ⟨p13, q13⟩ := aQ (x3_1) (a0.size : Int); have hx13 := bt_at a0 x3_1; obtain ⟨p15, q15⟩ := aQ (x3_1) (a0.size : Int); have hx15 := bt_at a0 x3_1
   go_wp2
   go_ret
   exact ⟨by first | rfl | (simp; done) | (simp [*]; done), by repeat (first | exact Drawn0.refl _ | apply Drawn0.step)⟩
  rw [if_neg c16] at H; have c16b0 : decide (57 < (bt a0 x3_1)) = false := decide_eq_false c16; clear c16
  have H' := aM H
  clear H; obtain ⟨p4, q4⟩ := aQ (x3_1) (a0.size : Int); have hx4 := bt_at a0 x3_1; obtain ⟨p6, q6⟩ := aQ (x3_1) (a0.size : Int); have hx6 := bt_at a0 x3_1; obtain ⟨p8, q8⟩ := aQ (x3_1) (a0.size : Int); have hx8 := bt_at a0 x3_1; obtain ⟨p11, q11⟩ := aQ (x3_1) (a0.size : Int); have hx11 := bt_at a0 x3_1; obtain ⟨p13, q13⟩ := aQ (x3_1) (a0.size : Int); have hx13 := bt_at a0 x3_1; obtain ⟨p15, q15⟩ := aQ (x3_1) (a0.size : Int); have hx15 := bt_at a0 x3_1
  go_wp2
  go_roundg k1
  case measure => have := HK1.out; omega
  case rel => exact ⟨(wrap64 (x3_1 + 1)), eT, H', ⟨by have := HK1.out; omega⟩, by repeat (first | exact Drawn0.refl _ | apply Drawn0.step)⟩
/-! ### r48_Check: function 65 -/
mutual
def r48_Check.l0 : Nat → List (List ByteArray) → Int → Option (Int × Int)
 | 0, _, _ => none
 | k + 1, x0, x3 => if x3 < (x0.length : Int) then (if 0 ≤ x3 then (if ((rd_L1 x0 x3).length : Int) > 64 then (some (2, x3)) else (r48_Check.l1 k x0 x3 0)) else (none)) else (some (0, 0))
def r48_Check.l1 : Nat → List (List ByteArray) → Int → Int → Option (Int × Int)
 | 0, _, _, _ => none
 | k + 1, x0, x3, x4 => if 0 ≤ x3 then (if x3 < (x0.length : Int) then (if x4 < ((rd_L1 x0 x3).length : Int) then (if 0 ≤ x4 then ((r48_Name.f k (rdOf ByteArray.empty (rd_L1 x0 x3) x4)).bind fun t273 => (if t273 = true then (r48_Check.l1 k x0 x3 (wrap64 (x4 + 1))) else (some (5, x3)))) else (none)) else (r48_Check.l0 k x0 (wrap64 (x3 + 1)))) else (none)) else (none)
end
def r48_Check.f (k : Nat) (l0 : List (List ByteArray)) : Option (Int × Int) := if (l0.length : Int) > 64 then (some (2, 0)) else (r48_Check.l0 k l0 0)
theorem r48_Check.mono_l : ∀ k, (∀ y0 y1, LeO (r48_Check.l0 k y0 y1) (r48_Check.l0 (k + 1) y0 y1)) ∧ (∀ y0 y1 y2, LeO (r48_Check.l1 k y0 y1 y2) (r48_Check.l1 (k + 1) y0 y1 y2))
 | 0 => ⟨fun _ _ r h => by simp [r48_Check.l0] at h, fun _ _ _ r h => by simp [r48_Check.l1] at h⟩
 | k + 1 => by
  obtain ⟨ih0, ih1⟩ := r48_Check.mono_l k
  refine ⟨?_, ?_⟩ <;> intros <;> (first | unfold r48_Check.l0 | unfold r48_Check.l1)
  all_goals repeat' first
   | (with_reducible first | apply ih0 | apply ih1 | apply r48_Name.mono | exact LeO.refl _ | exact LeO.none _ | refine LeO.ite ?_ ?_ | refine LeO.bind ?_ (fun _ => ?_))
theorem r48_Check.mono : ∀ a0 k, LeO (r48_Check.f k a0) (r48_Check.f (k + 1) a0) := by
 intro a0 k
 obtain ⟨ih0, ih1⟩ := r48_Check.mono_l k
 unfold r48_Check.f
 repeat' first
   | (with_reducible first | apply ih0 | apply ih1 | apply r48_Name.mono | exact LeO.refl _ | exact LeO.none _ | refine LeO.ite ?_ ?_ | refine LeO.bind ?_ (fun _ => ?_))
set_option maxHeartbeats 8000000 in
set_option maxRecDepth 100000 in
theorem r48_Check.calls (k : Nat) (A0 : Option Addr) (c0 : Nat) (l0 : List (List ByteArray)) (r1 : Int) (r2 : Int) (w : World) (hr0 : Kd.C (Kd.slice 9 Kd.string) w A0 l0.length l0) (hc0 : l0.length ≤ c0) (h : r48_Check.f k l0 = some (r1, r2)) :
  Calls Tryd.prog 65 #[.slice A0 l0.length c0] w fun e w' => e = .returned (.agg #[.int .i64 r1, .int .i64 r2]) ∧ Below w.heap.size w w' := by
 have hu66 := Tryd.underlying66; have hu3 := Tryd.underlying3; have hu29 := Tryd.underlying29; have HR0 := aM hr0; have HC0 := aM hc0; clear hr0 hc0; have HB := aM (Below.refl w.heap.size w); have H : (if (l0.length : Int) > 64 then (some (2, 0)) else (r48_Check.l0 k l0 0)) = some (r1, r2) := h; clear h
 by_cases c2 : (l0.length : Int) > 64
 ·
  rw [if_pos c2] at H
  have c2b0 : decide (64 < (l0.length : Int)) = true := decide_eq_true c2; have c2b1 : decide (64 < l0.length) = true := decide_eq_true (by omega); clear c2
  simp only [Option.some.injEq, Prod.mk.injEq] at H
  obtain ⟨rfl, rfl⟩ := H
  go_enter Tryd.func65, Tryd.ntmps65
  go_wp2_with (first | ((with_reducible refine gate_dst (N := 2) rfl ?_); refine bX 2 (cs := #[.int .i64 0, .int .i64 0]) (t := 66) ?_; intro gb268 hg w3 hbox hb; have BK268 := aM (hbox); have GW268 := aM (gE hg (below_size (bB HB.out))); have GE268 := GW268; replace HB := aM (below_step (bB HB.out) hb); clear hb hbox hg; obtain ⟨hcz4_0, hcz4_1, hfz4_0, hfz4_1⟩ := cd2 BK268.out))
  refine bodyPost_ret (results_cell_row rfl _ _ gb268 66 #[.int .i64 2, .int .i64 0] (0, 0) _ rfl (bP BK268.out) Tryd.underlying66 rfl (by kernel_rfl)) rfl ?_
  exact ⟨rT, bB1 HB.out GE268.out⟩
 rw [if_neg c2] at H; have c2b0 : decide (64 < (l0.length : Int)) = false := decide_eq_false c2; have c2b1 : decide (64 < l0.length) = false := decide_eq_false (by omega); clear c2
 have H' := aM H
 clear H
 go_enter Tryd.func65, Tryd.ntmps65
 go_wp2_with (first | ((with_reducible refine gate_dst (N := 2) rfl ?_); refine bX 2 (cs := #[.int .i64 0, .int .i64 0]) (t := 66) ?_; intro gb268 hg w5 hbox hb; have BK268 := aM (hbox); have GW268 := aM (gE hg (below_size (bB HB.out))); have GE268 := GW268; replace HB := aM (below_step (bB HB.out) hb); clear hb hbox hg))
 go_loopg [3] k (fun kq v3 w' => ∃ (x3_1 : Int) (x269000_1 : Int) (x269001_1 : Int), v3 = .int .i64 x3_1 ∧ Aside0 (r48_Check.l0 kq l0 x3_1 = some (r1, r2)) ∧ Aside0 (kq ≤ k) ∧ Aside0 (w'.heap[gb268]? = some (.cells #[.int .i64 x269000_1, .int .i64 x269001_1] 66 (0, 0))) ∧ Aside0 (Below w.heap.size w w'))
 case atStart => exact ⟨(0), (0), (0), eT, H', ⟨Nat.le_refl _⟩, ⟨kB BK268.out⟩, ⟨bB1 HB.out GE268.out⟩⟩
 clear H'; obtain ⟨x3_1, x269000_1, x269001_1, rfl, HA, HK1, BK268, HB⟩ := hrel
 cases gk with
 | zero => exact absurd HA.out (by simp [r48_Check.l0])
 | succ k1 =>
  have H := HA.out; clear HA
  simp only [r48_Check.l0] at H
  by_cases c6 : x3_1 < (l0.length : Int)
  rotate_left
  ·
   rw [if_neg c6] at H
   have c6b0 := decide_eq_false c6; clear c6
   simp only [Option.some.injEq, Prod.mk.injEq] at H
   obtain ⟨rfl, rfl⟩ := H
   have hcz17_0 : wr.cell? ⟨gb268, 0, none⟩ = some (.int .i64 x269000_1) := (blk_cell BK268.out 0).trans rfl
   have hcz17_1 : wr.cell? ⟨gb268, 1, none⟩ = some (.int .i64 x269001_1) := (blk_cell BK268.out 1).trans rfl
   have hfz17_0 := blk_frozen BK268.out 0; have hfz17_1 := blk_frozen BK268.out 1
   go_wp2
   refine bodyPost_ret (results_cell_row rfl _ _ gb268 66 #[.int .i64 0, .int .i64 0] (0, 0) _ rfl (bP BK268.out) Tryd.underlying66 rfl (by kernel_rfl)) rfl ?_
   exact ⟨rT, bB1 HB.out GE268.out⟩


  rw [if_pos c6] at H; have c6b0 := decide_eq_true c6; clear c6
  obtain ⟨c7, H⟩ := iP H; have c7b0 := decide_eq_true c7; clear c7
  by_cases c8 : ((rd_L1 l0 x3_1).length : Int) > 64
  ·
   rw [if_pos c8] at H
   have c8b0 : decide (64 < ((rd_L1 l0 x3_1).length : Int)) = true := decide_eq_true c8; have c8b1 : decide (64 < (rd_L1 l0 x3_1).length) = true := decide_eq_true (by omega); clear c8
   simp only [Option.some.injEq, Prod.mk.injEq] at H
   obtain ⟨rfl, rfl⟩ := H; obtain ⟨p269, q269, ad269, A269_0, c269_0, e269, hx269_0, hl269_0, hi269_0⟩ := aT (at_L1 HR0.out x3_1); cases e269
   try replace hx269_0 := kX HB.out hx269_0
   have HR269_0 := aM hi269_0; have HC269_0 := aM hl269_0; clear hi269_0 hl269_0
   have hcz9_0 : wr.cell? ⟨gb268, 0, none⟩ = some (.int .i64 x269000_1) := (blk_cell BK268.out 0).trans rfl
   have hcz9_1 : wr.cell? ⟨gb268, 1, none⟩ = some (.int .i64 x269001_1) := (blk_cell BK268.out 1).trans rfl
   have hfz9_0 := blk_frozen BK268.out 0; have hfz9_1 := blk_frozen BK268.out 1
   go_wp2
   refine bodyPost_ret (results_cell_row rfl _ _ gb268 66 #[.int .i64 2, .int .i64 x3_1] (0, 0) _ rfl (bP BK268.out) Tryd.underlying66 rfl (by kernel_rfl)) rfl ?_
   exact ⟨rT, bB1 HB.out GE268.out⟩
  rw [if_neg c8] at H; have c8b0 : decide (64 < ((rd_L1 l0 x3_1).length : Int)) = false := decide_eq_false c8; have c8b1 : decide (64 < (rd_L1 l0 x3_1).length) = false := decide_eq_false (by omega); clear c8
  have H' := aM H
  clear H; obtain ⟨p269, q269, ad269, A269_0, c269_0, e269, hx269_0, hl269_0, hi269_0⟩ := aT (at_L1 HR0.out x3_1); cases e269
  try replace hx269_0 := kX HB.out hx269_0
  have HR269_0 := aM hi269_0; have HC269_0 := aM hl269_0; clear hi269_0 hl269_0
  go_wp2
  go_loopg [4] k1 (fun kq v4 w' => ∃ (x4_2 : Int) (x269000_2 : Int) (x269001_2 : Int), v4 = .int .i64 x4_2 ∧ Aside0 (r48_Check.l1 kq l0 x3_1 x4_2 = some (r1, r2)) ∧ Aside0 (kq ≤ k1) ∧ Aside0 (w'.heap[gb268]? = some (.cells #[.int .i64 x269000_2, .int .i64 x269001_2] 66 (0, 0))) ∧ Aside0 (Below w.heap.size w w'))
  case atStart => exact ⟨(0), (x269000_1), (x269001_1), eT, H', ⟨Nat.le_refl _⟩, ⟨kB BK268.out⟩, ⟨bB1 HB.out GE268.out⟩⟩
  clear H'
  try clear hx2
  try clear hx269_0
  obtain ⟨x4_2, x269000_2, x269001_2, rfl, HA, HK2, BK268, HB⟩ := hrel
  cases gk with
  | zero => exact absurd HA.out (by simp [r48_Check.l1])
  | succ k2 =>
   have H := HA.out; clear HA
   simp only [r48_Check.l1] at H
   obtain ⟨c10, H⟩ := iP H; have c10b0 := decide_eq_true c10; clear c10
   obtain ⟨c11, H⟩ := iP H; have c11b0 := decide_eq_true c11; clear c11
   by_cases c12 : x4_2 < ((rd_L1 l0 x3_1).length : Int)
   rotate_left
   ·
    rw [if_neg c12] at H
    have c12b0 := decide_eq_false c12; clear c12
    have H' := aM H
    clear H; obtain ⟨p270, q270, ad270, A270_0, c270_0, e270, hx270_0, hl270_0, hi270_0⟩ := aT (at_L1 HR0.out x3_1); obtain rfl : ad269 = ad270 := (by injection e270)
    try replace hx270_0 := kX HB.out hx270_0
    have HR270_0 := aM hi270_0; have HC270_0 := aM hl270_0; clear hi270_0 hl270_0
    go_wp2
    go_roundg k2
    case measure => have := HK1.out; have := HK2.out; omega
    case rel => exact ⟨(wrap64 (x3_1 + 1)), (x269000_2), (x269001_2), eT, H', ⟨by have := HK1.out; have := HK2.out; omega⟩, ⟨kB BK268.out⟩, ⟨bB1 HB.out GE268.out⟩⟩
   rw [if_pos c12] at H; have c12b0 := decide_eq_true c12; clear c12
   obtain ⟨c13, H⟩ := iP H; have c13b0 := decide_eq_true c13; clear c13; obtain ⟨t273, A14, H⟩ := iB H; (try dsimp only at H)
   by_cases c15 : t273 = true
   ·
    subst c15
    have H1 : (r48_Check.l1 k2 l0 x3_1 (wrap64 (x4_2 + 1))) = some (r1, r2) := by rw [if_pos rfl] at H; exact H
    clear H; have H := H1; clear H1
    have H' := aM H
    clear H; obtain ⟨p270, q270, ad270, A270_0, c270_0, e270, hx270_0, hl270_0, hi270_0⟩ := aT (at_L1 HR0.out x3_1); obtain rfl : ad269 = ad270 := (by injection e270)
    try replace hx270_0 := kX HB.out hx270_0
    have HR270_0 := aM hi270_0; have HC270_0 := aM hl270_0; clear hi270_0 hl270_0; obtain ⟨p271, q271, ad271, A271_0, c271_0, e271, hx271_0, hl271_0, hi271_0⟩ := aT (at_L1 HR0.out x3_1); obtain rfl : ad269 = ad271 := (by injection e271)
    try replace hx271_0 := kX HB.out hx271_0
    have HR271_0 := aM hi271_0; have HC271_0 := aM hl271_0; clear hi271_0 hl271_0; have ea_ := Option.some.inj (hx270_0.symm.trans hx271_0); injection ea_ with ea_ en_ ec_; subst ea_; subst ec_; clear en_; obtain ⟨p272, q272, ad272, e272, hx272_0⟩ := aT (Kd.at_string HR271_0.out x4_2); cases e272
    try replace hx272_0 := kX HB.out hx272_0
    go_wp2_with (first | ((with_reducible refine gate_callee (f := 73) rfl ?_); refine gM (some 39) Tryd.func73 #[.string (rdOf ByteArray.empty (rd_L1 l0 x3_1) x4_2)] ?_; (with_reducible refine (r48_Name.calls k2 (rdOf ByteArray.empty (rd_L1 l0 x3_1) x4_2) true _ A14.out).mono ?_); rintro e w' ⟨rfl, ⟨nd, rfl⟩⟩; refine ⟨_, rfl, ?_⟩))
    go_roundg k2
    case measure => have := HK1.out; have := HK2.out; omega
    case rel => exact ⟨(wrap64 (x4_2 + 1)), (x269000_2), (x269001_2), eT, H', ⟨by have := HK1.out; have := HK2.out; omega⟩, ⟨kB BK268.out⟩, ⟨bB1 HB.out GE268.out⟩⟩
   replace c15 := Bool.eq_false_iff.mpr c15; subst c15
   have H1 : (some (5, x3_1)) = some (r1, r2) := by rw [if_neg (show ¬ (false = true) by decide)] at H; exact H
   clear H; have H := H1; clear H1
   simp only [Option.some.injEq, Prod.mk.injEq] at H
   obtain ⟨rfl, rfl⟩ := H; obtain ⟨p270, q270, ad270, A270_0, c270_0, e270, hx270_0, hl270_0, hi270_0⟩ := aT (at_L1 HR0.out x3_1); obtain rfl : ad269 = ad270 := (by injection e270)
   try replace hx270_0 := kX HB.out hx270_0
   have HR270_0 := aM hi270_0; have HC270_0 := aM hl270_0; clear hi270_0 hl270_0; obtain ⟨p271, q271, ad271, A271_0, c271_0, e271, hx271_0, hl271_0, hi271_0⟩ := aT (at_L1 HR0.out x3_1); obtain rfl : ad269 = ad271 := (by injection e271)
   try replace hx271_0 := kX HB.out hx271_0
   have HR271_0 := aM hi271_0; have HC271_0 := aM hl271_0; clear hi271_0 hl271_0; have ea_ := Option.some.inj (hx270_0.symm.trans hx271_0); injection ea_ with ea_ en_ ec_; subst ea_; subst ec_; clear en_; obtain ⟨p272, q272, ad272, e272, hx272_0⟩ := aT (Kd.at_string HR271_0.out x4_2); cases e272
   try replace hx272_0 := kX HB.out hx272_0
   go_wp2_with (first | ((with_reducible refine gate_callee (f := 73) rfl ?_); refine gM (some 39) Tryd.func73 #[.string (rdOf ByteArray.empty (rd_L1 l0 x3_1) x4_2)] ?_; (with_reducible refine (r48_Name.calls k2 (rdOf ByteArray.empty (rd_L1 l0 x3_1) x4_2) false _ A14.out).mono ?_); rintro e w' ⟨rfl, ⟨nd, rfl⟩⟩; refine ⟨_, rfl, ?_⟩; (try (rw [drewN_self wr]; generalize hq_ : World.drewN wr _ = wr; have n0_ : Aside0 (wr.heap[gb268]? = some (.cells #[.int .i64 x269000_2, .int .i64 x269001_2] 66 (0, 0))) := ⟨by rw [← hq_]; exact (kB BK268.out)⟩; have n1_ : Aside0 (Below w.heap.size w wr) := ⟨by rw [← hq_]; exact (bB1 HB.out GE268.out)⟩; clear BK268 HB hq_; have BK268 := n0_; have HB := n1_; clear n0_ n1_)); have hcz16_0 : wr.cell? ⟨gb268, 0, none⟩ = some (.int .i64 x269000_2) := (blk_cell BK268.out 0).trans rfl; have hcz16_1 : wr.cell? ⟨gb268, 1, none⟩ = some (.int .i64 x269001_2) := (blk_cell BK268.out 1).trans rfl; have hfz16_0 := blk_frozen BK268.out 0; have hfz16_1 := blk_frozen BK268.out 1))
   refine bodyPost_ret (results_cell_row rfl _ _ gb268 66 #[.int .i64 5, .int .i64 x3_1] (0, 0) _ rfl (bP BK268.out) Tryd.underlying66 rfl (by kernel_rfl)) rfl ?_
   exact ⟨rT, bB1 HB.out GE268.out⟩


/-! ### r48_Follows: function 74 -/
mutual
def r48_Follows.l0 : Nat → List (List ByteArray) → ByteArray → ByteArray → Int → Int → Option (Int)
 | 0, _, _, _, _, _ => none
 | k + 1, x0, x1, x2, x7, x8 => if x8 < (x0.length : Int) then (r48_Follows.l1 k x0 x1 x2 x7 x8 1) else (some x7)
def r48_Follows.l1 : Nat → List (List ByteArray) → ByteArray → ByteArray → Int → Int → Int → Option (Int)
 | 0, _, _, _, _, _, _ => none
 | k + 1, x0, x1, x2, x7, x8, x9 => if 0 ≤ x8 then (if x8 < (x0.length : Int) then (if x9 < ((rd_L1 x0 x8).length : Int) then (if 0 ≤ (wrap64 (x9 - 1)) then (if (wrap64 (x9 - 1)) < ((rd_L1 x0 x8).length : Int) then (if (rdOf ByteArray.empty (rd_L1 x0 x8) (wrap64 (x9 - 1))).toList = x1.toList then (if 0 ≤ x9 then (if (rdOf ByteArray.empty (rd_L1 x0 x8) x9).toList = x2.toList then (r48_Follows.l1 k x0 x1 x2 (wrap64 (x7 + 1)) x8 (wrap64 (x9 + 1))) else (r48_Follows.l1 k x0 x1 x2 x7 x8 (wrap64 (x9 + 1)))) else (none)) else (r48_Follows.l1 k x0 x1 x2 x7 x8 (wrap64 (x9 + 1)))) else (none)) else (none)) else (r48_Follows.l0 k x0 x1 x2 x7 (wrap64 (x8 + 1)))) else (none)) else (none)
end
def r48_Follows.f (k : Nat) (l0 : List (List ByteArray)) (a1 : ByteArray) (a2 : ByteArray) : Option (Int) := r48_Follows.l0 k l0 a1 a2 0 0
theorem r48_Follows.mono_l : ∀ k, (∀ y0 y1 y2 y3 y4, LeO (r48_Follows.l0 k y0 y1 y2 y3 y4) (r48_Follows.l0 (k + 1) y0 y1 y2 y3 y4)) ∧ (∀ y0 y1 y2 y3 y4 y5, LeO (r48_Follows.l1 k y0 y1 y2 y3 y4 y5) (r48_Follows.l1 (k + 1) y0 y1 y2 y3 y4 y5))
 | 0 => ⟨fun _ _ _ _ _ r h => by simp [r48_Follows.l0] at h, fun _ _ _ _ _ _ r h => by simp [r48_Follows.l1] at h⟩
 | k + 1 => by
  obtain ⟨ih0, ih1⟩ := r48_Follows.mono_l k
  refine ⟨?_, ?_⟩ <;> intros <;> (first | unfold r48_Follows.l0 | unfold r48_Follows.l1)
  all_goals repeat' first
   | (with_reducible first | apply ih0 | apply ih1 | exact LeO.refl _ | exact LeO.none _ | refine LeO.ite ?_ ?_ | refine LeO.bind ?_ (fun _ => ?_))
theorem r48_Follows.mono : ∀ a0 a1 a2 k, LeO (r48_Follows.f k a0 a1 a2) (r48_Follows.f (k + 1) a0 a1 a2) := by
 intro a0 a1 a2 k
 obtain ⟨ih0, ih1⟩ := r48_Follows.mono_l k
 unfold r48_Follows.f
 repeat' first
   | (with_reducible first | apply ih0 | apply ih1 | exact LeO.refl _ | exact LeO.none _ | refine LeO.ite ?_ ?_ | refine LeO.bind ?_ (fun _ => ?_))
set_option maxHeartbeats 8000000 in
set_option maxRecDepth 100000 in
theorem r48_Follows.calls (k : Nat) (A0 : Option Addr) (c0 : Nat) (l0 : List (List ByteArray)) (a1 : ByteArray) (a2 : ByteArray) (r : Int) (w : World) (hr0 : Kd.C (Kd.slice 9 Kd.string) w A0 l0.length l0) (hc0 : l0.length ≤ c0) (h : r48_Follows.f k l0 a1 a2 = some r) :
  Calls Tryd.prog 74 #[.slice A0 l0.length c0, .string a1, .string a2] w fun e w' => e = .returned (.int .i64 r) ∧ Drawn0 w w' := by
 have HR0 := aM hr0; have HC0 := aM hc0; clear hr0 hc0; have H : (r48_Follows.l0 k l0 a1 a2 0 0) = some r := h; clear h
 have H' := aM H
 clear H
 go_enter Tryd.func74, Tryd.ntmps74
 go_wp2
 go_loopg [7, 8] k (fun kq v7 v8 w' => ∃ (x7_1 : Int) (x8_1 : Int), v7 = .int .i64 x7_1 ∧ v8 = .int .i64 x8_1 ∧ Aside0 (r48_Follows.l0 kq l0 a1 a2 x7_1 x8_1 = some r) ∧ Aside0 (kq ≤ k) ∧ Drawn0 w w')
 case atStart => exact ⟨(0), (0), eT, eT, H', ⟨Nat.le_refl _⟩, by repeat (first | exact Drawn0.refl _ | apply Drawn0.step)⟩
 clear H'
 obtain ⟨x7_1, x8_1, rfl, rfl, HA, HK1, ⟨m1, rfl⟩⟩ := hrel
 cases gk with
 | zero => exact absurd HA.out (by simp [r48_Follows.l0])
 | succ k1 =>
  have H := HA.out; clear HA
  simp only [r48_Follows.l0] at H
  by_cases c4 : x8_1 < (l0.length : Int)
  rotate_left
  ·
   rw [if_neg c4] at H
   have c4b0 := decide_eq_false c4; clear c4
   obtain rfl := Option.some.inj H
   go_wp2
   go_ret
   exact ⟨by first | rfl | (simp; done) | (simp [*]; done), by repeat (first | exact Drawn0.refl _ | apply Drawn0.step)⟩


  rw [if_pos c4] at H; have c4b0 := decide_eq_true c4; clear c4
  have H' := aM H
  clear H
  go_wp2
  go_loopg [7, 9] k1 (fun kq v7 v9 w' => ∃ (x7_2 : Int) (x9_2 : Int), v7 = .int .i64 x7_2 ∧ v9 = .int .i64 x9_2 ∧ Aside0 (r48_Follows.l1 kq l0 a1 a2 x7_2 x8_1 x9_2 = some r) ∧ Aside0 (kq ≤ k1) ∧ Drawn0 w w')
  case atStart => exact ⟨(x7_1), (1), eT, eT, H', ⟨Nat.le_refl _⟩, by repeat (first | exact Drawn0.refl _ | apply Drawn0.step)⟩
  clear H'
  obtain ⟨x7_2, x9_2, rfl, rfl, HA, HK2, ⟨m2, rfl⟩⟩ := hrel
  cases gk with
  | zero => exact absurd HA.out (by simp [r48_Follows.l1])
  | succ k2 =>
   have H := HA.out; clear HA
   simp only [r48_Follows.l1] at H
   obtain ⟨c5, H⟩ := iP H; have c5b0 := decide_eq_true c5; clear c5
   obtain ⟨c6, H⟩ := iP H; have c6b0 := decide_eq_true c6; clear c6
   by_cases c7 : x9_2 < ((rd_L1 l0 x8_1).length : Int)
   rotate_left
   ·
    rw [if_neg c7] at H
    have c7b0 := decide_eq_false c7; clear c7
    have H' := aM H
    clear H; obtain ⟨p274, q274, ad274, A274_0, c274_0, e274, hx274_0, hl274_0, hi274_0⟩ := aT (at_L1 HR0.out x8_1); cases e274; have HR274_0 := aM hi274_0; have HC274_0 := aM hl274_0; clear hi274_0 hl274_0
    go_wp2
    go_roundg k2
    case measure => have := HK1.out; have := HK2.out; omega
    case rel => exact ⟨(x7_2), (wrap64 (x8_1 + 1)), eT, eT, H', ⟨by have := HK1.out; have := HK2.out; omega⟩, by repeat (first | exact Drawn0.refl _ | apply Drawn0.step)⟩
   rw [if_pos c7] at H; have c7b0 := decide_eq_true c7; clear c7
   obtain ⟨ji8, hji8⟩ : ∃ j_ : Int, (wrap64 (x9_2 - 1)) = j_ := ⟨_, rfl⟩
   replace H : (if 0 ≤ (ji8) then (if (ji8) < ((rd_L1 l0 x8_1).length : Int) then (if (rdOf ByteArray.empty (rd_L1 l0 x8_1) (ji8)).toList = a1.toList then (if 0 ≤ x9_2 then (if (rdOf ByteArray.empty (rd_L1 l0 x8_1) x9_2).toList = a2.toList then (r48_Follows.l1 k2 l0 a1 a2 (wrap64 (x7_2 + 1)) x8_1 (wrap64 (x9_2 + 1))) else (r48_Follows.l1 k2 l0 a1 a2 x7_2 x8_1 (wrap64 (x9_2 + 1)))) else (none)) else (r48_Follows.l1 k2 l0 a1 a2 x7_2 x8_1 (wrap64 (x9_2 + 1)))) else (none)) else (none)) = some r := by first | (rw [hji8] at H; exact H) | (simp only [hji8] at H ⊢; exact H)
   have hji8w : (IntKind.i64.wrap (x9_2 - 1)) = ji8 := (i64_w _).trans hji8
   obtain ⟨c9, H⟩ := iP H; have c9b0 := decide_eq_true c9; clear c9
   obtain ⟨c10, H⟩ := iP H; have c10b0 := decide_eq_true c10; clear c10
   by_cases c11 : (rdOf ByteArray.empty (rd_L1 l0 x8_1) (ji8)).toList = a1.toList
   rotate_left
   ·
    rw [if_neg c11] at H
    have c11b0 : ((rdOf ByteArray.empty (rd_L1 l0 x8_1) (ji8)).toList == a1.toList) = false := beq_eq_false_iff_ne.mpr c11; have c11b1 : ((rdOf ByteArray.empty (rd_L1 l0 x8_1) (ji8)).toList != a1.toList) = true := bne_iff_ne.mpr c11
    have H' := aM H
    clear H; obtain ⟨p274, q274, ad274, A274_0, c274_0, e274, hx274_0, hl274_0, hi274_0⟩ := aT (at_L1 HR0.out x8_1); cases e274; have HR274_0 := aM hi274_0; have HC274_0 := aM hl274_0; clear hi274_0 hl274_0; obtain ⟨p275, q275, ad275, A275_0, c275_0, e275, hx275_0, hl275_0, hi275_0⟩ := aT (at_L1 HR0.out x8_1); obtain rfl : ad274 = ad275 := (by injection e275); have HR275_0 := aM hi275_0; have HC275_0 := aM hl275_0; clear hi275_0 hl275_0; have ea_ := Option.some.inj (hx274_0.symm.trans hx275_0); injection ea_ with ea_ en_ ec_; subst ea_; subst ec_; clear en_; obtain ⟨p276, q276, ad276, e276, hx276_0⟩ := aT (Kd.at_string HR275_0.out (ji8)); cases e276
    go_wp2
    go_roundg k2
    case measure => have := HK1.out; have := HK2.out; omega
    case rel => exact ⟨(x7_2), (wrap64 (x9_2 + 1)), eT, eT, H', ⟨by have := HK1.out; have := HK2.out; omega⟩, by repeat (first | exact Drawn0.refl _ | apply Drawn0.step)⟩
   rw [if_pos c11] at H; have c11b0 : ((rdOf ByteArray.empty (rd_L1 l0 x8_1) (ji8)).toList == a1.toList) = true := beq_iff_eq.mpr c11; have c11b1 : ((rdOf ByteArray.empty (rd_L1 l0 x8_1) (ji8)).toList != a1.toList) = false := bne_eq_false_iff_eq.mpr c11; clear c11
   obtain ⟨c12, H⟩ := iP H; have c12b0 := decide_eq_true c12; clear c12
   by_cases c13 : (rdOf ByteArray.empty (rd_L1 l0 x8_1) x9_2).toList = a2.toList
   rotate_left
   ·
    rw [if_neg c13] at H
    have c13b0 : ((rdOf ByteArray.empty (rd_L1 l0 x8_1) x9_2).toList == a2.toList) = false := beq_eq_false_iff_ne.mpr c13; have c13b1 : ((rdOf ByteArray.empty (rd_L1 l0 x8_1) x9_2).toList != a2.toList) = true := bne_iff_ne.mpr c13
    have H' := aM H
    clear H; obtain ⟨p274, q274, ad274, A274_0, c274_0, e274, hx274_0, hl274_0, hi274_0⟩ := aT (at_L1 HR0.out x8_1); cases e274; have HR274_0 := aM hi274_0; have HC274_0 := aM hl274_0; clear hi274_0 hl274_0; obtain ⟨p275, q275, ad275, A275_0, c275_0, e275, hx275_0, hl275_0, hi275_0⟩ := aT (at_L1 HR0.out x8_1); obtain rfl : ad274 = ad275 := (by injection e275); have HR275_0 := aM hi275_0; have HC275_0 := aM hl275_0; clear hi275_0 hl275_0; have ea_ := Option.some.inj (hx274_0.symm.trans hx275_0); injection ea_ with ea_ en_ ec_; subst ea_; subst ec_; clear en_; obtain ⟨p276, q276, ad276, e276, hx276_0⟩ := aT (Kd.at_string HR275_0.out (ji8)); cases e276; obtain ⟨p277, q277, ad277, A277_0, c277_0, e277, hx277_0, hl277_0, hi277_0⟩ := aT (at_L1 HR0.out x8_1); obtain rfl : ad274 = ad277 := (by injection e277); have HR277_0 := aM hi277_0; have HC277_0 := aM hl277_0; clear hi277_0 hl277_0; have ea_ := Option.some.inj (hx274_0.symm.trans hx277_0); injection ea_ with ea_ en_ ec_; subst ea_; subst ec_; clear en_; obtain ⟨p278, q278, ad278, e278, hx278_0⟩ := aT (Kd.at_string HR277_0.out x9_2); cases e278
    go_wp2
    go_roundg k2
    case measure => have := HK1.out; have := HK2.out; omega
    case rel => exact ⟨(x7_2), (wrap64 (x9_2 + 1)), eT, eT, H', ⟨by have := HK1.out; have := HK2.out; omega⟩, by repeat (first | exact Drawn0.refl _ | apply Drawn0.step)⟩
   rw [if_pos c13] at H; have c13b0 : ((rdOf ByteArray.empty (rd_L1 l0 x8_1) x9_2).toList == a2.toList) = true := beq_iff_eq.mpr c13; have c13b1 : ((rdOf ByteArray.empty (rd_L1 l0 x8_1) x9_2).toList != a2.toList) = false := bne_eq_false_iff_eq.mpr c13; clear c13
   have H' := aM H
   clear H; obtain ⟨p274, q274, ad274, A274_0, c274_0, e274, hx274_0, hl274_0, hi274_0⟩ := aT (at_L1 HR0.out x8_1); cases e274; have HR274_0 := aM hi274_0; have HC274_0 := aM hl274_0; clear hi274_0 hl274_0; obtain ⟨p275, q275, ad275, A275_0, c275_0, e275, hx275_0, hl275_0, hi275_0⟩ := aT (at_L1 HR0.out x8_1); obtain rfl : ad274 = ad275 := (by injection e275); have HR275_0 := aM hi275_0; have HC275_0 := aM hl275_0; clear hi275_0 hl275_0; have ea_ := Option.some.inj (hx274_0.symm.trans hx275_0); injection ea_ with ea_ en_ ec_; subst ea_; subst ec_; clear en_; obtain ⟨p276, q276, ad276, e276, hx276_0⟩ := aT (Kd.at_string HR275_0.out (ji8)); cases e276; obtain ⟨p277, q277, ad277, A277_0, c277_0, e277, hx277_0, hl277_0, hi277_0⟩ := aT (at_L1 HR0.out x8_1); obtain rfl : ad274 = ad277 := (by injection e277); have HR277_0 := aM hi277_0; have HC277_0 := aM hl277_0; clear hi277_0 hl277_0; have ea_ := Option.some.inj (hx274_0.symm.trans hx277_0); injection ea_ with ea_ en_ ec_; subst ea_; subst ec_; clear en_; obtain ⟨p278, q278, ad278, e278, hx278_0⟩ := aT (Kd.at_string HR277_0.out x9_2); cases e278
   go_wp2
   go_roundg k2
   case measure => have := HK1.out; have := HK2.out; omega
   case rel => exact ⟨(wrap64 (x7_2 + 1)), (wrap64 (x9_2 + 1)), eT, eT, H', ⟨by have := HK1.out; have := HK2.out; omega⟩, by repeat (first | exact Drawn0.refl _ | apply Drawn0.step)⟩


section
-- STUBBED 66
/-! ### r48_Relation: function 66: by hand -/

def rrelOf (x y : Int) : Int := if x > 0 then (if y > 0 then 3 else 1) else (if y > 0 then 2 else 0)
def r48_Relation.f (k : Nat) (l0 : List (List ByteArray)) (a1 : ByteArray) (a2 : ByteArray) : Option (Int) := (r48_Follows.f k l0 a1 a2).bind fun t107 => ((r48_Follows.f k l0 a2 a1).bind fun t108 => some (rrelOf t107 t108))
theorem r48_Relation.mono (a0 : List (List ByteArray)) (a1 a2 : ByteArray) (k : Nat) : LeO (r48_Relation.f k a0 a1 a2) (r48_Relation.f (k + 1) a0 a1 a2) :=
 LeO.bind (r48_Follows.mono _ _ _ _) fun _ => LeO.bind (r48_Follows.mono _ _ _ _) fun _ => LeO.refl _
set_option maxHeartbeats 8000000 in
set_option maxRecDepth 100000 in
theorem r48_Relation.calls (k : Nat) (A0 : Option Addr) (c0 : Nat) (l0 : List (List ByteArray)) (a1 : ByteArray) (a2 : ByteArray) (r : Int) (w : World) (hr0 : Kd.C (Kd.slice 9 Kd.string) w A0 l0.length l0) (hc0 : l0.length ≤ c0) (h : r48_Relation.f k l0 a1 a2 = some r) :
  Calls Tryd.prog 66 #[.slice A0 l0.length c0, .string a1, .string a2] w fun e w' => e = .returned (.int .i64 r) ∧ Drawn0 w w' := by
 have HR0 := aM hr0
 have HC0 := aM hc0
 clear hr0 hc0
 unfold r48_Relation.f at h
 obtain ⟨t107, A40, h⟩ := Option.bind_eq_some_iff.mp h
 obtain ⟨t108, A50, h⟩ := Option.bind_eq_some_iff.mp h
 obtain rfl := Option.some.inj h
 have A4 := aM A40
 have A5 := aM A50
 clear A40 A50 h
 obtain ⟨rv, hrv⟩ : ∃ rv, rrelOf t107 t108 = rv := ⟨_, rfl⟩
 rw [hrv]
 have HRV := aM hrv
 clear hrv
 obtain ⟨x, hx⟩ : ∃ x, decide (0 < t107) = x := ⟨_, rfl⟩
 obtain ⟨y, hy⟩ : ∃ y, decide (0 < t108) = y := ⟨_, rfl⟩
 cases x <;> cases y
 all_goals (
  go_enter Tryd.func66, Tryd.ntmps66
  go_wp2_with (first | ((with_reducible refine gate_callee (f := 74) rfl ?_); refine gM (some 12) Tryd.func74 #[.slice A0 l0.length c0, .string a1, .string a2] ?_; (with_reducible refine (r48_Follows.calls k _ _ l0 a1 a2 t107 _ ?side1 ?side2 A4.out).mono ?_); (case side1 => repeat (first | exact HR0.out | (with_reducible refine Kd.C_alloc ?_ _) | (with_reducible refine Kd.C_drewN ?_ _) | (with_reducible refine Kd.C_drew ?_))); (case side2 => exact HC0.out); rintro e w' ⟨rfl, ⟨nd, rfl⟩⟩; refine ⟨_, rfl, ?_⟩) | ((with_reducible refine gate_callee (f := 74) rfl ?_); refine gM (some 17) Tryd.func74 #[.slice A0 l0.length c0, .string a2, .string a1] ?_; (with_reducible refine (r48_Follows.calls k _ _ l0 a2 a1 t108 _ ?side1 ?side2 A5.out).mono ?_); (case side1 => repeat (first | exact HR0.out | (with_reducible refine Kd.C_alloc ?_ _) | (with_reducible refine Kd.C_drewN ?_ _) | (with_reducible refine Kd.C_drew ?_))); (case side2 => exact HC0.out); rintro e w' ⟨rfl, ⟨nd, rfl⟩⟩; refine ⟨_, rfl, ?_⟩))
  go_ret
  have e := HRV.out
  simp only [decide_eq_true_eq, decide_eq_false_iff_not] at hx hy
  rw [rrelOf] at e
  simp only [gt_iff_lt, hx, hy, if_true, if_false] at e
  subst e
  exact ⟨rfl, by repeat (first | exact Drawn0.refl _ | apply Drawn0.step)⟩)


end



/-! ### r49_Footprint: function 49 -/
mutual
def r49_Footprint.l0 : Nat → List (List ByteArray) → List ByteArray → List (List Int) → Int → Option ((List (List Int)) × Int)
 | 0, _, _, _, _ => none
 | k + 1, x0, x5, x6, x7 => if x7 < (x5.length : Int) then (r49_Footprint.l1 k x0 x5 x6 x7 ([] : List Int) 0) else (some (x6, 0))
def r49_Footprint.l1 : Nat → List (List ByteArray) → List ByteArray → List (List Int) → Int → List Int → Int → Option ((List (List Int)) × Int)
 | 0, _, _, _, _, _, _ => none
 | k + 1, x0, x5, x6, x7, x8, x9 => if x9 < (x5.length : Int) then (if 0 ≤ x7 then (if x7 < (x5.length : Int) then (if 0 ≤ x9 then ((r48_Relation.f k x0 (rdOf ByteArray.empty x5 x7) (rdOf ByteArray.empty x5 x9)).bind fun t287 => (if x8.length < 17592186044416 then (r49_Footprint.l1 k x0 x5 x6 x7 (x8 ++ [t287]) (wrap64 (x9 + 1))) else (none))) else (none)) else (none)) else (none)) else (if x6.length < 5864062014805 then (r49_Footprint.l0 k x0 x5 (x6 ++ [x8]) (wrap64 (x7 + 1))) else (none))
end
def r49_Footprint.f (k : Nat) (l0 : List (List ByteArray)) : Option ((List (List Int)) × Int) := (r48_Check.f k l0).bind fun bt279 => (if bt279.1 = 0 then ((r48_Activities.f k l0).bind fun t282 => (if (t282.length : Int) = 0 then (some (([] : List (List Int)), 19)) else (if (t282.length : Int) > 12 then (some (([] : List (List Int)), 2)) else (r49_Footprint.l0 k l0 t282 ([] : List (List Int)) 0)))) else (some (([] : List (List Int)), bt279.1)))
theorem r49_Footprint.mono_l : ∀ k, (∀ y0 y1 y2 y3, LeO (r49_Footprint.l0 k y0 y1 y2 y3) (r49_Footprint.l0 (k + 1) y0 y1 y2 y3)) ∧ (∀ y0 y1 y2 y3 y4 y5, LeO (r49_Footprint.l1 k y0 y1 y2 y3 y4 y5) (r49_Footprint.l1 (k + 1) y0 y1 y2 y3 y4 y5))
 | 0 => ⟨fun _ _ _ _ r h => by simp [r49_Footprint.l0] at h, fun _ _ _ _ _ _ r h => by simp [r49_Footprint.l1] at h⟩
 | k + 1 => by
  obtain ⟨ih0, ih1⟩ := r49_Footprint.mono_l k
  refine ⟨?_, ?_⟩ <;> intros <;> (first | unfold r49_Footprint.l0 | unfold r49_Footprint.l1)
  all_goals repeat' first
   | (with_reducible first | apply ih0 | apply ih1 | apply r48_Activities.mono | apply r48_Check.mono | apply r48_Relation.mono | exact LeO.refl _ | exact LeO.none _ | refine LeO.ite ?_ ?_ | refine LeO.bind ?_ (fun _ => ?_))
theorem r49_Footprint.mono : ∀ a0 k, LeO (r49_Footprint.f k a0) (r49_Footprint.f (k + 1) a0) := by
 intro a0 k
 obtain ⟨ih0, ih1⟩ := r49_Footprint.mono_l k
 unfold r49_Footprint.f
 repeat' first
   | (with_reducible first | apply ih0 | apply ih1 | apply r48_Activities.mono | apply r48_Check.mono | apply r48_Relation.mono | exact LeO.refl _ | exact LeO.none _ | refine LeO.ite ?_ ?_ | refine LeO.bind ?_ (fun _ => ?_))
def r49_Footprint.T17 : Bool × List (List Nat × List Nat) := (true, [([], []), ([], []), ([], []), ([], []), ([2, 3], [2, 3]), ([4], [4]), ([], []), ([], []), ([6, 7], [6, 7]), ([8], [8]), ([1, 5, 9], [1, 5, 9]), ([10], [10]), ([0, 11, 10], [0, 11]), ([12, 12, 0, 1, 2, 3, 4, 5, 6, 7, 8, 9, 10, 11, 12], [0, 12])])
def r49_Footprint.B17 : List Nat := [0, 0, 0, 0, 12, 28, 0, 0, 192, 448, 1022, 2046, 4095, 8191]
theorem r49_Footprint.tab17 : rtab .any (opsOf Tryd.f49 17) = r49_Footprint.T17 := by kernel_rfl
theorem r49_Footprint.bits17 : waitsOk r49_Footprint.T17.2 r49_Footprint.B17 = true := by kernel_rfl
set_option maxHeartbeats 8000000 in
set_option maxRecDepth 100000 in
theorem r49_Footprint.calls (k : Nat) (A0 : Option Addr) (c0 : Nat) (l0 : List (List ByteArray)) (r1 : List (List Int)) (r2 : Int) (w : World) (hr0 : Kd.C (Kd.slice 9 Kd.string) w A0 l0.length l0) (hc0 : l0.length ≤ c0) (h : r49_Footprint.f k l0 = some (r1, r2)) :
  Calls Tryd.prog 49 #[.slice A0 l0.length c0] w fun e w' => ∃ v0_ : Value, e = .returned (.tuple #[v0_, .int .i64 r2]) ∧ Kd.S (Kd.slice 3 (Kd.int .i64)) 36 w' w.heap.size (fun _ => True) v0_ r1 ∧ Below w.heap.size w w' := by
 have hu66 := Tryd.underlying66; have hu3 := Tryd.underlying3; have hu29 := Tryd.underlying29; have HR0 := aM hr0; have HC0 := aM hc0; clear hr0 hc0; have HB := aM (Below.refl w.heap.size w)
 have H : ((r48_Check.f k l0).bind fun bt279 => (if bt279.1 = 0 then ((r48_Activities.f k l0).bind fun t282 => (if (t282.length : Int) = 0 then (some (([] : List (List Int)), 19)) else (if (t282.length : Int) > 12 then (some (([] : List (List Int)), 2)) else (r49_Footprint.l0 k l0 t282 ([] : List (List Int)) 0)))) else (some (([] : List (List Int)), bt279.1)))) = some (r1, r2) := h
 clear h; obtain ⟨⟨t279, t280⟩, A2, H⟩ := iB H; (try dsimp only at H)
 by_cases c3 : t279 = 0
 rotate_left
 ·
  rw [if_neg c3] at H
  have c3b0 : (t279 == 0) = false := beq_eq_false_iff_ne.mpr c3; have c3b1 : (t279 != 0) = true := bne_iff_ne.mpr c3
  simp only [Option.some.injEq, Prod.mk.injEq] at H
  obtain ⟨rfl, rfl⟩ := H
  go_enter Tryd.func49, Tryd.ntmps49
  try go_wp2_with (first | ((with_reducible refine gate_callee (f := 65) rfl ?_); refine gM (some 11) Tryd.func65 #[.slice A0 l0.length c0] ?_; (with_reducible refine (r48_Check.calls k _ _ l0 t279 t280 _ ?side1 ?side2 A2.out).mono ?_); (case side1 => repeat (first | exact HR0.out | (with_reducible refine Kd.C_alloc ?_ _) | (with_reducible refine Kd.C_drewN ?_ _) | (with_reducible refine Kd.C_drew ?_))); (case side2 => exact HC0.out); rintro e w34 ⟨rfl, hb⟩; refine ⟨_, rfl, ?_⟩; replace HB := aM (below_step (bB HB.out) hb); clear hb) | ((with_reducible refine gate_dst (N := 4) rfl ?_); refine bX 4 (cs := #[.int .i64 0, .int .i64 0]) (t := 66) ?_; intro gb281 hg w35 hbox hb; have BK281 := aM (hbox); have GW281 := aM (gE hg (below_size (bB HB.out))); have GE281 := GW281; replace HB := aM (below_step (bB HB.out) hb); clear hb hbox hg; obtain ⟨hcz36_0, hcz36_1, hfz36_0, hfz36_1⟩ := cd2 BK281.out))
  have n0_ : Aside0 (((w35.setCell ⟨gb281, 0, none⟩ (.int .i64 t279)).setCell ⟨gb281, 1, none⟩ (.int .i64 t280)).heap[gb281]? = some (.cells #[.int .i64 t279, .int .i64 t280] 66 (0, 0))) := ⟨bP BK281.out⟩
  have n1_ : Aside0 (Below w.heap.size w ((w35.setCell ⟨gb281, 0, none⟩ (.int .i64 t279)).setCell ⟨gb281, 1, none⟩ (.int .i64 t280))) := ⟨bB1 HB.out GE281.out⟩
  (try clear BK281)
  (try clear HB)
  generalize ((w35.setCell ⟨gb281, 0, none⟩ (.int .i64 t279)).setCell ⟨gb281, 1, none⟩ (.int .i64 t280)) = w37 at n0_ n1_ ⊢
  have BK281 := n0_; have HB := n1_; clear n0_ n1_; replace BK281 := aM (blk_drew BK281.out); replace HB := aM (below_drew1 HB.out)
  refine start_ (n := 4) (S := fun w' => w'.cell? ⟨gb281, 0, none⟩ = some (.int .i64 t279) ∧ w'.cell? ⟨gb281, 1, none⟩ = some (.int .i64 t280)) (ds := []) #[false, false, false, false] (by kernel_rfl) rfl rfl ⟨(blk_cell BK281.out 0).trans rfl, (blk_cell BK281.out 1).trans rfl⟩ (fun hHeld => ?_)
  generalize w37.drew = w38 at BK281 HB hHeld ⊢
  refine pU 0 15 (by kernel_rfl) ?_
  refine pU 2 2 (by kernel_rfl) ?_
  refine tU 1 16 (by kernel_rfl) hHeld ?_
  refine pU 3 3 (by kernel_rfl) ?_
  refine done_ (by kernel_rfl) ?_
  try go_wp2
  go_ret2
  exact ⟨_, rT, nT, bB1 HB.out GE281.out⟩


 rw [if_pos c3] at H; have c3b0 : (t279 == 0) = true := beq_iff_eq.mpr c3; have c3b1 : (t279 != 0) = false := bne_eq_false_iff_eq.mpr c3; clear c3; obtain ⟨t282, A4, H⟩ := iB H; (try dsimp only at H)
 by_cases c5 : (t282.length : Int) = 0
 ·
  rw [if_pos c5] at H
  have c5b0 : ((t282.length : Int) == 0) = true := beq_iff_eq.mpr c5; have c5b1 : ((t282.length : Int) != 0) = false := bne_eq_false_iff_eq.mpr c5; clear c5
  simp only [Option.some.injEq, Prod.mk.injEq] at H
  obtain ⟨rfl, rfl⟩ := H
  go_enter Tryd.func49, Tryd.ntmps49
  go_wp2_with (first | ((with_reducible refine gate_callee (f := 65) rfl ?_); refine gM (some 11) Tryd.func65 #[.slice A0 l0.length c0] ?_; (with_reducible refine (r48_Check.calls k _ _ l0 t279 t280 _ ?side1 ?side2 A2.out).mono ?_); (case side1 => repeat (first | exact HR0.out | (with_reducible refine Kd.C_alloc ?_ _) | (with_reducible refine Kd.C_drewN ?_ _) | (with_reducible refine Kd.C_drew ?_))); (case side2 => exact HC0.out); rintro e w6 ⟨rfl, hb⟩; refine ⟨_, rfl, ?_⟩; replace HB := aM (below_step (bB HB.out) hb); clear hb) | ((with_reducible refine gate_dst (N := 4) rfl ?_); refine bX 4 (cs := #[.int .i64 0, .int .i64 0]) (t := 66) ?_; intro gb281 hg w7 hbox hb; have BK281 := aM (hbox); have GW281 := aM (gE hg (below_size (bB HB.out))); have GE281 := GW281; replace HB := aM (below_step (bB HB.out) hb); clear hb hbox hg; obtain ⟨hcz8_0, hcz8_1, hfz8_0, hfz8_1⟩ := cd2 BK281.out) | ((with_reducible refine gate_callee (f := 21) rfl ?_); refine gM (some 18) Tryd.func21 #[.slice A0 l0.length c0] ?_; (with_reducible refine (r48_Activities.calls k _ _ l0 t282 _ ?side1 ?side2 A4.out).mono ?_); (case side1 => exact Kd.C_below HR0.out (bB1 HB.out GE281.out)); (case side2 => exact HC0.out); rintro e w9 ⟨v283, rfl, ho0, hb⟩; refine ⟨_, rfl, ?_⟩; have HO284 := aM (Kd.R_lower ho0 (below_size (bB1 HB.out GE281.out))); replace BK281 := aM (blk_below (g := gb281) (o := .cells #[.int .i64 t279, .int .i64 t280] 66 (0, 0)) (bP BK281.out) hb); replace HB := aM (below_step (bB1 HB.out GE281.out) hb); clear hb ho0; obtain ⟨Ao10, co10, eo10⟩ := Kd.R_slice HO284.out; subst eo10))
  go_ret2
  exact ⟨_, rT, nT, bB1 HB.out GE281.out⟩
 rw [if_neg c5] at H; have c5b0 : ((t282.length : Int) == 0) = false := beq_eq_false_iff_ne.mpr c5; have c5b1 : ((t282.length : Int) != 0) = true := bne_iff_ne.mpr c5
 have c5b2 : ¬ (t282 = []) := fun h_ => c5 (by rw [h_]; rfl)
 by_cases c11 : (t282.length : Int) > 12
 ·
  rw [if_pos c11] at H
  have c11b0 : decide (12 < (t282.length : Int)) = true := decide_eq_true c11; have c11b1 : decide (12 < t282.length) = true := decide_eq_true (by omega); clear c11
  simp only [Option.some.injEq, Prod.mk.injEq] at H
  obtain ⟨rfl, rfl⟩ := H
  go_enter Tryd.func49, Tryd.ntmps49
  go_wp2_with (first | ((with_reducible refine gate_callee (f := 65) rfl ?_); refine gM (some 11) Tryd.func65 #[.slice A0 l0.length c0] ?_; (with_reducible refine (r48_Check.calls k _ _ l0 t279 t280 _ ?side1 ?side2 A2.out).mono ?_); (case side1 => repeat (first | exact HR0.out | (with_reducible refine Kd.C_alloc ?_ _) | (with_reducible refine Kd.C_drewN ?_ _) | (with_reducible refine Kd.C_drew ?_))); (case side2 => exact HC0.out); rintro e w12 ⟨rfl, hb⟩; refine ⟨_, rfl, ?_⟩; replace HB := aM (below_step (bB HB.out) hb); clear hb) | ((with_reducible refine gate_dst (N := 4) rfl ?_); refine bX 4 (cs := #[.int .i64 0, .int .i64 0]) (t := 66) ?_; intro gb281 hg w13 hbox hb; have BK281 := aM (hbox); have GW281 := aM (gE hg (below_size (bB HB.out))); have GE281 := GW281; replace HB := aM (below_step (bB HB.out) hb); clear hb hbox hg; obtain ⟨hcz14_0, hcz14_1, hfz14_0, hfz14_1⟩ := cd2 BK281.out) | ((with_reducible refine gate_callee (f := 21) rfl ?_); refine gM (some 18) Tryd.func21 #[.slice A0 l0.length c0] ?_; (with_reducible refine (r48_Activities.calls k _ _ l0 t282 _ ?side1 ?side2 A4.out).mono ?_); (case side1 => exact Kd.C_below HR0.out (bB1 HB.out GE281.out)); (case side2 => exact HC0.out); rintro e w15 ⟨v283, rfl, ho0, hb⟩; refine ⟨_, rfl, ?_⟩; have HO284 := aM (Kd.R_lower ho0 (below_size (bB1 HB.out GE281.out))); replace BK281 := aM (blk_below (g := gb281) (o := .cells #[.int .i64 t279, .int .i64 t280] 66 (0, 0)) (bP BK281.out) hb); replace HB := aM (below_step (bB1 HB.out GE281.out) hb); clear hb ho0; obtain ⟨Ao16, co16, eo16⟩ := Kd.R_slice HO284.out; subst eo16))
  go_ret2
  exact ⟨_, rT, nT, bB1 HB.out GE281.out⟩
 rw [if_neg c11] at H; have c11b0 : decide (12 < (t282.length : Int)) = false := decide_eq_false c11; have c11b1 : decide (12 < t282.length) = false := decide_eq_false (by omega); clear c11
 have H' := aM H
 clear H
 go_enter Tryd.func49, Tryd.ntmps49
 go_wp2_with (first | ((with_reducible refine gate_callee (f := 65) rfl ?_); refine gM (some 11) Tryd.func65 #[.slice A0 l0.length c0] ?_; (with_reducible refine (r48_Check.calls k _ _ l0 t279 t280 _ ?side1 ?side2 A2.out).mono ?_); (case side1 => repeat (first | exact HR0.out | (with_reducible refine Kd.C_alloc ?_ _) | (with_reducible refine Kd.C_drewN ?_ _) | (with_reducible refine Kd.C_drew ?_))); (case side2 => exact HC0.out); rintro e w17 ⟨rfl, hb⟩; refine ⟨_, rfl, ?_⟩; replace HB := aM (below_step (bB HB.out) hb); clear hb) | ((with_reducible refine gate_dst (N := 4) rfl ?_); refine bX 4 (cs := #[.int .i64 0, .int .i64 0]) (t := 66) ?_; intro gb281 hg w18 hbox hb; have BK281 := aM (hbox); have GW281 := aM (gE hg (below_size (bB HB.out))); have GE281 := GW281; replace HB := aM (below_step (bB HB.out) hb); clear hb hbox hg; obtain ⟨hcz19_0, hcz19_1, hfz19_0, hfz19_1⟩ := cd2 BK281.out) | ((with_reducible refine gate_callee (f := 21) rfl ?_); refine gM (some 18) Tryd.func21 #[.slice A0 l0.length c0] ?_; (with_reducible refine (r48_Activities.calls k _ _ l0 t282 _ ?side1 ?side2 A4.out).mono ?_); (case side1 => exact Kd.C_below HR0.out (bB1 HB.out GE281.out)); (case side2 => exact HC0.out); rintro e w20 ⟨v283, rfl, ho0, hb⟩; refine ⟨_, rfl, ?_⟩; have HO284 := aM (Kd.R_lower ho0 (below_size (bB1 HB.out GE281.out))); replace BK281 := aM (blk_below (g := gb281) (o := .cells #[.int .i64 t279, .int .i64 t280] 66 (0, 0)) (bP BK281.out) hb); replace HB := aM (below_step (bB1 HB.out GE281.out) hb); clear hb ho0; obtain ⟨Ao21, co21, eo21⟩ := Kd.R_slice HO284.out; subst eo21))
 go_loopg [6, 7] k (fun kq v6 v7 w' => ∃ (x6_1 : List (List Int)) (x7_1 : Int), v7 = .int .i64 x7_1 ∧ Aside0 (r49_Footprint.l0 kq l0 t282 x6_1 x7_1 = some (r1, r2)) ∧ Aside0 (kq ≤ k) ∧ Aside0 (Kd.R Kd.string 9 w' w.heap.size (fun _ => True) (.slice Ao21 t282.length co21) t282) ∧ Aside0 (Kd.S (Kd.slice 3 (Kd.int .i64)) 36 w' w.heap.size (fun _ => True) v6 x6_1) ∧ Aside0 (w'.heap[gb281]? = some (.cells #[.int .i64 t279, .int .i64 t280] 66 (0, 0))) ∧ Aside0 (Below w.heap.size w w'))
 case atStart => exact ⟨(([] : List (List Int))), (0), eT, H', ⟨Nat.le_refl _⟩, ⟨oR HO284.out⟩, ⟨nT⟩, ⟨kB BK281.out⟩, ⟨bB1 HB.out GE281.out⟩⟩
 clear H'; obtain ⟨x6_1, x7_1, rfl, HA, HK1, HO_5, HO_6, BK281, HB⟩ := hrel
 cases gk with
 | zero => exact absurd HA.out (by simp [r49_Footprint.l0])
 | succ k1 =>
  have H := HA.out; clear HA
  simp only [r49_Footprint.l0] at H
  by_cases c22 : x7_1 < (t282.length : Int)
  rotate_left
  ·
   rw [if_neg c22] at H
   have c22b0 := decide_eq_false c22; clear c22
   simp only [Option.some.injEq, Prod.mk.injEq] at H
   obtain ⟨rfl, rfl⟩ := H
   go_wp2
   go_ret2
   exact ⟨_, rT, oS HO_6.out, bB1 HB.out GE281.out⟩
  rw [if_pos c22] at H; have c22b0 := decide_eq_true c22; clear c22
  have H' := aM H
  clear H
  go_wp2
  go_loopg [8, 9] k1 (fun kq v8 v9 w' => ∃ (x8_2 : List Int) (x9_2 : Int), v9 = .int .i64 x9_2 ∧ Aside0 (r49_Footprint.l1 kq l0 t282 x6_1 x7_1 x8_2 x9_2 = some (r1, r2)) ∧ Aside0 (kq ≤ k1) ∧ Aside0 (Kd.R Kd.string 9 w' w.heap.size (fun _ => True) (.slice Ao21 t282.length co21) t282) ∧ Aside0 (Kd.S (Kd.slice 3 (Kd.int .i64)) 36 w' w.heap.size (fun k_ => some k_ ≠ (v8 : Value).ownBlock) u6 x6_1) ∧ Aside0 (Kd.R (Kd.int .i64) 3 w' w.heap.size (fun _ => True) v8 x8_2) ∧ Aside0 (w'.heap[gb281]? = some (.cells #[.int .i64 t279, .int .i64 t280] 66 (0, 0))) ∧ Aside0 (Below w.heap.size w w'))
  case atStart => exact ⟨(([] : List Int)), (0), eT, H', ⟨Nat.le_refl _⟩, ⟨oR HO_5.out⟩, ⟨by refine oS ?_; exact Kd.S_mono HO_6.out (fun _ hk => (by simp [Value.ownBlock]))⟩, ⟨nT⟩, ⟨kB BK281.out⟩, ⟨bB1 HB.out GE281.out⟩⟩
  clear H'; obtain ⟨x8_2, x9_2, rfl, HA, HK2, HO_5, HO_6, HO_8, BK281, HB⟩ := hrel
  cases gk with
  | zero => exact absurd HA.out (by simp [r49_Footprint.l1])
  | succ k2 =>
   have H := HA.out; clear HA
   simp only [r49_Footprint.l1] at H
   by_cases c23 : x9_2 < (t282.length : Int)
   rotate_left
   ·
    rw [if_neg c23] at H
    have c23b0 := decide_eq_false c23; clear c23
    obtain ⟨c31, H⟩ := iP H; have LMc31 := aM c31; clear c31
    obtain ⟨y291, hy291⟩ : ∃ y_ : List (List Int), y_ = (x6_1 ++ [x8_2]) := ⟨_, rfl⟩
    replace H : (r49_Footprint.l0 k2 l0 t282 y291 (wrap64 (x7_1 + 1))) = some (r1, r2) := yT hy291 H
    have Ny291 := aM hy291; clear hy291
    have H' := aM H
    clear H; obtain ⟨Ao33, co33, eo33⟩ := Kd.R_slice HO_8.out; subst eo33
    go_wp2_with (first | ((with_reducible refine gate_builtin (b := .append) (xs := #[.tmp 50, .tmp 52]) rfl ?_); at_builtin; refine Kd.S_append (Kd.slice 3 (Kd.int .i64)) (w0 := w) w.heap.size rfl (.tmp 50) (.tmp 52) 47 36 (.slice none 0 0) 24 rfl Tryd.underlying47 info36 rfl (by decide) (by omega) u6 x6_1 x8_2 [.slice Ao33 x8_2.length co33] (fun _ => True) (fun k_ => some k_ = (.slice Ao33 x8_2.length co33 : Value).ownBlock) rfl rfl ?aP (fun k_ hk_ => ((Kd.R_mono (ok' := fun k_ => ((fun _ => True)) k_ ∧ some k_ ≠ (u6 : Value).ownBlock) (Kd.R_apart' (HO_8.out) (Kd.S_typed HO_6.out) (by decide)) (fun k_ hk => ⟨trivial, hk.2⟩))).1 k_ hk_.symm) ?aF ?aO ?aB ?aS ?aL ?_; (case aP => exact Kd.M_row (Kd.R_mono (Kd.R_tight rfl (Kd.R_mono (ok' := fun k_ => ((fun _ => True)) k_ ∧ some k_ ≠ (u6 : Value).ownBlock) (Kd.R_apart' (HO_8.out) (Kd.S_typed HO_6.out) (by decide)) (fun k_ hk => ⟨trivial, hk.2⟩))) (fun _ h_ => h_))); (case aB => exact (bB1 HB.out GE281.out)); (case aF => exact (fun _ _ => trivial)); (case aO => exact (by refine oS ?_; exact Kd.S_mono HO_6.out (fun k_ hk => ⟨trivial, fun e_ => hk e_⟩))); (case aS => exact (below_size (bB1 HB.out GE281.out))); (case aL => have := LMc31.out; omega); intro v292 w32 ho hb hg hat; rw [← Ny291.out] at ho; replace HO_5 := aM (Kd.R_over' (oR HO_5.out) (Kd.S_typed (oS HO_6.out)) (by decide) hg); replace BK281 := aM (blk_grown (g := gb281) (o := .cells #[.int .i64 t279, .int .i64 t280] 66 (0, 0)) (kB BK281.out) hg (Kd.S_ne HO_6.out BK281.out (by decide))); replace HB := aM (hb); have HO293 := aM (ho); clear HO_6 HO_8; clear ho hb hg hat))
    go_roundg k2
    case measure => have := HK1.out; have := HK2.out; omega
    case rel => exact ⟨(y291), (wrap64 (x7_1 + 1)), eT, H', ⟨by have := HK1.out; have := HK2.out; omega⟩, ⟨oR HO_5.out⟩, ⟨oS HO293.out⟩, ⟨kB BK281.out⟩, ⟨bB1 HB.out GE281.out⟩⟩
   rw [if_pos c23] at H; have c23b0 := decide_eq_true c23; clear c23
   obtain ⟨c24, H⟩ := iP H; have c24b0 := decide_eq_true c24; clear c24
   obtain ⟨c25, H⟩ := iP H; have c25b0 := decide_eq_true c25; clear c25
   obtain ⟨c26, H⟩ := iP H; have c26b0 := decide_eq_true c26; clear c26; obtain ⟨t287, A27, H⟩ := iB H; (try dsimp only at H)
   obtain ⟨c28, H⟩ := iP H; have LMc28 := aM c28; clear c28
   obtain ⟨y288, hy288⟩ : ∃ y_ : List Int, y_ = (x8_2 ++ [t287]) := ⟨_, rfl⟩
   replace H : (r49_Footprint.l1 k2 l0 t282 x6_1 x7_1 y288 (wrap64 (x9_2 + 1))) = some (r1, r2) := yT hy288 H
   have Ny288 := aM hy288; clear hy288
   have H' := aM H
   clear H
   try go_wp2
   replace HO_5 := aM (Kd.R_drew HO_5.out); replace HO_6 := aM (Kd.S_drew HO_6.out); replace HO_8 := aM (Kd.R_drew HO_8.out); replace BK281 := aM (blk_drew BK281.out); replace HB := aM (below_drew1 HB.out); have p285 : 0 ≤ (x7_1 : Int) := dT; have q285 : x7_1 < (t282.length : Int) := dT
   try (obtain ⟨Aoz285, coz285, eoz285⟩ := Kd.R_slice HO_5.out; subst eoz285)
   obtain ⟨ad285, e285, hx285_0⟩ := Kd.at_string (Kd.R_reads' HO_5.out).2.2 x7_1 p285 q285; cases e285; replace p285 := eq_true p285; replace q285 := eq_true q285; have p286 : 0 ≤ (x9_2 : Int) := dT; have q286 : x9_2 < (t282.length : Int) := dT
   try (obtain ⟨Aoz286, coz286, eoz286⟩ := Kd.R_slice HO_5.out; subst eoz286)
   obtain ⟨ad286, e286, hx286_0⟩ := Kd.at_string (Kd.R_reads' HO_5.out).2.2 x9_2 p286 q286; obtain rfl : ad285 = ad286 := (by injection e286); replace p286 := eq_true p286; replace q286 := eq_true q286
   refine start_ (n := 14) (S := fun w' => w'.cell? (ad285.add (x7_1).toNat) = some (.string (rdOf ByteArray.empty t282 x7_1)) ∧ w'.cell? (ad285.add (x9_2).toNat) = some (.string (rdOf ByteArray.empty t282 x9_2))) (ds := [11, 12]) #[false, false, false, false, false, false, false, false, false, false, false, false, false, false] (by kernel_rfl) rfl rfl ⟨hx285_0, hx286_0⟩ (fun hHeld => ?_); refine with_tabW r49_Footprint.tab17 r49_Footprint.bits17 (fun HT_ HW_ => ?_)
   generalize wr.drew = w29 at HO_5 HO_6 HO_8 BK281 HB hx285_0 hx286_0 hHeld ⊢
   refine pU 0 37 (any_of HT_.out (by kernel_rfl)) ?_
   refine pU 1 38 (any_of HT_.out (by kernel_rfl)) ?_
   refine pU 2 39 (any_of HT_.out (by kernel_rfl)) ?_
   refine pU 3 40 (any_of HT_.out (by kernel_rfl)) ?_
   refine pU 4 41 (any_of HT_.out (by kernel_rfl)) ?_
   refine pU 6 43 (any_of HT_.out (by kernel_rfl)) ?_
   refine pU 7 44 (any_of HT_.out (by kernel_rfl)) ?_
   refine pU 8 45 (any_of HT_.out (by kernel_rfl)) ?_
   refine tU 5 42 (take_ofW HT_.out HW_.out (by kernel_rfl)) hHeld ?_
   refine tU 9 46 (take_ofW HT_.out HW_.out (by kernel_rfl)) hHeld ?_
   refine one_ (i := 10) (N := some 47) #[true, true, true, true, true, true, true, true, true, true, true, false, false, false] rfl rfl (one_of HT_.out (by kernel_rfl)) (by decide) (fun K hK => ?_)
   refine goes_ Tryd.func66 (by kernel_rfl) rfl #[.slice A0 l0.length c0, .string (rdOf ByteArray.empty t282 x7_1), .string (rdOf ByteArray.empty t282 x9_2)] (by rfl) rfl rfl mT ?_
   with_reducible refine (r48_Relation.calls k2 _ _ l0 (rdOf ByteArray.empty t282 x7_1) (rdOf ByteArray.empty t282 x9_2) t287 _ ?side1 ?side2 A27.out).mono ?_
   (case side1 => exact cB HR0.out HB.out)
   (case side2 => exact HC0.out)
   rintro e w' ⟨rfl, ⟨nd, rfl⟩⟩
   refine ⟨_, rfl, ?_⟩
   refine hK.out _ _ ⟨hHeld.1, hHeld.2⟩ (fun hHeld => ?_)
   clear hK K
   refine nU 47 ?_
   refine last_ (i := 11) (N := some 48) #[true, true, true, true, true, true, true, true, true, true, true, true, false, false] rfl rfl (one_of HT_.out (by kernel_rfl)) (by decide) (fun K hK => ?_)
   refine value_ (w1 := ?_) (v := ?_) (by rfl) rfl ?_ ?_
   rotate_left 2
   ·
    go_simp
    constructor
    ·
     rfl
    ·
     rfl
   refine hK.out _ _ ?_
   clear hK K
   refine nU 48 ?_
   refine last_ (i := 12) (N := some 49) #[true, true, true, true, true, true, true, true, true, true, true, true, true, false] rfl rfl (one_of HT_.out (by kernel_rfl)) (by decide) (fun K hK => ?_)
   refine Kd.R_append_step (Kd.int .i64) (w0 := w) w.heap.size (by rfl) (.tmp 37) (.tmp 48) 36 3 (.int .i64 0) 8 rfl Tryd.underlying36 info3 rfl (by decide) (by omega) u8 x8_2 t287 [.int .i64 t287] (fun _ => True) (fun _ => False) rfl rfl ?aP (fun _ hk => hk.elim) ?aF ?aO ?aB ?aS ?aL ?_
   (case aP => exact rfl)
   (case aB => exact (bB1 HB.out GE281.out))
   (case aF => exact (fun _ _ => trivial))
   (case aO => exact (oR HO_8.out))
   (case aS => exact (below_size (bB1 HB.out GE281.out)))
   (case aL => have := LMc28.out; omega)
   intro v289 w30 ho hb hg hat
   rw [← Ny288.out] at ho; replace HO_5 := aM (Kd.R_over' (oR HO_5.out) (Kd.R_typed (oR HO_8.out)) (by decide) hg); replace HO_6 := aM (Kd.S_after (ok := (fun _ => True)) (by refine oS ?_; exact Kd.S_mono HO_6.out (fun _ hk => ⟨trivial, hk⟩)) hg hat); replace BK281 := aM (blk_grown (g := gb281) (o := .cells #[.int .i64 t279, .int .i64 t280] 66 (0, 0)) (kB BK281.out) hg (Kd.R_ne HO_8.out BK281.out (by decide))); replace HB := aM (hb); have HO290 := aM (ho); clear HO_8; clear ho hb hg hat
   refine hK.out _ _ ?_
   clear hK K
   refine nU 49 ?_
   refine pU 13 8 (any_of HT_.out (by kernel_rfl)) ?_
   refine done_ (done_of HT_.out (by kernel_rfl)) ?_
   try go_wp2
   go_roundg k2
   case measure => have := HK1.out; have := HK2.out; omega
   case rel => exact ⟨(y288), (wrap64 (x9_2 + 1)), eT, H', ⟨by have := HK1.out; have := HK2.out; omega⟩, ⟨oR HO_5.out⟩, ⟨by refine oS ?_; exact Kd.S_mono HO_6.out (fun _ hk => hk.2)⟩, ⟨oR HO290.out⟩, ⟨kB BK281.out⟩, ⟨bB1 HB.out GE281.out⟩⟩
/-! ### r06_bit: function 53 -/
def r06_bit.l0 : Nat → Int → Int → Int → Option (Int)
 | 0, _, _, _ => none
 | k + 1, x0, x3, x4 => if x4 < x0 then (r06_bit.l0 k x0 (IntKind.u64.wrap (x3 * 2)) (wrap64 (x4 + 1))) else (some x3)
def r06_bit.f (k : Nat) (a0 : Int) : Option (Int) := r06_bit.l0 k a0 1 0
theorem r06_bit.mono_l : ∀ k, (∀ y0 y1 y2, LeO (r06_bit.l0 k y0 y1 y2) (r06_bit.l0 (k + 1) y0 y1 y2))
 | 0 => fun _ _ _ r h => by simp [r06_bit.l0] at h
 | k + 1 => by
  have ih0 := r06_bit.mono_l k
  ·
   intro y0 y1 y2
   unfold r06_bit.l0
   repeat' first
   | (with_reducible first | apply ih0 | exact LeO.refl _ | exact LeO.none _ | refine LeO.ite ?_ ?_ | refine LeO.bind ?_ (fun _ => ?_))
theorem r06_bit.mono : ∀ a0 k, LeO (r06_bit.f k a0) (r06_bit.f (k + 1) a0) := by
 intro a0 k
 have ih0 := r06_bit.mono_l k
 unfold r06_bit.f
 repeat' first
   | (with_reducible first | apply ih0 | exact LeO.refl _ | exact LeO.none _ | refine LeO.ite ?_ ?_ | refine LeO.bind ?_ (fun _ => ?_))
set_option maxHeartbeats 8000000 in
set_option maxRecDepth 100000 in
theorem r06_bit.calls (k : Nat) (a0 : Int) (r : Int) (w : World) (h : r06_bit.f k a0 = some r) :
  Calls Tryd.prog 53 #[.int .i64 a0] w fun e w' => e = .returned (.int .u64 r) ∧ Drawn0 w w' := by
 have H : (r06_bit.l0 k a0 1 0) = some r := h; clear h
 have H' := aM H
 clear H
 go_enter Tryd.func53, Tryd.ntmps53
 go_wp2
 go_loopg [3, 4] k (fun kq v3 v4 w' => ∃ (x3_1 : Int) (x4_1 : Int), v3 = .int .u64 x3_1 ∧ v4 = .int .i64 x4_1 ∧ Aside0 (r06_bit.l0 kq a0 x3_1 x4_1 = some r) ∧ Aside0 (kq ≤ k) ∧ Drawn0 w w')
 case atStart => exact ⟨(1), (0), eT, eT, H', ⟨Nat.le_refl _⟩, by repeat (first | exact Drawn0.refl _ | apply Drawn0.step)⟩
 clear H'
 obtain ⟨x3_1, x4_1, rfl, rfl, HA, HK1, ⟨m1, rfl⟩⟩ := hrel
 cases gk with
 | zero => exact absurd HA.out (by simp [r06_bit.l0])
 | succ k1 =>
  have H := HA.out; clear HA
  simp only [r06_bit.l0] at H
  by_cases c2 : x4_1 < a0
  rotate_left
  ·
   rw [if_neg c2] at H
   have c2b0 := decide_eq_false c2; clear c2
   obtain rfl := Option.some.inj H
   go_wp2
   go_ret
   exact ⟨by first | rfl | (simp; done) | (simp [*]; done), by repeat (first | exact Drawn0.refl _ | apply Drawn0.step)⟩


  rw [if_pos c2] at H; have c2b0 := decide_eq_true c2; clear c2
  have H' := aM H
  clear H
  go_wp2
  go_roundg k1
  case measure => have := HK1.out; omega
  case rel => exact ⟨(IntKind.u64.wrap (x3_1 * 2)), (wrap64 (x4_1 + 1)), eT, eT, H', ⟨by have := HK1.out; omega⟩, by repeat (first | exact Drawn0.refl _ | apply Drawn0.step)⟩
/-! ### r06_All: function 50 -/
def r06_All.l0 : Nat → Int → Int → Int → Option (Int)
 | 0, _, _, _ => none
 | k + 1, x0, x3, x4 => if x4 < 64 then (if x4 < x0 then ((r06_bit.f k x4).bind fun t294 => (r06_All.l0 k x0 (IntKind.u64.wrap (x3 + t294)) (wrap64 (x4 + 1)))) else (some x3)) else (some x3)
def r06_All.f (k : Nat) (a0 : Int) : Option (Int) := r06_All.l0 k a0 0 0
theorem r06_All.mono_l : ∀ k, (∀ y0 y1 y2, LeO (r06_All.l0 k y0 y1 y2) (r06_All.l0 (k + 1) y0 y1 y2))
 | 0 => fun _ _ _ r h => by simp [r06_All.l0] at h
 | k + 1 => by
  have ih0 := r06_All.mono_l k
  ·
   intro y0 y1 y2
   unfold r06_All.l0
   repeat' first
   | (with_reducible first | apply ih0 | apply r06_bit.mono | exact LeO.refl _ | exact LeO.none _ | refine LeO.ite ?_ ?_ | refine LeO.bind ?_ (fun _ => ?_))
theorem r06_All.mono : ∀ a0 k, LeO (r06_All.f k a0) (r06_All.f (k + 1) a0) := by
 intro a0 k
 have ih0 := r06_All.mono_l k
 unfold r06_All.f
 repeat' first
   | (with_reducible first | apply ih0 | apply r06_bit.mono | exact LeO.refl _ | exact LeO.none _ | refine LeO.ite ?_ ?_ | refine LeO.bind ?_ (fun _ => ?_))
set_option maxHeartbeats 8000000 in
set_option maxRecDepth 100000 in
theorem r06_All.calls (k : Nat) (a0 : Int) (r : Int) (w : World) (h : r06_All.f k a0 = some r) :
  Calls Tryd.prog 50 #[.int .i64 a0] w fun e w' => e = .returned (.int .u64 r) ∧ Drawn0 w w' := by
 have H : (r06_All.l0 k a0 0 0) = some r := h; clear h
 have H' := aM H
 clear H
 go_enter Tryd.func50, Tryd.ntmps50
 go_wp2
 go_loopg [3, 4] k (fun kq v3 v4 w' => ∃ (x3_1 : Int) (x4_1 : Int), v3 = .int .u64 x3_1 ∧ v4 = .int .i64 x4_1 ∧ Aside0 (r06_All.l0 kq a0 x3_1 x4_1 = some r) ∧ Aside0 (kq ≤ k) ∧ Drawn0 w w')
 case atStart => exact ⟨(0), (0), eT, eT, H', ⟨Nat.le_refl _⟩, by repeat (first | exact Drawn0.refl _ | apply Drawn0.step)⟩
 clear H'
 obtain ⟨x3_1, x4_1, rfl, rfl, HA, HK1, ⟨m1, rfl⟩⟩ := hrel
 cases gk with
 | zero => exact absurd HA.out (by simp [r06_All.l0])
 | succ k1 =>
  have H := HA.out; clear HA
  simp only [r06_All.l0] at H
  by_cases c2 : x4_1 < 64
  rotate_left
  ·
   rw [if_neg c2] at H
   have c2b0 := decide_eq_false c2; clear c2
   obtain rfl := Option.some.inj H
   go_wp2
   go_ret
   exact ⟨by first | rfl | (simp; done) | (simp [*]; done), by repeat (first | exact Drawn0.refl _ | apply Drawn0.step)⟩


  rw [if_pos c2] at H; have c2b0 := decide_eq_true c2; clear c2
  by_cases c3 : x4_1 < a0
  rotate_left
  ·
   rw [if_neg c3] at H
   have c3b0 := decide_eq_false c3; clear c3
   obtain rfl := Option.some.inj H
   go_wp2
   go_ret
   exact ⟨by first | rfl | (simp; done) | (simp [*]; done), by repeat (first | exact Drawn0.refl _ | apply Drawn0.step)⟩
  rw [if_pos c3] at H; have c3b0 := decide_eq_true c3; clear c3; obtain ⟨t294, A4, H⟩ := iB H; (try dsimp only at H)
  have H' := aM H
  clear H
  go_wp2_with (first | ((with_reducible refine gate_callee (f := 53) rfl ?_); refine gM (some 16) Tryd.func53 #[.int .i64 x4_1] ?_; (with_reducible refine (r06_bit.calls k1 x4_1 t294 _ A4.out).mono ?_); rintro e w' ⟨rfl, ⟨nd, rfl⟩⟩; refine ⟨_, rfl, ?_⟩))
  go_roundg k1
  case measure => have := HK1.out; omega
  case rel => exact ⟨(IntKind.u64.wrap (x3_1 + t294)), (wrap64 (x4_1 + 1)), eT, eT, H', ⟨by have := HK1.out; omega⟩, by repeat (first | exact Drawn0.refl _ | apply Drawn0.step)⟩
/-! ### r06_Has: function 34 -/
def r06_Has.f (k : Nat) (a0 : Int) (a1 : Int) : Option (Bool) := if a1 ≥ 0 then (if a1 < 64 then ((r06_bit.f k a1).bind fun t295 => (if t295 = 0 then (none) else (some ((Int.tmod (IntKind.u64.wrap (Int.tdiv a0 t295)) 2) == 1)))) else (some false)) else (some false)
theorem r06_Has.mono : ∀ a0 a1 k, LeO (r06_Has.f k a0 a1) (r06_Has.f (k + 1) a0 a1) := by
 intro a0 a1 k
 unfold r06_Has.f
 repeat' first
   | (with_reducible first | apply r06_bit.mono | exact LeO.refl _ | exact LeO.none _ | refine LeO.ite ?_ ?_ | refine LeO.bind ?_ (fun _ => ?_))
set_option maxHeartbeats 8000000 in
set_option maxRecDepth 100000 in
theorem r06_Has.calls (k : Nat) (a0 : Int) (a1 : Int) (r : Bool) (w : World) (h : r06_Has.f k a0 a1 = some r) :
  Calls Tryd.prog 34 #[.int .u64 a0, .int .i64 a1] w fun e w' => e = .returned (.bool r) ∧ Drawn0 w w' := by
 have H : (if a1 ≥ 0 then (if a1 < 64 then ((r06_bit.f k a1).bind fun t295 => (if t295 = 0 then (none) else (some ((Int.tmod (IntKind.u64.wrap (Int.tdiv a0 t295)) 2) == 1)))) else (some false)) else (some false)) = some r := h
 clear h
 by_cases c3 : a1 ≥ 0
 rotate_left
 ·
  rw [if_neg c3] at H
  have c3b0 : decide (0 ≤ a1) = false := decide_eq_false c3; clear c3
  obtain rfl := Option.some.inj H
  go_enter Tryd.func34, Tryd.ntmps34
  go_wp2
  go_ret
  exact ⟨by first | rfl | (simp; done) | (simp [*]; done), by repeat (first | exact Drawn0.refl _ | apply Drawn0.step)⟩


 rw [if_pos c3] at H; have c3b0 : decide (0 ≤ a1) = true := decide_eq_true c3; clear c3
 by_cases c4 : a1 < 64
 rotate_left
 ·
  rw [if_neg c4] at H
  have c4b0 := decide_eq_false c4; clear c4
  obtain rfl := Option.some.inj H
  go_enter Tryd.func34, Tryd.ntmps34
  go_wp2
  go_ret
  exact ⟨by first | rfl | (simp; done) | (simp [*]; done), by repeat (first | exact Drawn0.refl _ | apply Drawn0.step)⟩
 rw [if_pos c4] at H; have c4b0 := decide_eq_true c4; clear c4; obtain ⟨t295, A5, H⟩ := iB H; (try dsimp only at H)
 obtain ⟨c6, H⟩ := iN H; have c6b0 : (t295 == 0) = false := beq_eq_false_iff_ne.mpr c6; have c6b1 : (t295 != 0) = true := bne_iff_ne.mpr c6
 obtain rfl := Option.some.inj H
 go_enter Tryd.func34, Tryd.ntmps34
 go_wp2_with (first | (go_at_call 53; (with_reducible refine (r06_bit.calls k a1 t295 _ A5.out).mono ?_); rintro e w' ⟨rfl, ⟨nd, rfl⟩⟩))
 go_ret
 exact ⟨by first | rfl | (simp; done) | (simp [*]; done), by repeat (first | exact Drawn0.refl _ | apply Drawn0.step)⟩
/-! ### r49_all: function 51 -/
mutual
def r49_all.l0 : Nat → List (List Int) → Int → Int → Int → Int → Option (Bool)
 | 0, _, _, _, _, _ => none
 | k + 1, x0, x1, x2, x3, x9 => if x9 < (x0.length : Int) then (r49_all.l1 k x0 x1 x2 x3 x9 0) else (some true)
def r49_all.l1 : Nat → List (List Int) → Int → Int → Int → Int → Int → Option (Bool)
 | 0, _, _, _, _, _, _ => none
 | k + 1, x0, x1, x2, x3, x9, x10 => if x10 < (x0.length : Int) then ((r06_Has.f k x1 x9).bind fun t296 => (if t296 = true then ((r06_Has.f k x2 x10).bind fun t297 => (if t297 = true then (if 0 ≤ x9 then (if x9 < (x0.length : Int) then (if 0 ≤ x10 then (if x10 < ((rd_L5 x0 x9).length : Int) then (if (rd (rd_L5 x0 x9) x10) = x3 then (r49_all.l1 k x0 x1 x2 x3 x9 (wrap64 (x10 + 1))) else (some false)) else (none)) else (none)) else (none)) else (none)) else (r49_all.l1 k x0 x1 x2 x3 x9 (wrap64 (x10 + 1))))) else (r49_all.l1 k x0 x1 x2 x3 x9 (wrap64 (x10 + 1))))) else (r49_all.l0 k x0 x1 x2 x3 (wrap64 (x9 + 1)))
end
def r49_all.f (k : Nat) (l0 : List (List Int)) (a1 : Int) (a2 : Int) (a3 : Int) : Option (Bool) := r49_all.l0 k l0 a1 a2 a3 0
theorem r49_all.mono_l : ∀ k, (∀ y0 y1 y2 y3 y4, LeO (r49_all.l0 k y0 y1 y2 y3 y4) (r49_all.l0 (k + 1) y0 y1 y2 y3 y4)) ∧ (∀ y0 y1 y2 y3 y4 y5, LeO (r49_all.l1 k y0 y1 y2 y3 y4 y5) (r49_all.l1 (k + 1) y0 y1 y2 y3 y4 y5))
 | 0 => ⟨fun _ _ _ _ _ r h => by simp [r49_all.l0] at h, fun _ _ _ _ _ _ r h => by simp [r49_all.l1] at h⟩
 | k + 1 => by
  obtain ⟨ih0, ih1⟩ := r49_all.mono_l k
  refine ⟨?_, ?_⟩ <;> intros <;> (first | unfold r49_all.l0 | unfold r49_all.l1)
  all_goals repeat' first
   | (with_reducible first | apply ih0 | apply ih1 | apply r06_Has.mono | exact LeO.refl _ | exact LeO.none _ | refine LeO.ite ?_ ?_ | refine LeO.bind ?_ (fun _ => ?_))
theorem r49_all.mono : ∀ a0 a1 a2 a3 k, LeO (r49_all.f k a0 a1 a2 a3) (r49_all.f (k + 1) a0 a1 a2 a3) := by
 intro a0 a1 a2 a3 k
 obtain ⟨ih0, ih1⟩ := r49_all.mono_l k
 unfold r49_all.f
 repeat' first
   | (with_reducible first | apply ih0 | apply ih1 | apply r06_Has.mono | exact LeO.refl _ | exact LeO.none _ | refine LeO.ite ?_ ?_ | refine LeO.bind ?_ (fun _ => ?_))
set_option maxHeartbeats 8000000 in
set_option maxRecDepth 100000 in
theorem r49_all.calls (k : Nat) (A0 : Option Addr) (c0 : Nat) (l0 : List (List Int)) (a1 : Int) (a2 : Int) (a3 : Int) (r : Bool) (w : World) (hr0 : Kd.C (Kd.slice 3 (Kd.int .i64)) w A0 l0.length l0) (hc0 : l0.length ≤ c0) (h : r49_all.f k l0 a1 a2 a3 = some r) :
  Calls Tryd.prog 51 #[.slice A0 l0.length c0, .int .u64 a1, .int .u64 a2, .int .i64 a3] w fun e w' => e = .returned (.bool r) ∧ Drawn0 w w' := by
 have HR0 := aM hr0; have HC0 := aM hc0; clear hr0 hc0; have H : (r49_all.l0 k l0 a1 a2 a3 0) = some r := h; clear h
 have H' := aM H
 clear H
 go_enter Tryd.func51, Tryd.ntmps51
 go_wp2
 go_loopg [9] k (fun kq v9 w' => ∃ (x9_1 : Int), v9 = .int .i64 x9_1 ∧ Aside0 (r49_all.l0 kq l0 a1 a2 a3 x9_1 = some r) ∧ Aside0 (kq ≤ k) ∧ Drawn0 w w')
 case atStart => exact ⟨(0), eT, H', ⟨Nat.le_refl _⟩, by repeat (first | exact Drawn0.refl _ | apply Drawn0.step)⟩
 clear H'
 obtain ⟨x9_1, rfl, HA, HK1, ⟨m1, rfl⟩⟩ := hrel
 cases gk with
 | zero => exact absurd HA.out (by simp [r49_all.l0])
 | succ k1 =>
  have H := HA.out; clear HA
  simp only [r49_all.l0] at H
  by_cases c5 : x9_1 < (l0.length : Int)
  rotate_left
  ·
   rw [if_neg c5] at H
   have c5b0 := decide_eq_false c5; clear c5
   obtain rfl := Option.some.inj H
   go_wp2
   go_ret
   exact ⟨by first | rfl | (simp; done) | (simp [*]; done), by repeat (first | exact Drawn0.refl _ | apply Drawn0.step)⟩


  rw [if_pos c5] at H; have c5b0 := decide_eq_true c5; clear c5
  have H' := aM H
  clear H
  go_wp2
  go_loopg [10] k1 (fun kq v10 w' => ∃ (x10_2 : Int), v10 = .int .i64 x10_2 ∧ Aside0 (r49_all.l1 kq l0 a1 a2 a3 x9_1 x10_2 = some r) ∧ Aside0 (kq ≤ k1) ∧ Drawn0 w w')
  case atStart => exact ⟨(0), eT, H', ⟨Nat.le_refl _⟩, by repeat (first | exact Drawn0.refl _ | apply Drawn0.step)⟩
  clear H'
  obtain ⟨x10_2, rfl, HA, HK2, ⟨m2, rfl⟩⟩ := hrel
  cases gk with
  | zero => exact absurd HA.out (by simp [r49_all.l1])
  | succ k2 =>
   have H := HA.out; clear HA
   simp only [r49_all.l1] at H
   by_cases c6 : x10_2 < (l0.length : Int)
   rotate_left
   ·
    rw [if_neg c6] at H
    have c6b0 := decide_eq_false c6; clear c6
    have H' := aM H
    clear H
    go_wp2
    go_roundg k2
    case measure => have := HK1.out; have := HK2.out; omega
    case rel => exact ⟨(wrap64 (x9_1 + 1)), eT, H', ⟨by have := HK1.out; have := HK2.out; omega⟩, by repeat (first | exact Drawn0.refl _ | apply Drawn0.step)⟩
   rw [if_pos c6] at H; have c6b0 := decide_eq_true c6; clear c6; obtain ⟨t296, A7, H⟩ := iB H; (try dsimp only at H)
   by_cases c8 : t296 = true
   rotate_left
   ·
    replace c8 := Bool.eq_false_iff.mpr c8
    subst c8
    have H1 : (r49_all.l1 k2 l0 a1 a2 a3 x9_1 (wrap64 (x10_2 + 1))) = some r := by rw [if_neg (show ¬ (false = true) by decide)] at H; exact H
    clear H; have H := H1; clear H1
    have H' := aM H
    clear H
    go_wp2_with (first | ((with_reducible refine gate_callee (f := 34) rfl ?_); refine gM (some 25) Tryd.func34 #[.int .u64 a1, .int .i64 x9_1] ?_; (with_reducible refine (r06_Has.calls k2 a1 x9_1 false _ A7.out).mono ?_); rintro e w' ⟨rfl, ⟨nd, rfl⟩⟩; refine ⟨_, rfl, ?_⟩))
    go_roundg k2
    case measure => have := HK1.out; have := HK2.out; omega
    case rel => exact ⟨(wrap64 (x10_2 + 1)), eT, H', ⟨by have := HK1.out; have := HK2.out; omega⟩, by repeat (first | exact Drawn0.refl _ | apply Drawn0.step)⟩
   subst c8
   have H1 : ((r06_Has.f k2 a2 x10_2).bind fun t297 => (if t297 = true then (if 0 ≤ x9_1 then (if x9_1 < (l0.length : Int) then (if 0 ≤ x10_2 then (if x10_2 < ((rd_L5 l0 x9_1).length : Int) then (if (rd (rd_L5 l0 x9_1) x10_2) = a3 then (r49_all.l1 k2 l0 a1 a2 a3 x9_1 (wrap64 (x10_2 + 1))) else (some false)) else (none)) else (none)) else (none)) else (none)) else (r49_all.l1 k2 l0 a1 a2 a3 x9_1 (wrap64 (x10_2 + 1))))) = some r := by rw [if_pos rfl] at H; exact H
   clear H; have H := H1; clear H1; obtain ⟨t297, A9, H⟩ := iB H; (try dsimp only at H)
   by_cases c10 : t297 = true
   rotate_left
   ·
    replace c10 := Bool.eq_false_iff.mpr c10
    subst c10
    have H1 : (r49_all.l1 k2 l0 a1 a2 a3 x9_1 (wrap64 (x10_2 + 1))) = some r := by rw [if_neg (show ¬ (false = true) by decide)] at H; exact H
    clear H; have H := H1; clear H1
    have H' := aM H
    clear H
    go_wp2_with (first | ((with_reducible refine gate_callee (f := 34) rfl ?_); refine gM (some 25) Tryd.func34 #[.int .u64 a1, .int .i64 x9_1] ?_; (with_reducible refine (r06_Has.calls k2 a1 x9_1 true _ A7.out).mono ?_); rintro e w' ⟨rfl, ⟨nd, rfl⟩⟩; refine ⟨_, rfl, ?_⟩) | (go_at_call 34; (with_reducible refine (r06_Has.calls k2 a2 x10_2 false _ A9.out).mono ?_); rintro e w' ⟨rfl, ⟨nd, rfl⟩⟩))
    go_roundg k2
    case measure => have := HK1.out; have := HK2.out; omega
    case rel => exact ⟨(wrap64 (x10_2 + 1)), eT, H', ⟨by have := HK1.out; have := HK2.out; omega⟩, by repeat (first | exact Drawn0.refl _ | apply Drawn0.step)⟩
   subst c10
   have H1 : (if 0 ≤ x9_1 then (if x9_1 < (l0.length : Int) then (if 0 ≤ x10_2 then (if x10_2 < ((rd_L5 l0 x9_1).length : Int) then (if (rd (rd_L5 l0 x9_1) x10_2) = a3 then (r49_all.l1 k2 l0 a1 a2 a3 x9_1 (wrap64 (x10_2 + 1))) else (some false)) else (none)) else (none)) else (none)) else (none)) = some r := by rw [if_pos rfl] at H; exact H
   clear H; have H := H1; clear H1
   obtain ⟨c11, H⟩ := iP H; have c11b0 := decide_eq_true c11; clear c11
   obtain ⟨c12, H⟩ := iP H; have c12b0 := decide_eq_true c12; clear c12
   obtain ⟨c13, H⟩ := iP H; have c13b0 := decide_eq_true c13; clear c13
   obtain ⟨c14, H⟩ := iP H; have c14b0 := decide_eq_true c14; clear c14
   by_cases c15 : (rd (rd_L5 l0 x9_1) x10_2) = a3
   rotate_left
   ·
    rw [if_neg c15] at H
    have c15b0 : ((rd (rd_L5 l0 x9_1) x10_2) == a3) = false := beq_eq_false_iff_ne.mpr c15; have c15b1 : ((rd (rd_L5 l0 x9_1) x10_2) != a3) = true := bne_iff_ne.mpr c15
    obtain rfl := Option.some.inj H
    go_wp2_with (first | ((with_reducible refine gate_callee (f := 34) rfl ?_); refine gM (some 25) Tryd.func34 #[.int .u64 a1, .int .i64 x9_1] ?_; (with_reducible refine (r06_Has.calls k2 a1 x9_1 true _ A7.out).mono ?_); rintro e w' ⟨rfl, ⟨nd, rfl⟩⟩; refine ⟨_, rfl, ?_⟩) | (go_at_call 34; (with_reducible refine (r06_Has.calls k2 a2 x10_2 true _ A9.out).mono ?_); rintro e w' ⟨rfl, ⟨nd, rfl⟩⟩; obtain ⟨p298, q298, ad298, A298_0, c298_0, e298, hx298_0, hl298_0, hi298_0⟩ := aT (at_L5 HR0.out x9_1); cases e298; have HR298_0 := aM hi298_0; have HC298_0 := aM hl298_0; clear hi298_0 hl298_0; have p299 : 0 ≤ (x10_2 : Int) := dT; have q299 : x10_2 < ((rd_L5 l0 x9_1).length : Int) := dT; obtain ⟨ad299, e299, hx299_0⟩ := Kd.at_int HR298_0.out x10_2 p299 q299; cases e299; replace p299 := eq_true p299; replace q299 := eq_true q299))
    go_ret
    exact ⟨by first | rfl | (simp; done) | (simp [*]; done), by repeat (first | exact Drawn0.refl _ | apply Drawn0.step)⟩
   rw [if_pos c15] at H; have c15b0 : ((rd (rd_L5 l0 x9_1) x10_2) == a3) = true := beq_iff_eq.mpr c15; have c15b1 : ((rd (rd_L5 l0 x9_1) x10_2) != a3) = false := bne_eq_false_iff_eq.mpr c15; clear c15
   have H' := aM H
   clear H
   go_wp2_with (first | ((with_reducible refine gate_callee (f := 34) rfl ?_); refine gM (some 25) Tryd.func34 #[.int .u64 a1, .int .i64 x9_1] ?_; (with_reducible refine (r06_Has.calls k2 a1 x9_1 true _ A7.out).mono ?_); rintro e w' ⟨rfl, ⟨nd, rfl⟩⟩; refine ⟨_, rfl, ?_⟩) | (go_at_call 34; (with_reducible refine (r06_Has.calls k2 a2 x10_2 true _ A9.out).mono ?_); rintro e w' ⟨rfl, ⟨nd, rfl⟩⟩; obtain ⟨p298, q298, ad298, A298_0, c298_0, e298, hx298_0, hl298_0, hi298_0⟩ := aT (at_L5 HR0.out x9_1); cases e298; have HR298_0 := aM hi298_0; have HC298_0 := aM hl298_0; clear hi298_0 hl298_0; have p299 : 0 ≤ (x10_2 : Int) := dT; have q299 : x10_2 < ((rd_L5 l0 x9_1).length : Int) := dT; obtain ⟨ad299, e299, hx299_0⟩ := Kd.at_int HR298_0.out x10_2 p299 q299; cases e299; replace p299 := eq_true p299; replace q299 := eq_true q299))
   go_roundg k2
   case measure => have := HK1.out; have := HK2.out; omega
   case rel => exact ⟨(wrap64 (x10_2 + 1)), eT, H', ⟨by have := HK1.out; have := HK2.out; omega⟩, by repeat (first | exact Drawn0.refl _ | apply Drawn0.step)⟩
/-! ### r49_causal: function 52 -/
def r49_causal.f (k : Nat) (l0 : List (List Int)) (a1 : Int) (a2 : Int) : Option (Bool) := (r49_all.f k l0 a1 a2 1).bind fun t300 => (if t300 = true then ((r49_all.f k l0 a1 a1 0).bind fun t301 => (if t301 = true then ((r49_all.f k l0 a2 a2 0).bind fun t302 => (some t302)) else (some false))) else (some false))
theorem r49_causal.mono : ∀ a0 a1 a2 k, LeO (r49_causal.f k a0 a1 a2) (r49_causal.f (k + 1) a0 a1 a2) := by
 intro a0 a1 a2 k
 unfold r49_causal.f
 repeat' first
   | (with_reducible first | apply r49_all.mono | exact LeO.refl _ | exact LeO.none _ | refine LeO.ite ?_ ?_ | refine LeO.bind ?_ (fun _ => ?_))
set_option maxHeartbeats 8000000 in
set_option maxRecDepth 100000 in
theorem r49_causal.calls (k : Nat) (A0 : Option Addr) (c0 : Nat) (l0 : List (List Int)) (a1 : Int) (a2 : Int) (r : Bool) (w : World) (hr0 : Kd.C (Kd.slice 3 (Kd.int .i64)) w A0 l0.length l0) (hc0 : l0.length ≤ c0) (h : r49_causal.f k l0 a1 a2 = some r) :
  Calls Tryd.prog 52 #[.slice A0 l0.length c0, .int .u64 a1, .int .u64 a2] w fun e w' => e = .returned (.bool r) ∧ Drawn0 w w' := by
 have HR0 := aM hr0; have HC0 := aM hc0; clear hr0 hc0
 have H : ((r49_all.f k l0 a1 a2 1).bind fun t300 => (if t300 = true then ((r49_all.f k l0 a1 a1 0).bind fun t301 => (if t301 = true then ((r49_all.f k l0 a2 a2 0).bind fun t302 => (some t302)) else (some false))) else (some false))) = some r := h
 clear h; obtain ⟨t300, A4, H⟩ := iB H; (try dsimp only at H)
 by_cases c5 : t300 = true
 rotate_left
 ·
  replace c5 := Bool.eq_false_iff.mpr c5
  subst c5
  have H1 : (some false) = some r := by rw [if_neg (show ¬ (false = true) by decide)] at H; exact H
  clear H; have H := H1; clear H1
  obtain rfl := Option.some.inj H
  go_enter Tryd.func52, Tryd.ntmps52
  go_wp2_with (first | ((with_reducible refine gate_callee (f := 51) rfl ?_); refine gM (some 10) Tryd.func51 #[.slice A0 l0.length c0, .int .u64 a1, .int .u64 a2, .int .i64 1] ?_; (with_reducible refine (r49_all.calls k _ _ l0 a1 a2 1 false _ ?side1 ?side2 A4.out).mono ?_); (case side1 => repeat (first | exact HR0.out | (with_reducible refine Kd.C_alloc ?_ _) | (with_reducible refine Kd.C_drewN ?_ _) | (with_reducible refine Kd.C_drew ?_))); (case side2 => exact HC0.out); rintro e w' ⟨rfl, ⟨nd, rfl⟩⟩; refine ⟨_, rfl, ?_⟩))
  go_ret
  exact ⟨by first | rfl | (simp; done) | (simp [*]; done), by repeat (first | exact Drawn0.refl _ | apply Drawn0.step)⟩


 subst c5
 have H1 : ((r49_all.f k l0 a1 a1 0).bind fun t301 => (if t301 = true then ((r49_all.f k l0 a2 a2 0).bind fun t302 => (some t302)) else (some false))) = some r := by rw [if_pos rfl] at H; exact H
 clear H; have H := H1; clear H1; obtain ⟨t301, A6, H⟩ := iB H; (try dsimp only at H)
 by_cases c7 : t301 = true
 rotate_left
 ·
  replace c7 := Bool.eq_false_iff.mpr c7
  subst c7
  have H1 : (some false) = some r := by rw [if_neg (show ¬ (false = true) by decide)] at H; exact H
  clear H; have H := H1; clear H1
  obtain rfl := Option.some.inj H
  go_enter Tryd.func52, Tryd.ntmps52
  go_wp2_with (first | ((with_reducible refine gate_callee (f := 51) rfl ?_); refine gM (some 10) Tryd.func51 #[.slice A0 l0.length c0, .int .u64 a1, .int .u64 a2, .int .i64 1] ?_; (with_reducible refine (r49_all.calls k _ _ l0 a1 a2 1 true _ ?side1 ?side2 A4.out).mono ?_); (case side1 => repeat (first | exact HR0.out | (with_reducible refine Kd.C_alloc ?_ _) | (with_reducible refine Kd.C_drewN ?_ _) | (with_reducible refine Kd.C_drew ?_))); (case side2 => exact HC0.out); rintro e w' ⟨rfl, ⟨nd, rfl⟩⟩; refine ⟨_, rfl, ?_⟩) | (go_at_call 51; (with_reducible refine (r49_all.calls k _ _ l0 a1 a1 0 false _ ?side1 ?side2 A6.out).mono ?_); (case side1 => repeat (first | exact HR0.out | (with_reducible refine Kd.C_alloc ?_ _) | (with_reducible refine Kd.C_drewN ?_ _) | (with_reducible refine Kd.C_drew ?_))); (case side2 => exact HC0.out); rintro e w' ⟨rfl, ⟨nd, rfl⟩⟩))
  go_ret
  exact ⟨by first | rfl | (simp; done) | (simp [*]; done), by repeat (first | exact Drawn0.refl _ | apply Drawn0.step)⟩
 subst c7
 have H1 : ((r49_all.f k l0 a2 a2 0).bind fun t302 => (some t302)) = some r := by rw [if_pos rfl] at H; exact H
 clear H; have H := H1; clear H1; replace H := Option.bind_eq_some_iff.mp H; obtain ⟨t302, A80, H⟩ := H
 replace H : (some t302) = some r := H
 have A8 := aM A80; clear A80
 obtain rfl := Option.some.inj H
 go_enter Tryd.func52, Tryd.ntmps52
 go_wp2_with (first | ((with_reducible refine gate_callee (f := 51) rfl ?_); refine gM (some 10) Tryd.func51 #[.slice A0 l0.length c0, .int .u64 a1, .int .u64 a2, .int .i64 1] ?_; (with_reducible refine (r49_all.calls k _ _ l0 a1 a2 1 true _ ?side1 ?side2 A4.out).mono ?_); (case side1 => repeat (first | exact HR0.out | (with_reducible refine Kd.C_alloc ?_ _) | (with_reducible refine Kd.C_drewN ?_ _) | (with_reducible refine Kd.C_drew ?_))); (case side2 => exact HC0.out); rintro e w' ⟨rfl, ⟨nd, rfl⟩⟩; refine ⟨_, rfl, ?_⟩) | (go_at_call 51; (with_reducible refine (r49_all.calls k _ _ l0 a1 a1 0 true _ ?side1 ?side2 A6.out).mono ?_); (case side1 => repeat (first | exact HR0.out | (with_reducible refine Kd.C_alloc ?_ _) | (with_reducible refine Kd.C_drewN ?_ _) | (with_reducible refine Kd.C_drew ?_))); (case side2 => exact HC0.out); rintro e w' ⟨rfl, ⟨nd, rfl⟩⟩) | (go_at_call 51; (with_reducible refine (r49_all.calls k _ _ l0 a2 a2 0 t302 _ ?side1 ?side2 A8.out).mono ?_); (case side1 => repeat (first | exact HR0.out | (with_reducible refine Kd.C_alloc ?_ _) | (with_reducible refine Kd.C_drewN ?_ _) | (with_reducible refine Kd.C_drew ?_))); (case side2 => exact HC0.out); rintro e w' ⟨rfl, ⟨nd, rfl⟩⟩))
 go_ret
 exact ⟨by first | rfl | (simp; done) | (simp [*]; done), by repeat (first | exact Drawn0.refl _ | apply Drawn0.step)⟩


end Go.Proofs.YtejchnmhlcbfcaaDoor.Pr
