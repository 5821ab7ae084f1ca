/- Functions that the statement reaches: what each answers, and that the program answers it (written by a program of this work). -/
import Derived.Test.YtejchnmhlcbfcaaDoorProg
import Derived.Below
import Derived.Deep.Draws
import Derived.Deep.AppendLies
import Derived.Maps.AppendAt
import Derived.OwnWalk
import Derived.Laws.BytesArg
import Derived.Laws.MakeOwn
import Derived.Laws.OwnMore
import Derived.Deep.OwnRows
import Derived.Tactics
import Derived.Lib.ConvBytes
import Derived.Laws.Slices
import Derived.WalkKit
import Derived.KernelRfl
import Derived.RowKit3
import Derived.Deep.LoopGhost
import Derived.Deep.QuietTactic
import Derived.BigQuiet
import Derived.WideLaws
import Derived.Deep.DeepCutAuto
import Derived.Deep.CutBlock
import Derived.Deep.RegionHeld3
import Derived.Laws.Rows
import Derived.Lib.AppendStr
import Derived.ArgAppend
import Derived.Laws.IdiomCopy
import Derived.OrdersHeld
import Derived.Laws.BitsLemmas
import Derived.RowKit
import Derived.WalkMore
import Derived.ChangeKeysEq
import Derived.Test.YtejchnmhlcbfcaaDoorVDiscoverChains
import Derived.Test.YtejchnmhlcbfcaaDoorBDiscoverChains
import Derived.Test.YtejchnmhlcbfcaaDoorQDiscoverChains0
import Derived.Test.YtejchnmhlcbfcaaDoorQDiscoverChains1
namespace Go.Proofs.YtejchnmhlcbfcaaDoor.Pr
open Go.RowKit Go.Proofs.YtejchnmhlcbfcaaDoorW.PrintWords Go.Proofs.YtejchnmhlcbfcaaDoorW.PrintLast Go.Proofs.YtejchnmhlcbfcaaDoorW.PrintMore
attribute [local go_sem] Instr.field asAgg
attribute [local go_sem] max2_int min2_int max_two min_two max_three min_three max_four min_four   -- for this text's walks alone
set_option linter.unusedVariables false
set_option linter.unusedSimpArgs false
/-! ### d_Alpha: function 9 -/
mutual
def d_Alpha.l0 : Nat → List (List ByteArray) → List (S57) → Int → Int → ByteArray → List (S59) → Option (ByteArray × (List (S59)) × (List (S41)) × Int)
 | 0, _, _, _, _, _, _ => none
 | k + 1, x0, x4, x36, x37, x226000, x226001 => if x37 < x36 then ((strconv_Itoa_24.f x37).bind fun t226 => (if 2 + t226.size ≤ 9223372036854775807 then (if x226001.length < 4398046511104 then (d_Alpha.l0 k x0 x4 x36 (wrap64 (x37 + 1)) x226000 (x226001 ++ [(⟨(⟨#[95, 112]⟩ : ByteArray) ++ t226, 0, 0⟩ : S59)])) else (none)) else (none))) else ((e_First.f k x0).bind fun t230 => ((e_Last.f k x0).bind fun t233 => ((e_Activities.f k x0).bind fun t236 => (d_Alpha.l1 k x4 t230 t233 t236 (t236.length : Int) 0 x226000 x226001 ([] : List (S41))))))
def d_Alpha.l1 : Nat → List (S57) → List ByteArray → List ByteArray → List ByteArray → Int → Int → ByteArray → List (S59) → List (S41) → Option (ByteArray × (List (S59)) × (List (S41)) × Int)
 | 0, _, _, _, _, _, _, _, _, _ => none
 | k + 1, x4, x8, x9, x55, x56, x57, x226000, x226001, x226002 => if x57 < x56 then (if 0 ≤ x57 then (if x57 < (x55.length : Int) then (d_Alpha.l2 k x4 x8 x9 x57 (rdOf ByteArray.empty x55 x57) x55 x56 x57 x226001 (x226001.length : Int) 0 x226000 x226001 x226002) else (none)) else (none)) else (some (x226000, x226001, x226002, 0))
def d_Alpha.l2 : Nat → List (S57) → List ByteArray → List ByteArray → Int → ByteArray → List ByteArray → Int → Int → List (S59) → Int → Int → ByteArray → List (S59) → List (S41) → Option (ByteArray × (List (S59)) × (List (S41)) × Int)
 | 0, _, _, _, _, _, _, _, _, _, _, _, _, _, _ => none
 | k + 1, x4, x8, x9, x10, x11, x55, x56, x57, x63, x64, x65, x226000, x226001, x226002 => if x65 < x64 then (if 0 ≤ x65 then (if x65 < (x63.length : Int) then (if ((rd_T59 x63 x65).f0).toList = x11.toList then (some ((⟨#[]⟩ : ByteArray), ([] : List (S59)), ([] : List (S41)), 6)) else (d_Alpha.l2 k x4 x8 x9 x10 x11 x55 x56 x57 x63 x64 (wrap64 (x65 + 1)) x226000 x226001 x226002)) else (none)) else (none)) else ((d_among.f k x8 x11).bind fun t243 => (if t243 = true then (if ([] : List (S62)).length < 8796093022208 then (d_Alpha.j3 k x4 x8 x9 x10 x11 x55 x56 x57 x226000 x226001 x226002 x11 (([] : List (S62)) ++ [(⟨0, 1⟩ : S62)]) 0) else (none)) else (d_Alpha.j3 k x4 x8 x9 x10 x11 x55 x56 x57 x226000 x226001 x226002 x11 ([] : List (S62)) 0)))
def d_Alpha.j3 : Nat → List (S57) → List ByteArray → List ByteArray → Int → ByteArray → List ByteArray → Int → Int → ByteArray → List (S59) → List (S41) → ByteArray → List (S62) → Int → Option (ByteArray × (List (S59)) × (List (S41)) × Int)
 | 0, _, _, _, _, _, _, _, _, _, _, _, _, _, _ => none
 | k + 1, x4, x8, x9, x10, x11, x55, x56, x57, x226000, x226001, x226002, x243000, x243001, x243004 => (d_among.f k x9 x11).bind fun t247 => (if t247 = true then (if ([] : List (S62)).length < 8796093022208 then (d_Alpha.j4 k x4 x8 x9 x10 x55 x56 x57 x226000 x226001 x226002 x243000 x243001 (([] : List (S62)) ++ [(⟨1, 1⟩ : S62)]) x243004) else (none)) else (d_Alpha.j4 k x4 x8 x9 x10 x55 x56 x57 x226000 x226001 x226002 x243000 x243001 ([] : List (S62)) x243004))
def d_Alpha.j4 : Nat → List (S57) → List ByteArray → List ByteArray → Int → List ByteArray → Int → Int → ByteArray → List (S59) → List (S41) → ByteArray → List (S62) → List (S62) → Int → Option (ByteArray × (List (S59)) × (List (S41)) × Int)
 | 0, _, _, _, _, _, _, _, _, _, _, _, _, _, _ => none
 | k + 1, x4, x8, x9, x10, x55, x56, x57, x226000, x226001, x226002, x243000, x243001, x243002, x243004 => d_Alpha.l3 k x4 x8 x9 x10 x55 x56 x57 x4 (x4.length : Int) 0 x226000 x226001 x226002 x243000 x243001 x243002 x243004
def d_Alpha.l3 : Nat → List (S57) → List ByteArray → List ByteArray → Int → List ByteArray → Int → Int → List (S57) → Int → Int → ByteArray → List (S59) → List (S41) → ByteArray → List (S62) → List (S62) → Int → Option (ByteArray × (List (S59)) × (List (S41)) × Int)
 | 0, _, _, _, _, _, _, _, _, _, _, _, _, _, _, _, _, _ => none
 | k + 1, x4, x8, x9, x10, x55, x56, x57, x95, x96, x97, x226000, x226001, x226002, x243000, x243001, x243002, x243004 => if x97 < x96 then (if 0 ≤ x97 then (if x97 < (x95.length : Int) then ((d_has.f ((rd_T57 x95 x97).f1) x10).bind fun t256 => (if t256 = true then (if x243001.length < 8796093022208 then ((some (x243001 ++ [(⟨wrap64 (x97 + 2), 1⟩ : S62)] : List (S62))).bind fun y257 => ((d_has.f ((rd_T57 x95 x97).f0) x10).bind fun t260 => (if t260 = true then (if x243002.length < 8796093022208 then (d_Alpha.l3 k x4 x8 x9 x10 x55 x56 x57 x95 x96 (wrap64 (x97 + 1)) x226000 x226001 x226002 x243000 y257 (x243002 ++ [(⟨wrap64 (x97 + 2), 1⟩ : S62)]) x243004) else (none)) else (d_Alpha.l3 k x4 x8 x9 x10 x55 x56 x57 x95 x96 (wrap64 (x97 + 1)) x226000 x226001 x226002 x243000 y257 x243002 x243004)))) else (none)) else ((d_has.f ((rd_T57 x95 x97).f0) x10).bind fun t264 => (if t264 = true then (if x243002.length < 8796093022208 then (d_Alpha.l3 k x4 x8 x9 x10 x55 x56 x57 x95 x96 (wrap64 (x97 + 1)) x226000 x226001 x226002 x243000 x243001 (x243002 ++ [(⟨wrap64 (x97 + 2), 1⟩ : S62)]) x243004) else (none)) else (d_Alpha.l3 k x4 x8 x9 x10 x55 x56 x57 x95 x96 (wrap64 (x97 + 1)) x226000 x226001 x226002 x243000 x243001 x243002 x243004))))) else (none)) else (none)) else (if x226002.length < 1466015503701 then (d_Alpha.l1 k x4 x8 x9 x55 x56 (wrap64 (x57 + 1)) x226000 x226001 (x226002 ++ [(⟨x243000, x243001, x243002, ([] : List (S62)), x243004⟩ : S41)])) else (none))
end
def d_Alpha.f (k : Nat) (l0 : List (List ByteArray)) : Option (ByteArray × (List (S59)) × (List (S41)) × Int) := (d_Pairs.f k l0).bind fun bt218 => (if bt218.2 = 0 then (if (wrap64 ((bt218.1.length : Int) + 2)) > 24 then (some ((⟨#[]⟩ : ByteArray), ([] : List (S59)), ([] : List (S41)), 2)) else (d_Alpha.l0 k l0 bt218.1 (bt218.1.length : Int) 0 (⟨#[97, 108, 112, 104, 97]⟩ : ByteArray) (([(⟨(⟨#[95, 105, 110]⟩ : ByteArray), 1, 0⟩ : S59), (⟨(⟨#[95, 111, 117, 116]⟩ : ByteArray), 0, 0⟩ : S59)] : List (S59))))) else (some ((⟨#[]⟩ : ByteArray), ([] : List (S59)), ([] : List (S41)), bt218.2)))
theorem d_Alpha.mono_l : ∀ k, (∀ y0 y1 y2 y3 y4 y5, LeO (d_Alpha.l0 k y0 y1 y2 y3 y4 y5) (d_Alpha.l0 (k + 1) y0 y1 y2 y3 y4 y5)) ∧ (∀ y0 y1 y2 y3 y4 y5 y6 y7 y8, LeO (d_Alpha.l1 k y0 y1 y2 y3 y4 y5 y6 y7 y8) (d_Alpha.l1 (k + 1) y0 y1 y2 y3 y4 y5 y6 y7 y8)) ∧ (∀ y0 y1 y2 y3 y4 y5 y6 y7 y8 y9 y10 y11 y12 y13, LeO (d_Alpha.l2 k y0 y1 y2 y3 y4 y5 y6 y7 y8 y9 y10 y11 y12 y13) (d_Alpha.l2 (k + 1) y0 y1 y2 y3 y4 y5 y6 y7 y8 y9 y10 y11 y12 y13)) ∧ (∀ y0 y1 y2 y3 y4 y5 y6 y7 y8 y9 y10 y11 y12 y13, LeO (d_Alpha.j3 k y0 y1 y2 y3 y4 y5 y6 y7 y8 y9 y10 y11 y12 y13) (d_Alpha.j3 (k + 1) y0 y1 y2 y3 y4 y5 y6 y7 y8 y9 y10 y11 y12 y13)) ∧ (∀ y0 y1 y2 y3 y4 y5 y6 y7 y8 y9 y10 y11 y12 y13, LeO (d_Alpha.j4 k y0 y1 y2 y3 y4 y5 y6 y7 y8 y9 y10 y11 y12 y13) (d_Alpha.j4 (k + 1) y0 y1 y2 y3 y4 y5 y6 y7 y8 y9 y10 y11 y12 y13)) ∧ (∀ y0 y1 y2 y3 y4 y5 y6 y7 y8 y9 y10 y11 y12 y13 y14 y15 y16, LeO (d_Alpha.l3 k y0 y1 y2 y3 y4 y5 y6 y7 y8 y9 y10 y11 y12 y13 y14 y15 y16) (d_Alpha.l3 (k + 1) y0 y1 y2 y3 y4 y5 y6 y7 y8 y9 y10 y11 y12 y13 y14 y15 y16))
 | 0 => ⟨fun _ _ _ _ _ _ r h => by simp [d_Alpha.l0] at h, fun _ _ _ _ _ _ _ _ _ r h => by simp [d_Alpha.l1] at h, fun _ _ _ _ _ _ _ _ _ _ _ _ _ _ r h => by simp [d_Alpha.l2] at h, fun _ _ _ _ _ _ _ _ _ _ _ _ _ _ r h => by simp [d_Alpha.j3] at h, fun _ _ _ _ _ _ _ _ _ _ _ _ _ _ r h => by simp [d_Alpha.j4] at h, fun _ _ _ _ _ _ _ _ _ _ _ _ _ _ _ _ _ r h => by simp [d_Alpha.l3] at h⟩
 | k + 1 => by
  obtain ⟨ih0, ih1, ih2, ih3, ih4, ih5⟩ := d_Alpha.mono_l k
  refine ⟨?_, ?_, ?_, ?_, ?_, ?_⟩ <;> intros <;> (first | unfold d_Alpha.l0 | unfold d_Alpha.l1 | unfold d_Alpha.l2 | unfold d_Alpha.j3 | unfold d_Alpha.j4 | unfold d_Alpha.l3)
  all_goals repeat' first
   | (with_reducible first | apply ih0 | apply ih1 | apply ih2 | apply ih3 | apply ih4 | apply ih5 | apply d_Pairs.mono | apply d_among.mono | apply e_Activities.mono | apply e_First.mono | apply e_Last.mono | exact LeO.refl _ | exact LeO.none _ | refine LeO.ite ?_ ?_ | refine LeO.bind ?_ (fun _ => ?_))
theorem d_Alpha.mono : ∀ a0 k, LeO (d_Alpha.f k a0) (d_Alpha.f (k + 1) a0) := by
 intro a0 k
 obtain ⟨ih0, ih1, ih2, ih3, ih4, ih5⟩ := d_Alpha.mono_l k
 unfold d_Alpha.f
 repeat' first
   | (with_reducible first | apply ih0 | apply ih1 | apply ih2 | apply ih3 | apply ih4 | apply ih5 | apply d_Pairs.mono | apply d_among.mono | apply e_Activities.mono | apply e_First.mono | apply e_Last.mono | exact LeO.refl _ | exact LeO.none _ | refine LeO.ite ?_ ?_ | refine LeO.bind ?_ (fun _ => ?_))
def d_Alpha.T10 : Bool × List (List Nat × List Nat) := (true, [([], []), ([0], [0]), ([], []), ([2], [2]), ([3], [3]), ([4], [4]), ([5], [5]), ([1, 6, 3], [1, 6]), ([0, 1, 2, 3, 4, 5, 6, 7], []), ([8, 7, 7, 0, 1, 2, 3, 4, 5, 6, 7], [7, 8])])
def d_Alpha.B10 : List Nat := [0, 1, 0, 4, 12, 28, 60, 127, 255, 511]
theorem d_Alpha.tab10 : rtab .any (opsOf Tryd.f9 10) = d_Alpha.T10 := by kernel_rfl
theorem d_Alpha.bits10 : waitsOk d_Alpha.T10.2 d_Alpha.B10 = true := by kernel_rfl
set_option maxHeartbeats 8000000 in
set_option maxRecDepth 100000 in
theorem d_Alpha.calls (k : Nat) (A0 : Option Addr) (c0 : Nat) (l0 : List (List ByteArray)) (r1 : ByteArray) (r2 : List (S59)) (r3 : List (S41)) (r4 : Int) (w : World) (hr0 : Kd.C (Kd.slice 9 Kd.string) w A0 l0.length l0) (hc0 : l0.length ≤ c0) (h : d_Alpha.f k l0 = some (r1, r2, r3, r4)) :
  Calls Tryd.prog 9 #[.slice A0 l0.length c0] w fun e w' => ∃ v1_ v2_ : Value, e = .returned (.tuple #[.agg #[.string r1, v1_, v2_], .int .i64 r4]) ∧ Kd.R k59 59 w' w.heap.size (fun _ => True) v1_ r2 ∧ Kd.S k41 41 w' w.heap.size (fun _ => True) v2_ r3 ∧ Below w.heap.size w w' := by
 have hu28 := Tryd.underlying28; have hu9 := Tryd.underlying9; have hu25 := Tryd.underlying25; have hu26 := Tryd.underlying26; have hu59 := Tryd.underlying59; have hu3 := Tryd.underlying3; have hu9 := Tryd.underlying9; have hu41 := Tryd.underlying41; have hu3 := Tryd.underlying3; have hu9 := Tryd.underlying9; have hu39 := Tryd.underlying39; have hu62 := Tryd.underlying62; have hu3 := Tryd.underlying3; have hu57 := Tryd.underlying57; have hu56 := Tryd.underlying56; have HR0 := aM hr0; have HC0 := aM hc0; clear hr0 hc0; have HB := aM (Below.refl w.heap.size w)
 have H : ((d_Pairs.f k l0).bind fun bt218 => (if bt218.2 = 0 then (if (wrap64 ((bt218.1.length : Int) + 2)) > 24 then (some ((⟨#[]⟩ : ByteArray), ([] : List (S59)), ([] : List (S41)), 2)) else (d_Alpha.l0 k l0 bt218.1 (bt218.1.length : Int) 0 (⟨#[97, 108, 112, 104, 97]⟩ : ByteArray) (([(⟨(⟨#[95, 105, 110]⟩ : ByteArray), 1, 0⟩ : S59), (⟨(⟨#[95, 111, 117, 116]⟩ : ByteArray), 0, 0⟩ : S59)] : List (S59))))) else (some ((⟨#[]⟩ : ByteArray), ([] : List (S59)), ([] : List (S41)), bt218.2)))) = some (r1, r2, r3, r4) := h
 clear h; obtain ⟨⟨t218, t219⟩, A2, H⟩ := iB H; (try dsimp only at H)
 by_cases c3 : t219 = 0
 rotate_left
 ·
  rw [if_neg c3] at H
  have c3b0 : (t219 == 0) = false := beq_eq_false_iff_ne.mpr c3; have c3b1 : (t219 != 0) = true := bne_iff_ne.mpr c3
  simp only [Option.some.injEq, Prod.mk.injEq] at H
  obtain ⟨rfl, rfl, rfl, rfl⟩ := H
  go_enter Tryd.func9, Tryd.ntmps9
  go_wp2_with (first | ((with_reducible refine gate_dst (N := 2) rfl ?_); refine bX 2 (cs := #[.string (⟨#[]⟩ : ByteArray), .slice none 0 0, .slice none 0 0]) (t := 28) ?_; intro gb217 hg w150 hbox hb; have BK217 := aM (hbox); have GW217 := aM (gE hg (below_size (bB HB.out))); have GE217 := GW217; replace HB := aM (below_step (bB HB.out) hb); clear hb hbox hg) | ((with_reducible refine gate_callee (f := 22) rfl ?_); refine gM (some 19) Tryd.func22 #[.slice A0 l0.length c0] ?_; (with_reducible refine (d_Pairs.calls k _ _ l0 t218 t219 _ ?side1 ?side2 A2.out).mono ?_); (case side1 => exact cB HR0.out HB.out); (case side2 => exact HC0.out); rintro e w151 ⟨v220, rfl, ho0, hb⟩; refine ⟨_, rfl, ?_⟩; have HO221 := aM (Kd.R_lower ho0 (below_size (bB1 HB.out GE217.out))); replace BK217 := aM (kW BK217.out hb); replace HB := aM (below_step (bB1 HB.out GE217.out) hb); clear hb ho0; obtain ⟨hcz152_0, hcz152_1, hcz152_2, hfz152_0, hfz152_1, hfz152_2⟩ := cd3 BK217.out))
  refine bodyPost_ret (results_ct rfl _ _ gb217 28 #[.string (⟨#[]⟩ : ByteArray), .slice none 0 0, .slice none 0 0] (0, 0) _ rfl (bP BK217.out) Tryd.underlying28 rfl (by kernel_rfl)) rfl ?_
  exact ⟨_, _, rT, nT, nT, bB1 HB.out GE217.out⟩


 rw [if_pos c3] at H; have c3b0 : (t219 == 0) = true := beq_iff_eq.mpr c3; have c3b1 : (t219 != 0) = false := bne_eq_false_iff_eq.mpr c3; clear c3
 by_cases c4 : (wrap64 ((t218.length : Int) + 2)) > 24
 ·
  rw [if_pos c4] at H
  have c4b0 : decide (24 < (wrap64 ((t218.length : Int) + 2))) = true := decide_eq_true c4; clear c4
  simp only [Option.some.injEq, Prod.mk.injEq] at H
  obtain ⟨rfl, rfl, rfl, rfl⟩ := H
  go_enter Tryd.func9, Tryd.ntmps9
  go_wp2_with (first | ((with_reducible refine gate_dst (N := 2) rfl ?_); refine bX 2 (cs := #[.string (⟨#[]⟩ : ByteArray), .slice none 0 0, .slice none 0 0]) (t := 28) ?_; intro gb217 hg w5 hbox hb; have BK217 := aM (hbox); have GW217 := aM (gE hg (below_size (bB HB.out))); have GE217 := GW217; replace HB := aM (below_step (bB HB.out) hb); clear hb hbox hg) | ((with_reducible refine gate_callee (f := 22) rfl ?_); refine gM (some 19) Tryd.func22 #[.slice A0 l0.length c0] ?_; (with_reducible refine (d_Pairs.calls k _ _ l0 t218 t219 _ ?side1 ?side2 A2.out).mono ?_); (case side1 => exact cB HR0.out HB.out); (case side2 => exact HC0.out); rintro e w6 ⟨v220, rfl, ho0, hb⟩; refine ⟨_, rfl, ?_⟩; have HO221 := aM (Kd.R_lower ho0 (below_size (bB1 HB.out GE217.out))); replace BK217 := aM (kW BK217.out hb); replace HB := aM (below_step (bB1 HB.out GE217.out) hb); clear hb ho0; obtain ⟨Ao7, co7, eo7⟩ := Kd.R_slice HO221.out; subst eo7; obtain ⟨hcz8_0, hcz8_1, hcz8_2, hfz8_0, hfz8_1, hfz8_2⟩ := cd3 BK217.out))
  refine bodyPost_ret (results_ct rfl _ _ gb217 28 #[.string (⟨#[]⟩ : ByteArray), .slice none 0 0, .slice none 0 0] (0, 0) _ rfl (bP BK217.out) Tryd.underlying28 rfl (by kernel_rfl)) rfl ?_
  exact ⟨_, _, rT, nT, nT, bB1 HB.out GE217.out⟩
 rw [if_neg c4] at H; have c4b0 : decide (24 < (wrap64 ((t218.length : Int) + 2))) = false := decide_eq_false c4; clear c4
 obtain ⟨y222, hy222⟩ : ∃ y_ : List (S59), y_ = (([(⟨(⟨#[95, 105, 110]⟩ : ByteArray), 1, 0⟩ : S59), (⟨(⟨#[95, 111, 117, 116]⟩ : ByteArray), 0, 0⟩ : S59)] : List (S59))) := ⟨_, rfl⟩
 replace H : (d_Alpha.l0 k l0 t218 (t218.length : Int) 0 (⟨#[97, 108, 112, 104, 97]⟩ : ByteArray) y222) = some (r1, r2, r3, r4) := yT hy222 H
 have Ny222 := aM hy222; clear hy222
 have H' := aM H
 clear H
 go_enter Tryd.func9, Tryd.ntmps9
 go_wp2_with (first | ((with_reducible refine gate_dst (N := 2) rfl ?_); refine bX 2 (cs := #[.string (⟨#[]⟩ : ByteArray), .slice none 0 0, .slice none 0 0]) (t := 28) ?_; intro gb217 hg w9 hbox hb; have BK217 := aM (hbox); have GW217 := aM (gE hg (below_size (bB HB.out))); have GE217 := GW217; replace HB := aM (below_step (bB HB.out) hb); clear hb hbox hg) | ((with_reducible refine gate_callee (f := 22) rfl ?_); refine gM (some 19) Tryd.func22 #[.slice A0 l0.length c0] ?_; (with_reducible refine (d_Pairs.calls k _ _ l0 t218 t219 _ ?side1 ?side2 A2.out).mono ?_); (case side1 => exact cB HR0.out HB.out); (case side2 => exact HC0.out); rintro e w10 ⟨v220, rfl, ho0, hb⟩; refine ⟨_, rfl, ?_⟩; have HO221 := aM (Kd.R_lower ho0 (below_size (bB1 HB.out GE217.out))); replace BK217 := aM (kW BK217.out hb); replace HB := aM (below_step (bB1 HB.out GE217.out) hb); clear hb ho0; obtain ⟨Ao11, co11, eo11⟩ := Kd.R_slice HO221.out; subst eo11) | ((with_reducible refine gate_dst (N := 33) rfl ?_); refine Kd.R_lit k59 _ 59 ?hg (N := 33) ?hd (xs := ([(⟨(⟨#[95, 105, 110]⟩ : ByteArray), 1, 0⟩ : S59), (⟨(⟨#[95, 111, 117, 116]⟩ : ByteArray), 0, 0⟩ : S59)] : List (S59))) (inner := [.string (⟨#[95, 105, 110]⟩ : ByteArray), .int .i64 1, .int .i64 0, .string (⟨#[95, 111, 117, 116]⟩ : ByteArray), .int .i64 0, .int .i64 0]) (ok := fun _ => True) (okp := fun _ => True) ?hr ?hp (fun _ hk => hk) trivial (Below.refl _ _) (Nat.le_refl _) (by simp) ?_; (case hd => rfl); (case hg => rfl); (case hr => first | (go_simp; done) | (go_simp; rfl)); (case hp => exact (Reps.c3 (show Kd.M k59 _ _ _ (⟨(⟨#[95, 105, 110]⟩ : ByteArray), 1, 0⟩ : S59) [.string (⟨#[95, 105, 110]⟩ : ByteArray), .int .i64 1, .int .i64 0] from (k59_mkM _ _ _ (⟨(⟨#[95, 105, 110]⟩ : ByteArray), 1, 0⟩ : S59) )) (Reps.c3 (show Kd.M k59 _ _ _ (⟨(⟨#[95, 111, 117, 116]⟩ : ByteArray), 0, 0⟩ : S59) [.string (⟨#[95, 111, 117, 116]⟩ : ByteArray), .int .i64 0, .int .i64 0] from (k59_mkM _ _ _ (⟨(⟨#[95, 111, 117, 116]⟩ : ByteArray), 0, 0⟩ : S59) )) (Reps.none _ _)))); intro v223 w12 ho13 hb hg_ hnew_; clear hg_ hnew_; (first | rw [← Ny222.out] at ho13 | (simp only [Int.reduceToNat] at ho13; rw [← Ny222.out] at ho13)); replace HO221 := aM (Kd.R_below (oR HO221.out) hb); have HO224 := aM (Kd.R_lower ho13 (below_size (bB1 HB.out GE217.out))); replace BK217 := aM (kW BK217.out hb); replace HB := aM (below_step (bB1 HB.out GE217.out) hb); clear hb ho13; obtain ⟨Ao14, co14, eo14⟩ := Kd.R_slice HO224.out; subst eo14) | ((with_reducible refine gate_dst (N := 6) rfl ?_); refine bX 6 (cs := #[.string (⟨#[]⟩ : ByteArray), .slice none 0 0, .slice none 0 0]) (t := 28) ?_; intro gb225 hg w15 hbox hb; replace HO221 := aM (Kd.R_below (oR HO221.out) hb); replace HO224 := aM (Kd.R_below (oR HO224.out) hb); have BK225 := aM (hbox); have GW225 := aM (gE hg (below_size (bB1 HB.out GE217.out))); have GE225 := GW225; replace HB := aM (below_step (bB1 HB.out GE217.out) hb); have NB217_225 := aM (gL hg (kL BK217.out)); have NB225_217 := aM (gG hg (kL BK217.out)); replace BK217 := aM (kW BK217.out hb); clear hb hbox hg; have hnb16 := NB225_217.out; have hnc16 := NB217_225.out; obtain ⟨hcz17_0, hcz17_1, hcz17_2, hfz17_0, hfz17_1, hfz17_2⟩ := cd3 BK225.out))
 go_loopg [37] k (fun kq v37 w' => ∃ (x37_1 : Int) (x226001_1 : List (S59)) (u226001 : Value), v37 = .int .i64 x37_1 ∧ Aside0 (d_Alpha.l0 kq l0 t218 (t218.length : Int) x37_1 (⟨#[97, 108, 112, 104, 97]⟩ : ByteArray) x226001_1 = some (r1, r2, r3, r4)) ∧ Aside0 (kq ≤ k) ∧ Aside0 (Kd.R k57 57 w' w.heap.size (fun _ => True) (.slice Ao11 t218.length co11) t218) ∧ Aside0 (Kd.R k59 59 w' w.heap.size (fun _ => True) u226001 x226001_1) ∧ Aside0 (w'.heap[gb217]? = some (.cells #[.string (⟨#[]⟩ : ByteArray), (.slice none 0 0), (.slice none 0 0)] 28 (0, 0))) ∧ Aside0 (w'.heap[gb225]? = some (.cells #[.string (⟨#[97, 108, 112, 104, 97]⟩ : ByteArray), u226001, (.slice none 0 0)] 28 (0, 0))) ∧ Aside0 (Below w.heap.size w w'))
 case atStart => exact ⟨(0), (y222), (.slice Ao14 y222.length co14), eT, H', ⟨Nat.le_refl _⟩, ⟨by refine oR ?_; exact tT HO221.out BK225.out⟩, ⟨by refine oR ?_; exact tT HO224.out BK225.out⟩, ⟨bF BK217.out NB217_225.out⟩, ⟨bP BK225.out⟩, ⟨bB2 HB.out GE217.out GE225.out⟩⟩
 clear H'; obtain ⟨x37_1, x226001_1, u226001, rfl, HA, HK1, HO_4, HO_226001, BK217, BK225, HB⟩ := hrel
 cases gk with
 | zero => exact absurd HA.out (by simp [d_Alpha.l0])
 | succ k1 =>
  have H := HA.out; clear HA
  simp only [d_Alpha.l0] at H
  by_cases c18 : x37_1 < (t218.length : Int)
  ·
   rw [if_pos c18] at H
   have c18b0 := decide_eq_true c18; clear c18; obtain ⟨t226, A19, H⟩ := iB H; (try dsimp only at H)
   obtain ⟨c20, H⟩ := iP H; have c20b0 := eq_true c20; have c20b1 : decide (2 + t226.size ≤ 9223372036854775807) = true := decide_eq_true c20
   try have c20b2 : (9223372036854775807 < 2 + t226.size) = False := eq_false (Nat.not_lt.2 c20)
   obtain ⟨c21, H⟩ := iP H; have LMc21 := aM c21; clear c21
   obtain ⟨y227, hy227⟩ : ∃ y_ : List (S59), y_ = (x226001_1 ++ [(⟨(⟨#[95, 112]⟩ : ByteArray) ++ t226, 0, 0⟩ : S59)]) := ⟨_, rfl⟩
   replace H : (d_Alpha.l0 k1 l0 t218 (t218.length : Int) (wrap64 (x37_1 + 1)) (⟨#[97, 108, 112, 104, 97]⟩ : ByteArray) y227) = some (r1, r2, r3, r4) := yT hy227 H
   have Ny227 := aM hy227; clear hy227
   have H' := aM H
   clear H
   try go_wp2
   replace HO_4 := aM (Kd.R_drew HO_4.out); replace HO_226001 := aM (Kd.R_drew HO_226001.out); replace BK217 := aM (blk_drew BK217.out); replace BK225 := aM (blk_drew BK225.out); replace HB := aM (below_drew1 HB.out)
   refine start_ (n := 10) (S := fun w' => w'.cell? ⟨gb225, 0, none⟩ = some (.string (⟨#[97, 108, 112, 104, 97]⟩ : ByteArray)) ∧ w'.cell? ⟨gb225, 1, none⟩ = some (u226001) ∧ w'.cell? ⟨gb225, 2, none⟩ = some (.slice none 0 0)) (ds := [9]) #[false, false, false, false, false, false, false, false, false, false] (by kernel_rfl) rfl rfl ⟨(blk_cell BK225.out 0).trans rfl, (blk_cell BK225.out 1).trans rfl, (blk_cell BK225.out 2).trans rfl⟩ (fun hHeld => ?_); refine with_tabW d_Alpha.tab10 d_Alpha.bits10 (fun HT_ HW_ => ?_)
   generalize wr.drew = w22 at HO_4 HO_226001 BK217 BK225 HB hHeld ⊢
   refine pU 0 40 (any_of HT_.out (by kernel_rfl)) ?_
   refine pU 2 42 (any_of HT_.out (by kernel_rfl)) ?_
   refine tU 1 41 (take_ofW HT_.out HW_.out (by kernel_rfl)) hHeld ?_
   refine one_ (i := 3) (N := some 43) #[true, true, true, true, false, false, false, false, false, false] rfl rfl (one_of HT_.out (by kernel_rfl)) (by decide) (fun K hK => ?_)
   refine goes_ Tryd.func24 (by kernel_rfl) rfl #[.int .i64 x37_1] (by rfl) rfl rfl mT ?_
   with_reducible refine (strconv_Itoa_24.calls x37_1 t226 _ A19.out).mono ?_
   rintro e w' ⟨rfl, ⟨nd, rfl⟩⟩
   refine ⟨_, rfl, ?_⟩
   refine hK.out _ _ ⟨(blk_cell BK225.out 0).trans rfl, (blk_cell BK225.out 1).trans rfl, (blk_cell BK225.out 2).trans rfl⟩ (fun hHeld => ?_)
   clear hK K
   refine nU 43 ?_
   refine pU 4 44 (any_of HT_.out (by kernel_rfl)) ?_
   refine pU 5 45 (any_of HT_.out (by kernel_rfl)) ?_
   refine one_ (i := 6) (N := some 46) #[true, true, true, true, true, true, true, false, false, false] rfl rfl (one_of HT_.out (by kernel_rfl)) (by decide) (fun K hK => ?_)
   refine value_ (w1 := ?_) (v := ?_) (by rfl) rfl ?_ ?_
   rotate_left 2
   ·
    go_simp
    constructor
    ·
     rfl
    ·
     rfl
   refine hK.out _ _ ⟨(blk_cell (blk_alloc BK225.out _) 0).trans rfl, (blk_cell (blk_alloc BK225.out _) 1).trans rfl, (blk_cell (blk_alloc BK225.out _) 2).trans rfl⟩ (fun hHeld => ?_)
   clear hK K
   refine nU 46 ?_
   refine one_ (i := 7) (N := some 47) #[true, true, true, true, true, true, true, true, false, false] rfl rfl (one_of HT_.out (by kernel_rfl)) (by decide) (fun K hK => ?_)
   refine Kd.R_append_step k59 (w0 := w) w.heap.size (by rfl) (.tmp 41) (.tmp 46) 25 59 (.agg #[(.string ⟨#[]⟩), (.int .i64 0), (.int .i64 0)]) 32 rfl Tryd.underlying25 info59 rfl (by decide) (by omega) u226001 x226001_1 (⟨(⟨#[95, 112]⟩ : ByteArray) ++ t226, 0, 0⟩ : S59) [.string ((⟨#[95, 112]⟩ : ByteArray) ++ t226), .int .i64 0, .int .i64 0] (fun _ => True) (fun _ => False) rfl rfl ?aP (fun _ hk => hk.elim) ?aF ?aO ?aB ?aS ?aL ?_
   (case aP => exact k59_mkM _ _ _ (⟨(⟨#[95, 112]⟩ : ByteArray) ++ t226, 0, 0⟩ : S59))
   (case aB => exact (bB2 HB.out GE217.out GE225.out))
   (case aF => exact (fun _ _ => trivial))
   (case aO => exact (oR HO_226001.out))
   (case aS => exact (below_size (bB2 HB.out GE217.out GE225.out)))
   (case aL => have := LMc21.out; omega)
   intro v228 w23 ho hb hg hat
   rw [← Ny227.out] at ho; replace HO_4 := aM (Kd.R_over' (oR HO_4.out) (Kd.R_typed (oR HO_226001.out)) (by decide) hg); replace BK217 := aM (blk_grown (g := gb217) (o := .cells #[.string (⟨#[]⟩ : ByteArray), .slice none 0 0, .slice none 0 0] 28 (0, 0)) (kB BK217.out) hg (Kd.R_ne HO_226001.out BK217.out (by decide))); replace BK225 := aM (blk_grown (g := gb225) (o := .cells #[.string (⟨#[97, 108, 112, 104, 97]⟩ : ByteArray), u226001, .slice none 0 0] 28 (0, 0)) (kB BK225.out) hg (Kd.R_ne HO_226001.out BK225.out (by decide))); replace HB := aM (hb); have HO229 := aM (ho); clear HO_226001; clear ho hb hg hat; obtain ⟨Ao24, co24, eo24⟩ := Kd.R_slice HO229.out
   (first | subst eo24 | (injection eo24 with f1_ f2_ f3_; have f4_ := f1_.symm; have f5_ := f3_.symm; clear f1_ f2_ f3_; subst f4_; subst f5_))
   refine hK.out _ _ ⟨(blk_cell BK225.out 0).trans rfl, (blk_cell BK225.out 1).trans rfl, (blk_cell BK225.out 2).trans rfl⟩ (fun hHeld => ?_)
   clear hK K
   refine nU 47 ?_
   refine pU 8 48 (any_of HT_.out (by kernel_rfl)) ?_
   refine last_ (i := 9) (N := none) #[true, true, true, true, true, true, true, true, true, true] rfl rfl (one_of HT_.out (by kernel_rfl)) (by decide) (fun K hK => ?_)
   have hs25 : w23.cell? ⟨gb225, 1, none⟩ = some (u226001) := (blk_cell BK225.out 1).trans rfl
   have hfs25 := blk_frozen BK225.out 1; have hns25_0 := NB217_225.out; have hms25_0 := NB225_217.out
   refine skip_ (w1 := ?_) (by rfl) rfl ?_ ?_
   rotate_left
   ·
    go_simp
    rfl
   refine hK.out _ _ ?_
   clear hK K
   refine done_ (done_of HT_.out (by kernel_rfl)) ?_
   try go_wp2
   go_roundg k1
   case measure => have := HK1.out; omega
   case rel => exact ⟨(wrap64 (x37_1 + 1)), (y227), (.slice Ao24 y227.length co24), eT, H', ⟨by have := HK1.out; omega⟩, ⟨by refine oR ?_; exact tT HO_4.out BK225.out⟩, ⟨by refine oR ?_; exact tT HO229.out BK225.out⟩, ⟨bF BK217.out NB217_225.out⟩, ⟨bP BK225.out⟩, ⟨bB2 HB.out GE217.out GE225.out⟩⟩
  rw [if_neg c18] at H; have c18b0 := decide_eq_false c18; clear c18; obtain ⟨t230, A26, H⟩ := iB H; (try dsimp only at H); obtain ⟨t233, A27, H⟩ := iB H; (try dsimp only at H); obtain ⟨t236, A28, H⟩ := iB H; (try dsimp only at H)
  have H' := aM H
  clear H
  go_wp2_with (first | ((with_reducible refine gate_callee (f := 25) rfl ?_); refine gM (some 51) Tryd.func25 #[.slice A0 l0.length c0] ?_; (with_reducible refine (e_First.calls k1 _ _ l0 t230 _ ?side1 ?side2 A26.out).mono ?_); (case side1 => exact cB HR0.out HB.out); (case side2 => exact HC0.out); rintro e w29 ⟨v231, rfl, ho0, hb⟩; refine ⟨_, rfl, ?_⟩; replace HO_4 := aM (Kd.R_below (oR HO_4.out) hb); replace HO_226001 := aM (Kd.R_below (oR HO_226001.out) hb); have HO232 := aM (Kd.R_lower ho0 (below_size (bB2 HB.out GE217.out GE225.out))); replace BK217 := aM (kW BK217.out hb); replace BK225 := aM (kW BK225.out hb); replace HB := aM (below_step (bB2 HB.out GE217.out GE225.out) hb); clear hb ho0) | ((with_reducible refine gate_callee (f := 26) rfl ?_); refine gM (some 53) Tryd.func26 #[.slice A0 l0.length c0] ?_; (with_reducible refine (e_Last.calls k1 _ _ l0 t233 _ ?side1 ?side2 A27.out).mono ?_); (case side1 => exact cB HR0.out HB.out); (case side2 => exact HC0.out); rintro e w30 ⟨v234, rfl, ho0, hb⟩; refine ⟨_, rfl, ?_⟩; replace HO_4 := aM (Kd.R_below (oR HO_4.out) hb); replace HO_226001 := aM (Kd.R_below (oR HO_226001.out) hb); have HO235 := aM (Kd.R_lower (Kd.R_new' ho0 (Kd.R_lt (oR HO232.out))) (below_size (bB2 HB.out GE217.out GE225.out))); replace HO232 := aM (Kd.R_elder' (oR HO232.out) (Kd.R_base ho0) hb); replace BK217 := aM (kW BK217.out hb); replace BK225 := aM (kW BK225.out hb); replace HB := aM (below_step (bB2 HB.out GE217.out GE225.out) hb); clear hb ho0) | ((with_reducible refine gate_callee (f := 27) rfl ?_); refine gM (some 55) Tryd.func27 #[.slice A0 l0.length c0] ?_; (with_reducible refine (e_Activities.calls k1 _ _ l0 t236 _ ?side1 ?side2 A28.out).mono ?_); (case side1 => exact cB HR0.out HB.out); (case side2 => exact HC0.out); rintro e w31 ⟨v237, rfl, ho0, hb⟩; refine ⟨_, rfl, ?_⟩; replace HO_4 := aM (Kd.R_below (oR HO_4.out) hb); replace HO_226001 := aM (Kd.R_below (oR HO_226001.out) hb); have HO238 := aM (Kd.R_lower (Kd.R_new' (Kd.R_new' ho0 (Kd.R_lt (oR HO232.out))) (Kd.R_lt (oR HO235.out))) (below_size (bB2 HB.out GE217.out GE225.out))); replace HO232 := aM (Kd.R_elder' (oR HO232.out) (Kd.R_base ho0) hb); replace HO235 := aM (Kd.R_elder' (oR HO235.out) (Kd.R_base ho0) hb); replace BK217 := aM (kW BK217.out hb); replace BK225 := aM (kW BK225.out hb); replace HB := aM (below_step (bB2 HB.out GE217.out GE225.out) hb); clear hb ho0; obtain ⟨Ao32, co32, eo32⟩ := Kd.R_slice HO238.out; subst eo32))
  go_loopg [57] k1 (fun kq v57 w' => ∃ (x57_2 : Int) (x218000_2 : ByteArray) (x226002_2 : List (S41)) (u226002 : Value), v57 = .int .i64 x57_2 ∧ Aside0 (d_Alpha.l1 kq t218 t230 t233 t236 (t236.length : Int) x57_2 (⟨#[97, 108, 112, 104, 97]⟩ : ByteArray) x226001_1 x226002_2 = some (r1, r2, r3, r4)) ∧ Aside0 (kq ≤ k1) ∧ Aside0 (Kd.R k57 57 w' w.heap.size (fun _ => True) (.slice Ao11 t218.length co11) t218) ∧ Aside0 (Kd.R Kd.string 9 w' w.heap.size (fun k_ => some k_ ≠ (v234 : Value).ownBlock ∧ some k_ ≠ ((.slice Ao32 t236.length co32) : Value).ownBlock) v231 t230) ∧ Aside0 (Kd.R Kd.string 9 w' w.heap.size (fun k_ => some k_ ≠ (v231 : Value).ownBlock ∧ some k_ ≠ ((.slice Ao32 t236.length co32) : Value).ownBlock) v234 t233) ∧ Aside0 (Kd.R Kd.string 9 w' w.heap.size (fun k_ => some k_ ≠ (v231 : Value).ownBlock ∧ some k_ ≠ (v234 : Value).ownBlock) (.slice Ao32 t236.length co32) t236) ∧ Aside0 (Kd.R k59 59 w' w.heap.size (fun _ => True) u226001 x226001_1) ∧ Aside0 (Kd.S k41 41 w' w.heap.size (fun _ => True) u226002 x226002_2) ∧ Aside0 (w'.heap[gb217]? = some (.cells #[.string x218000_2, (.slice none 0 0), (.slice none 0 0)] 28 (0, 0))) ∧ Aside0 (w'.heap[gb225]? = some (.cells #[.string (⟨#[97, 108, 112, 104, 97]⟩ : ByteArray), u226001, u226002] 28 (0, 0))) ∧ Aside0 (Below w.heap.size w w'))
  case atStart => exact ⟨(0), ((⟨#[]⟩ : ByteArray)), (([] : List (S41))), (.slice none 0 0), eT, H', ⟨Nat.le_refl _⟩, ⟨oR HO_4.out⟩, ⟨by refine oR ?_; exact Kd.R_mono HO232.out (fun _ hk => ⟨hk.1.2, hk.2⟩)⟩, ⟨by refine oR ?_; exact Kd.R_mono HO235.out (fun _ hk => ⟨hk.1.2, hk.2⟩)⟩, ⟨by refine oR ?_; exact Kd.R_mono HO238.out (fun _ hk => ⟨hk.1.2, hk.2⟩)⟩, ⟨oR HO_226001.out⟩, ⟨nT⟩, ⟨kB BK217.out⟩, ⟨kB BK225.out⟩, ⟨bB2 HB.out GE217.out GE225.out⟩⟩
  clear H'; obtain ⟨x57_2, x218000_2, x226002_2, u226002, rfl, HA, HK2, HO_4, HO_8, HO_9, HO_55, HO_226001, HO_226002, BK217, BK225, HB⟩ := hrel
  cases gk with
  | zero => exact absurd HA.out (by simp [d_Alpha.l1])
  | succ k2 =>
   have H := HA.out; clear HA
   simp only [d_Alpha.l1] at H
   by_cases c33 : x57_2 < (t236.length : Int)
   rotate_left
   ·
    rw [if_neg c33] at H
    have c33b0 := decide_eq_false c33; clear c33
    simp only [Option.some.injEq, Prod.mk.injEq] at H
    obtain ⟨rfl, rfl, rfl, rfl⟩ := H; have hnb145 := NB225_217.out; have hnc145 := NB217_225.out
    have hcz146_0 : wr.cell? ⟨gb225, 0, none⟩ = some (.string (⟨#[97, 108, 112, 104, 97]⟩ : ByteArray)) := (blk_cell BK225.out 0).trans rfl
    have hcz146_1 : wr.cell? ⟨gb225, 1, none⟩ = some (u226001) := (blk_cell BK225.out 1).trans rfl
    have hcz146_2 : wr.cell? ⟨gb225, 2, none⟩ = some (u226002) := (blk_cell BK225.out 2).trans rfl
    have hfz146_0 := blk_frozen BK225.out 0; have hfz146_1 := blk_frozen BK225.out 1; have hfz146_2 := blk_frozen BK225.out 2
    have hcz147_0 : wr.cell? ⟨gb217, 0, none⟩ = some (.string x218000_2) := (blk_cell BK217.out 0).trans rfl
    have hcz147_1 : wr.cell? ⟨gb217, 1, none⟩ = some (.slice none 0 0) := (blk_cell BK217.out 1).trans rfl
    have hcz147_2 : wr.cell? ⟨gb217, 2, none⟩ = some (.slice none 0 0) := (blk_cell BK217.out 2).trans rfl
    have hfz147_0 := blk_frozen BK217.out 0; have hfz147_1 := blk_frozen BK217.out 1; have hfz147_2 := blk_frozen BK217.out 2; obtain ⟨Ao148, co148, eo148⟩ := Kd.R_slice HO_226001.out; subst eo148; obtain ⟨Ao149, co149, eo149⟩ := Kd.S_slice HO_226002.out; subst eo149
    go_wp2
    refine bodyPost_ret (results_ct rfl _ _ gb217 28 #[.string (⟨#[97, 108, 112, 104, 97]⟩ : ByteArray), .slice Ao148 x226001_1.length co148, .slice Ao149 x226002_2.length co149] (0, 0) _ rfl (bP BK217.out) Tryd.underlying28 rfl (by kernel_rfl)) rfl ?_
    exact ⟨_, _, rT, by refine oR ?_; exact tT HO_226001.out BK217.out, by refine oS ?_; exact sT HO_226002.out BK217.out, bB2 HB.out GE217.out GE225.out⟩
   rw [if_pos c33] at H; have c33b0 := decide_eq_true c33; clear c33
   obtain ⟨c34, H⟩ := iP H; have c34b0 := decide_eq_true c34; clear c34
   obtain ⟨c35, H⟩ := iP H; have c35b0 := decide_eq_true c35; clear c35
   have H' := aM H
   clear H; have p239 : 0 ≤ (x57_2 : Int) := dT; have q239 : x57_2 < (t236.length : Int) := dT
   try (obtain ⟨Aoz239, coz239, eoz239⟩ := Kd.R_slice HO_55.out; subst eoz239)
   obtain ⟨ad239, e239, hx239_0⟩ := Kd.at_string (Kd.R_reads' HO_55.out).2.2 x57_2 p239 q239; cases e239; replace p239 := eq_true p239; replace q239 := eq_true q239; have hnb36 := NB225_217.out; have hnc36 := NB217_225.out
   have hcz37_0 : wr.cell? ⟨gb225, 0, none⟩ = some (.string (⟨#[97, 108, 112, 104, 97]⟩ : ByteArray)) := (blk_cell BK225.out 0).trans rfl
   have hcz37_1 : wr.cell? ⟨gb225, 1, none⟩ = some (u226001) := (blk_cell BK225.out 1).trans rfl
   have hcz37_2 : wr.cell? ⟨gb225, 2, none⟩ = some (u226002) := (blk_cell BK225.out 2).trans rfl
   have hfz37_0 := blk_frozen BK225.out 0; have hfz37_1 := blk_frozen BK225.out 1; have hfz37_2 := blk_frozen BK225.out 2; obtain ⟨Ao38, co38, eo38⟩ := Kd.R_slice HO_226001.out; subst eo38
   go_wp2
   go_loopg [65] k2 (fun kq v65 w' => ∃ (x65_3 : Int) (x218000_3 : ByteArray), v65 = .int .i64 x65_3 ∧ Aside0 (d_Alpha.l2 kq t218 t230 t233 x57_2 (rdOf ByteArray.empty t236 x57_2) t236 (t236.length : Int) x57_2 x226001_1 (x226001_1.length : Int) x65_3 (⟨#[97, 108, 112, 104, 97]⟩ : ByteArray) x226001_1 x226002_2 = some (r1, r2, r3, r4)) ∧ Aside0 (kq ≤ k2) ∧ Aside0 (Kd.R k57 57 w' w.heap.size (fun _ => True) (.slice Ao11 t218.length co11) t218) ∧ Aside0 (Kd.R Kd.string 9 w' w.heap.size (fun k_ => some k_ ≠ (v234 : Value).ownBlock ∧ some k_ ≠ ((.slice (some ad239) t236.length co32) : Value).ownBlock) v231 t230) ∧ Aside0 (Kd.R Kd.string 9 w' w.heap.size (fun k_ => some k_ ≠ (v231 : Value).ownBlock ∧ some k_ ≠ ((.slice (some ad239) t236.length co32) : Value).ownBlock) v234 t233) ∧ Aside0 (Kd.R Kd.string 9 w' w.heap.size (fun k_ => some k_ ≠ (v231 : Value).ownBlock ∧ some k_ ≠ (v234 : Value).ownBlock) (.slice (some ad239) t236.length co32) t236) ∧ Aside0 (Kd.R k59 59 w' w.heap.size (fun _ => True) (.slice Ao38 x226001_1.length co38) x226001_1) ∧ Aside0 (Kd.R k59 59 w' w.heap.size (fun _ => True) (.slice Ao38 x226001_1.length co38) x226001_1) ∧ Aside0 (Kd.S k41 41 w' w.heap.size (fun _ => True) u226002 x226002_2) ∧ Aside0 (w'.heap[gb217]? = some (.cells #[.string x218000_3, (.slice none 0 0), (.slice none 0 0)] 28 (0, 0))) ∧ Aside0 (w'.heap[gb225]? = some (.cells #[.string (⟨#[97, 108, 112, 104, 97]⟩ : ByteArray), (.slice Ao38 x226001_1.length co38), u226002] 28 (0, 0))) ∧ Aside0 (Below w.heap.size w w'))
   case atStart => exact ⟨(0), (x218000_2), eT, H', ⟨Nat.le_refl _⟩, ⟨oR HO_4.out⟩, ⟨oR HO_8.out⟩, ⟨oR HO_9.out⟩, ⟨oR HO_55.out⟩, ⟨oR HO_226001.out⟩, ⟨oR HO_226001.out⟩, ⟨oS HO_226002.out⟩, ⟨kB BK217.out⟩, ⟨kB BK225.out⟩, ⟨bB2 HB.out GE217.out GE225.out⟩⟩
   clear H'
   try clear hx2
   try clear hx23
   try clear hx239_0
   obtain ⟨x65_3, x218000_3, rfl, HA, HK3, HO_4, HO_8, HO_9, HO_55, HO_63, HO_226001, HO_226002, BK217, BK225, HB⟩ := hrel
   cases gk with
   | zero => exact absurd HA.out (by simp [d_Alpha.l2])
   | succ k3 =>
    have H := HA.out; clear HA
    simp only [d_Alpha.l2] at H
    by_cases c39 : x65_3 < (x226001_1.length : Int)
    ·
     rw [if_pos c39] at H
     have c39b0 := decide_eq_true c39; clear c39
     obtain ⟨c40, H⟩ := iP H; have c40b0 := decide_eq_true c40; clear c40
     obtain ⟨c41, H⟩ := iP H; have c41b0 := decide_eq_true c41; clear c41
     by_cases c42 : ((rd_T59 x226001_1 x65_3).f0).toList = (rdOf ByteArray.empty t236 x57_2).toList
     ·
      rw [if_pos c42] at H
      have c42b0 : (((rd_T59 x226001_1 x65_3).f0).toList == (rdOf ByteArray.empty t236 x57_2).toList) = true := beq_iff_eq.mpr c42; have c42b1 : (((rd_T59 x226001_1 x65_3).f0).toList != (rdOf ByteArray.empty t236 x57_2).toList) = false := bne_eq_false_iff_eq.mpr c42; clear c42
      simp only [Option.some.injEq, Prod.mk.injEq] at H
      obtain ⟨rfl, rfl, rfl, rfl⟩ := H; have p240 : 0 ≤ (x65_3 : Int) := dT; have q240 : x65_3 < (x226001_1.length : Int) := dT
      try (obtain ⟨Aoz240, coz240, eoz240⟩ := Kd.R_slice HO_63.out; subst eoz240)
      obtain ⟨ad240, e240, hx240_0, hx240_1, hx240_2⟩ := at_T59 (Kd.R_reads' HO_63.out).2.2 x65_3 p240 q240; cases e240; replace p240 := eq_true p240; replace q240 := eq_true q240
      go_wp2_with (first | ((with_reducible refine gate_dst (N := 13) rfl ?_); refine bX 13 (cs := #[.string (⟨#[]⟩ : ByteArray), .int .i64 0, .int .i64 0]) (t := 59) ?_; intro gb241 hg w43 hbox hb; replace HO_4 := aM (Kd.R_below (oR HO_4.out) hb); replace HO_8 := aM (Kd.R_below (oR HO_8.out) hb); replace HO_9 := aM (Kd.R_below (oR HO_9.out) hb); replace HO_55 := aM (Kd.R_below (oR HO_55.out) hb); replace HO_63 := aM (Kd.R_below (Kd.R_elderB (oR HO_63.out) gb241 (Nat.le_of_eq hg.symm)) hb); replace HO_226001 := aM (Kd.R_below (Kd.R_elderB (oR HO_226001.out) gb241 (Nat.le_of_eq hg.symm)) hb); replace HO_226002 := aM (Kd.S_below (oS HO_226002.out) hb); have BK241 := aM (hbox); have GW241 := aM (gE hg (below_size (bB2 HB.out GE217.out GE225.out))); have GE241 := GW241; replace HB := aM (below_step (bB2 HB.out GE217.out GE225.out) hb); have NB217_241 := aM (gL hg (kL BK217.out)); have NB241_217 := aM (gG hg (kL BK217.out)); replace BK217 := aM (kW BK217.out hb); have NB225_241 := aM (gL hg (kL BK225.out)); have NB241_225 := aM (gG hg (kL BK225.out)); replace BK225 := aM (kW BK225.out hb); clear hb hbox hg; have hnb44 := NB241_217.out; have hnc44 := NB217_241.out; have hnb45 := NB241_225.out; have hnc45 := NB225_241.out; obtain ⟨hcz46_0, hcz46_1, hcz46_2, hfz46_0, hfz46_1, hfz46_2⟩ := cd3 BK241.out; have hnb47 := NB217_225.out; have hnc47 := NB225_217.out; obtain ⟨hcz48_0, hcz48_1, hcz48_2, hfz48_0, hfz48_1, hfz48_2⟩ := cd3 BK217.out))
      refine bodyPost_ret (results_ct rfl _ _ gb217 28 #[.string (⟨#[]⟩ : ByteArray), .slice none 0 0, .slice none 0 0] (0, 0) _ rfl (by refine kR ?_; refine blk_put (cs := #[.string (⟨#[]⟩ : ByteArray), .slice none 0 0, .slice none 0 0]) ?_ 2 _ rfl; refine kR ?_; refine blk_put (cs := #[.string (⟨#[]⟩ : ByteArray), .slice none 0 0, .slice none 0 0]) ?_ 1 _ rfl; refine kR ?_; refine blk_put (cs := #[.string x218000_3, .slice none 0 0, .slice none 0 0]) ?_ 0 _ rfl; refine kR ?_; refine blk_far ?_ NB217_241.out _; refine kR ?_; refine blk_far ?_ NB217_241.out _; refine kR ?_; refine blk_far ?_ NB217_241.out _; refine kR ?_; exact BK217.out) Tryd.underlying28 rfl (by kernel_rfl)) rfl ?_
      exact ⟨_, _, rT, nT, nT, bB3 HB.out GE217.out GE225.out GE241.out⟩
     rw [if_neg c42] at H; have c42b0 : (((rd_T59 x226001_1 x65_3).f0).toList == (rdOf ByteArray.empty t236 x57_2).toList) = false := beq_eq_false_iff_ne.mpr c42; have c42b1 : (((rd_T59 x226001_1 x65_3).f0).toList != (rdOf ByteArray.empty t236 x57_2).toList) = true := bne_iff_ne.mpr c42
     have H' := aM H
     clear H; have p240 : 0 ≤ (x65_3 : Int) := dT; have q240 : x65_3 < (x226001_1.length : Int) := dT
     try (obtain ⟨Aoz240, coz240, eoz240⟩ := Kd.R_slice HO_63.out; subst eoz240)
     obtain ⟨ad240, e240, hx240_0, hx240_1, hx240_2⟩ := at_T59 (Kd.R_reads' HO_63.out).2.2 x65_3 p240 q240; cases e240; replace p240 := eq_true p240; replace q240 := eq_true q240
     go_wp2_with (first | ((with_reducible refine gate_dst (N := 13) rfl ?_); refine bX 13 (cs := #[.string (⟨#[]⟩ : ByteArray), .int .i64 0, .int .i64 0]) (t := 59) ?_; intro gb241 hg w49 hbox hb; replace HO_4 := aM (Kd.R_below (oR HO_4.out) hb); replace HO_8 := aM (Kd.R_below (oR HO_8.out) hb); replace HO_9 := aM (Kd.R_below (oR HO_9.out) hb); replace HO_55 := aM (Kd.R_below (oR HO_55.out) hb); replace HO_63 := aM (Kd.R_below (Kd.R_elderB (oR HO_63.out) gb241 (Nat.le_of_eq hg.symm)) hb); replace HO_226001 := aM (Kd.R_below (Kd.R_elderB (oR HO_226001.out) gb241 (Nat.le_of_eq hg.symm)) hb); replace HO_226002 := aM (Kd.S_below (oS HO_226002.out) hb); have BK241 := aM (hbox); have GW241 := aM (gE hg (below_size (bB2 HB.out GE217.out GE225.out))); have GE241 := GW241; replace HB := aM (below_step (bB2 HB.out GE217.out GE225.out) hb); have NB217_241 := aM (gL hg (kL BK217.out)); have NB241_217 := aM (gG hg (kL BK217.out)); replace BK217 := aM (kW BK217.out hb); have NB225_241 := aM (gL hg (kL BK225.out)); have NB241_225 := aM (gG hg (kL BK225.out)); replace BK225 := aM (kW BK225.out hb); clear hb hbox hg; have hnb50 := NB241_217.out; have hnc50 := NB217_241.out; have hnb51 := NB241_225.out; have hnc51 := NB225_241.out; obtain ⟨hcz52_0, hcz52_1, hcz52_2, hfz52_0, hfz52_1, hfz52_2⟩ := cd3 BK241.out))
     go_roundg k3
     case measure => have := HK1.out; have := HK2.out; have := HK3.out; omega
     case rel => exact ⟨(wrap64 (x65_3 + 1)), (x218000_3), eT, H', ⟨by have := HK1.out; have := HK2.out; have := HK3.out; omega⟩, ⟨by refine oR ?_; exact tT HO_4.out BK241.out⟩, ⟨by refine oR ?_; exact tM HO_8.out BK241.out (fun _ hk => ⟨hk.1.1, hk.1.2⟩)⟩, ⟨by refine oR ?_; exact tM HO_9.out BK241.out (fun _ hk => ⟨hk.1.1, hk.1.2⟩)⟩, ⟨by refine oR ?_; exact tM HO_55.out BK241.out (fun _ hk => ⟨hk.1.1, hk.1.2⟩)⟩, ⟨by refine oR ?_; exact Kd.R_mono (Kd.R_far (p := ⟨gb241, 2, none⟩) (Kd.R_far (p := ⟨gb241, 1, none⟩) (Kd.R_far (p := ⟨gb241, 0, none⟩) (Kd.R_mono HO_63.out (fun k_ hk => (⟨hk, hk.2⟩ : _ ∧ k_ ≠ gb241))) (fun _ hk => hk.2) (.string ((rd_T59 x226001_1 x65_3).f0))) (fun _ hk => hk.2) (.int .i64 ((rd_T59 x226001_1 x65_3).f1))) (fun _ hk => hk.2) (.int .i64 ((rd_T59 x226001_1 x65_3).f2))) (fun _ hk => trivial)⟩, ⟨by refine oR ?_; exact Kd.R_mono (Kd.R_far (p := ⟨gb241, 2, none⟩) (Kd.R_far (p := ⟨gb241, 1, none⟩) (Kd.R_far (p := ⟨gb241, 0, none⟩) (Kd.R_mono HO_226001.out (fun k_ hk => (⟨hk, hk.2⟩ : _ ∧ k_ ≠ gb241))) (fun _ hk => hk.2) (.string ((rd_T59 x226001_1 x65_3).f0))) (fun _ hk => hk.2) (.int .i64 ((rd_T59 x226001_1 x65_3).f1))) (fun _ hk => hk.2) (.int .i64 ((rd_T59 x226001_1 x65_3).f2))) (fun _ hk => trivial)⟩, ⟨by refine oS ?_; exact sT HO_226002.out BK241.out⟩, ⟨bF BK217.out NB217_241.out⟩, ⟨bF BK225.out NB225_241.out⟩, ⟨bB3 HB.out GE217.out GE225.out GE241.out⟩⟩
    rw [if_neg c39] at H; have c39b0 := decide_eq_false c39; clear c39; obtain ⟨t243, A53, H⟩ := iB H; (try dsimp only at H); have HC54 := aM H; clear H
    go_upto_if 79 with (first | ((with_reducible refine gate_dst (N := 14) rfl ?_); refine bX 14 (cs := #[.string (⟨#[]⟩ : ByteArray), .slice none 0 0, .slice none 0 0, .slice none 0 0, .int .i64 0]) (t := 41) ?_; intro gb242 hg w55 hbox hb; replace HO_4 := aM (Kd.R_below (oR HO_4.out) hb); replace HO_8 := aM (Kd.R_below (oR HO_8.out) hb); replace HO_9 := aM (Kd.R_below (oR HO_9.out) hb); replace HO_55 := aM (Kd.R_below (oR HO_55.out) hb); replace HO_63 := aM (Kd.R_below (oR HO_63.out) hb); replace HO_226001 := aM (Kd.R_below (oR HO_226001.out) hb); replace HO_226002 := aM (Kd.S_below (Kd.S_elderB (oS HO_226002.out) gb242 (Nat.le_of_eq hg.symm)) hb); have BK242 := aM (hbox); have GW242 := aM (gE hg (below_size (bB2 HB.out GE217.out GE225.out))); have GE242 := GW242; replace HB := aM (below_step (bB2 HB.out GE217.out GE225.out) hb); have NB217_242 := aM (gL hg (kL BK217.out)); have NB242_217 := aM (gG hg (kL BK217.out)); replace BK217 := aM (kW BK217.out hb); have NB225_242 := aM (gL hg (kL BK225.out)); have NB242_225 := aM (gG hg (kL BK225.out)); replace BK225 := aM (kW BK225.out hb); clear hb hbox hg; have hnb56 := NB242_217.out; have hnc56 := NB217_242.out; have hnb57 := NB242_225.out; have hnc57 := NB225_242.out; obtain ⟨hcz58_0, hcz58_1, hcz58_2, hcz58_3, hcz58_4, hfz58_0, hfz58_1, hfz58_2, hfz58_3, hfz58_4⟩ := cd5 BK242.out; obtain ⟨Ao59, co59, eo59⟩ := Kd.R_slice HO_8.out; subst eo59) | ((with_reducible refine gate_callee (f := 28) rfl ?_); refine gM (some 79) Tryd.func28 #[.slice Ao59 t230.length co59, .string (rdOf ByteArray.empty t236 x57_2)] ?_; (with_reducible refine (d_among.calls k3 _ _ t230 (rdOf ByteArray.empty t236 x57_2) t243 _ ?side1 ?side2 A53.out).mono ?_); (case side1 => refine (Kd.R_reads' (e := 9) (base := w.heap.size) (ok := fun k_ => (some k_ ≠ (v234 : Value).ownBlock ∧ some k_ ≠ (.slice (some ad239) t236.length co32 : Value).ownBlock)) (n := t230.length) (c := co59) ?_).2.2; exact (by refine oR ?_; exact (tR HO_8.out BK242.out))); (case side2 => exact (Kd.R_reads' HO_8.out).2.1); rintro e w' ⟨rfl, ⟨nd, rfl⟩⟩; refine ⟨_, rfl, ?_⟩))
    (try simp only [Act.put, List.setIfInBounds_toArray, List.set_cons_zero, List.set_cons_succ])
    go_cut [] (fun wc => ∃ (kq : Nat) (x243001_53 : List (S62)) (u243001 : Value), Aside0 (d_Alpha.j3 kq t218 t230 t233 x57_2 (rdOf ByteArray.empty t236 x57_2) t236 (t236.length : Int) x57_2 (⟨#[97, 108, 112, 104, 97]⟩ : ByteArray) x226001_1 x226002_2 (rdOf ByteArray.empty t236 x57_2) x243001_53 0 = some (r1, r2, r3, r4)) ∧ Aside0 (kq ≤ k3) ∧ Aside0 (Kd.R k57 57 wc w.heap.size (fun _ => True) (.slice Ao11 t218.length co11) t218) ∧ Aside0 (Kd.R Kd.string 9 wc w.heap.size (fun k_ => some k_ ≠ (v234 : Value).ownBlock ∧ some k_ ≠ ((.slice (some ad239) t236.length co32) : Value).ownBlock) (.slice Ao59 t230.length co59) t230) ∧ Aside0 (Kd.R Kd.string 9 wc w.heap.size (fun k_ => some k_ ≠ ((.slice Ao59 t230.length co59) : Value).ownBlock ∧ some k_ ≠ ((.slice (some ad239) t236.length co32) : Value).ownBlock) v234 t233) ∧ Aside0 (Kd.R Kd.string 9 wc w.heap.size (fun k_ => some k_ ≠ ((.slice Ao59 t230.length co59) : Value).ownBlock ∧ some k_ ≠ (v234 : Value).ownBlock) (.slice (some ad239) t236.length co32) t236) ∧ Aside0 (Kd.R k59 59 wc w.heap.size (fun _ => True) (.slice Ao38 x226001_1.length co38) x226001_1) ∧ Aside0 (Kd.S k41 41 wc w.heap.size (fun k_ => some k_ ≠ (u243001 : Value).ownBlock ∧ k_ ≠ gb242) u226002 x226002_2) ∧ Aside0 (Kd.R k62 62 wc w.heap.size (fun _ => True) u243001 x243001_53) ∧ Aside0 (wc.heap[gb217]? = some (.cells #[.string x218000_3, (.slice none 0 0), (.slice none 0 0)] 28 (0, 0))) ∧ Aside0 (wc.heap[gb225]? = some (.cells #[.string (⟨#[97, 108, 112, 104, 97]⟩ : ByteArray), (.slice Ao38 x226001_1.length co38), u226002] 28 (0, 0))) ∧ Aside0 (wc.heap[gb242]? = some (.cells #[.string (rdOf ByteArray.empty t236 x57_2), u243001, (.slice none 0 0), (.slice none 0 0), .int .i64 0] 41 (0, 0))) ∧ Aside0 (Below w.heap.size w wc))
    case first =>
     have H := HC54.out; clear HC54
     by_cases c60 : t243 = true
     rotate_left
     ·
      replace c60 := Bool.eq_false_iff.mpr c60
      subst c60
      have H1 : (d_Alpha.j3 k3 t218 t230 t233 x57_2 (rdOf ByteArray.empty t236 x57_2) t236 (t236.length : Int) x57_2 (⟨#[97, 108, 112, 104, 97]⟩ : ByteArray) x226001_1 x226002_2 (rdOf ByteArray.empty t236 x57_2) ([] : List (S62)) 0) = some (r1, r2, r3, r4) := by rw [if_neg (show ¬ (false = true) by decide)] at H; exact H
      clear H; have H := H1; clear H1
      have H' := aM H
      clear H
      go_wp2
      go_meet
      case rel => exact ⟨_, (([] : List (S62))), (.slice none 0 0), H', ⟨by have := HK1.out; have := HK2.out; have := HK3.out; first | omega | exact Nat.le_refl _⟩, ⟨by refine oR ?_; exact tT HO_4.out BK242.out⟩, ⟨by refine oR ?_; exact tM HO_8.out BK242.out (fun _ hk => ⟨hk.1.1, hk.1.2⟩)⟩, ⟨by refine oR ?_; exact tM HO_9.out BK242.out (fun _ hk => ⟨hk.1.1, hk.1.2⟩)⟩, ⟨by refine oR ?_; exact tM HO_55.out BK242.out (fun _ hk => ⟨hk.1.1, hk.1.2⟩)⟩, ⟨by refine oR ?_; exact tT HO_226001.out BK242.out⟩, ⟨by refine oS ?_; exact Kd.S_mono (Kd.S_far (p := ⟨gb242, 4, none⟩) (Kd.S_far (p := ⟨gb242, 3, none⟩) (Kd.S_far (p := ⟨gb242, 2, none⟩) (Kd.S_far (p := ⟨gb242, 1, none⟩) (Kd.S_far (p := ⟨gb242, 0, none⟩) (Kd.S_mono HO_226002.out (fun k_ hk => (⟨hk, hk.2⟩ : _ ∧ k_ ≠ gb242))) (fun _ hk => hk.2) (.string (rdOf ByteArray.empty t236 x57_2))) (fun _ hk => hk.2) (.slice none 0 0)) (fun _ hk => hk.2) (.slice none 0 0)) (fun _ hk => hk.2) (.slice none 0 0)) (fun _ hk => hk.2) (.int .i64 0)) (fun _ hk => ⟨(by simp [Value.ownBlock]), hk.1.2⟩)⟩, ⟨nT⟩, ⟨bF BK217.out NB217_242.out⟩, ⟨bF BK225.out NB225_242.out⟩, ⟨bP BK242.out⟩, ⟨bB3 HB.out GE217.out GE225.out GE242.out⟩⟩
     subst c60
     have H1 : (if ([] : List (S62)).length < 8796093022208 then (d_Alpha.j3 k3 t218 t230 t233 x57_2 (rdOf ByteArray.empty t236 x57_2) t236 (t236.length : Int) x57_2 (⟨#[97, 108, 112, 104, 97]⟩ : ByteArray) x226001_1 x226002_2 (rdOf ByteArray.empty t236 x57_2) (([] : List (S62)) ++ [(⟨0, 1⟩ : S62)]) 0) else (none)) = some (r1, r2, r3, r4) := by rw [if_pos rfl] at H; exact H
     clear H; have H := H1; clear H1
     obtain ⟨c61, H⟩ := iP H; have LMc61 := aM c61; clear c61
     obtain ⟨y244, hy244⟩ : ∃ y_ : List (S62), y_ = (([] : List (S62)) ++ [(⟨0, 1⟩ : S62)]) := ⟨_, rfl⟩
     replace H : (d_Alpha.j3 k3 t218 t230 t233 x57_2 (rdOf ByteArray.empty t236 x57_2) t236 (t236.length : Int) x57_2 (⟨#[97, 108, 112, 104, 97]⟩ : ByteArray) x226001_1 x226002_2 (rdOf ByteArray.empty t236 x57_2) y244 0) = some (r1, r2, r3, r4) := yT hy244 H
     have Ny244 := aM hy244; clear hy244
     have H' := aM H
     clear H; have hnb62 := NB242_217.out; have hnc62 := NB217_242.out; have hnb63 := NB242_225.out; have hnc63 := NB225_242.out
     have hcz64_0 := cz0 BK242.out
     have hcz64_1 := cz1 BK242.out
     have hcz64_2 := cz2 BK242.out
     have hcz64_3 := cz3 BK242.out
     have hcz64_4 := cz4 BK242.out
     have hfz64_0 := blk_frozen BK242.out 0; have hfz64_1 := blk_frozen BK242.out 1; have hfz64_2 := blk_frozen BK242.out 2; have hfz64_3 := blk_frozen BK242.out 3; have hfz64_4 := blk_frozen BK242.out 4
     go_wp2_with (first | ((with_reducible refine gate_builtin (b := .append) (xs := #[.tmp 81, .tmp 83]) rfl ?_); at_builtin; refine Kd.R_append k62 (w0 := w) w.heap.size rfl (.tmp 81) (.tmp 83) 39 62 (.agg #[(.int .i64 0), (.int .i64 0)]) 16 rfl Tryd.underlying39 info62 rfl (by decide) (by omega) (.slice none 0 0) ([] : List (S62)) (⟨0, 1⟩ : S62) [.int .i64 0, .int .i64 1] (fun _ => True) (fun _ => False) rfl (by first | (go_simp; done) | (go_simp; rfl)) ?aP (fun _ hk => hk.elim) ?aF ?aO ?aB ?aS ?aL ?_; (case aP => exact k62_mkM _ _ _ (⟨0, 1⟩ : S62)); (case aB => exact (bB3 HB.out GE217.out GE225.out GE242.out)); (case aF => exact (fun _ _ => trivial)); (case aO => exact ((Kd.R_nil _ _ _ _ (fun _ => True)))); (case aS => exact (below_size (bB3 HB.out GE217.out GE225.out GE242.out))); (case aL => have := LMc61.out; omega); intro v245 w65 ho hb hg hat; rw [← Ny244.out] at ho; replace HO_4 := aM (Kd.R_grown (by refine oR ?_; exact (tR HO_4.out BK242.out)) hg (fun _ _ => by simp [Value.ownBlock])); replace HO_8 := aM (Kd.R_grown (by refine oR ?_; exact (tR HO_8.out BK242.out)) hg (fun _ _ => by simp [Value.ownBlock])); replace HO_9 := aM (Kd.R_grown (by refine oR ?_; exact (tR HO_9.out BK242.out)) hg (fun _ _ => by simp [Value.ownBlock])); replace HO_55 := aM (Kd.R_grown (by refine oR ?_; exact (tR HO_55.out BK242.out)) hg (fun _ _ => by simp [Value.ownBlock])); replace HO_63 := aM (Kd.R_grown (by refine oR ?_; exact (tR HO_63.out BK242.out)) hg (fun _ _ => by simp [Value.ownBlock])); replace HO_226001 := aM (Kd.R_grown (by refine oR ?_; exact (tR HO_226001.out BK242.out)) hg (fun _ _ => by simp [Value.ownBlock])); replace HO_226002 := aM (Kd.S_after (Kd.S_apart_nil (by refine oS ?_; exact (sU gb242 HO_226002.out))) hg hat); replace BK217 := aM (blk_grown (g := gb217) (o := .cells #[.string x218000_3, .slice none 0 0, .slice none 0 0] 28 (0, 0)) (bF BK217.out NB217_242.out) hg (by simp [Value.ownBlock])); replace BK225 := aM (blk_grown (g := gb225) (o := .cells #[.string (⟨#[97, 108, 112, 104, 97]⟩ : ByteArray), .slice Ao38 x226001_1.length co38, u226002] 28 (0, 0)) (bF BK225.out NB225_242.out) hg (by simp [Value.ownBlock])); replace BK242 := aM (blk_grown (g := gb242) (o := .cells #[.string (rdOf ByteArray.empty t236 x57_2), .slice none 0 0, .slice none 0 0, .slice none 0 0, .int .i64 0] 41 (0, 0)) (bP BK242.out) hg (by simp [Value.ownBlock])); replace HB := aM (hb); have HO246 := aM (ho); clear ho hb hg hat; obtain ⟨Ao66, co66, eo66⟩ := Kd.R_slice HO246.out; subst eo66; obtain ⟨hcz67_0, hcz67_1, hcz67_2, hcz67_3, hcz67_4, hfz67_0, hfz67_1, hfz67_2, hfz67_3, hfz67_4⟩ := cd5 BK242.out))
     go_meet
     case rel => exact ⟨_, (y244), (.slice Ao66 y244.length co66), H', ⟨by have := HK1.out; have := HK2.out; have := HK3.out; first | omega | exact Nat.le_refl _⟩, ⟨by refine oR ?_; exact tT HO_4.out BK242.out⟩, ⟨by refine oR ?_; exact tM HO_8.out BK242.out (fun _ hk => ⟨hk.1.1, hk.1.2⟩)⟩, ⟨by refine oR ?_; exact tM HO_9.out BK242.out (fun _ hk => ⟨hk.1.1, hk.1.2⟩)⟩, ⟨by refine oR ?_; exact tM HO_55.out BK242.out (fun _ hk => ⟨hk.1.1, hk.1.2⟩)⟩, ⟨by refine oR ?_; exact tT HO_226001.out BK242.out⟩, ⟨by refine oS ?_; exact Kd.S_mono (Kd.S_far (p := ⟨gb242, 1, none⟩) (Kd.S_mono HO_226002.out (fun k_ hk => (⟨hk, hk.1.2⟩ : _ ∧ k_ ≠ gb242))) (fun _ hk => hk.2) (.slice Ao66 y244.length co66)) (fun _ hk => ⟨hk.1.2, hk.1.1.2⟩)⟩, ⟨by refine oR ?_; exact tT HO246.out BK242.out⟩, ⟨bF BK217.out NB217_242.out⟩, ⟨bF BK225.out NB225_242.out⟩, ⟨bP BK242.out⟩, ⟨bB3 HB.out GE217.out GE225.out GE242.out⟩⟩
    clear HC54
    try clear hx2
    try clear hx23
    try clear hx24
    try clear hx239_0
    try clear hx240_0
    try clear hx240_1
    try clear hx240_2
    obtain ⟨kq, x243001_53, u243001, HA, HJ53, HO_4, HO_8, HO_9, HO_55, HO_226001, HO_226002, HO_243001, BK217, BK225, BK242, HB⟩ := hcut
    cases kq with
    | zero => exact absurd HA.out (by simp [d_Alpha.j3])
    | succ kj53 =>
     have H := HA.out; clear HA
     simp only [d_Alpha.j3] at H
     obtain ⟨t247, A68, H⟩ := iB H; (try dsimp only at H); have HC69 := aM H; clear H; obtain ⟨Ao70, co70, eo70⟩ := Kd.R_slice HO_9.out; subst eo70
     go_upto_if 88 with (first | ((with_reducible refine gate_callee (f := 28) rfl ?_); refine gM (some 88) Tryd.func28 #[.slice Ao70 t233.length co70, .string (rdOf ByteArray.empty t236 x57_2)] ?_; (with_reducible refine (d_among.calls kj53 _ _ t233 (rdOf ByteArray.empty t236 x57_2) t247 _ ?side1 ?side2 A68.out).mono ?_); (case side1 => repeat (first | exact (Kd.R_reads' HO_9.out).2.2 | (with_reducible refine Kd.C_alloc ?_ _) | (with_reducible refine Kd.C_drewN ?_ _) | (with_reducible refine Kd.C_drew ?_))); (case side2 => exact (Kd.R_reads' HO_9.out).2.1); rintro e w' ⟨rfl, ⟨nd, rfl⟩⟩; refine ⟨_, rfl, ?_⟩))
     (try simp only [Act.put, List.setIfInBounds_toArray, List.set_cons_zero, List.set_cons_succ])
     go_cut [] (fun wc => ∃ (kq : Nat) (x243002_68 : List (S62)) (u243002 : Value), Aside0 (d_Alpha.j4 kq t218 t230 t233 x57_2 t236 (t236.length : Int) x57_2 (⟨#[97, 108, 112, 104, 97]⟩ : ByteArray) x226001_1 x226002_2 (rdOf ByteArray.empty t236 x57_2) x243001_53 x243002_68 0 = some (r1, r2, r3, r4)) ∧ Aside0 (kq ≤ kj53) ∧ Aside0 (Kd.R k57 57 wc w.heap.size (fun _ => True) (.slice Ao11 t218.length co11) t218) ∧ Aside0 (Kd.R Kd.string 9 wc w.heap.size (fun k_ => some k_ ≠ ((.slice Ao70 t233.length co70) : Value).ownBlock ∧ some k_ ≠ ((.slice (some ad239) t236.length co32) : Value).ownBlock) (.slice Ao59 t230.length co59) t230) ∧ Aside0 (Kd.R Kd.string 9 wc w.heap.size (fun k_ => some k_ ≠ ((.slice Ao59 t230.length co59) : Value).ownBlock ∧ some k_ ≠ ((.slice (some ad239) t236.length co32) : Value).ownBlock) (.slice Ao70 t233.length co70) t233) ∧ Aside0 (Kd.R Kd.string 9 wc w.heap.size (fun k_ => some k_ ≠ ((.slice Ao59 t230.length co59) : Value).ownBlock ∧ some k_ ≠ ((.slice Ao70 t233.length co70) : Value).ownBlock) (.slice (some ad239) t236.length co32) t236) ∧ Aside0 (Kd.R k59 59 wc w.heap.size (fun _ => True) (.slice Ao38 x226001_1.length co38) x226001_1) ∧ Aside0 (Kd.S k41 41 wc w.heap.size (fun k_ => some k_ ≠ (u243001 : Value).ownBlock ∧ some k_ ≠ (u243002 : Value).ownBlock ∧ k_ ≠ gb242) u226002 x226002_2) ∧ Aside0 (Kd.R k62 62 wc w.heap.size (fun k_ => some k_ ≠ (u243002 : Value).ownBlock) u243001 x243001_53) ∧ Aside0 (Kd.R k62 62 wc w.heap.size (fun k_ => some k_ ≠ (u243001 : Value).ownBlock) u243002 x243002_68) ∧ Aside0 (wc.heap[gb217]? = some (.cells #[.string x218000_3, (.slice none 0 0), (.slice none 0 0)] 28 (0, 0))) ∧ Aside0 (wc.heap[gb225]? = some (.cells #[.string (⟨#[97, 108, 112, 104, 97]⟩ : ByteArray), (.slice Ao38 x226001_1.length co38), u226002] 28 (0, 0))) ∧ Aside0 (wc.heap[gb242]? = some (.cells #[.string (rdOf ByteArray.empty t236 x57_2), u243001, u243002, (.slice none 0 0), .int .i64 0] 41 (0, 0))) ∧ Aside0 (Below w.heap.size w wc))
     case first =>
      have H := HC69.out; clear HC69
      by_cases c71 : t247 = true
      rotate_left
      ·
       replace c71 := Bool.eq_false_iff.mpr c71
       subst c71
       have H1 : (d_Alpha.j4 kj53 t218 t230 t233 x57_2 t236 (t236.length : Int) x57_2 (⟨#[97, 108, 112, 104, 97]⟩ : ByteArray) x226001_1 x226002_2 (rdOf ByteArray.empty t236 x57_2) x243001_53 ([] : List (S62)) 0) = some (r1, r2, r3, r4) := by rw [if_neg (show ¬ (false = true) by decide)] at H; exact H
       clear H; have H := H1; clear H1
       have H' := aM H
       clear H
       go_wp2
       go_meet
       case rel => exact ⟨_, (([] : List (S62))), (.slice none 0 0), H', ⟨by have := HK1.out; have := HK2.out; have := HK3.out; have := HJ53.out; first | omega | exact Nat.le_refl _⟩, ⟨oR HO_4.out⟩, ⟨oR HO_8.out⟩, ⟨oR HO_9.out⟩, ⟨oR HO_55.out⟩, ⟨oR HO_226001.out⟩, ⟨by refine oS ?_; exact Kd.S_mono HO_226002.out (fun _ hk => ⟨hk.1, ⟨(by simp [Value.ownBlock]), hk.2⟩⟩)⟩, ⟨by refine oR ?_; exact Kd.R_mono HO_243001.out (fun _ hk => (by simp [Value.ownBlock]))⟩, ⟨nT⟩, ⟨kB BK217.out⟩, ⟨kB BK225.out⟩, ⟨kB BK242.out⟩, ⟨bB3 HB.out GE217.out GE225.out GE242.out⟩⟩
      subst c71
      have H1 : (if ([] : List (S62)).length < 8796093022208 then (d_Alpha.j4 kj53 t218 t230 t233 x57_2 t236 (t236.length : Int) x57_2 (⟨#[97, 108, 112, 104, 97]⟩ : ByteArray) x226001_1 x226002_2 (rdOf ByteArray.empty t236 x57_2) x243001_53 (([] : List (S62)) ++ [(⟨1, 1⟩ : S62)]) 0) else (none)) = some (r1, r2, r3, r4) := by rw [if_pos rfl] at H; exact H
      clear H; have H := H1; clear H1
      obtain ⟨c72, H⟩ := iP H; have LMc72 := aM c72; clear c72
      obtain ⟨y248, hy248⟩ : ∃ y_ : List (S62), y_ = (([] : List (S62)) ++ [(⟨1, 1⟩ : S62)]) := ⟨_, rfl⟩
      replace H : (d_Alpha.j4 kj53 t218 t230 t233 x57_2 t236 (t236.length : Int) x57_2 (⟨#[97, 108, 112, 104, 97]⟩ : ByteArray) x226001_1 x226002_2 (rdOf ByteArray.empty t236 x57_2) x243001_53 y248 0) = some (r1, r2, r3, r4) := yT hy248 H
      have Ny248 := aM hy248; clear hy248
      have H' := aM H
      clear H; have hnb73 := NB242_217.out; have hnc73 := NB217_242.out; have hnb74 := NB242_225.out; have hnc74 := NB225_242.out
      have hcz75_0 : wc.cell? ⟨gb242, 0, none⟩ = some (.string (rdOf ByteArray.empty t236 x57_2)) := (blk_cell BK242.out 0).trans rfl
      have hcz75_1 : wc.cell? ⟨gb242, 1, none⟩ = some (u243001) := (blk_cell BK242.out 1).trans rfl
      have hcz75_2 : wc.cell? ⟨gb242, 2, none⟩ = some (.slice none 0 0) := (blk_cell BK242.out 2).trans rfl
      have hcz75_3 : wc.cell? ⟨gb242, 3, none⟩ = some (.slice none 0 0) := (blk_cell BK242.out 3).trans rfl
      have hcz75_4 : wc.cell? ⟨gb242, 4, none⟩ = some (.int .i64 0) := (blk_cell BK242.out 4).trans rfl
      have hfz75_0 := blk_frozen BK242.out 0; have hfz75_1 := blk_frozen BK242.out 1; have hfz75_2 := blk_frozen BK242.out 2; have hfz75_3 := blk_frozen BK242.out 3; have hfz75_4 := blk_frozen BK242.out 4
      go_wp2_with (first | ((with_reducible refine gate_builtin (b := .append) (xs := #[.tmp 90, .tmp 92]) rfl ?_); at_builtin; refine Kd.R_append k62 (w0 := w) w.heap.size rfl (.tmp 90) (.tmp 92) 39 62 (.agg #[(.int .i64 0), (.int .i64 0)]) 16 rfl Tryd.underlying39 info62 rfl (by decide) (by omega) (.slice none 0 0) ([] : List (S62)) (⟨1, 1⟩ : S62) [.int .i64 1, .int .i64 1] (fun k_ => some k_ ≠ (u243001 : Value).ownBlock) (fun _ => False) rfl rfl ?aP (fun _ hk => hk.elim) ?aF ?aO ?aB ?aS ?aL ?_; (case aP => exact k62_mkM _ _ _ (⟨1, 1⟩ : S62)); (case aB => exact (bB3 HB.out GE217.out GE225.out GE242.out)); (case aF => exact (fun k_ hk => Kd.fresh' (Kd.R_lt (oR HO_243001.out)) k_ hk)); (case aO => exact ((Kd.R_nil _ _ _ _ (fun k_ => some k_ ≠ (u243001 : Value).ownBlock)))); (case aS => exact (below_size (bB3 HB.out GE217.out GE225.out GE242.out))); (case aL => have := LMc72.out; omega); intro v249 w76 ho hb hg hat; rw [← Ny248.out] at ho; replace HO_4 := aM (Kd.R_grown (oR HO_4.out) hg (fun _ _ => by simp [Value.ownBlock])); replace HO_8 := aM (Kd.R_grown (oR HO_8.out) hg (fun _ _ => by simp [Value.ownBlock])); replace HO_9 := aM (Kd.R_grown (oR HO_9.out) hg (fun _ _ => by simp [Value.ownBlock])); replace HO_55 := aM (Kd.R_grown (oR HO_55.out) hg (fun _ _ => by simp [Value.ownBlock])); replace HO_226001 := aM (Kd.R_grown (oR HO_226001.out) hg (fun _ _ => by simp [Value.ownBlock])); replace HO_226002 := aM (Kd.S_after (Kd.S_apart_nil (oS HO_226002.out)) hg hat); replace HO_243001 := aM (Kd.R_after (Kd.R_apart_nil (oR HO_243001.out)) hg hat); replace BK217 := aM (blk_grown (g := gb217) (o := .cells #[.string x218000_3, .slice none 0 0, .slice none 0 0] 28 (0, 0)) (kB BK217.out) hg (by simp [Value.ownBlock])); replace BK225 := aM (blk_grown (g := gb225) (o := .cells #[.string (⟨#[97, 108, 112, 104, 97]⟩ : ByteArray), .slice Ao38 x226001_1.length co38, u226002] 28 (0, 0)) (kB BK225.out) hg (by simp [Value.ownBlock])); replace BK242 := aM (blk_grown (g := gb242) (o := .cells #[.string (rdOf ByteArray.empty t236 x57_2), u243001, .slice none 0 0, .slice none 0 0, .int .i64 0] 41 (0, 0)) (kB BK242.out) hg (by simp [Value.ownBlock])); replace HB := aM (hb); have HO250 := aM (ho); clear ho hb hg hat; obtain ⟨Ao77, co77, eo77⟩ := Kd.R_slice HO250.out; subst eo77; obtain ⟨hcz78_0, hcz78_1, hcz78_2, hcz78_3, hcz78_4, hfz78_0, hfz78_1, hfz78_2, hfz78_3, hfz78_4⟩ := cd5 BK242.out))
      go_meet
      case rel => exact ⟨_, (y248), (.slice Ao77 y248.length co77), H', ⟨by have := HK1.out; have := HK2.out; have := HK3.out; have := HJ53.out; first | omega | exact Nat.le_refl _⟩, ⟨by refine oR ?_; exact tT HO_4.out BK242.out⟩, ⟨by refine oR ?_; exact tM HO_8.out BK242.out (fun _ hk => ⟨hk.1.1, hk.1.2⟩)⟩, ⟨by refine oR ?_; exact tM HO_9.out BK242.out (fun _ hk => ⟨hk.1.1, hk.1.2⟩)⟩, ⟨by refine oR ?_; exact tM HO_55.out BK242.out (fun _ hk => ⟨hk.1.1, hk.1.2⟩)⟩, ⟨by refine oR ?_; exact tT HO_226001.out BK242.out⟩, ⟨by refine oS ?_; exact Kd.S_mono (Kd.S_far (p := ⟨gb242, 2, none⟩) (Kd.S_mono HO_226002.out (fun k_ hk => (⟨hk, hk.1.2⟩ : _ ∧ k_ ≠ gb242))) (fun _ hk => hk.2) (.slice Ao77 y248.length co77)) (fun _ hk => ⟨hk.1.1.1, ⟨hk.1.2, hk.1.1.2⟩⟩)⟩, ⟨by refine oR ?_; exact tM HO_243001.out BK242.out (fun _ hk => hk.1.2)⟩, ⟨by refine oR ?_; exact tM HO250.out BK242.out (fun _ hk => hk.1)⟩, ⟨bF BK217.out NB217_242.out⟩, ⟨bF BK225.out NB225_242.out⟩, ⟨bP BK242.out⟩, ⟨bB3 HB.out GE217.out GE225.out GE242.out⟩⟩
     clear HC69
     try clear hx2
     try clear hx23
     try clear hx24
     try clear hx239_0
     try clear hx240_0
     try clear hx240_1
     try clear hx240_2
     obtain ⟨kq, x243002_68, u243002, HA, HJ68, HO_4, HO_8, HO_9, HO_55, HO_226001, HO_226002, HO_243001, HO_243002, BK217, BK225, BK242, HB⟩ := hcut
     cases kq with
     | zero => exact absurd HA.out (by simp [d_Alpha.j4])
     | succ kj68 =>
      have H := HA.out; clear HA
      simp only [d_Alpha.j4] at H
      have H' := aM H
      clear H
      go_wp2
      go_loopg [97] kj68 (fun kq v97 w' => ∃ (x97_6 : Int) (x243001_6 : List (S62)) (x243002_6 : List (S62)) (u243001 : Value) (u243002 : Value), v97 = .int .i64 x97_6 ∧ Aside0 (d_Alpha.l3 kq t218 t230 t233 x57_2 t236 (t236.length : Int) x57_2 t218 (t218.length : Int) x97_6 (⟨#[97, 108, 112, 104, 97]⟩ : ByteArray) x226001_1 x226002_2 (rdOf ByteArray.empty t236 x57_2) x243001_6 x243002_6 0 = some (r1, r2, r3, r4)) ∧ Aside0 (kq ≤ kj68) ∧ Aside0 (Kd.R k57 57 w' w.heap.size (fun _ => True) (.slice Ao11 t218.length co11) t218) ∧ Aside0 (Kd.R Kd.string 9 w' w.heap.size (fun k_ => some k_ ≠ ((.slice Ao70 t233.length co70) : Value).ownBlock ∧ some k_ ≠ ((.slice (some ad239) t236.length co32) : Value).ownBlock) (.slice Ao59 t230.length co59) t230) ∧ Aside0 (Kd.R Kd.string 9 w' w.heap.size (fun k_ => some k_ ≠ ((.slice Ao59 t230.length co59) : Value).ownBlock ∧ some k_ ≠ ((.slice (some ad239) t236.length co32) : Value).ownBlock) (.slice Ao70 t233.length co70) t233) ∧ Aside0 (Kd.R Kd.string 9 w' w.heap.size (fun k_ => some k_ ≠ ((.slice Ao59 t230.length co59) : Value).ownBlock ∧ some k_ ≠ ((.slice Ao70 t233.length co70) : Value).ownBlock) (.slice (some ad239) t236.length co32) t236) ∧ Aside0 (Kd.R k57 57 w' w.heap.size (fun _ => True) (.slice Ao11 t218.length co11) t218) ∧ Aside0 (Kd.R k59 59 w' w.heap.size (fun _ => True) (.slice Ao38 x226001_1.length co38) x226001_1) ∧ Aside0 (Kd.S k41 41 w' w.heap.size (fun k_ => some k_ ≠ (u243001 : Value).ownBlock ∧ some k_ ≠ (u243002 : Value).ownBlock ∧ k_ ≠ gb242) u226002 x226002_2) ∧ Aside0 (Kd.R k62 62 w' w.heap.size (fun k_ => some k_ ≠ (u243002 : Value).ownBlock) u243001 x243001_6) ∧ Aside0 (Kd.R k62 62 w' w.heap.size (fun k_ => some k_ ≠ (u243001 : Value).ownBlock) u243002 x243002_6) ∧ Aside0 (w'.heap[gb217]? = some (.cells #[.string x218000_3, (.slice none 0 0), (.slice none 0 0)] 28 (0, 0))) ∧ Aside0 (w'.heap[gb225]? = some (.cells #[.string (⟨#[97, 108, 112, 104, 97]⟩ : ByteArray), (.slice Ao38 x226001_1.length co38), u226002] 28 (0, 0))) ∧ Aside0 (w'.heap[gb242]? = some (.cells #[.string (rdOf ByteArray.empty t236 x57_2), u243001, u243002, (.slice none 0 0), .int .i64 0] 41 (0, 0))) ∧ Aside0 (Below w.heap.size w w'))
      case atStart => exact ⟨(0), (x243001_53), (x243002_68), (u243001), (u243002), eT, H', ⟨Nat.le_refl _⟩, ⟨oR HO_4.out⟩, ⟨oR HO_8.out⟩, ⟨oR HO_9.out⟩, ⟨oR HO_55.out⟩, ⟨oR HO_4.out⟩, ⟨oR HO_226001.out⟩, ⟨oS HO_226002.out⟩, ⟨oR HO_243001.out⟩, ⟨oR HO_243002.out⟩, ⟨kB BK217.out⟩, ⟨kB BK225.out⟩, ⟨kB BK242.out⟩, ⟨bB3 HB.out GE217.out GE225.out GE242.out⟩⟩
      clear H'
      try clear hx2
      try clear hx23
      try clear hx24
      try clear hx239_0
      try clear hx240_0
      try clear hx240_1
      try clear hx240_2
      obtain ⟨x97_6, x243001_6, x243002_6, u243001, u243002, rfl, HA, HK6, HO_4, HO_8, HO_9, HO_55, HO_95, HO_226001, HO_226002, HO_243001, HO_243002, BK217, BK225, BK242, HB⟩ := hrel
      cases gk with
      | zero => exact absurd HA.out (by simp [d_Alpha.l3])
      | succ k6 =>
       have H := HA.out; clear HA
       simp only [d_Alpha.l3] at H
       by_cases c79 : x97_6 < (t218.length : Int)
       rotate_left
       ·
        rw [if_neg c79] at H
        have c79b0 := decide_eq_false c79; clear c79
        obtain ⟨c134, H⟩ := iP H; have LMc134 := aM c134; clear c134
        obtain ⟨y251, hy251⟩ : ∃ y_ : List (S41), y_ = (x226002_2 ++ [(⟨(rdOf ByteArray.empty t236 x57_2), x243001_6, x243002_6, ([] : List (S62)), 0⟩ : S41)]) := ⟨_, rfl⟩
        replace H : (d_Alpha.l1 k6 t218 t230 t233 t236 (t236.length : Int) (wrap64 (x57_2 + 1)) (⟨#[97, 108, 112, 104, 97]⟩ : ByteArray) x226001_1 y251) = some (r1, r2, r3, r4) := yT hy251 H
        have Ny251 := aM hy251; clear hy251
        have H' := aM H
        clear H; have hnb135 := NB225_217.out; have hnc135 := NB217_225.out; have hnb136 := NB225_242.out; have hnc136 := NB242_225.out
        have hcz137_0 : wr.cell? ⟨gb225, 0, none⟩ = some (.string (⟨#[97, 108, 112, 104, 97]⟩ : ByteArray)) := (blk_cell BK225.out 0).trans rfl
        have hcz137_1 : wr.cell? ⟨gb225, 1, none⟩ = some (.slice Ao38 x226001_1.length co38) := (blk_cell BK225.out 1).trans rfl
        have hcz137_2 : wr.cell? ⟨gb225, 2, none⟩ = some (u226002) := (blk_cell BK225.out 2).trans rfl
        have hfz137_0 := blk_frozen BK225.out 0; have hfz137_1 := blk_frozen BK225.out 1; have hfz137_2 := blk_frozen BK225.out 2; have hnb138 := NB242_217.out; have hnc138 := NB217_242.out
        have hcz139_0 : wr.cell? ⟨gb242, 0, none⟩ = some (.string (rdOf ByteArray.empty t236 x57_2)) := (blk_cell BK242.out 0).trans rfl
        have hcz139_1 : wr.cell? ⟨gb242, 1, none⟩ = some (u243001) := (blk_cell BK242.out 1).trans rfl
        have hcz139_2 : wr.cell? ⟨gb242, 2, none⟩ = some (u243002) := (blk_cell BK242.out 2).trans rfl
        have hcz139_3 : wr.cell? ⟨gb242, 3, none⟩ = some (.slice none 0 0) := (blk_cell BK242.out 3).trans rfl
        have hcz139_4 : wr.cell? ⟨gb242, 4, none⟩ = some (.int .i64 0) := (blk_cell BK242.out 4).trans rfl
        have hfz139_0 := blk_frozen BK242.out 0; have hfz139_1 := blk_frozen BK242.out 1; have hfz139_2 := blk_frozen BK242.out 2; have hfz139_3 := blk_frozen BK242.out 3; have hfz139_4 := blk_frozen BK242.out 4; obtain ⟨Ao141, co141, eo141⟩ := Kd.R_slice HO_243001.out; subst eo141; obtain ⟨Ao142, co142, eo142⟩ := Kd.R_slice HO_243002.out; subst eo142
        go_wp2_with (first | ((with_reducible refine gate_builtin (b := .append) (xs := #[.tmp 128, .tmp 130]) rfl ?_); at_builtin; refine Kd.S_append k41 (w0 := w) w.heap.size rfl (.tmp 128) (.tmp 130) 26 41 (.agg #[(.string ⟨#[]⟩), (.slice none 0 0), (.slice none 0 0), (.slice none 0 0), (.int .i64 0)]) 96 rfl Tryd.underlying26 info41 rfl (by decide) (by omega) u226002 x226002_2 (⟨(rdOf ByteArray.empty t236 x57_2), x243001_6, x243002_6, ([] : List (S62)), 0⟩ : S41) [.string (rdOf ByteArray.empty t236 x57_2), .slice Ao141 x243001_6.length co141, .slice Ao142 x243002_6.length co142, .slice none 0 0, .int .i64 0] (fun k_ => k_ ≠ gb242) (fun k_ => some k_ = (.slice Ao141 x243001_6.length co141 : Value).ownBlock ∨ some k_ = (.slice Ao142 x243002_6.length co142 : Value).ownBlock) rfl rfl ?aP (fun k_ hk_ => hk_.elim (fun h_ => ((Kd.R_mono (ok' := fun k_ => ((fun k_ => k_ ≠ gb242)) k_ ∧ some k_ ≠ (u226002 : Value).ownBlock) (Kd.R_types (Kd.R_apart' (HO_243001.out) (Kd.S_typed HO_226002.out) (by decide)) BK242.out (by decide)) (fun k_ hk => ⟨hk.2, hk.1.2⟩))).1 k_ h_.symm) (fun h_ => ((Kd.R_mono (ok' := fun k_ => ((fun k_ => k_ ≠ gb242)) k_ ∧ some k_ ≠ (u226002 : Value).ownBlock) (Kd.R_types (Kd.R_apart' (HO_243002.out) (Kd.S_typed HO_226002.out) (by decide)) BK242.out (by decide)) (fun k_ hk => ⟨hk.2, hk.1.2⟩))).1 k_ h_.symm)) ?aF ?aO ?aB ?aS ?aL ?_; (case aP => exact k41_mkM _ _ _ (⟨(rdOf ByteArray.empty t236 x57_2), x243001_6, x243002_6, ([] : List (S62)), 0⟩ : S41) (Kd.R_mono (Kd.R_tight rfl (Kd.R_mono (ok' := fun k_ => ((fun k_ => k_ ≠ gb242)) k_ ∧ some k_ ≠ (u226002 : Value).ownBlock) (Kd.R_types (Kd.R_apart' (HO_243001.out) (Kd.S_typed HO_226002.out) (by decide)) BK242.out (by decide)) (fun k_ hk => ⟨hk.2, hk.1.2⟩))) (fun _ h_ => Or.inl h_)) (Kd.R_mono (Kd.R_tight rfl (Kd.R_mono (ok' := fun k_ => ((fun k_ => k_ ≠ gb242)) k_ ∧ some k_ ≠ (u226002 : Value).ownBlock) (Kd.R_types (Kd.R_apart' (HO_243002.out) (Kd.S_typed HO_226002.out) (by decide)) BK242.out (by decide)) (fun k_ hk => ⟨hk.2, hk.1.2⟩))) (fun _ h_ => Or.inr (h_))) (Kd.R_nil _ _ _ _ _)); (case aB => exact (bB3 HB.out GE217.out GE225.out GE242.out)); (case aF => exact (fun k_ hk => Kd.freshB (g := gb242) (o := .cells #[.string (rdOf ByteArray.empty t236 x57_2), .slice Ao141 x243001_6.length co141, .slice Ao142 x243002_6.length co142, .slice none 0 0, .int .i64 0] 41 (0, 0)) (kB BK242.out) k_ hk)); (case aO => exact (by refine oS ?_; exact Kd.S_mono HO_226002.out (fun k_ hk => ⟨hk.2.2, fun e_ => e_.elim (fun h_ => hk.1 h_) (fun h_ => hk.2.1 h_)⟩))); (case aS => exact (below_size (bB3 HB.out GE217.out GE225.out GE242.out))); (case aL => have := LMc134.out; omega); intro v252 w140 ho hb hg hat; rw [← Ny251.out] at ho; replace HO_4 := aM (Kd.R_over' (oR HO_4.out) (Kd.S_typed (oS HO_226002.out)) (by decide) hg); replace HO_8 := aM (Kd.R_over' (oR HO_8.out) (Kd.S_typed (oS HO_226002.out)) (by decide) hg); replace HO_9 := aM (Kd.R_over' (oR HO_9.out) (Kd.S_typed (oS HO_226002.out)) (by decide) hg); replace HO_55 := aM (Kd.R_over' (oR HO_55.out) (Kd.S_typed (oS HO_226002.out)) (by decide) hg); replace HO_95 := aM (Kd.R_over' (oR HO_95.out) (Kd.S_typed (oS HO_226002.out)) (by decide) hg); replace HO_226001 := aM (Kd.R_over' (oR HO_226001.out) (Kd.S_typed (oS HO_226002.out)) (by decide) hg); replace BK217 := aM (blk_grown (g := gb217) (o := .cells #[.string x218000_3, .slice none 0 0, .slice none 0 0] 28 (0, 0)) (kB BK217.out) hg (Kd.S_ne HO_226002.out BK217.out (by decide))); replace BK225 := aM (blk_grown (g := gb225) (o := .cells #[.string (⟨#[97, 108, 112, 104, 97]⟩ : ByteArray), .slice Ao38 x226001_1.length co38, u226002] 28 (0, 0)) (kB BK225.out) hg (Kd.S_ne HO_226002.out BK225.out (by decide))); replace BK242 := aM (blk_grown (g := gb242) (o := .cells #[.string (rdOf ByteArray.empty t236 x57_2), .slice Ao141 x243001_6.length co141, .slice Ao142 x243002_6.length co142, .slice none 0 0, .int .i64 0] 41 (0, 0)) (kB BK242.out) hg (Kd.S_away HO_226002.out (fun _ hk => hk.2.2))); replace HB := aM (hb); have HO253 := aM (ho); clear HO_226002 HO_243001 HO_243002; clear ho hb hg hat; obtain ⟨Ao143, co143, eo143⟩ := Kd.S_slice HO253.out; subst eo143; obtain ⟨hcz144_0, hcz144_1, hcz144_2, hfz144_0, hfz144_1, hfz144_2⟩ := cd3 BK225.out))
        go_roundg k6
        case measure => have := HK1.out; have := HK2.out; have := HK3.out; have := HJ53.out; have := HJ68.out; have := HK6.out; omega
        case rel => exact ⟨(wrap64 (x57_2 + 1)), (x218000_3), (y251), (.slice Ao143 y251.length co143), eT, H', ⟨by have := HK1.out; have := HK2.out; have := HK3.out; have := HJ53.out; have := HJ68.out; have := HK6.out; omega⟩, ⟨by refine oR ?_; exact tT HO_4.out BK225.out⟩, ⟨by refine oR ?_; exact tM HO_8.out BK225.out (fun _ hk => ⟨hk.1.1, hk.1.2⟩)⟩, ⟨by refine oR ?_; exact tM HO_9.out BK225.out (fun _ hk => ⟨hk.1.1, hk.1.2⟩)⟩, ⟨by refine oR ?_; exact tM HO_55.out BK225.out (fun _ hk => ⟨hk.1.1, hk.1.2⟩)⟩, ⟨by refine oR ?_; exact tT HO_226001.out BK225.out⟩, ⟨by refine oS ?_; exact sT HO253.out BK225.out⟩, ⟨bF BK217.out NB217_225.out⟩, ⟨bP BK225.out⟩, ⟨bB3 HB.out GE217.out GE225.out GE242.out⟩⟩
       rw [if_pos c79] at H; have c79b0 := decide_eq_true c79; clear c79
       obtain ⟨c80, H⟩ := iP H; have c80b0 := decide_eq_true c80; clear c80
       obtain ⟨c81, H⟩ := iP H; have c81b0 := decide_eq_true c81; clear c81; obtain ⟨t256, A82, H⟩ := iB H; (try dsimp only at H)
       by_cases c83 : t256 = true
       rotate_left
       ·
        replace c83 := Bool.eq_false_iff.mpr c83
        subst c83
        have H1 : ((d_has.f ((rd_T57 t218 x97_6).f0) x57_2).bind fun t264 => (if t264 = true then (if x243002_6.length < 8796093022208 then (d_Alpha.l3 k6 t218 t230 t233 x57_2 t236 (t236.length : Int) x57_2 t218 (t218.length : Int) (wrap64 (x97_6 + 1)) (⟨#[97, 108, 112, 104, 97]⟩ : ByteArray) x226001_1 x226002_2 (rdOf ByteArray.empty t236 x57_2) x243001_6 (x243002_6 ++ [(⟨wrap64 (x97_6 + 2), 1⟩ : S62)]) 0) else (none)) else (d_Alpha.l3 k6 t218 t230 t233 x57_2 t236 (t236.length : Int) x57_2 t218 (t218.length : Int) (wrap64 (x97_6 + 1)) (⟨#[97, 108, 112, 104, 97]⟩ : ByteArray) x226001_1 x226002_2 (rdOf ByteArray.empty t236 x57_2) x243001_6 x243002_6 0))) = some (r1, r2, r3, r4) := by rw [if_neg (show ¬ (false = true) by decide)] at H; exact H
        clear H; have H := H1; clear H1; obtain ⟨t264, A115, H⟩ := iB H; (try dsimp only at H)
        by_cases c116 : t264 = true
        rotate_left
        ·
         replace c116 := Bool.eq_false_iff.mpr c116
         subst c116
         have H1 : (d_Alpha.l3 k6 t218 t230 t233 x57_2 t236 (t236.length : Int) x57_2 t218 (t218.length : Int) (wrap64 (x97_6 + 1)) (⟨#[97, 108, 112, 104, 97]⟩ : ByteArray) x226001_1 x226002_2 (rdOf ByteArray.empty t236 x57_2) x243001_6 x243002_6 0) = some (r1, r2, r3, r4) := by rw [if_neg (show ¬ (false = true) by decide)] at H; exact H
         clear H; have H := H1; clear H1
         have H' := aM H
         clear H; have p254 : 0 ≤ (x97_6 : Int) := dT; have q254 : x97_6 < (t218.length : Int) := dT
         try (obtain ⟨Aoz254, coz254, eoz254⟩ := Kd.R_slice HO_95.out; subst eoz254)
         obtain ⟨ad254, e254, hx254_0, hx254_1⟩ := at_T57 (Kd.R_reads' HO_95.out).2.2 x97_6 p254 q254; cases e254; replace p254 := eq_true p254; replace q254 := eq_true q254
         go_wp2_with (first | ((with_reducible refine gate_dst (N := 16) rfl ?_); refine bX 16 (cs := #[.int .u64 0, .int .u64 0]) (t := 57) ?_; intro gb255 hg w129 hbox hb; replace HO_4 := aM (Kd.R_below (Kd.R_elderB (oR HO_4.out) gb255 (Nat.le_of_eq hg.symm)) hb); replace HO_8 := aM (Kd.R_below (oR HO_8.out) hb); replace HO_9 := aM (Kd.R_below (oR HO_9.out) hb); replace HO_55 := aM (Kd.R_below (oR HO_55.out) hb); replace HO_95 := aM (Kd.R_below (Kd.R_elderB (oR HO_95.out) gb255 (Nat.le_of_eq hg.symm)) hb); replace HO_226001 := aM (Kd.R_below (oR HO_226001.out) hb); replace HO_226002 := aM (Kd.S_below (oS HO_226002.out) hb); replace HO_243001 := aM (Kd.R_below (oR HO_243001.out) hb); replace HO_243002 := aM (Kd.R_below (oR HO_243002.out) hb); have BK255 := aM (hbox); have GW255 := aM (gE hg (below_size (bB3 HB.out GE217.out GE225.out GE242.out))); have GE255 := GW255; replace HB := aM (below_step (bB3 HB.out GE217.out GE225.out GE242.out) hb); have NB217_255 := aM (gL hg (kL BK217.out)); have NB255_217 := aM (gG hg (kL BK217.out)); replace BK217 := aM (kW BK217.out hb); have NB225_255 := aM (gL hg (kL BK225.out)); have NB255_225 := aM (gG hg (kL BK225.out)); replace BK225 := aM (kW BK225.out hb); have NB242_255 := aM (gL hg (kL BK242.out)); have NB255_242 := aM (gG hg (kL BK242.out)); replace BK242 := aM (kW BK242.out hb); clear hb hbox hg; have hnb130 := NB255_217.out; have hnc130 := NB217_255.out; have hnb131 := NB255_225.out; have hnc131 := NB225_255.out; have hnb132 := NB255_242.out; have hnc132 := NB242_255.out; obtain ⟨hcz133_0, hcz133_1, hfz133_0, hfz133_1⟩ := cd2 BK255.out) | ((with_reducible refine gate_callee (f := 29) rfl ?_); refine gM (some 105) Tryd.func29 #[.int .u64 ((rd_T57 t218 x97_6).f1), .int .i64 x57_2] ?_; (with_reducible refine (d_has.calls ((rd_T57 t218 x97_6).f1) x57_2 false _ A82.out).mono ?_); rintro e w' ⟨rfl, ⟨nd, rfl⟩⟩; refine ⟨_, rfl, ?_⟩) | ((with_reducible refine gate_callee (f := 29) rfl ?_); refine gM (some 117) Tryd.func29 #[.int .u64 ((rd_T57 t218 x97_6).f0), .int .i64 x57_2] ?_; (with_reducible refine (d_has.calls ((rd_T57 t218 x97_6).f0) x57_2 false _ A115.out).mono ?_); rintro e w' ⟨rfl, ⟨nd, rfl⟩⟩; refine ⟨_, rfl, ?_⟩))
         go_roundg k6
         case measure => have := HK1.out; have := HK2.out; have := HK3.out; have := HJ53.out; have := HJ68.out; have := HK6.out; omega
         case rel => exact ⟨(wrap64 (x97_6 + 1)), (x243001_6), (x243002_6), (u243001), (u243002), eT, H', ⟨by have := HK1.out; have := HK2.out; have := HK3.out; have := HJ53.out; have := HJ68.out; have := HK6.out; omega⟩, ⟨by refine oR ?_; exact Kd.R_mono (Kd.R_far (p := ⟨gb255, 1, none⟩) (Kd.R_far (p := ⟨gb255, 0, none⟩) (Kd.R_mono HO_4.out (fun k_ hk => (⟨hk, hk.2⟩ : _ ∧ k_ ≠ gb255))) (fun _ hk => hk.2) (.int .u64 ((rd_T57 t218 x97_6).f0))) (fun _ hk => hk.2) (.int .u64 ((rd_T57 t218 x97_6).f1))) (fun _ hk => trivial)⟩, ⟨by refine oR ?_; exact tM HO_8.out BK255.out (fun _ hk => ⟨hk.1.1, hk.1.2⟩)⟩, ⟨by refine oR ?_; exact tM HO_9.out BK255.out (fun _ hk => ⟨hk.1.1, hk.1.2⟩)⟩, ⟨by refine oR ?_; exact tM HO_55.out BK255.out (fun _ hk => ⟨hk.1.1, hk.1.2⟩)⟩, ⟨by refine oR ?_; exact Kd.R_mono (Kd.R_far (p := ⟨gb255, 1, none⟩) (Kd.R_far (p := ⟨gb255, 0, none⟩) (Kd.R_mono HO_95.out (fun k_ hk => (⟨hk, hk.2⟩ : _ ∧ k_ ≠ gb255))) (fun _ hk => hk.2) (.int .u64 ((rd_T57 t218 x97_6).f0))) (fun _ hk => hk.2) (.int .u64 ((rd_T57 t218 x97_6).f1))) (fun _ hk => trivial)⟩, ⟨by refine oR ?_; exact tT HO_226001.out BK255.out⟩, ⟨by refine oS ?_; exact sM HO_226002.out BK255.out (fun _ hk => ⟨hk.1.1, ⟨hk.1.2.1, hk.1.2.2⟩⟩)⟩, ⟨by refine oR ?_; exact tM HO_243001.out BK255.out (fun _ hk => hk.1)⟩, ⟨by refine oR ?_; exact tM HO_243002.out BK255.out (fun _ hk => hk.1)⟩, ⟨bF BK217.out NB217_255.out⟩, ⟨bF BK225.out NB225_255.out⟩, ⟨bF BK242.out NB242_255.out⟩, ⟨bB4 HB.out GE217.out GE225.out GE242.out GE255.out⟩⟩
        subst c116
        have H1 : (if x243002_6.length < 8796093022208 then (d_Alpha.l3 k6 t218 t230 t233 x57_2 t236 (t236.length : Int) x57_2 t218 (t218.length : Int) (wrap64 (x97_6 + 1)) (⟨#[97, 108, 112, 104, 97]⟩ : ByteArray) x226001_1 x226002_2 (rdOf ByteArray.empty t236 x57_2) x243001_6 (x243002_6 ++ [(⟨wrap64 (x97_6 + 2), 1⟩ : S62)]) 0) else (none)) = some (r1, r2, r3, r4) := by rw [if_pos rfl] at H; exact H
        clear H; have H := H1; clear H1
        obtain ⟨c117, H⟩ := iP H; have LMc117 := aM c117; clear c117
        obtain ⟨y265, hy265⟩ : ∃ y_ : List (S62), y_ = (x243002_6 ++ [(⟨wrap64 (x97_6 + 2), 1⟩ : S62)]) := ⟨_, rfl⟩
        replace H : (d_Alpha.l3 k6 t218 t230 t233 x57_2 t236 (t236.length : Int) x57_2 t218 (t218.length : Int) (wrap64 (x97_6 + 1)) (⟨#[97, 108, 112, 104, 97]⟩ : ByteArray) x226001_1 x226002_2 (rdOf ByteArray.empty t236 x57_2) x243001_6 y265 0) = some (r1, r2, r3, r4) := yT hy265 H
        have Ny265 := aM hy265; clear hy265
        have H' := aM H
        clear H; have p254 : 0 ≤ (x97_6 : Int) := dT; have q254 : x97_6 < (t218.length : Int) := dT
        try (obtain ⟨Aoz254, coz254, eoz254⟩ := Kd.R_slice HO_95.out; subst eoz254)
        obtain ⟨ad254, e254, hx254_0, hx254_1⟩ := at_T57 (Kd.R_reads' HO_95.out).2.2 x97_6 p254 q254; cases e254; replace p254 := eq_true p254; replace q254 := eq_true q254
        go_wp2_with (first | ((with_reducible refine gate_dst (N := 16) rfl ?_); refine bX 16 (cs := #[.int .u64 0, .int .u64 0]) (t := 57) ?_; intro gb255 hg w118 hbox hb; replace HO_4 := aM (Kd.R_below (Kd.R_elderB (oR HO_4.out) gb255 (Nat.le_of_eq hg.symm)) hb); replace HO_8 := aM (Kd.R_below (oR HO_8.out) hb); replace HO_9 := aM (Kd.R_below (oR HO_9.out) hb); replace HO_55 := aM (Kd.R_below (oR HO_55.out) hb); replace HO_95 := aM (Kd.R_below (Kd.R_elderB (oR HO_95.out) gb255 (Nat.le_of_eq hg.symm)) hb); replace HO_226001 := aM (Kd.R_below (oR HO_226001.out) hb); replace HO_226002 := aM (Kd.S_below (oS HO_226002.out) hb); replace HO_243001 := aM (Kd.R_below (oR HO_243001.out) hb); replace HO_243002 := aM (Kd.R_below (oR HO_243002.out) hb); have BK255 := aM (hbox); have GW255 := aM (gE hg (below_size (bB3 HB.out GE217.out GE225.out GE242.out))); have GE255 := GW255; replace HB := aM (below_step (bB3 HB.out GE217.out GE225.out GE242.out) hb); have NB217_255 := aM (gL hg (kL BK217.out)); have NB255_217 := aM (gG hg (kL BK217.out)); replace BK217 := aM (kW BK217.out hb); have NB225_255 := aM (gL hg (kL BK225.out)); have NB255_225 := aM (gG hg (kL BK225.out)); replace BK225 := aM (kW BK225.out hb); have NB242_255 := aM (gL hg (kL BK242.out)); have NB255_242 := aM (gG hg (kL BK242.out)); replace BK242 := aM (kW BK242.out hb); clear hb hbox hg; have hnb119 := NB255_217.out; have hnc119 := NB217_255.out; have hnb120 := NB255_225.out; have hnc120 := NB225_255.out; have hnb121 := NB255_242.out; have hnc121 := NB242_255.out; obtain ⟨hcz122_0, hcz122_1, hfz122_0, hfz122_1⟩ := cd2 BK255.out) | ((with_reducible refine gate_callee (f := 29) rfl ?_); refine gM (some 105) Tryd.func29 #[.int .u64 ((rd_T57 t218 x97_6).f1), .int .i64 x57_2] ?_; (with_reducible refine (d_has.calls ((rd_T57 t218 x97_6).f1) x57_2 false _ A82.out).mono ?_); rintro e w' ⟨rfl, ⟨nd, rfl⟩⟩; refine ⟨_, rfl, ?_⟩) | ((with_reducible refine gate_callee (f := 29) rfl ?_); refine gM (some 117) Tryd.func29 #[.int .u64 ((rd_T57 t218 x97_6).f0), .int .i64 x57_2] ?_; (with_reducible refine (d_has.calls ((rd_T57 t218 x97_6).f0) x57_2 true _ A115.out).mono ?_); rintro e w' ⟨rfl, ⟨nd, rfl⟩⟩; refine ⟨_, rfl, ?_⟩; have hnb123 := NB242_217.out; have hnc123 := NB217_242.out; have hnb124 := NB242_225.out; have hnc124 := NB225_242.out; obtain ⟨hcz125_0, hcz125_1, hcz125_2, hcz125_3, hcz125_4, hfz125_0, hfz125_1, hfz125_2, hfz125_3, hfz125_4⟩ := cd5 BK242.out) | ((with_reducible refine gate_builtin (b := .append) (xs := #[.tmp 119, .tmp 123]) rfl ?_); at_builtin; refine Kd.R_append k62 (w0 := w) w.heap.size rfl (.tmp 119) (.tmp 123) 39 62 (.agg #[(.int .i64 0), (.int .i64 0)]) 16 rfl Tryd.underlying39 info62 rfl (by decide) (by omega) u243002 x243002_6 (⟨wrap64 (x97_6 + 2), 1⟩ : S62) [.int .i64 (wrap64 (x97_6 + 2)), .int .i64 1] (fun k_ => some k_ ≠ (u243001 : Value).ownBlock) (fun _ => False) rfl (by first | (go_simp; done) | (go_simp; rfl)) ?aP (fun _ hk => hk.elim) ?aF ?aO ?aB ?aS ?aL ?_; (case aP => exact k62_mkM _ _ _ (⟨wrap64 (x97_6 + 2), 1⟩ : S62)); (case aB => exact (bB4 HB.out GE217.out GE225.out GE242.out GE255.out)); (case aF => exact (fun k_ hk => Kd.fresh' (Kd.R_lt (by refine oR ?_; exact (tR HO_243001.out BK255.out))) k_ hk)); (case aO => exact (by refine oR ?_; exact tM HO_243002.out BK255.out (fun _ hk => hk.1))); (case aS => exact (below_size (bB4 HB.out GE217.out GE225.out GE242.out GE255.out))); (case aL => have := LMc117.out; omega); intro v266 w126 ho hb hg hat; rw [← Ny265.out] at ho; replace HO_4 := aM (Kd.R_over' (by refine oR ?_; exact (uR gb255 HO_4.out)) (Kd.R_typed (by refine oR ?_; exact (tR HO_243002.out BK255.out))) (by decide) hg); replace HO_8 := aM (Kd.R_over' (by refine oR ?_; exact (tR HO_8.out BK255.out)) (Kd.R_typed (by refine oR ?_; exact (tR HO_243002.out BK255.out))) (by decide) hg); replace HO_9 := aM (Kd.R_over' (by refine oR ?_; exact (tR HO_9.out BK255.out)) (Kd.R_typed (by refine oR ?_; exact (tR HO_243002.out BK255.out))) (by decide) hg); replace HO_55 := aM (Kd.R_over' (by refine oR ?_; exact (tR HO_55.out BK255.out)) (Kd.R_typed (by refine oR ?_; exact (tR HO_243002.out BK255.out))) (by decide) hg); replace HO_95 := aM (Kd.R_over' (by refine oR ?_; exact (uR gb255 HO_95.out)) (Kd.R_typed (by refine oR ?_; exact (tR HO_243002.out BK255.out))) (by decide) hg); replace HO_226001 := aM (Kd.R_over' (by refine oR ?_; exact (tR HO_226001.out BK255.out)) (Kd.R_typed (by refine oR ?_; exact (tR HO_243002.out BK255.out))) (by decide) hg); replace HO_226002 := aM (Kd.S_after (ok := (fun k_ => some k_ ≠ (u243001 : Value).ownBlock ∧ k_ ≠ gb242)) (by refine oS ?_; exact sM HO_226002.out BK255.out (fun _ hk => ⟨⟨hk.1.1, hk.1.2.2⟩, hk.1.2.1⟩)) hg hat); replace HO_243001 := aM (Kd.R_after (ok := (fun _ => True)) (by refine oR ?_; exact tM HO_243001.out BK255.out (fun _ hk => ⟨trivial, hk.1⟩)) hg hat); replace BK217 := aM (blk_grown (g := gb217) (o := .cells #[.string x218000_3, .slice none 0 0, .slice none 0 0] 28 (0, 0)) (bF BK217.out NB217_255.out) hg (Kd.R_ne HO_243002.out BK217.out (by decide))); replace BK225 := aM (blk_grown (g := gb225) (o := .cells #[.string (⟨#[97, 108, 112, 104, 97]⟩ : ByteArray), .slice Ao38 x226001_1.length co38, u226002] 28 (0, 0)) (bF BK225.out NB225_255.out) hg (Kd.R_ne HO_243002.out BK225.out (by decide))); replace BK242 := aM (blk_grown (g := gb242) (o := .cells #[.string (rdOf ByteArray.empty t236 x57_2), u243001, u243002, .slice none 0 0, .int .i64 0] 41 (0, 0)) (bF BK242.out NB242_255.out) hg (Kd.R_ne HO_243002.out BK242.out (by decide))); replace BK255 := aM (blk_grown (g := gb255) (o := .cells #[.int .u64 ((rd_T57 t218 x97_6).f0), .int .u64 ((rd_T57 t218 x97_6).f1)] 57 (0, 0)) (bP BK255.out) hg (Kd.R_ne HO_243002.out BK255.out (by decide))); replace HB := aM (hb); have HO267 := aM (ho); clear HO_243002; clear ho hb hg hat; obtain ⟨Ao127, co127, eo127⟩ := Kd.R_slice HO267.out; subst eo127; obtain ⟨hcz128_0, hcz128_1, hcz128_2, hcz128_3, hcz128_4, hfz128_0, hfz128_1, hfz128_2, hfz128_3, hfz128_4⟩ := cd5 BK242.out))
        go_roundg k6
        case measure => have := HK1.out; have := HK2.out; have := HK3.out; have := HJ53.out; have := HJ68.out; have := HK6.out; omega
        case rel => exact ⟨(wrap64 (x97_6 + 1)), (x243001_6), (y265), (u243001), (.slice Ao127 y265.length co127), eT, H', ⟨by have := HK1.out; have := HK2.out; have := HK3.out; have := HJ53.out; have := HJ68.out; have := HK6.out; omega⟩, ⟨by refine oR ?_; exact tT HO_4.out BK242.out⟩, ⟨by refine oR ?_; exact tM HO_8.out BK242.out (fun _ hk => ⟨hk.1.1, hk.1.2⟩)⟩, ⟨by refine oR ?_; exact tM HO_9.out BK242.out (fun _ hk => ⟨hk.1.1, hk.1.2⟩)⟩, ⟨by refine oR ?_; exact tM HO_55.out BK242.out (fun _ hk => ⟨hk.1.1, hk.1.2⟩)⟩, ⟨by refine oR ?_; exact tT HO_95.out BK242.out⟩, ⟨by refine oR ?_; exact tT HO_226001.out BK242.out⟩, ⟨by refine oS ?_; exact Kd.S_mono (Kd.S_far (p := ⟨gb242, 2, none⟩) (Kd.S_mono HO_226002.out (fun k_ hk => (⟨hk, hk.1.2⟩ : _ ∧ k_ ≠ gb242))) (fun _ hk => hk.2) (.slice Ao127 y265.length co127)) (fun _ hk => ⟨hk.1.1.1, ⟨hk.1.2, hk.1.1.2⟩⟩)⟩, ⟨by refine oR ?_; exact tM HO_243001.out BK242.out (fun _ hk => hk.1.2)⟩, ⟨by refine oR ?_; exact tM HO267.out BK242.out (fun _ hk => hk.1)⟩, ⟨bF BK217.out NB217_242.out⟩, ⟨bF BK225.out NB225_242.out⟩, ⟨bP BK242.out⟩, ⟨bB4 HB.out GE217.out GE225.out GE242.out GE255.out⟩⟩
       subst c83
       have H1 : (if x243001_6.length < 8796093022208 then ((some (x243001_6 ++ [(⟨wrap64 (x97_6 + 2), 1⟩ : S62)] : List (S62))).bind fun y257 => ((d_has.f ((rd_T57 t218 x97_6).f0) x57_2).bind fun t260 => (if t260 = true then (if x243002_6.length < 8796093022208 then (d_Alpha.l3 k6 t218 t230 t233 x57_2 t236 (t236.length : Int) x57_2 t218 (t218.length : Int) (wrap64 (x97_6 + 1)) (⟨#[97, 108, 112, 104, 97]⟩ : ByteArray) x226001_1 x226002_2 (rdOf ByteArray.empty t236 x57_2) y257 (x243002_6 ++ [(⟨wrap64 (x97_6 + 2), 1⟩ : S62)]) 0) else (none)) else (d_Alpha.l3 k6 t218 t230 t233 x57_2 t236 (t236.length : Int) x57_2 t218 (t218.length : Int) (wrap64 (x97_6 + 1)) (⟨#[97, 108, 112, 104, 97]⟩ : ByteArray) x226001_1 x226002_2 (rdOf ByteArray.empty t236 x57_2) y257 x243002_6 0)))) else (none)) = some (r1, r2, r3, r4) := by rw [if_pos rfl] at H; exact H
       clear H; have H := H1; clear H1
       obtain ⟨c84, H⟩ := iP H; have LMc84 := aM c84; clear c84
       obtain ⟨y257, hy257⟩ : ∃ y_ : List (S62), y_ = (x243001_6 ++ [(⟨wrap64 (x97_6 + 2), 1⟩ : S62)]) := ⟨_, rfl⟩
       replace H : ((d_has.f ((rd_T57 t218 x97_6).f0) x57_2).bind fun t260 => (if t260 = true then (if x243002_6.length < 8796093022208 then (d_Alpha.l3 k6 t218 t230 t233 x57_2 t236 (t236.length : Int) x57_2 t218 (t218.length : Int) (wrap64 (x97_6 + 1)) (⟨#[97, 108, 112, 104, 97]⟩ : ByteArray) x226001_1 x226002_2 (rdOf ByteArray.empty t236 x57_2) y257 (x243002_6 ++ [(⟨wrap64 (x97_6 + 2), 1⟩ : S62)]) 0) else (none)) else (d_Alpha.l3 k6 t218 t230 t233 x57_2 t236 (t236.length : Int) x57_2 t218 (t218.length : Int) (wrap64 (x97_6 + 1)) (⟨#[97, 108, 112, 104, 97]⟩ : ByteArray) x226001_1 x226002_2 (rdOf ByteArray.empty t236 x57_2) y257 x243002_6 0))) = some (r1, r2, r3, r4) := yT hy257 H
       have Ny257 := aM hy257; clear hy257; obtain ⟨t260, A85, H⟩ := iB H; (try dsimp only at H)
       by_cases c86 : t260 = true
       rotate_left
       ·
        replace c86 := Bool.eq_false_iff.mpr c86
        subst c86
        have H1 : (d_Alpha.l3 k6 t218 t230 t233 x57_2 t236 (t236.length : Int) x57_2 t218 (t218.length : Int) (wrap64 (x97_6 + 1)) (⟨#[97, 108, 112, 104, 97]⟩ : ByteArray) x226001_1 x226002_2 (rdOf ByteArray.empty t236 x57_2) y257 x243002_6 0) = some (r1, r2, r3, r4) := by rw [if_neg (show ¬ (false = true) by decide)] at H; exact H
        clear H; have H := H1; clear H1
        have H' := aM H
        clear H; have p254 : 0 ≤ (x97_6 : Int) := dT; have q254 : x97_6 < (t218.length : Int) := dT
        try (obtain ⟨Aoz254, coz254, eoz254⟩ := Kd.R_slice HO_95.out; subst eoz254)
        obtain ⟨ad254, e254, hx254_0, hx254_1⟩ := at_T57 (Kd.R_reads' HO_95.out).2.2 x97_6 p254 q254; cases e254; replace p254 := eq_true p254; replace q254 := eq_true q254
        go_wp2_with (first | ((with_reducible refine gate_dst (N := 16) rfl ?_); refine bX 16 (cs := #[.int .u64 0, .int .u64 0]) (t := 57) ?_; intro gb255 hg w103 hbox hb; replace HO_4 := aM (Kd.R_below (Kd.R_elderB (oR HO_4.out) gb255 (Nat.le_of_eq hg.symm)) hb); replace HO_8 := aM (Kd.R_below (oR HO_8.out) hb); replace HO_9 := aM (Kd.R_below (oR HO_9.out) hb); replace HO_55 := aM (Kd.R_below (oR HO_55.out) hb); replace HO_95 := aM (Kd.R_below (Kd.R_elderB (oR HO_95.out) gb255 (Nat.le_of_eq hg.symm)) hb); replace HO_226001 := aM (Kd.R_below (oR HO_226001.out) hb); replace HO_226002 := aM (Kd.S_below (oS HO_226002.out) hb); replace HO_243001 := aM (Kd.R_below (oR HO_243001.out) hb); replace HO_243002 := aM (Kd.R_below (oR HO_243002.out) hb); have BK255 := aM (hbox); have GW255 := aM (gE hg (below_size (bB3 HB.out GE217.out GE225.out GE242.out))); have GE255 := GW255; replace HB := aM (below_step (bB3 HB.out GE217.out GE225.out GE242.out) hb); have NB217_255 := aM (gL hg (kL BK217.out)); have NB255_217 := aM (gG hg (kL BK217.out)); replace BK217 := aM (kW BK217.out hb); have NB225_255 := aM (gL hg (kL BK225.out)); have NB255_225 := aM (gG hg (kL BK225.out)); replace BK225 := aM (kW BK225.out hb); have NB242_255 := aM (gL hg (kL BK242.out)); have NB255_242 := aM (gG hg (kL BK242.out)); replace BK242 := aM (kW BK242.out hb); clear hb hbox hg; have hnb104 := NB255_217.out; have hnc104 := NB217_255.out; have hnb105 := NB255_225.out; have hnc105 := NB225_255.out; have hnb106 := NB255_242.out; have hnc106 := NB242_255.out; obtain ⟨hcz107_0, hcz107_1, hfz107_0, hfz107_1⟩ := cd2 BK255.out) | ((with_reducible refine gate_callee (f := 29) rfl ?_); refine gM (some 105) Tryd.func29 #[.int .u64 ((rd_T57 t218 x97_6).f1), .int .i64 x57_2] ?_; (with_reducible refine (d_has.calls ((rd_T57 t218 x97_6).f1) x57_2 true _ A82.out).mono ?_); rintro e w' ⟨rfl, ⟨nd, rfl⟩⟩; refine ⟨_, rfl, ?_⟩; have hnb108 := NB242_217.out; have hnc108 := NB217_242.out; have hnb109 := NB242_225.out; have hnc109 := NB225_242.out; obtain ⟨hcz110_0, hcz110_1, hcz110_2, hcz110_3, hcz110_4, hfz110_0, hfz110_1, hfz110_2, hfz110_3, hfz110_4⟩ := cd5 BK242.out) | ((with_reducible refine gate_builtin (b := .append) (xs := #[.tmp 107, .tmp 111]) rfl ?_); at_builtin; refine Kd.R_append k62 (w0 := w) w.heap.size rfl (.tmp 107) (.tmp 111) 39 62 (.agg #[(.int .i64 0), (.int .i64 0)]) 16 rfl Tryd.underlying39 info62 rfl (by decide) (by omega) u243001 x243001_6 (⟨wrap64 (x97_6 + 2), 1⟩ : S62) [.int .i64 (wrap64 (x97_6 + 2)), .int .i64 1] (fun k_ => some k_ ≠ (u243002 : Value).ownBlock) (fun _ => False) rfl (by first | (go_simp; done) | (go_simp; rfl)) ?aP (fun _ hk => hk.elim) ?aF ?aO ?aB ?aS ?aL ?_; (case aP => exact k62_mkM _ _ _ (⟨wrap64 (x97_6 + 2), 1⟩ : S62)); (case aB => exact (bB4 HB.out GE217.out GE225.out GE242.out GE255.out)); (case aF => exact (fun k_ hk => Kd.fresh' (Kd.R_lt (by refine oR ?_; exact (tR HO_243002.out BK255.out))) k_ hk)); (case aO => exact (by refine oR ?_; exact tM HO_243001.out BK255.out (fun _ hk => hk.1))); (case aS => exact (below_size (bB4 HB.out GE217.out GE225.out GE242.out GE255.out))); (case aL => have := LMc84.out; omega); intro v258 w111 ho hb hg hat; rw [← Ny257.out] at ho; replace HO_4 := aM (Kd.R_over' (by refine oR ?_; exact (uR gb255 HO_4.out)) (Kd.R_typed (by refine oR ?_; exact (tR HO_243001.out BK255.out))) (by decide) hg); replace HO_8 := aM (Kd.R_over' (by refine oR ?_; exact (tR HO_8.out BK255.out)) (Kd.R_typed (by refine oR ?_; exact (tR HO_243001.out BK255.out))) (by decide) hg); replace HO_9 := aM (Kd.R_over' (by refine oR ?_; exact (tR HO_9.out BK255.out)) (Kd.R_typed (by refine oR ?_; exact (tR HO_243001.out BK255.out))) (by decide) hg); replace HO_55 := aM (Kd.R_over' (by refine oR ?_; exact (tR HO_55.out BK255.out)) (Kd.R_typed (by refine oR ?_; exact (tR HO_243001.out BK255.out))) (by decide) hg); replace HO_95 := aM (Kd.R_over' (by refine oR ?_; exact (uR gb255 HO_95.out)) (Kd.R_typed (by refine oR ?_; exact (tR HO_243001.out BK255.out))) (by decide) hg); replace HO_226001 := aM (Kd.R_over' (by refine oR ?_; exact (tR HO_226001.out BK255.out)) (Kd.R_typed (by refine oR ?_; exact (tR HO_243001.out BK255.out))) (by decide) hg); replace HO_226002 := aM (Kd.S_after (ok := (fun k_ => some k_ ≠ (u243002 : Value).ownBlock ∧ k_ ≠ gb242)) (by refine oS ?_; exact sM HO_226002.out BK255.out (fun _ hk => ⟨⟨hk.1.2.1, hk.1.2.2⟩, hk.1.1⟩)) hg hat); replace HO_243002 := aM (Kd.R_after (ok := (fun _ => True)) (by refine oR ?_; exact tM HO_243002.out BK255.out (fun _ hk => ⟨trivial, hk.1⟩)) hg hat); replace BK217 := aM (blk_grown (g := gb217) (o := .cells #[.string x218000_3, .slice none 0 0, .slice none 0 0] 28 (0, 0)) (bF BK217.out NB217_255.out) hg (Kd.R_ne HO_243001.out BK217.out (by decide))); replace BK225 := aM (blk_grown (g := gb225) (o := .cells #[.string (⟨#[97, 108, 112, 104, 97]⟩ : ByteArray), .slice Ao38 x226001_1.length co38, u226002] 28 (0, 0)) (bF BK225.out NB225_255.out) hg (Kd.R_ne HO_243001.out BK225.out (by decide))); replace BK242 := aM (blk_grown (g := gb242) (o := .cells #[.string (rdOf ByteArray.empty t236 x57_2), u243001, u243002, .slice none 0 0, .int .i64 0] 41 (0, 0)) (bF BK242.out NB242_255.out) hg (Kd.R_ne HO_243001.out BK242.out (by decide))); replace BK255 := aM (blk_grown (g := gb255) (o := .cells #[.int .u64 ((rd_T57 t218 x97_6).f0), .int .u64 ((rd_T57 t218 x97_6).f1)] 57 (0, 0)) (bP BK255.out) hg (Kd.R_ne HO_243001.out BK255.out (by decide))); replace HB := aM (hb); have HO259 := aM (ho); clear HO_243001; clear ho hb hg hat; obtain ⟨Ao112, co112, eo112⟩ := Kd.R_slice HO259.out; subst eo112; obtain ⟨hcz113_0, hcz113_1, hcz113_2, hcz113_3, hcz113_4, hfz113_0, hfz113_1, hfz113_2, hfz113_3, hfz113_4⟩ := cd5 BK242.out; obtain ⟨hcz114_0, hcz114_1, hfz114_0, hfz114_1⟩ := cd2 BK255.out) | ((with_reducible refine gate_callee (f := 29) rfl ?_); refine gM (some 117) Tryd.func29 #[.int .u64 ((rd_T57 t218 x97_6).f0), .int .i64 x57_2] ?_; (with_reducible refine (d_has.calls ((rd_T57 t218 x97_6).f0) x57_2 false _ A85.out).mono ?_); rintro e w' ⟨rfl, ⟨nd, rfl⟩⟩; refine ⟨_, rfl, ?_⟩))
        go_roundg k6
        case measure => have := HK1.out; have := HK2.out; have := HK3.out; have := HJ53.out; have := HJ68.out; have := HK6.out; omega
        case rel => exact ⟨(wrap64 (x97_6 + 1)), (y257), (x243002_6), (.slice Ao112 y257.length co112), (u243002), eT, H', ⟨by have := HK1.out; have := HK2.out; have := HK3.out; have := HJ53.out; have := HJ68.out; have := HK6.out; omega⟩, ⟨by refine oR ?_; exact tT HO_4.out BK242.out⟩, ⟨by refine oR ?_; exact tM HO_8.out BK242.out (fun _ hk => ⟨hk.1.1, hk.1.2⟩)⟩, ⟨by refine oR ?_; exact tM HO_9.out BK242.out (fun _ hk => ⟨hk.1.1, hk.1.2⟩)⟩, ⟨by refine oR ?_; exact tM HO_55.out BK242.out (fun _ hk => ⟨hk.1.1, hk.1.2⟩)⟩, ⟨by refine oR ?_; exact tT HO_95.out BK242.out⟩, ⟨by refine oR ?_; exact tT HO_226001.out BK242.out⟩, ⟨by refine oS ?_; exact Kd.S_mono (Kd.S_far (p := ⟨gb242, 1, none⟩) (Kd.S_mono HO_226002.out (fun k_ hk => (⟨hk, hk.1.2⟩ : _ ∧ k_ ≠ gb242))) (fun _ hk => hk.2) (.slice Ao112 y257.length co112)) (fun _ hk => ⟨hk.1.2, ⟨hk.1.1.1, hk.1.1.2⟩⟩)⟩, ⟨by refine oR ?_; exact tM HO259.out BK242.out (fun _ hk => hk.1)⟩, ⟨by refine oR ?_; exact tM HO_243002.out BK242.out (fun _ hk => hk.1.2)⟩, ⟨bF BK217.out NB217_242.out⟩, ⟨bF BK225.out NB225_242.out⟩, ⟨bP BK242.out⟩, ⟨bB4 HB.out GE217.out GE225.out GE242.out GE255.out⟩⟩
       subst c86
       have H1 : (if x243002_6.length < 8796093022208 then (d_Alpha.l3 k6 t218 t230 t233 x57_2 t236 (t236.length : Int) x57_2 t218 (t218.length : Int) (wrap64 (x97_6 + 1)) (⟨#[97, 108, 112, 104, 97]⟩ : ByteArray) x226001_1 x226002_2 (rdOf ByteArray.empty t236 x57_2) y257 (x243002_6 ++ [(⟨wrap64 (x97_6 + 2), 1⟩ : S62)]) 0) else (none)) = some (r1, r2, r3, r4) := by rw [if_pos rfl] at H; exact H
       clear H; have H := H1; clear H1
       obtain ⟨c87, H⟩ := iP H; have LMc87 := aM c87; clear c87
       obtain ⟨y261, hy261⟩ : ∃ y_ : List (S62), y_ = (x243002_6 ++ [(⟨wrap64 (x97_6 + 2), 1⟩ : S62)]) := ⟨_, rfl⟩
       replace H : (d_Alpha.l3 k6 t218 t230 t233 x57_2 t236 (t236.length : Int) x57_2 t218 (t218.length : Int) (wrap64 (x97_6 + 1)) (⟨#[97, 108, 112, 104, 97]⟩ : ByteArray) x226001_1 x226002_2 (rdOf ByteArray.empty t236 x57_2) y257 y261 0) = some (r1, r2, r3, r4) := yT hy261 H
       have Ny261 := aM hy261; clear hy261
       have H' := aM H
       clear H; have p254 : 0 ≤ (x97_6 : Int) := dT; have q254 : x97_6 < (t218.length : Int) := dT
       try (obtain ⟨Aoz254, coz254, eoz254⟩ := Kd.R_slice HO_95.out; subst eoz254)
       obtain ⟨ad254, e254, hx254_0, hx254_1⟩ := at_T57 (Kd.R_reads' HO_95.out).2.2 x97_6 p254 q254; cases e254; replace p254 := eq_true p254; replace q254 := eq_true q254
       go_wp2_with (first | ((with_reducible refine gate_dst (N := 16) rfl ?_); refine bX 16 (cs := #[.int .u64 0, .int .u64 0]) (t := 57) ?_; intro gb255 hg w88 hbox hb; replace HO_4 := aM (Kd.R_below (Kd.R_elderB (oR HO_4.out) gb255 (Nat.le_of_eq hg.symm)) hb); replace HO_8 := aM (Kd.R_below (oR HO_8.out) hb); replace HO_9 := aM (Kd.R_below (oR HO_9.out) hb); replace HO_55 := aM (Kd.R_below (oR HO_55.out) hb); replace HO_95 := aM (Kd.R_below (Kd.R_elderB (oR HO_95.out) gb255 (Nat.le_of_eq hg.symm)) hb); replace HO_226001 := aM (Kd.R_below (oR HO_226001.out) hb); replace HO_226002 := aM (Kd.S_below (oS HO_226002.out) hb); replace HO_243001 := aM (Kd.R_below (oR HO_243001.out) hb); replace HO_243002 := aM (Kd.R_below (oR HO_243002.out) hb); have BK255 := aM (hbox); have GW255 := aM (gE hg (below_size (bB3 HB.out GE217.out GE225.out GE242.out))); have GE255 := GW255; replace HB := aM (below_step (bB3 HB.out GE217.out GE225.out GE242.out) hb); have NB217_255 := aM (gL hg (kL BK217.out)); have NB255_217 := aM (gG hg (kL BK217.out)); replace BK217 := aM (kW BK217.out hb); have NB225_255 := aM (gL hg (kL BK225.out)); have NB255_225 := aM (gG hg (kL BK225.out)); replace BK225 := aM (kW BK225.out hb); have NB242_255 := aM (gL hg (kL BK242.out)); have NB255_242 := aM (gG hg (kL BK242.out)); replace BK242 := aM (kW BK242.out hb); clear hb hbox hg; have hnb89 := NB255_217.out; have hnc89 := NB217_255.out; have hnb90 := NB255_225.out; have hnc90 := NB225_255.out; have hnb91 := NB255_242.out; have hnc91 := NB242_255.out; obtain ⟨hcz92_0, hcz92_1, hfz92_0, hfz92_1⟩ := cd2 BK255.out) | ((with_reducible refine gate_callee (f := 29) rfl ?_); refine gM (some 105) Tryd.func29 #[.int .u64 ((rd_T57 t218 x97_6).f1), .int .i64 x57_2] ?_; (with_reducible refine (d_has.calls ((rd_T57 t218 x97_6).f1) x57_2 true _ A82.out).mono ?_); rintro e w' ⟨rfl, ⟨nd, rfl⟩⟩; refine ⟨_, rfl, ?_⟩; have hnb93 := NB242_217.out; have hnc93 := NB217_242.out; have hnb94 := NB242_225.out; have hnc94 := NB225_242.out; obtain ⟨hcz95_0, hcz95_1, hcz95_2, hcz95_3, hcz95_4, hfz95_0, hfz95_1, hfz95_2, hfz95_3, hfz95_4⟩ := cd5 BK242.out) | ((with_reducible refine gate_builtin (b := .append) (xs := #[.tmp 107, .tmp 111]) rfl ?_); at_builtin; refine Kd.R_append k62 (w0 := w) w.heap.size rfl (.tmp 107) (.tmp 111) 39 62 (.agg #[(.int .i64 0), (.int .i64 0)]) 16 rfl Tryd.underlying39 info62 rfl (by decide) (by omega) u243001 x243001_6 (⟨wrap64 (x97_6 + 2), 1⟩ : S62) [.int .i64 (wrap64 (x97_6 + 2)), .int .i64 1] (fun k_ => some k_ ≠ (u243002 : Value).ownBlock) (fun _ => False) rfl (by first | (go_simp; done) | (go_simp; rfl)) ?aP (fun _ hk => hk.elim) ?aF ?aO ?aB ?aS ?aL ?_; (case aP => exact k62_mkM _ _ _ (⟨wrap64 (x97_6 + 2), 1⟩ : S62)); (case aB => exact (bB4 HB.out GE217.out GE225.out GE242.out GE255.out)); (case aF => exact (fun k_ hk => Kd.fresh' (Kd.R_lt (by refine oR ?_; exact (tR HO_243002.out BK255.out))) k_ hk)); (case aO => exact (by refine oR ?_; exact tM HO_243001.out BK255.out (fun _ hk => hk.1))); (case aS => exact (below_size (bB4 HB.out GE217.out GE225.out GE242.out GE255.out))); (case aL => have := LMc84.out; omega); intro v258 w96 ho hb hg hat; rw [← Ny257.out] at ho; replace HO_4 := aM (Kd.R_over' (by refine oR ?_; exact (uR gb255 HO_4.out)) (Kd.R_typed (by refine oR ?_; exact (tR HO_243001.out BK255.out))) (by decide) hg); replace HO_8 := aM (Kd.R_over' (by refine oR ?_; exact (tR HO_8.out BK255.out)) (Kd.R_typed (by refine oR ?_; exact (tR HO_243001.out BK255.out))) (by decide) hg); replace HO_9 := aM (Kd.R_over' (by refine oR ?_; exact (tR HO_9.out BK255.out)) (Kd.R_typed (by refine oR ?_; exact (tR HO_243001.out BK255.out))) (by decide) hg); replace HO_55 := aM (Kd.R_over' (by refine oR ?_; exact (tR HO_55.out BK255.out)) (Kd.R_typed (by refine oR ?_; exact (tR HO_243001.out BK255.out))) (by decide) hg); replace HO_95 := aM (Kd.R_over' (by refine oR ?_; exact (uR gb255 HO_95.out)) (Kd.R_typed (by refine oR ?_; exact (tR HO_243001.out BK255.out))) (by decide) hg); replace HO_226001 := aM (Kd.R_over' (by refine oR ?_; exact (tR HO_226001.out BK255.out)) (Kd.R_typed (by refine oR ?_; exact (tR HO_243001.out BK255.out))) (by decide) hg); replace HO_226002 := aM (Kd.S_after (ok := (fun k_ => some k_ ≠ (u243002 : Value).ownBlock ∧ k_ ≠ gb242)) (by refine oS ?_; exact sM HO_226002.out BK255.out (fun _ hk => ⟨⟨hk.1.2.1, hk.1.2.2⟩, hk.1.1⟩)) hg hat); replace HO_243002 := aM (Kd.R_after (ok := (fun _ => True)) (by refine oR ?_; exact tM HO_243002.out BK255.out (fun _ hk => ⟨trivial, hk.1⟩)) hg hat); replace BK217 := aM (blk_grown (g := gb217) (o := .cells #[.string x218000_3, .slice none 0 0, .slice none 0 0] 28 (0, 0)) (bF BK217.out NB217_255.out) hg (Kd.R_ne HO_243001.out BK217.out (by decide))); replace BK225 := aM (blk_grown (g := gb225) (o := .cells #[.string (⟨#[97, 108, 112, 104, 97]⟩ : ByteArray), .slice Ao38 x226001_1.length co38, u226002] 28 (0, 0)) (bF BK225.out NB225_255.out) hg (Kd.R_ne HO_243001.out BK225.out (by decide))); replace BK242 := aM (blk_grown (g := gb242) (o := .cells #[.string (rdOf ByteArray.empty t236 x57_2), u243001, u243002, .slice none 0 0, .int .i64 0] 41 (0, 0)) (bF BK242.out NB242_255.out) hg (Kd.R_ne HO_243001.out BK242.out (by decide))); replace BK255 := aM (blk_grown (g := gb255) (o := .cells #[.int .u64 ((rd_T57 t218 x97_6).f0), .int .u64 ((rd_T57 t218 x97_6).f1)] 57 (0, 0)) (bP BK255.out) hg (Kd.R_ne HO_243001.out BK255.out (by decide))); replace HB := aM (hb); have HO259 := aM (ho); clear HO_243001; clear ho hb hg hat; obtain ⟨Ao97, co97, eo97⟩ := Kd.R_slice HO259.out; subst eo97; obtain ⟨hcz98_0, hcz98_1, hcz98_2, hcz98_3, hcz98_4, hfz98_0, hfz98_1, hfz98_2, hfz98_3, hfz98_4⟩ := cd5 BK242.out; obtain ⟨hcz99_0, hcz99_1, hfz99_0, hfz99_1⟩ := cd2 BK255.out) | ((with_reducible refine gate_callee (f := 29) rfl ?_); refine gM (some 117) Tryd.func29 #[.int .u64 ((rd_T57 t218 x97_6).f0), .int .i64 x57_2] ?_; (with_reducible refine (d_has.calls ((rd_T57 t218 x97_6).f0) x57_2 true _ A85.out).mono ?_); rintro e w' ⟨rfl, ⟨nd, rfl⟩⟩; refine ⟨_, rfl, ?_⟩) | ((with_reducible refine gate_builtin (b := .append) (xs := #[.tmp 119, .tmp 123]) rfl ?_); at_builtin; refine Kd.R_append k62 (w0 := w) w.heap.size rfl (.tmp 119) (.tmp 123) 39 62 (.agg #[(.int .i64 0), (.int .i64 0)]) 16 rfl Tryd.underlying39 info62 rfl (by decide) (by omega) u243002 x243002_6 (⟨wrap64 (x97_6 + 2), 1⟩ : S62) [.int .i64 (wrap64 (x97_6 + 2)), .int .i64 1] (fun k_ => some k_ ≠ (.slice Ao97 y257.length co97 : Value).ownBlock) (fun _ => False) rfl (by first | (go_simp; done) | (go_simp; rfl)) ?aP (fun _ hk => hk.elim) ?aF ?aO ?aB ?aS ?aL ?_; (case aP => exact k62_mkM _ _ _ (⟨wrap64 (x97_6 + 2), 1⟩ : S62)); (case aB => exact (bB4 HB.out GE217.out GE225.out GE242.out GE255.out)); (case aF => exact (fun k_ hk => Kd.fresh' (Kd.R_lt (by refine oR ?_; exact (tR HO259.out BK242.out))) k_ hk)); (case aO => exact (by refine oR ?_; exact tM HO_243002.out BK242.out (fun _ hk => hk.1.2))); (case aS => exact (below_size (bB4 HB.out GE217.out GE225.out GE242.out GE255.out))); (case aL => have := LMc87.out; omega); intro v262 w100 ho hb hg hat; rw [← Ny261.out] at ho; replace HO_4 := aM (Kd.R_over' (by refine oR ?_; exact (tR HO_4.out BK242.out)) (Kd.R_typed (by refine oR ?_; exact (tR HO_243002.out BK242.out))) (by decide) hg); replace HO_8 := aM (Kd.R_over' (by refine oR ?_; exact (tR HO_8.out BK242.out)) (Kd.R_typed (by refine oR ?_; exact (tR HO_243002.out BK242.out))) (by decide) hg); replace HO_9 := aM (Kd.R_over' (by refine oR ?_; exact (tR HO_9.out BK242.out)) (Kd.R_typed (by refine oR ?_; exact (tR HO_243002.out BK242.out))) (by decide) hg); replace HO_55 := aM (Kd.R_over' (by refine oR ?_; exact (tR HO_55.out BK242.out)) (Kd.R_typed (by refine oR ?_; exact (tR HO_243002.out BK242.out))) (by decide) hg); replace HO_95 := aM (Kd.R_over' (by refine oR ?_; exact (tR HO_95.out BK242.out)) (Kd.R_typed (by refine oR ?_; exact (tR HO_243002.out BK242.out))) (by decide) hg); replace HO_226001 := aM (Kd.R_over' (by refine oR ?_; exact (tR HO_226001.out BK242.out)) (Kd.R_typed (by refine oR ?_; exact (tR HO_243002.out BK242.out))) (by decide) hg); replace HO_226002 := aM (Kd.S_after (ok := (fun k_ => some k_ ≠ (.slice Ao97 y257.length co97 : Value).ownBlock ∧ k_ ≠ gb242)) (by refine oS ?_; exact Kd.S_mono (Kd.S_far (p := ⟨gb242, 1, none⟩) (Kd.S_mono HO_226002.out (fun k_ hk => (⟨hk, hk.1.2⟩ : _ ∧ k_ ≠ gb242))) (fun _ hk => hk.2) (.slice Ao97 y257.length co97)) (fun _ hk => ⟨⟨hk.1.2, hk.1.1.2⟩, hk.1.1.1⟩)) hg hat); replace BK217 := aM (blk_grown (g := gb217) (o := .cells #[.string x218000_3, .slice none 0 0, .slice none 0 0] 28 (0, 0)) (bF BK217.out NB217_242.out) hg (Kd.R_ne HO_243002.out BK217.out (by decide))); replace BK225 := aM (blk_grown (g := gb225) (o := .cells #[.string (⟨#[97, 108, 112, 104, 97]⟩ : ByteArray), .slice Ao38 x226001_1.length co38, u226002] 28 (0, 0)) (bF BK225.out NB225_242.out) hg (Kd.R_ne HO_243002.out BK225.out (by decide))); replace BK255 := aM (blk_grown (g := gb255) (o := .cells #[.int .u64 ((rd_T57 t218 x97_6).f0), .int .u64 ((rd_T57 t218 x97_6).f1)] 57 (0, 0)) (bF BK255.out NB255_242.out) hg (Kd.R_ne HO_243002.out BK255.out (by decide))); replace HO259 := aM (Kd.R_after (ok := (fun _ => True)) (by refine oR ?_; exact tM HO259.out BK242.out (fun _ hk => ⟨trivial, hk.1⟩)) hg hat); replace BK242 := aM (blk_grown (g := gb242) (o := .cells #[.string (rdOf ByteArray.empty t236 x57_2), .slice Ao97 y257.length co97, u243002, .slice none 0 0, .int .i64 0] 41 (0, 0)) (bP BK242.out) hg (Kd.R_ne HO_243002.out BK242.out (by decide))); replace HB := aM (hb); have HO263 := aM (ho); clear HO_243002; clear ho hb hg hat; obtain ⟨Ao101, co101, eo101⟩ := Kd.R_slice HO263.out; subst eo101; obtain ⟨hcz102_0, hcz102_1, hcz102_2, hcz102_3, hcz102_4, hfz102_0, hfz102_1, hfz102_2, hfz102_3, hfz102_4⟩ := cd5 BK242.out))
       go_roundg k6
       case measure => have := HK1.out; have := HK2.out; have := HK3.out; have := HJ53.out; have := HJ68.out; have := HK6.out; omega
       case rel => exact ⟨(wrap64 (x97_6 + 1)), (y257), (y261), (.slice Ao97 y257.length co97), (.slice Ao101 y261.length co101), eT, H', ⟨by have := HK1.out; have := HK2.out; have := HK3.out; have := HJ53.out; have := HJ68.out; have := HK6.out; omega⟩, ⟨by refine oR ?_; exact tT HO_4.out BK242.out⟩, ⟨by refine oR ?_; exact tM HO_8.out BK242.out (fun _ hk => ⟨hk.1.1, hk.1.2⟩)⟩, ⟨by refine oR ?_; exact tM HO_9.out BK242.out (fun _ hk => ⟨hk.1.1, hk.1.2⟩)⟩, ⟨by refine oR ?_; exact tM HO_55.out BK242.out (fun _ hk => ⟨hk.1.1, hk.1.2⟩)⟩, ⟨by refine oR ?_; exact tT HO_95.out BK242.out⟩, ⟨by refine oR ?_; exact tT HO_226001.out BK242.out⟩, ⟨by refine oS ?_; exact Kd.S_mono (Kd.S_far (p := ⟨gb242, 2, none⟩) (Kd.S_mono HO_226002.out (fun k_ hk => (⟨hk, hk.1.2⟩ : _ ∧ k_ ≠ gb242))) (fun _ hk => hk.2) (.slice Ao101 y261.length co101)) (fun _ hk => ⟨hk.1.1.1, ⟨hk.1.2, hk.1.1.2⟩⟩)⟩, ⟨by refine oR ?_; exact tM HO259.out BK242.out (fun _ hk => hk.1.2)⟩, ⟨by refine oR ?_; exact tM HO263.out BK242.out (fun _ hk => hk.1)⟩, ⟨bF BK217.out NB217_242.out⟩, ⟨bF BK225.out NB225_242.out⟩, ⟨bP BK242.out⟩, ⟨bB4 HB.out GE217.out GE225.out GE242.out GE255.out⟩⟩


/-! ### r48_Name: function 73 -/
def r48_Name.l0 : Nat → ByteArray → Int → Option (Bool)
 | 0, _, _ => none
 | k + 1, x0, x3 => if x3 < (x0.size : Int) then (if 0 ≤ x3 then (if (bt x0 x3) ≥ 97 then (if (bt x0 x3) ≤ 122 then (r48_Name.l0 k x0 (wrap64 (x3 + 1))) else (if ((bt x0 x3) = 95) then (r48_Name.l0 k x0 (wrap64 (x3 + 1))) else (if x3 = 0 then (some false) else (if (bt x0 x3) = 46 then (r48_Name.l0 k x0 (wrap64 (x3 + 1))) else (if (bt x0 x3) < 48 then (some false) else (if (bt x0 x3) > 57 then (some false) else (r48_Name.l0 k x0 (wrap64 (x3 + 1))))))))) else (if ((bt x0 x3) = 95) then (r48_Name.l0 k x0 (wrap64 (x3 + 1))) else (if x3 = 0 then (some false) else (if (bt x0 x3) = 46 then (r48_Name.l0 k x0 (wrap64 (x3 + 1))) else (if (bt x0 x3) < 48 then (some false) else (if (bt x0 x3) > 57 then (some false) else (r48_Name.l0 k x0 (wrap64 (x3 + 1))))))))) else (none)) else (if (x0.size : Int) ≥ 1 then (some (decide ((x0.size : Int) ≤ 16))) else (some false))
def r48_Name.f (k : Nat) (a0 : ByteArray) : Option (Bool) := r48_Name.l0 k a0 0
theorem r48_Name.mono_l : ∀ k, (∀ y0 y1, LeO (r48_Name.l0 k y0 y1) (r48_Name.l0 (k + 1) y0 y1))
 | 0 => fun _ _ r h => by simp [r48_Name.l0] at h
 | k + 1 => by
  have ih0 := r48_Name.mono_l k
  ·
   intro y0 y1
   unfold r48_Name.l0
   repeat' first
   | (with_reducible first | apply ih0 | exact LeO.refl _ | exact LeO.none _ | refine LeO.ite ?_ ?_ | refine LeO.bind ?_ (fun _ => ?_))
theorem r48_Name.mono : ∀ a0 k, LeO (r48_Name.f k a0) (r48_Name.f (k + 1) a0) := by
 intro a0 k
 have ih0 := r48_Name.mono_l k
 unfold r48_Name.f
 repeat' first
   | (with_reducible first | apply ih0 | exact LeO.refl _ | exact LeO.none _ | refine LeO.ite ?_ ?_ | refine LeO.bind ?_ (fun _ => ?_))







/-! ### r06_bit: function 53 -/
def r06_bit.l0 : Nat → Int → Int → Int → Option (Int)
 | 0, _, _, _ => none
 | k + 1, x0, x3, x4 => if x4 < x0 then (r06_bit.l0 k x0 (IntKind.u64.wrap (x3 * 2)) (wrap64 (x4 + 1))) else (some x3)
def r06_bit.f (k : Nat) (a0 : Int) : Option (Int) := r06_bit.l0 k a0 1 0
theorem r06_bit.mono_l : ∀ k, (∀ y0 y1 y2, LeO (r06_bit.l0 k y0 y1 y2) (r06_bit.l0 (k + 1) y0 y1 y2))
 | 0 => fun _ _ _ r h => by simp [r06_bit.l0] at h
 | k + 1 => by
  have ih0 := r06_bit.mono_l k
  ·
   intro y0 y1 y2
   unfold r06_bit.l0
   repeat' first
   | (with_reducible first | apply ih0 | exact LeO.refl _ | exact LeO.none _ | refine LeO.ite ?_ ?_ | refine LeO.bind ?_ (fun _ => ?_))
theorem r06_bit.mono : ∀ a0 k, LeO (r06_bit.f k a0) (r06_bit.f (k + 1) a0) := by
 intro a0 k
 have ih0 := r06_bit.mono_l k
 unfold r06_bit.f
 repeat' first
   | (with_reducible first | apply ih0 | exact LeO.refl _ | exact LeO.none _ | refine LeO.ite ?_ ?_ | refine LeO.bind ?_ (fun _ => ?_))

/-! ### r06_Has: function 34 -/
def r06_Has.f (k : Nat) (a0 : Int) (a1 : Int) : Option (Bool) := if a1 ≥ 0 then (if a1 < 64 then ((r06_bit.f k a1).bind fun t295 => (if t295 = 0 then (none) else (some ((Int.tmod (IntKind.u64.wrap (Int.tdiv a0 t295)) 2) == 1)))) else (some false)) else (some false)
theorem r06_Has.mono : ∀ a0 a1 k, LeO (r06_Has.f k a0 a1) (r06_Has.f (k + 1) a0 a1) := by
 intro a0 a1 k
 unfold r06_Has.f
 repeat' first
   | (with_reducible first | apply r06_bit.mono | exact LeO.refl _ | exact LeO.none _ | refine LeO.ite ?_ ?_ | refine LeO.bind ?_ (fun _ => ?_))








attribute [local go_sem high] eqA62


attribute [local go_sem high] eqA59



/-! ### r09_Name: function 54 -/
mutual
def r09_Name.j0 : Nat → ByteArray → Bool → Option (Bool)
 | 0, _, _ => none
 | k + 1, x0, x14 => if x14 = true then (some false) else (r09_Name.l0 k x0 0)
def r09_Name.l0 : Nat → ByteArray → Int → Option (Bool)
 | 0, _, _ => none
 | k + 1, x0, x3 => if x3 < (x0.size : Int) then (if 0 ≤ x3 then (if (bt x0 x3) ≥ 97 then (if (bt x0 x3) ≤ 122 then (if (bt x0 x3) ≥ 48 then (if (bt x0 x3) ≤ 57 then (r09_Name.l0 k x0 (wrap64 (x3 + 1))) else (r09_Name.l0 k x0 (wrap64 (x3 + 1)))) else (r09_Name.l0 k x0 (wrap64 (x3 + 1)))) else (if (bt x0 x3) ≥ 48 then (if (bt x0 x3) ≤ 57 then (if ((bt x0 x3) = 95) then (r09_Name.l0 k x0 (wrap64 (x3 + 1))) else (if x3 = 0 then (some false) else (r09_Name.l0 k x0 (wrap64 (x3 + 1))))) else (if ((bt x0 x3) = 95) then (r09_Name.l0 k x0 (wrap64 (x3 + 1))) else (if ((bt x0 x3) = 46) then (if x3 = 0 then (some false) else (r09_Name.l0 k x0 (wrap64 (x3 + 1)))) else (some false)))) else (if ((bt x0 x3) = 95) then (r09_Name.l0 k x0 (wrap64 (x3 + 1))) else (if ((bt x0 x3) = 46) then (if x3 = 0 then (some false) else (r09_Name.l0 k x0 (wrap64 (x3 + 1)))) else (some false))))) else (if (bt x0 x3) ≥ 48 then (if (bt x0 x3) ≤ 57 then (if ((bt x0 x3) = 95) then (r09_Name.l0 k x0 (wrap64 (x3 + 1))) else (if x3 = 0 then (some false) else (r09_Name.l0 k x0 (wrap64 (x3 + 1))))) else (if ((bt x0 x3) = 95) then (r09_Name.l0 k x0 (wrap64 (x3 + 1))) else (if ((bt x0 x3) = 46) then (if x3 = 0 then (some false) else (r09_Name.l0 k x0 (wrap64 (x3 + 1)))) else (some false)))) else (if ((bt x0 x3) = 95) then (r09_Name.l0 k x0 (wrap64 (x3 + 1))) else (if ((bt x0 x3) = 46) then (if x3 = 0 then (some false) else (r09_Name.l0 k x0 (wrap64 (x3 + 1)))) else (some false))))) else (none)) else (some true)
end
def r09_Name.f (k : Nat) (a0 : ByteArray) : Option (Bool) := if (a0.size : Int) < 1 then (r09_Name.j0 k a0 true) else (r09_Name.j0 k a0 (decide ((a0.size : Int) > 16)))
theorem r09_Name.mono_l : ∀ k, (∀ y0 y1, LeO (r09_Name.j0 k y0 y1) (r09_Name.j0 (k + 1) y0 y1)) ∧ (∀ y0 y1, LeO (r09_Name.l0 k y0 y1) (r09_Name.l0 (k + 1) y0 y1))
 | 0 => ⟨fun _ _ r h => by simp [r09_Name.j0] at h, fun _ _ r h => by simp [r09_Name.l0] at h⟩
 | k + 1 => by
  obtain ⟨ih0, ih1⟩ := r09_Name.mono_l k
  refine ⟨?_, ?_⟩ <;> intros <;> (first | unfold r09_Name.j0 | unfold r09_Name.l0)
  all_goals repeat' first
   | (with_reducible first | apply ih0 | apply ih1 | exact LeO.refl _ | exact LeO.none _ | refine LeO.ite ?_ ?_ | refine LeO.bind ?_ (fun _ => ?_))
theorem r09_Name.mono : ∀ a0 k, LeO (r09_Name.f k a0) (r09_Name.f (k + 1) a0) := by
 intro a0 k
 obtain ⟨ih0, ih1⟩ := r09_Name.mono_l k
 unfold r09_Name.f
 repeat' first
   | (with_reducible first | apply ih0 | apply ih1 | exact LeO.refl _ | exact LeO.none _ | refine LeO.ite ?_ ?_ | refine LeO.bind ?_ (fun _ => ?_))
set_option maxHeartbeats 8000000 in
set_option maxRecDepth 100000 in
theorem r09_Name.calls (k : Nat) (a0 : ByteArray) (r : Bool) (w : World) (h : r09_Name.f k a0 = some r) :
  Calls Tryd.prog 54 #[.string a0] w fun e w' => e = .returned (.bool r) ∧ Drawn0 w w' := by
 have H : (if (a0.size : Int) < 1 then (r09_Name.j0 k a0 true) else (r09_Name.j0 k a0 (decide ((a0.size : Int) > 16)))) = some r := h; clear h; have HC2 := aM H; clear H
 go_enter Tryd.func54, Tryd.ntmps54
 go_upto_region 1 with (fail)
 go_cut [14] (fun v14 wc => ∃ (kq : Nat) (x14_1 : Bool), v14 = .bool x14_1 ∧ Aside0 (r09_Name.j0 kq a0 x14_1 = some r) ∧ Aside0 (kq ≤ k) ∧ Drawn0 w wc)
 case first =>
  have H := HC2.out; clear HC2
  by_cases c3 : (a0.size : Int) < 1
  ·
   rw [if_pos c3] at H
   have c3b0 := decide_eq_true c3; have c3b1 : decide (a0.size < 1) = true := decide_eq_true (by omega); clear c3
   (first | rw [c3b0] | (simp only [i64_w, i32_w]; rw [c3b0]) | skip)
   have H' := aM H
   clear H
   go_wp2
   go_meet
   case rel => exact ⟨_, (true), eT, H', ⟨by first | omega | exact Nat.le_refl _⟩, by repeat (first | exact Drawn0.refl _ | apply Drawn0.step)⟩
  rw [if_neg c3] at H; have c3b0 := decide_eq_false c3; have c3b1 : decide (a0.size < 1) = false := decide_eq_false (by omega); clear c3
  (first | rw [c3b0] | (simp only [i64_w, i32_w]; rw [c3b0]) | skip)
  have H' := aM H
  clear H
  go_wp2
  go_meet
  case rel => exact ⟨_, (decide ((a0.size : Int) > 16)), eT, H', ⟨by first | omega | exact Nat.le_refl _⟩, by repeat (first | exact Drawn0.refl _ | apply Drawn0.step)⟩
 clear HC2
 obtain ⟨kq, x14_1, rfl, HA, HJ1, ⟨mc1, rfl⟩⟩ := hcut
 cases kq with
 | zero => exact absurd HA.out (by simp [r09_Name.j0])
 | succ kj1 =>
  have H := HA.out; clear HA
  simp only [r09_Name.j0] at H
  by_cases c4 : x14_1 = true
  ·
   subst c4
   have H1 : (some false) = some r := by rw [if_pos rfl] at H; exact H
   clear H; have H := H1; clear H1
   obtain rfl := Option.some.inj H
   go_wp2
   go_ret
   exact ⟨by first | rfl | (simp; done) | (simp [*]; done), by repeat (first | exact Drawn0.refl _ | apply Drawn0.step)⟩
  replace c4 := Bool.eq_false_iff.mpr c4; subst c4
  have H1 : (r09_Name.l0 kj1 a0 0) = some r := by rw [if_neg (show ¬ (false = true) by decide)] at H; exact H
  clear H; have H := H1; clear H1
  have H' := aM H
  clear H
  go_wp2
  go_loopg [3] kj1 (fun kq v3 w' => ∃ (x3_2 : Int), v3 = .int .i64 x3_2 ∧ Aside0 (r09_Name.l0 kq a0 x3_2 = some r) ∧ Aside0 (kq ≤ kj1) ∧ Drawn0 w w')
  case atStart => exact ⟨(0), eT, H', ⟨Nat.le_refl _⟩, by repeat (first | exact Drawn0.refl _ | apply Drawn0.step)⟩
  clear H'
  obtain ⟨x3_2, rfl, HA, HK2, ⟨m2, rfl⟩⟩ := hrel
  cases gk with
  | zero => exact absurd HA.out (by simp [r09_Name.l0])
  | succ k2 =>
   have H := HA.out; clear HA
   simp only [r09_Name.l0] at H
   by_cases c5 : x3_2 < (a0.size : Int)
   rotate_left
   ·
    rw [if_neg c5] at H
    have c5b0 := decide_eq_false c5; clear c5
    obtain rfl := Option.some.inj H
    go_wp2
    go_ret
    exact ⟨by first | rfl | (simp; done) | (simp [*]; done), by repeat (first | exact Drawn0.refl _ | apply Drawn0.step)⟩


   rw [if_pos c5] at H; have c5b0 := decide_eq_true c5; clear c5
   obtain ⟨c6, H⟩ := iP H; have c6b0 := decide_eq_true c6; clear c6
   by_cases c8 : (bt a0 x3_2) ≥ 97
   rotate_left
   ·
    rw [if_neg c8] at H
    have c8b0 : decide (97 ≤ (bt a0 x3_2)) = false := decide_eq_false c8; clear c8
    by_cases c22 : (bt a0 x3_2) ≥ 48
    rotate_left
    ·
     rw [if_neg c22] at H
     have c22b0 : decide (48 ≤ (bt a0 x3_2)) = false := decide_eq_false c22; clear c22
     by_cases c29 : ((bt a0 x3_2) = 95)
     ·
      rw [if_pos c29] at H
      have c29b0 : ((bt a0 x3_2) == 95) = true := beq_iff_eq.mpr c29; have c29b1 : ((bt a0 x3_2) != 95) = false := bne_eq_false_iff_eq.mpr c29; clear c29
      have H' := aM H
      clear H; obtain ⟨p7, q7⟩ := aQ (x3_2) (a0.size : Int); have hx7 := bt_at a0 x3_2
      go_wp2
      go_roundg k2
      case measure => have := HJ1.out; have := HK2.out; omega
      case rel => exact ⟨(wrap64 (x3_2 + 1)), eT, H', ⟨by have := HJ1.out; have := HK2.out; omega⟩, by repeat (first | exact Drawn0.refl _ | apply Drawn0.step)⟩
     rw [if_neg c29] at H; have c29b0 : ((bt a0 x3_2) == 95) = false := beq_eq_false_iff_ne.mpr c29; have c29b1 : ((bt a0 x3_2) != 95) = true := bne_iff_ne.mpr c29
     by_cases c30 : ((bt a0 x3_2) = 46)
     rotate_left
     ·
      rw [if_neg c30] at H
      have c30b0 : ((bt a0 x3_2) == 46) = false := beq_eq_false_iff_ne.mpr c30; have c30b1 : ((bt a0 x3_2) != 46) = true := bne_iff_ne.mpr c30
      obtain rfl := Option.some.inj H
      obtain ⟨p7, q7⟩ := aQ (x3_2) (a0.size : Int); have hx7 := bt_at a0 x3_2
      go_wp2
      go_ret
      exact ⟨by first | rfl | (simp; done) | (simp [*]; done), by repeat (first | exact Drawn0.refl _ | apply Drawn0.step)⟩
     rw [if_pos c30] at H; have c30b0 : ((bt a0 x3_2) == 46) = true := beq_iff_eq.mpr c30; have c30b1 : ((bt a0 x3_2) != 46) = false := bne_eq_false_iff_eq.mpr c30; clear c30
     by_cases c31 : x3_2 = 0
     ·
      rw [if_pos c31] at H
      have c31b0 : (x3_2 == 0) = true := beq_iff_eq.mpr c31; have c31b1 : (x3_2 != 0) = false := bne_eq_false_iff_eq.mpr c31; clear c31
      obtain rfl := Option.some.inj H
      obtain ⟨p7, q7⟩ := aQ (x3_2) (a0.size : Int); have hx7 := bt_at a0 x3_2
      go_wp2
      go_ret
      exact ⟨by first | rfl | (simp; done) | (simp [*]; done), by repeat (first | exact Drawn0.refl _ | apply Drawn0.step)⟩
     rw [if_neg c31] at H; have c31b0 : (x3_2 == 0) = false := beq_eq_false_iff_ne.mpr c31; have c31b1 : (x3_2 != 0) = true := bne_iff_ne.mpr c31
     have H' := aM H
     clear H; obtain ⟨p7, q7⟩ := aQ (x3_2) (a0.size : Int); have hx7 := bt_at a0 x3_2
     go_wp2
     go_roundg k2
     case measure => have := HJ1.out; have := HK2.out; omega
     case rel => exact ⟨(wrap64 (x3_2 + 1)), eT, H', ⟨by have := HJ1.out; have := HK2.out; omega⟩, by repeat (first | exact Drawn0.refl _ | apply Drawn0.step)⟩
    rw [if_pos c22] at H; have c22b0 : decide (48 ≤ (bt a0 x3_2)) = true := decide_eq_true c22; clear c22
    by_cases c23 : (bt a0 x3_2) ≤ 57
    ·
     rw [if_pos c23] at H
     have c23b0 := decide_eq_true c23; clear c23
     by_cases c24 : ((bt a0 x3_2) = 95)
     ·
      rw [if_pos c24] at H
      have c24b0 : ((bt a0 x3_2) == 95) = true := beq_iff_eq.mpr c24; have c24b1 : ((bt a0 x3_2) != 95) = false := bne_eq_false_iff_eq.mpr c24; clear c24
      have H' := aM H
      clear H; obtain ⟨p7, q7⟩ := aQ (x3_2) (a0.size : Int); have hx7 := bt_at a0 x3_2
      go_wp2
      go_roundg k2
      case measure => have := HJ1.out; have := HK2.out; omega
      case rel => exact ⟨(wrap64 (x3_2 + 1)), eT, H', ⟨by have := HJ1.out; have := HK2.out; omega⟩, by repeat (first | exact Drawn0.refl _ | apply Drawn0.step)⟩
     rw [if_neg c24] at H; have c24b0 : ((bt a0 x3_2) == 95) = false := beq_eq_false_iff_ne.mpr c24; have c24b1 : ((bt a0 x3_2) != 95) = true := bne_iff_ne.mpr c24
     by_cases c25 : x3_2 = 0
     ·
      rw [if_pos c25] at H
      have c25b0 : (x3_2 == 0) = true := beq_iff_eq.mpr c25; have c25b1 : (x3_2 != 0) = false := bne_eq_false_iff_eq.mpr c25; clear c25
      obtain rfl := Option.some.inj H
      obtain ⟨p7, q7⟩ := aQ (x3_2) (a0.size : Int); have hx7 := bt_at a0 x3_2
      go_wp2
      go_ret
      exact ⟨by first | rfl | (simp; done) | (simp [*]; done), by repeat (first | exact Drawn0.refl _ | apply Drawn0.step)⟩
     rw [if_neg c25] at H; have c25b0 : (x3_2 == 0) = false := beq_eq_false_iff_ne.mpr c25; have c25b1 : (x3_2 != 0) = true := bne_iff_ne.mpr c25
     have H' := aM H
     clear H; obtain ⟨p7, q7⟩ := aQ (x3_2) (a0.size : Int); have hx7 := bt_at a0 x3_2
     go_wp2
     go_roundg k2
     case measure => have := HJ1.out; have := HK2.out; omega
     case rel => exact ⟨(wrap64 (x3_2 + 1)), eT, H', ⟨by have := HJ1.out; have := HK2.out; omega⟩, by repeat (first | exact Drawn0.refl _ | apply Drawn0.step)⟩
    rw [if_neg c23] at H; have c23b0 := decide_eq_false c23; clear c23
    by_cases c26 : ((bt a0 x3_2) = 95)
    ·
     rw [if_pos c26] at H
     have c26b0 : ((bt a0 x3_2) == 95) = true := beq_iff_eq.mpr c26; have c26b1 : ((bt a0 x3_2) != 95) = false := bne_eq_false_iff_eq.mpr c26; clear c26
     have H' := aM H
     clear H; obtain ⟨p7, q7⟩ := aQ (x3_2) (a0.size : Int); have hx7 := bt_at a0 x3_2
     go_wp2
     go_roundg k2
     case measure => have := HJ1.out; have := HK2.out; omega
     case rel => exact ⟨(wrap64 (x3_2 + 1)), eT, H', ⟨by have := HJ1.out; have := HK2.out; omega⟩, by repeat (first | exact Drawn0.refl _ | apply Drawn0.step)⟩
    rw [if_neg c26] at H; have c26b0 : ((bt a0 x3_2) == 95) = false := beq_eq_false_iff_ne.mpr c26; have c26b1 : ((bt a0 x3_2) != 95) = true := bne_iff_ne.mpr c26
    by_cases c27 : ((bt a0 x3_2) = 46)
    rotate_left
    ·
     rw [if_neg c27] at H
     have c27b0 : ((bt a0 x3_2) == 46) = false := beq_eq_false_iff_ne.mpr c27; have c27b1 : ((bt a0 x3_2) != 46) = true := bne_iff_ne.mpr c27
     obtain rfl := Option.some.inj H
     obtain ⟨p7, q7⟩ := aQ (x3_2) (a0.size : Int); have hx7 := bt_at a0 x3_2
     go_wp2
     go_ret
     exact ⟨by first | rfl | (simp; done) | (simp [*]; done), by repeat (first | exact Drawn0.refl _ | apply Drawn0.step)⟩
    rw [if_pos c27] at H; have c27b0 : ((bt a0 x3_2) == 46) = true := beq_iff_eq.mpr c27; have c27b1 : ((bt a0 x3_2) != 46) = false := bne_eq_false_iff_eq.mpr c27; clear c27
    by_cases c28 : x3_2 = 0
    ·
     rw [if_pos c28] at H
     have c28b0 : (x3_2 == 0) = true := beq_iff_eq.mpr c28; have c28b1 : (x3_2 != 0) = false := bne_eq_false_iff_eq.mpr c28; clear c28
     obtain rfl := Option.some.inj H
     obtain ⟨p7, q7⟩ := aQ (x3_2) (a0.size : Int); have hx7 := bt_at a0 x3_2
     go_wp2
     go_ret
     exact ⟨by first | rfl | (simp; done) | (simp [*]; done), by repeat (first | exact Drawn0.refl _ | apply Drawn0.step)⟩
    rw [if_neg c28] at H; have c28b0 : (x3_2 == 0) = false := beq_eq_false_iff_ne.mpr c28; have c28b1 : (x3_2 != 0) = true := bne_iff_ne.mpr c28
    have H' := aM H
    clear H; obtain ⟨p7, q7⟩ := aQ (x3_2) (a0.size : Int); have hx7 := bt_at a0 x3_2
    go_wp2
    go_roundg k2
    case measure => have := HJ1.out; have := HK2.out; omega
    case rel => exact ⟨(wrap64 (x3_2 + 1)), eT, H', ⟨by have := HJ1.out; have := HK2.out; omega⟩, by repeat (first | exact Drawn0.refl _ | apply Drawn0.step)⟩
   rw [if_pos c8] at H; have c8b0 : decide (97 ≤ (bt a0 x3_2)) = true := decide_eq_true c8; clear c8
   by_cases c9 : (bt a0 x3_2) ≤ 122
   ·
    rw [if_pos c9] at H
    have c9b0 := decide_eq_true c9; clear c9
    by_cases c10 : (bt a0 x3_2) ≥ 48
    rotate_left
    ·
     rw [if_neg c10] at H
     have c10b0 : decide (48 ≤ (bt a0 x3_2)) = false := decide_eq_false c10; clear c10
     have H' := aM H
     clear H; obtain ⟨p7, q7⟩ := aQ (x3_2) (a0.size : Int); have hx7 := bt_at a0 x3_2
     go_wp2
     go_roundg k2
     case measure => have := HJ1.out; have := HK2.out; omega
     case rel => exact ⟨(wrap64 (x3_2 + 1)), eT, H', ⟨by have := HJ1.out; have := HK2.out; omega⟩, by repeat (first | exact Drawn0.refl _ | apply Drawn0.step)⟩
    rw [if_pos c10] at H; have c10b0 : decide (48 ≤ (bt a0 x3_2)) = true := decide_eq_true c10; clear c10
    by_cases c11 : (bt a0 x3_2) ≤ 57
    ·
     rw [if_pos c11] at H
     have c11b0 := decide_eq_true c11; clear c11
     have H' := aM H
     clear H; obtain ⟨p7, q7⟩ := aQ (x3_2) (a0.size : Int); have hx7 := bt_at a0 x3_2
     go_wp2
     go_roundg k2
     case measure => have := HJ1.out; have := HK2.out; omega
     case rel => exact ⟨(wrap64 (x3_2 + 1)), eT, H', ⟨by have := HJ1.out; have := HK2.out; omega⟩, by repeat (first | exact Drawn0.refl _ | apply Drawn0.step)⟩
    rw [if_neg c11] at H; have c11b0 := decide_eq_false c11; clear c11
    have H' := aM H
    clear H; obtain ⟨p7, q7⟩ := aQ (x3_2) (a0.size : Int); have hx7 := bt_at a0 x3_2
    go_wp2
    go_roundg k2
    case measure => have := HJ1.out; have := HK2.out; omega
    case rel => exact ⟨(wrap64 (x3_2 + 1)), eT, H', ⟨by have := HJ1.out; have := HK2.out; omega⟩, by repeat (first | exact Drawn0.refl _ | apply Drawn0.step)⟩
   rw [if_neg c9] at H; have c9b0 := decide_eq_false c9; clear c9
   by_cases c12 : (bt a0 x3_2) ≥ 48
   rotate_left
   ·
    rw [if_neg c12] at H
    have c12b0 : decide (48 ≤ (bt a0 x3_2)) = false := decide_eq_false c12; clear c12
    by_cases c19 : ((bt a0 x3_2) = 95)
    ·
     rw [if_pos c19] at H
     have c19b0 : ((bt a0 x3_2) == 95) = true := beq_iff_eq.mpr c19; have c19b1 : ((bt a0 x3_2) != 95) = false := bne_eq_false_iff_eq.mpr c19; clear c19
     have H' := aM H
     clear H; obtain ⟨p7, q7⟩ := aQ (x3_2) (a0.size : Int); have hx7 := bt_at a0 x3_2
     go_wp2
     go_roundg k2
     case measure => have := HJ1.out; have := HK2.out; omega
     case rel => exact ⟨(wrap64 (x3_2 + 1)), eT, H', ⟨by have := HJ1.out; have := HK2.out; omega⟩, by repeat (first | exact Drawn0.refl _ | apply Drawn0.step)⟩
    rw [if_neg c19] at H; have c19b0 : ((bt a0 x3_2) == 95) = false := beq_eq_false_iff_ne.mpr c19; have c19b1 : ((bt a0 x3_2) != 95) = true := bne_iff_ne.mpr c19
    by_cases c20 : ((bt a0 x3_2) = 46)
    rotate_left
    ·
     rw [if_neg c20] at H
     have c20b0 : ((bt a0 x3_2) == 46) = false := beq_eq_false_iff_ne.mpr c20; have c20b1 : ((bt a0 x3_2) != 46) = true := bne_iff_ne.mpr c20
     obtain rfl := Option.some.inj H
     obtain ⟨p7, q7⟩ := aQ (x3_2) (a0.size : Int); have hx7 := bt_at a0 x3_2
     go_wp2
     go_ret
     exact ⟨by first | rfl | (simp; done) | (simp [*]; done), by repeat (first | exact Drawn0.refl _ | apply Drawn0.step)⟩
    rw [if_pos c20] at H; have c20b0 : ((bt a0 x3_2) == 46) = true := beq_iff_eq.mpr c20; have c20b1 : ((bt a0 x3_2) != 46) = false := bne_eq_false_iff_eq.mpr c20; clear c20
    by_cases c21 : x3_2 = 0
    ·
     rw [if_pos c21] at H
     have c21b0 : (x3_2 == 0) = true := beq_iff_eq.mpr c21; have c21b1 : (x3_2 != 0) = false := bne_eq_false_iff_eq.mpr c21; clear c21
     obtain rfl := Option.some.inj H
     obtain ⟨p7, q7⟩ := aQ (x3_2) (a0.size : Int); have hx7 := bt_at a0 x3_2
     go_wp2
     go_ret
     exact ⟨by first | rfl | (simp; done) | (simp [*]; done), by repeat (first | exact Drawn0.refl _ | apply Drawn0.step)⟩
    rw [if_neg c21] at H; have c21b0 : (x3_2 == 0) = false := beq_eq_false_iff_ne.mpr c21; have c21b1 : (x3_2 != 0) = true := bne_iff_ne.mpr c21
    have H' := aM H
    clear H; obtain ⟨p7, q7⟩ := aQ (x3_2) (a0.size : Int); have hx7 := bt_at a0 x3_2
    go_wp2
    go_roundg k2
    case measure => have := HJ1.out; have := HK2.out; omega
    case rel => exact ⟨(wrap64 (x3_2 + 1)), eT, H', ⟨by have := HJ1.out; have := HK2.out; omega⟩, by repeat (first | exact Drawn0.refl _ | apply Drawn0.step)⟩
   rw [if_pos c12] at H; have c12b0 : decide (48 ≤ (bt a0 x3_2)) = true := decide_eq_true c12; clear c12
   by_cases c13 : (bt a0 x3_2) ≤ 57
   ·
    rw [if_pos c13] at H
    have c13b0 := decide_eq_true c13; clear c13
    by_cases c14 : ((bt a0 x3_2) = 95)
    ·
     rw [if_pos c14] at H
     have c14b0 : ((bt a0 x3_2) == 95) = true := beq_iff_eq.mpr c14; have c14b1 : ((bt a0 x3_2) != 95) = false := bne_eq_false_iff_eq.mpr c14; clear c14
     have H' := aM H
     clear H; obtain ⟨p7, q7⟩ := aQ (x3_2) (a0.size : Int); have hx7 := bt_at a0 x3_2
     go_wp2
     go_roundg k2
     case measure => have := HJ1.out; have := HK2.out; omega
     case rel => exact ⟨(wrap64 (x3_2 + 1)), eT, H', ⟨by have := HJ1.out; have := HK2.out; omega⟩, by repeat (first | exact Drawn0.refl _ | apply Drawn0.step)⟩
    rw [if_neg c14] at H; have c14b0 : ((bt a0 x3_2) == 95) = false := beq_eq_false_iff_ne.mpr c14; have c14b1 : ((bt a0 x3_2) != 95) = true := bne_iff_ne.mpr c14
    by_cases c15 : x3_2 = 0
    ·
     rw [if_pos c15] at H
     have c15b0 : (x3_2 == 0) = true := beq_iff_eq.mpr c15; have c15b1 : (x3_2 != 0) = false := bne_eq_false_iff_eq.mpr c15; clear c15
     obtain rfl := Option.some.inj H
     obtain ⟨p7, q7⟩ := aQ (x3_2) (a0.size : Int); have hx7 := bt_at a0 x3_2
     go_wp2
     go_ret
     exact ⟨by first | rfl | (simp; done) | (simp [*]; done), by repeat (first | exact Drawn0.refl _ | apply Drawn0.step)⟩
    rw [if_neg c15] at H; have c15b0 : (x3_2 == 0) = false := beq_eq_false_iff_ne.mpr c15; have c15b1 : (x3_2 != 0) = true := bne_iff_ne.mpr c15
    have H' := aM H
    clear H; obtain ⟨p7, q7⟩ := aQ (x3_2) (a0.size : Int); have hx7 := bt_at a0 x3_2
    go_wp2
    go_roundg k2
    case measure => have := HJ1.out; have := HK2.out; omega
    case rel => exact ⟨(wrap64 (x3_2 + 1)), eT, H', ⟨by have := HJ1.out; have := HK2.out; omega⟩, by repeat (first | exact Drawn0.refl _ | apply Drawn0.step)⟩
   rw [if_neg c13] at H; have c13b0 := decide_eq_false c13; clear c13
   by_cases c16 : ((bt a0 x3_2) = 95)
   ·
    rw [if_pos c16] at H
    have c16b0 : ((bt a0 x3_2) == 95) = true := beq_iff_eq.mpr c16; have c16b1 : ((bt a0 x3_2) != 95) = false := bne_eq_false_iff_eq.mpr c16; clear c16
    have H' := aM H
    clear H; obtain ⟨p7, q7⟩ := aQ (x3_2) (a0.size : Int); have hx7 := bt_at a0 x3_2
    go_wp2
    go_roundg k2
    case measure => have := HJ1.out; have := HK2.out; omega
    case rel => exact ⟨(wrap64 (x3_2 + 1)), eT, H', ⟨by have := HJ1.out; have := HK2.out; omega⟩, by repeat (first | exact Drawn0.refl _ | apply Drawn0.step)⟩
   rw [if_neg c16] at H; have c16b0 : ((bt a0 x3_2) == 95) = false := beq_eq_false_iff_ne.mpr c16; have c16b1 : ((bt a0 x3_2) != 95) = true := bne_iff_ne.mpr c16
   by_cases c17 : ((bt a0 x3_2) = 46)
   rotate_left
   ·
    rw [if_neg c17] at H
    have c17b0 : ((bt a0 x3_2) == 46) = false := beq_eq_false_iff_ne.mpr c17; have c17b1 : ((bt a0 x3_2) != 46) = true := bne_iff_ne.mpr c17
    obtain rfl := Option.some.inj H
    obtain ⟨p7, q7⟩ := aQ (x3_2) (a0.size : Int); have hx7 := bt_at a0 x3_2
    go_wp2
    go_ret
    exact ⟨by first | rfl | (simp; done) | (simp [*]; done), by repeat (first | exact Drawn0.refl _ | apply Drawn0.step)⟩
   rw [if_pos c17] at H; have c17b0 : ((bt a0 x3_2) == 46) = true := beq_iff_eq.mpr c17; have c17b1 : ((bt a0 x3_2) != 46) = false := bne_eq_false_iff_eq.mpr c17; clear c17
   by_cases c18 : x3_2 = 0
   ·
    rw [if_pos c18] at H
    have c18b0 : (x3_2 == 0) = true := beq_iff_eq.mpr c18; have c18b1 : (x3_2 != 0) = false := bne_eq_false_iff_eq.mpr c18; clear c18
    obtain rfl := Option.some.inj H
    obtain ⟨p7, q7⟩ := aQ (x3_2) (a0.size : Int); have hx7 := bt_at a0 x3_2
    go_wp2
    go_ret
    exact ⟨by first | rfl | (simp; done) | (simp [*]; done), by repeat (first | exact Drawn0.refl _ | apply Drawn0.step)⟩
   rw [if_neg c18] at H; have c18b0 : (x3_2 == 0) = false := beq_eq_false_iff_ne.mpr c18; have c18b1 : (x3_2 != 0) = true := bne_iff_ne.mpr c18
   have H' := aM H
   clear H; obtain ⟨p7, q7⟩ := aQ (x3_2) (a0.size : Int); have hx7 := bt_at a0 x3_2
   go_wp2
   go_roundg k2
   case measure => have := HJ1.out; have := HK2.out; omega
   case rel => exact ⟨(wrap64 (x3_2 + 1)), eT, H', ⟨by have := HJ1.out; have := HK2.out; omega⟩, by repeat (first | exact Drawn0.refl _ | apply Drawn0.step)⟩


section
-- STUBBED 55
/-! ### r09_place: function 55: by hand -/
open Go.Proofs.YtejchnmhlcbfcaaDoor.Iter
attribute [local go_sem] Instr.field asAgg

def placeE (p : S59) : Int := if p.f2 < 0 ∨ 1048576 < p.f2 then 1 else if p.f1 < 0 ∨ 1048576 < p.f1 then 10 else if p.f2 = 0 then 0 else if p.f2 < p.f1 then 10 else 0
/-- The first error of place i, behind its name. -/
def placeF (l1 : List S59) (p : S59) (i : Nat) : Option Int := if ((l1.take i).any fun y => y.f0.toList == p.f0.toList) = true then some 6 else some (placeE p)
def r09_place.f (k : Nat) (a0_0 : ByteArray) (l0_1 : List S59) (l0_2 : List S41) (a1 : Int) : Option Int := if 0 ≤ a1 ∧ a1 < (l0_1.length : Int) ∧ l0_1.length ≤ 1000 then (r09_Name.f k (rd_T59 l0_1 a1).f0).bind fun b => if b = true then placeF l0_1 (rd_T59 l0_1 a1) a1.toNat else some 5 else none
theorem r09_place.mono (a0 : ByteArray) (a1 : List S59) (a2 : List S41) (a3 : Int) (k : Nat) : LeO (r09_place.f k a0 a1 a2 a3) (r09_place.f (k + 1) a0 a1 a2 a3) := by
 unfold r09_place.f
 split
 ·refine LeO.bind (r09_Name.mono _ _) fun b => ?_
  split
  ·exact LeO.refl _
  ·exact LeO.refl _
 ·exact LeO.refl _
theorem np3 {W : World} {g : Nat} {t : TypeId} {x y z : Value} (h : Blk W g t [x, y, z]) : W.cell? ⟨g, 0, none⟩ = some x ∧ W.cell? ⟨g, 1, none⟩ = some y ∧ W.cell? ⟨g, 2, none⟩ = some z := by
 refine ⟨?_, ?_, ?_⟩ <;> simp [World.cell?, show W.heap[g]? = _ from h]

set_option maxHeartbeats 16000000 in
set_option maxRecDepth 100000 in
theorem r09_place.calls (k : Nat) (a0_0 : ByteArray) (A0_1 : Option Addr) (c0_1 : Nat) (l0_1 : List S59) (A0_2 : Option Addr) (c0_2 : Nat) (l0_2 : List S41) (a1 : Int) (r : Int) (w : World) (hr0_1 : Kd.C k59 w A0_1 l0_1.length l0_1) (hc0_1 : l0_1.length ≤ c0_1) (hr0_2 : Kd.C k41 w A0_2 l0_2.length l0_2) (hc0_2 : l0_2.length ≤ c0_2) (h : r09_place.f k a0_0 l0_1 l0_2 a1 = some r) :
  Calls Tryd.prog 55 #[.agg #[.string a0_0, .slice A0_1 l0_1.length c0_1, .slice A0_2 l0_2.length c0_2], .int .i64 a1] w fun e w' => e = .returned (.int .i64 r) ∧ Below w.heap.size w w' := by
 have HR1 := aM hr0_1
 clear hr0_1 hc0_1 hr0_2 hc0_2
 unfold r09_place.f at h
 by_cases hin : 0 ≤ a1 ∧ a1 < (l0_1.length : Int) ∧ l0_1.length ≤ 1000
 ·rw [if_pos hin] at h
  obtain ⟨h0, hlt0, hn1⟩ := hin
  obtain ⟨i, rfl⟩ : ∃ i : Nat, a1 = (i : Int) := ⟨a1.toNat, by omega⟩
  have hil : i < l0_1.length := by omega
  obtain ⟨b, hb, h⟩ := Option.bind_eq_some_iff.mp h
  obtain ⟨ad, e1, hx0, hx1, hx2⟩ := at_T59 HR1.out (i : Int) (by omega) (by omega)
  cases e1
  rw [Int.toNat_natCast] at hx0 hx1 hx2 h
  generalize rd_T59 l0_1 (i : Int) = p at h hb hx0 hx1 hx2
  have HN := aM hb
  have HH0 := aM h
  clear h hb h0
  go_enter Tryd.func55, Tryd.ntmps55
  go_upto_region 2 with (first | ((with_reducible refine gate_dst (N := 2) rfl ?_); refine bX 2 (cs := #[.string a0_0, .slice (some ad) l0_1.length c0_1, .slice A0_2 l0_2.length c0_2]) (t := 28) ?_; intro g1 hg1 w1 hbox1 hb1; have HS1 := aM (show Blk w1 g1 28 [.string a0_0, .slice (some ad) l0_1.length c0_1, .slice A0_2 l0_2.length c0_2] from hbox1); obtain ⟨s0, s1, s2⟩ := np3 HS1.out; have HB1 := aM hb1; have HGA := aM hg1; replace hx0 := (hb1.cell (World.block_lt_of_cell? w _ hx0)).trans hx0; replace hx1 := (hb1.cell (World.block_lt_of_cell? w _ hx1)).trans hx1; replace hx2 := (hb1.cell (World.block_lt_of_cell? w _ hx2)).trans hx2; clear hbox1 hb1 hg1) | ((with_reducible refine gate_dst (N := 5) rfl ?_); refine bX 5 (cs := #[.string ⟨#[]⟩, .int .i64 0, .int .i64 0]) (t := 59) ?_; intro g2 hg2 w4 hbox hb4; have HG4 := aM (show Blk w4 g2 59 [.string ⟨#[]⟩, .int .i64 0, .int .i64 0] from hbox); have hz0 := blk_cell hbox 0; have hz1 := blk_cell hbox 1; have hz2 := blk_cell hbox 2; have hq0 := blk_frozen hbox 0; have hq1 := blk_frozen hbox 1; have hq2 := blk_frozen hbox 2; have HB4 := aM hb4; have HGB := aM hg2; clear hbox hb4 hg2))
  obtain ⟨wr, hW5⟩ : ∃ W5, ((w4.setCell ⟨g2, 0, none⟩ (.string p.f0)).setCell ⟨g2, 1, none⟩ (.int .i64 p.f1)).setCell ⟨g2, 2, none⟩ (.int .i64 p.f2) = W5 := ⟨_, rfl⟩
  have HG := aM (show Blk wr g2 59 [.string p.f0, .int .i64 p.f1, .int .i64 p.f2] from hW5 ▸ blk_set 2 _ (blk_set 1 _ (blk_set 0 _ HG4.out)))
  have hb5 : Below w1.heap.size w1 wr := by rw [← hW5]; exact ((HB4.out.setCell (p := ⟨g2, 0, none⟩) (by rw [HGB.out]; exact Nat.le_refl _) _).setCell (p := ⟨g2, 1, none⟩) (by rw [HGB.out]; exact Nat.le_refl _) _).setCell (p := ⟨g2, 2, none⟩) (by rw [HGB.out]; exact Nat.le_refl _) _
  rw [hW5]
  have HS := aM (blk_later HS1.out hb5)
  have HB := aM (below_step HB1.out hb5)
  clear hW5 HG4 HB4 HGB hb5 HS1 HB1 HGA hz0 hz1 hz2 hq0 hq1 hq2 hx0 hx1 hx2 s0 s1 s2
  obtain ⟨s0, s1, s2⟩ := np3 HS.out
  obtain ⟨t0, t1, t2⟩ := np3 HG.out
  cases b with
  | false =>
   have h := HH0.out
   have h : some (5 : Int) = some r := h
   obtain rfl := Option.some.inj h
   clear h
   go_wp2_with (go_at_call 54; (with_reducible refine (r09_Name.calls k p.f0 false _ HN.out).mono ?_); rintro e w' ⟨rfl, ⟨nd, rfl⟩⟩)
   go_ret
   exact ⟨rfl, by (with_reducible repeat (first | apply pw_below_drewN | apply below_drew1)); exact HB.out⟩
  | true =>
   have h := HH0.out
   rw [if_pos rfl] at h
   have HH := aM h
   clear h HH0
   go_wp2_with (go_at_call 54; (with_reducible refine (r09_Name.calls k p.f0 true _ HN.out).mono ?_); rintro e w' ⟨rfl, ⟨nd, rfl⟩⟩)
   clear s0 s1 s2 t0 t1 t2
   go_loopw [6] (fun v6 wr => ∃ j : Nat, v6 = .int .i64 j ∧ j ≤ i ∧ Aside0 (((l0_1.take j).any fun y => y.f0.toList == p.f0.toList) = false) ∧ Aside0 (Blk wr g1 28 [.string a0_0, .slice (some ad) l0_1.length c0_1, .slice A0_2 l0_2.length c0_2]) ∧ Aside0 (Blk wr g2 59 [.string p.f0, .int .i64 p.f1, .int .i64 p.f2]) ∧ Aside0 (Below w.heap.size w wr)) (fun v6 _ => i - (intOf v6).toNat)
   case atStart => exact ⟨0, rfl, Nat.zero_le _, ⟨rfl⟩, ⟨HS.out⟩, ⟨HG.out⟩, ⟨by (with_reducible repeat (first | apply pw_below_drewN | apply below_drew1)); exact HB.out⟩⟩
   case round =>
    clear HS HG HB
    obtain ⟨j, rfl, hj, HQ, HS, HG, HB⟩ := hrel
    obtain ⟨s0, s1, s2⟩ := np3 HS.out
    obtain ⟨t0, t1, t2⟩ := np3 HG.out
    by_cases hjl : j < i
    ·have hjm : j < l0_1.length := by omega
     obtain ⟨ad2, e2, hy0, _, _⟩ := at_T59 HR1.out (j : Int) (by omega) (by omega)
     cases e2
     rw [Int.toNat_natCast] at hy0
     replace hy0 := (HB.out.cell (World.block_lt_of_cell? w _ hy0)).trans hy0
     have hrd : rd_T59 l0_1 (j : Int) = l0_1[j] := by simp [rd_T59, hjm]
     rw [hrd] at hy0
     clear hrd
     obtain ⟨x, hx⟩ : ∃ x, x = l0_1[j] := ⟨_, rfl⟩
     rw [← hx] at hy0
     by_cases hxs : x.f0.toList = p.f0.toList
     ·have hbeq : (x.f0.toList == p.f0.toList) = true := beq_iff_eq.mpr hxs
      have hr : r = 6 := by
       have e : placeF l0_1 p i = some 6 := by unfold placeF; rw [if_pos]; exact List.any_eq_true.2 ⟨x, (by rw [hx]; exact List.mem_iff_getElem.2 ⟨j, by rw [List.length_take]; omega, List.getElem_take⟩), hbeq⟩
       have H := HH.out
       rw [e] at H
       exact (Option.some.inj H).symm
      subst hr
      clear hx hxs
      go_wp2
      go_region
      go_wp2
      go_ret
      exact ⟨rfl, by (with_reducible repeat (first | apply pw_below_drewN | apply below_drew1)); exact HB.out⟩
     ·have hbeq : (x.f0.toList == p.f0.toList) = false := beq_eq_false_iff_ne.mpr hxs
      have HQ2 := aM (show ((l0_1.take (j + 1)).any fun y => y.f0.toList == p.f0.toList) = false by rw [List.take_succ_eq_append_getElem hjm, List.any_append, HQ.out, ← hx]; simp [hbeq])
      clear hx hxs
      go_wp2
      go_region
      go_wp2
      go_roundw
      case rel => exact ⟨j + 1, by go_num, by omega, HQ2, ⟨HS.out⟩, ⟨HG.out⟩, ⟨by (with_reducible repeat (first | apply pw_below_drewN | apply below_drew1)); exact HB.out⟩⟩
      case measure => simp [intOf]; omega
    ·obtain rfl : j = i := by omega
     have h := HH.out
     unfold placeF at h
     rw [HQ.out, if_neg (by decide)] at h
     have h := Option.some.inj h
     unfold placeE at h
     clear HH HQ hj hjl
     by_cases c2 : p.f2 < 0 ∨ 1048576 < p.f2
     ·rw [if_pos c2] at h
      subst h
      have hc : p.f2 < 0 ∨ (¬ p.f2 < 0 ∧ 1048576 < p.f2) := by omega
      clear c2
      rcases hc with b1 | ⟨b1, b2⟩
      all_goals
       go_wp2
       go_ret
       exact ⟨rfl, HB.out⟩
     ·rw [if_neg c2] at h
      have b1 : ¬ p.f2 < 0 := by omega
      have b2 : ¬ 1048576 < p.f2 := by omega
      clear c2
      by_cases c1 : p.f1 < 0 ∨ 1048576 < p.f1
      ·rw [if_pos c1] at h
       subst h
       have hc : p.f1 < 0 ∨ (¬ p.f1 < 0 ∧ 1048576 < p.f1) := by omega
       clear c1
       rcases hc with b3 | ⟨b3, b4⟩
       all_goals
        go_wp2
        go_ret
        exact ⟨rfl, HB.out⟩
      ·rw [if_neg c1] at h
       have b3 : ¬ p.f1 < 0 := by omega
       have b4 : ¬ 1048576 < p.f1 := by omega
       clear c1
       by_cases c0 : p.f2 = 0
       ·rw [if_pos c0] at h
        subst h
        have q1 : (p.f2 != 0) = false := by rw [c0]; rfl
        clear c0
        go_wp2
        go_ret
        exact ⟨rfl, HB.out⟩
       ·rw [if_neg c0] at h
        have q1 : (p.f2 != 0) = true := bne_iff_ne.2 c0
        clear c0
        by_cases c5 : p.f2 < p.f1
        ·rw [if_pos c5] at h
         subst h
         go_wp2
         go_ret
         exact ⟨rfl, HB.out⟩
        ·rw [if_neg c5] at h
         subst h
         go_wp2
         go_ret
         exact ⟨rfl, HB.out⟩
 ·rw [if_neg hin] at h
  cases h


end



/-! ### r09_arcs: function 67 -/
mutual
def r09_arcs.l0 : Nat → List (S62) → Int → ByteArray → List (S59) → List (S41) → Option (Int)
 | 0, _, _, _, _, _ => none
 | k + 1, x1, x5, x402000, x402001, x402002 => if x5 < (x1.length : Int) then (if 0 ≤ x5 then (if ((rd_T62 x1 x5).f0) < 0 then (r09_arcs.j1 k x1 x5 true x402000 x402001 x402002) else (r09_arcs.j1 k x1 x5 (decide (((rd_T62 x1 x5).f0) ≥ (x402001.length : Int))) x402000 x402001 x402002)) else (none)) else (some 0)
def r09_arcs.j1 : Nat → List (S62) → Int → Bool → ByteArray → List (S59) → List (S41) → Option (Int)
 | 0, _, _, _, _, _, _ => none
 | k + 1, x1, x5, x28, x402000, x402001, x402002 => if x28 = true then (some 7) else (if x5 > 0 then (if 0 ≤ x5 then (if x5 < (x1.length : Int) then (if 0 ≤ (wrap64 (x5 - 1)) then (if (wrap64 (x5 - 1)) < (x1.length : Int) then (r09_arcs.j2 k x1 x5 (decide (((rd_T62 x1 x5).f0) ≤ ((rd_T62 x1 (wrap64 (x5 - 1))).f0))) x402000 x402001 x402002) else (none)) else (none)) else (none)) else (none)) else (r09_arcs.j2 k x1 x5 false x402000 x402001 x402002))
def r09_arcs.j2 : Nat → List (S62) → Int → Bool → ByteArray → List (S59) → List (S41) → Option (Int)
 | 0, _, _, _, _, _, _ => none
 | k + 1, x1, x5, x44, x402000, x402001, x402002 => if x44 = true then (some 8) else (if 0 ≤ x5 then (if x5 < (x1.length : Int) then (if ((rd_T62 x1 x5).f1) < 1 then (some 9) else (if ((rd_T62 x1 x5).f1) > 99 then (some 9) else (r09_arcs.l0 k x1 (wrap64 (x5 + 1)) x402000 x402001 x402002))) else (none)) else (none))
end
def r09_arcs.f (k : Nat) (a0_0 : ByteArray) (l0_1 : List (S59)) (l0_2 : List (S41)) (l1 : List (S62)) : Option (Int) := r09_arcs.l0 k l1 0 a0_0 l0_1 l0_2
theorem r09_arcs.mono_l : ∀ k, (∀ y0 y1 y2 y3 y4, LeO (r09_arcs.l0 k y0 y1 y2 y3 y4) (r09_arcs.l0 (k + 1) y0 y1 y2 y3 y4)) ∧ (∀ y0 y1 y2 y3 y4 y5, LeO (r09_arcs.j1 k y0 y1 y2 y3 y4 y5) (r09_arcs.j1 (k + 1) y0 y1 y2 y3 y4 y5)) ∧ (∀ y0 y1 y2 y3 y4 y5, LeO (r09_arcs.j2 k y0 y1 y2 y3 y4 y5) (r09_arcs.j2 (k + 1) y0 y1 y2 y3 y4 y5))
 | 0 => ⟨fun _ _ _ _ _ r h => by simp [r09_arcs.l0] at h, fun _ _ _ _ _ _ r h => by simp [r09_arcs.j1] at h, fun _ _ _ _ _ _ r h => by simp [r09_arcs.j2] at h⟩
 | k + 1 => by
  obtain ⟨ih0, ih1, ih2⟩ := r09_arcs.mono_l k
  refine ⟨?_, ?_, ?_⟩ <;> intros <;> (first | unfold r09_arcs.l0 | unfold r09_arcs.j1 | unfold r09_arcs.j2)
  all_goals repeat' first
   | (with_reducible first | apply ih0 | apply ih1 | apply ih2 | exact LeO.refl _ | exact LeO.none _ | refine LeO.ite ?_ ?_ | refine LeO.bind ?_ (fun _ => ?_))
theorem r09_arcs.mono : ∀ a0 a1 a2 a3 k, LeO (r09_arcs.f k a0 a1 a2 a3) (r09_arcs.f (k + 1) a0 a1 a2 a3) := by
 intro a0 a1 a2 a3 k
 obtain ⟨ih0, ih1, ih2⟩ := r09_arcs.mono_l k
 unfold r09_arcs.f
 repeat' first
   | (with_reducible first | apply ih0 | apply ih1 | apply ih2 | exact LeO.refl _ | exact LeO.none _ | refine LeO.ite ?_ ?_ | refine LeO.bind ?_ (fun _ => ?_))
set_option maxHeartbeats 8000000 in
set_option maxRecDepth 100000 in
theorem r09_arcs.calls (k : Nat) (a0_0 : ByteArray) (A0_1 : Option Addr) (c0_1 : Nat) (l0_1 : List (S59)) (A0_2 : Option Addr) (c0_2 : Nat) (l0_2 : List (S41)) (A1 : Option Addr) (c1 : Nat) (l1 : List (S62)) (r : Int) (w : World) (hr0_1 : Kd.C k59 w A0_1 l0_1.length l0_1) (hc0_1 : l0_1.length ≤ c0_1) (hr0_2 : Kd.C k41 w A0_2 l0_2.length l0_2) (hc0_2 : l0_2.length ≤ c0_2) (hr1 : Kd.C k62 w A1 l1.length l1) (hc1 : l1.length ≤ c1) (h : r09_arcs.f k a0_0 l0_1 l0_2 l1 = some r) :
  Calls Tryd.prog 67 #[.agg #[.string a0_0, .slice A0_1 l0_1.length c0_1, .slice A0_2 l0_2.length c0_2], .slice A1 l1.length c1] w fun e w' => e = .returned (.int .i64 r) ∧ Below w.heap.size w w' := by
 have hu28 := Tryd.underlying28; have hu9 := Tryd.underlying9; have hu25 := Tryd.underlying25; have hu26 := Tryd.underlying26; have HR0_1 := aM hr0_1; have HC0_1 := aM hc0_1; clear hr0_1 hc0_1; have HR0_2 := aM hr0_2; have HC0_2 := aM hc0_2; clear hr0_2 hc0_2; have HR1 := aM hr1; have HC1 := aM hc1; clear hr1 hc1; have HB := aM (Below.refl w.heap.size w); have H : (r09_arcs.l0 k l1 0 a0_0 l0_1 l0_2) = some r := h; clear h
 have H' := aM H
 clear H
 go_enter Tryd.func67, Tryd.ntmps67
 go_wp2_with (first | ((with_reducible refine gate_dst (N := 2) rfl ?_); (try (refine gate_guard (by rfl) ?_; dsimp only)); refine bX 2 (cs := #[.string a0_0, .slice A0_1 l0_1.length c0_1, .slice A0_2 l0_2.length c0_2]) (t := 28) ?_; intro gb401 hg w3 hbox hb; have BK401 := aM (hbox); have GW401 := aM (gE hg (below_size (bB HB.out))); have GE401 := GW401; replace HB := aM (below_step (bB HB.out) hb); clear hb hbox hg))
 repeat (go_quiet (first | ((with_reducible refine gate_dst (N := 2) rfl ?_); (try (refine gate_guard (by rfl) ?_; dsimp only)); refine bX 2 (cs := #[.string a0_0, .slice A0_1 l0_1.length c0_1, .slice A0_2 l0_2.length c0_2]) (t := 28) ?_; intro gb401 hg w3 hbox hb; have BK401 := aM (hbox); have GW401 := aM (gE hg (below_size (bB HB.out))); have GE401 := GW401; replace HB := aM (below_step (bB HB.out) hb); clear hb hbox hg)); try go_wp2_with (first | ((with_reducible refine gate_dst (N := 2) rfl ?_); (try (refine gate_guard (by rfl) ?_; dsimp only)); refine bX 2 (cs := #[.string a0_0, .slice A0_1 l0_1.length c0_1, .slice A0_2 l0_2.length c0_2]) (t := 28) ?_; intro gb401 hg w3 hbox hb; have BK401 := aM (hbox); have GW401 := aM (gE hg (below_size (bB HB.out))); have GE401 := GW401; replace HB := aM (below_step (bB HB.out) hb); clear hb hbox hg)))
 go_loopg [5] k (fun kq v5 w' => ∃ (x5_1 : Int), v5 = .int .i64 x5_1 ∧ Aside0 (r09_arcs.l0 kq l1 x5_1 a0_0 l0_1 l0_2 = some r) ∧ Aside0 (kq ≤ k) ∧ Aside0 (w'.heap[gb401]? = some (.cells #[.string a0_0, (.slice A0_1 l0_1.length c0_1), (.slice A0_2 l0_2.length c0_2)] 28 (0, 0))) ∧ Aside0 (Below w.heap.size w w'))
 case atStart => exact ⟨(0), eT, H', ⟨Nat.le_refl _⟩, ⟨kB BK401.out⟩, ⟨bB1 HB.out GE401.out⟩⟩
 clear H'; obtain ⟨x5_1, rfl, HA, HK1, BK401, HB⟩ := hrel
 cases gk with
 | zero => exact absurd HA.out (by simp [r09_arcs.l0])
 | succ k1 =>
  have H := HA.out; clear HA
  simp only [r09_arcs.l0] at H
  by_cases c4 : x5_1 < (l1.length : Int)
  rotate_left
  ·
   rw [if_neg c4] at H
   have c4b0 := decide_eq_false c4; clear c4
   obtain rfl := Option.some.inj H
   go_wp2
   repeat (go_quiet (fail); try go_wp2)
   go_ret
   exact ⟨rT, bB1 HB.out GE401.out⟩


  rw [if_pos c4] at H; have c4b0 := decide_eq_true c4; clear c4; have HC5 := aM H; clear H
  go_upto_region 4 with (fail)
  repeat (go_quiet (fail); go_upto_region 4 with (fail))
  go_cut [28] (fun v28 wc => ∃ (kq : Nat) (x28_4 : Bool), v28 = .bool x28_4 ∧ Aside0 (r09_arcs.j1 kq l1 x5_1 x28_4 a0_0 l0_1 l0_2 = some r) ∧ Aside0 (kq ≤ k1) ∧ Aside0 (wc.heap[gb401]? = some (.cells #[.string a0_0, (.slice A0_1 l0_1.length c0_1), (.slice A0_2 l0_2.length c0_2)] 28 (0, 0))) ∧ Aside0 (Below w.heap.size w wc))
  case first =>
   have H := HC5.out; clear HC5
   obtain ⟨c6, H⟩ := iP H; have c6b0 := decide_eq_true c6; clear c6
   (first | rw [c6b0] | (simp only [i64_w, i32_w]; rw [c6b0]) | skip)
   by_cases c7 : ((rd_T62 l1 x5_1).f0) < 0
   ·
    rw [if_pos c7] at H
    have c7b0 := decide_eq_true c7; clear c7
    have H' := aM H
    clear H; obtain ⟨p402, q402, ad402, e402, hx402_0, hx402_1⟩ := aT (at_T62 HR1.out x5_1); cases e402
    try replace hx402_0 := kX HB.out hx402_0
    try replace hx402_1 := kX HB.out hx402_1
    go_wp2
    repeat (go_quiet (fail); try go_wp2)
    go_meet
    case rel => exact ⟨_, (true), eT, H', ⟨by have := HK1.out; first | omega | exact Nat.le_refl _⟩, ⟨kB BK401.out⟩, ⟨bB1 HB.out GE401.out⟩⟩
   rw [if_neg c7] at H; have c7b0 := decide_eq_false c7; clear c7
   have H' := aM H
   clear H; obtain ⟨p402, q402, ad402, e402, hx402_0, hx402_1⟩ := aT (at_T62 HR1.out x5_1); cases e402
   try replace hx402_0 := kX HB.out hx402_0
   try replace hx402_1 := kX HB.out hx402_1; obtain ⟨p403, q403, ad403, e403, hx403_0, hx403_1⟩ := aT (at_T62 HR1.out x5_1); obtain rfl : ad402 = ad403 := (by injection e403)
   try replace hx403_0 := kX HB.out hx403_0
   try replace hx403_1 := kX HB.out hx403_1
   have hcz8_0 : wr.cell? ⟨gb401, 0, none⟩ = some (.string a0_0) := (blk_cell BK401.out 0).trans rfl
   have hcz8_1 : wr.cell? ⟨gb401, 1, none⟩ = some (.slice A0_1 l0_1.length c0_1) := (blk_cell BK401.out 1).trans rfl
   have hcz8_2 : wr.cell? ⟨gb401, 2, none⟩ = some (.slice A0_2 l0_2.length c0_2) := (blk_cell BK401.out 2).trans rfl
   have hfz8_0 := blk_frozen BK401.out 0; have hfz8_1 := blk_frozen BK401.out 1; have hfz8_2 := blk_frozen BK401.out 2
   go_wp2
   repeat (go_quiet (fail); try go_wp2)
   go_meet
   case rel => exact ⟨_, (decide (((rd_T62 l1 x5_1).f0) ≥ (l0_1.length : Int))), eT, H', ⟨by have := HK1.out; first | omega | exact Nat.le_refl _⟩, ⟨kB BK401.out⟩, ⟨bB1 HB.out GE401.out⟩⟩
  clear HC5
  try clear hx4
  try clear hx402_0
  try clear hx402_1
  try clear hx403_0
  try clear hx403_1
  obtain ⟨kq, x28_4, rfl, HA, HJ4, BK401, HB⟩ := hcut
  cases kq with
  | zero => exact absurd HA.out (by simp [r09_arcs.j1])
  | succ kj4 =>
   have H := HA.out; clear HA
   simp only [r09_arcs.j1] at H
   by_cases c9 : x28_4 = true
   ·
    subst c9
    have H1 : (some 7) = some r := by rw [if_pos rfl] at H; exact H
    clear H; have H := H1; clear H1
    obtain rfl := Option.some.inj H
    go_wp2
    repeat (go_quiet (fail); try go_wp2)
    go_ret
    exact ⟨rT, bB1 HB.out GE401.out⟩
   replace c9 := Bool.eq_false_iff.mpr c9; subst c9
   have H1 : (if x5_1 > 0 then (if 0 ≤ x5_1 then (if x5_1 < (l1.length : Int) then (if 0 ≤ (wrap64 (x5_1 - 1)) then (if (wrap64 (x5_1 - 1)) < (l1.length : Int) then (r09_arcs.j2 kj4 l1 x5_1 (decide (((rd_T62 l1 x5_1).f0) ≤ ((rd_T62 l1 (wrap64 (x5_1 - 1))).f0))) a0_0 l0_1 l0_2) else (none)) else (none)) else (none)) else (none)) else (r09_arcs.j2 kj4 l1 x5_1 false a0_0 l0_1 l0_2)) = some r := by rw [if_neg (show ¬ (false = true) by decide)] at H; exact H
   clear H; have H := H1; clear H1; have HC10 := aM H; clear H
   go_upto_region 6 with (fail)
   repeat (go_quiet (fail); go_upto_region 6 with (fail))
   go_cut [44] (fun v44 wc => ∃ (kq : Nat) (x44_9 : Bool), v44 = .bool x44_9 ∧ Aside0 (r09_arcs.j2 kq l1 x5_1 x44_9 a0_0 l0_1 l0_2 = some r) ∧ Aside0 (kq ≤ kj4) ∧ Aside0 (wc.heap[gb401]? = some (.cells #[.string a0_0, (.slice A0_1 l0_1.length c0_1), (.slice A0_2 l0_2.length c0_2)] 28 (0, 0))) ∧ Aside0 (Below w.heap.size w wc))
   case first =>
    have H := HC10.out; clear HC10
    by_cases c11 : x5_1 > 0
    rotate_left
    ·
     rw [if_neg c11] at H
     have c11b0 : decide (0 < x5_1) = false := decide_eq_false c11; clear c11
     (first | rw [c11b0] | (simp only [i64_w, i32_w]; rw [c11b0]) | skip)
     have H' := aM H
     clear H
     go_wp2
     repeat (go_quiet (fail); try go_wp2)
     go_meet
     case rel => exact ⟨_, (false), eT, H', ⟨by have := HK1.out; have := HJ4.out; first | omega | exact Nat.le_refl _⟩, ⟨kB BK401.out⟩, ⟨bB1 HB.out GE401.out⟩⟩
    rw [if_pos c11] at H; have c11b0 : decide (0 < x5_1) = true := decide_eq_true c11; clear c11
    (first | rw [c11b0] | (simp only [i64_w, i32_w]; rw [c11b0]) | skip)
    obtain ⟨c12, H⟩ := iP H; have c12b0 := decide_eq_true c12; clear c12
    obtain ⟨c13, H⟩ := iP H; have c13b0 := decide_eq_true c13; clear c13
    obtain ⟨ji14, hji14⟩ : ∃ j_ : Int, (wrap64 (x5_1 - 1)) = j_ := ⟨_, rfl⟩
    replace H : (if 0 ≤ (ji14) then (if (ji14) < (l1.length : Int) then (r09_arcs.j2 kj4 l1 x5_1 (decide (((rd_T62 l1 x5_1).f0) ≤ ((rd_T62 l1 (ji14)).f0))) a0_0 l0_1 l0_2) else (none)) else (none)) = some r := by first | (rw [hji14] at H; exact H) | (simp only [hji14] at H ⊢; exact H)
    have hji14w : (IntKind.i64.wrap (x5_1 - 1)) = ji14 := (i64_w _).trans hji14
    obtain ⟨c15, H⟩ := iP H; have c15b0 := decide_eq_true c15; clear c15
    obtain ⟨c16, H⟩ := iP H; have c16b0 := decide_eq_true c16; clear c16
    have H' := aM H
    clear H; obtain ⟨p404, q404, ad404, e404, hx404_0, hx404_1⟩ := aT (at_T62 HR1.out x5_1); cases e404
    try replace hx404_0 := kX HB.out hx404_0
    try replace hx404_1 := kX HB.out hx404_1; obtain ⟨p405, q405, ad405, e405, hx405_0, hx405_1⟩ := aT (at_T62 HR1.out (ji14)); obtain rfl : ad404 = ad405 := (by injection e405)
    try replace hx405_0 := kX HB.out hx405_0
    try replace hx405_1 := kX HB.out hx405_1
    go_wp2
    repeat (go_quiet (fail); try go_wp2)
    go_meet
    case rel => exact ⟨_, (decide (((rd_T62 l1 x5_1).f0) ≤ ((rd_T62 l1 (ji14)).f0))), (by first | rfl | (simp; done) | (simp only [← hji14] <;> (first | rfl | simp)) | (simp [*]; done)), H', ⟨by have := HK1.out; have := HJ4.out; first | omega | exact Nat.le_refl _⟩, ⟨kB BK401.out⟩, ⟨bB1 HB.out GE401.out⟩⟩
   clear HC10
   try clear hx4
   try clear hx402_0
   try clear hx402_1
   try clear hx403_0
   try clear hx403_1
   try clear hx404_0
   try clear hx404_1
   try clear hx405_0
   try clear hx405_1
   obtain ⟨kq, x44_9, rfl, HA, HJ9, BK401, HB⟩ := hcut
   cases kq with
   | zero => exact absurd HA.out (by simp [r09_arcs.j2])
   | succ kj9 =>
    have H := HA.out; clear HA
    simp only [r09_arcs.j2] at H
    by_cases c17 : x44_9 = true
    ·
     subst c17
     have H1 : (some 8) = some r := by rw [if_pos rfl] at H; exact H
     clear H; have H := H1; clear H1
     obtain rfl := Option.some.inj H
     go_wp2
     repeat (go_quiet (fail); try go_wp2)
     go_ret
     exact ⟨rT, bB1 HB.out GE401.out⟩
    replace c17 := Bool.eq_false_iff.mpr c17; subst c17
    have H1 : (if 0 ≤ x5_1 then (if x5_1 < (l1.length : Int) then (if ((rd_T62 l1 x5_1).f1) < 1 then (some 9) else (if ((rd_T62 l1 x5_1).f1) > 99 then (some 9) else (r09_arcs.l0 kj9 l1 (wrap64 (x5_1 + 1)) a0_0 l0_1 l0_2))) else (none)) else (none)) = some r := by rw [if_neg (show ¬ (false = true) by decide)] at H; exact H
    clear H; have H := H1; clear H1
    obtain ⟨c18, H⟩ := iP H; have c18b0 := decide_eq_true c18; clear c18
    obtain ⟨c19, H⟩ := iP H; have c19b0 := decide_eq_true c19; clear c19
    by_cases c20 : ((rd_T62 l1 x5_1).f1) < 1
    ·
     rw [if_pos c20] at H
     have c20b0 := decide_eq_true c20; clear c20
     obtain rfl := Option.some.inj H
     obtain ⟨p406, q406, ad406, e406, hx406_0, hx406_1⟩ := aT (at_T62 HR1.out x5_1); cases e406
     try replace hx406_0 := kX HB.out hx406_0
     try replace hx406_1 := kX HB.out hx406_1
     go_wp2
     repeat (go_quiet (fail); try go_wp2)
     go_ret
     exact ⟨rT, bB1 HB.out GE401.out⟩
    rw [if_neg c20] at H; have c20b0 := decide_eq_false c20; clear c20
    by_cases c21 : ((rd_T62 l1 x5_1).f1) > 99
    ·
     rw [if_pos c21] at H
     have c21b0 : decide (99 < ((rd_T62 l1 x5_1).f1)) = true := decide_eq_true c21; clear c21
     obtain rfl := Option.some.inj H
     obtain ⟨p406, q406, ad406, e406, hx406_0, hx406_1⟩ := aT (at_T62 HR1.out x5_1); cases e406
     try replace hx406_0 := kX HB.out hx406_0
     try replace hx406_1 := kX HB.out hx406_1; obtain ⟨p407, q407, ad407, e407, hx407_0, hx407_1⟩ := aT (at_T62 HR1.out x5_1); obtain rfl : ad406 = ad407 := (by injection e407)
     try replace hx407_0 := kX HB.out hx407_0
     try replace hx407_1 := kX HB.out hx407_1
     go_wp2
     repeat (go_quiet (fail); try go_wp2)
     go_ret
     exact ⟨rT, bB1 HB.out GE401.out⟩
    rw [if_neg c21] at H; have c21b0 : decide (99 < ((rd_T62 l1 x5_1).f1)) = false := decide_eq_false c21; clear c21
    have H' := aM H
    clear H; obtain ⟨p406, q406, ad406, e406, hx406_0, hx406_1⟩ := aT (at_T62 HR1.out x5_1); cases e406
    try replace hx406_0 := kX HB.out hx406_0
    try replace hx406_1 := kX HB.out hx406_1; obtain ⟨p407, q407, ad407, e407, hx407_0, hx407_1⟩ := aT (at_T62 HR1.out x5_1); obtain rfl : ad406 = ad407 := (by injection e407)
    try replace hx407_0 := kX HB.out hx407_0
    try replace hx407_1 := kX HB.out hx407_1
    go_wp2
    repeat (go_quiet (fail); try go_wp2)
    go_roundg kj9
    case measure => have := HK1.out; have := HJ4.out; have := HJ9.out; omega
    case rel => exact ⟨(wrap64 (x5_1 + 1)), eT, H', ⟨by have := HK1.out; have := HJ4.out; have := HJ9.out; omega⟩, ⟨kB BK401.out⟩, ⟨bB1 HB.out GE401.out⟩⟩


section
-- STUBBED 56
/-! ### r09_trans: function 56: by hand -/
open Go.Proofs.YtejchnmhlcbfcaaDoor.Iter
attribute [local go_sem] Instr.field asAgg

/-- The first error of transition i, behind its name. -/
def transF (k : Nat) (a0 : ByteArray) (l1 : List S59) (l2 : List S41) (t : S41) (i : Nat) : Option Int :=
 if ((l1.any fun y => y.f0.toList == t.f0.toList) || ((l2.take i).any fun y => y.f0.toList == t.f0.toList)) = true then some 6 else if t.f4 < 0 ∨ 9 < t.f4 then some 1 else (r09_arcs.f k a0 l1 l2 t.f1).bind fun e => if e = 0 then (r09_arcs.f k a0 l1 l2 t.f2).bind fun e => if e = 0 then r09_arcs.f k a0 l1 l2 t.f3 else some e else some e
def r09_trans.f (k : Nat) (a0_0 : ByteArray) (l0_1 : List S59) (l0_2 : List S41) (a1 : Int) : Option Int := if 0 ≤ a1 ∧ a1 < (l0_2.length : Int) ∧ l0_1.length ≤ 1000 ∧ l0_2.length ≤ 1000 then (r09_Name.f k (rd_T41 l0_2 a1).f0).bind fun b => if b = true then transF k a0_0 l0_1 l0_2 (rd_T41 l0_2 a1) a1.toNat else some 5 else none
theorem r09_trans.mono (a0 : ByteArray) (a1 : List S59) (a2 : List S41) (a3 : Int) (k : Nat) : LeO (r09_trans.f k a0 a1 a2 a3) (r09_trans.f (k + 1) a0 a1 a2 a3) := by
 unfold r09_trans.f transF
 split
 ·refine LeO.bind (r09_Name.mono _ _) fun b => ?_
  split
  ·split
   ·exact LeO.refl _
   ·split
    ·exact LeO.refl _
    ·refine LeO.bind (r09_arcs.mono _ _ _ _ _) fun e => ?_
     split
     ·refine LeO.bind (r09_arcs.mono _ _ _ _ _) fun e => ?_
      split
      ·apply r09_arcs.mono
      ·exact LeO.refl _
     ·exact LeO.refl _
  ·exact LeO.refl _
 ·exact LeO.refl _
theorem nt3 {W : World} {g : Nat} {t : TypeId} {x y z : Value} (h : Blk W g t [x, y, z]) : W.cell? ⟨g, 0, none⟩ = some x ∧ W.cell? ⟨g, 1, none⟩ = some y ∧ W.cell? ⟨g, 2, none⟩ = some z := by
 refine ⟨?_, ?_, ?_⟩ <;> simp [World.cell?, show W.heap[g]? = _ from h]
theorem nt5 {W : World} {g : Nat} {t : TypeId} {x y z u v : Value} (h : Blk W g t [x, y, z, u, v]) : W.cell? ⟨g, 0, none⟩ = some x ∧ W.cell? ⟨g, 1, none⟩ = some y ∧ W.cell? ⟨g, 2, none⟩ = some z ∧ W.cell? ⟨g, 3, none⟩ = some u ∧ W.cell? ⟨g, 4, none⟩ = some v := by
 refine ⟨?_, ?_, ?_, ?_, ?_⟩ <;> simp [World.cell?, show W.heap[g]? = _ from h]

set_option maxHeartbeats 16000000 in
set_option maxRecDepth 100000 in
theorem r09_trans.calls (k : Nat) (a0_0 : ByteArray) (A0_1 : Option Addr) (c0_1 : Nat) (l0_1 : List S59) (A0_2 : Option Addr) (c0_2 : Nat) (l0_2 : List S41) (a1 : Int) (r : Int) (w : World) (hr0_1 : Kd.C k59 w A0_1 l0_1.length l0_1) (hc0_1 : l0_1.length ≤ c0_1) (hr0_2 : Kd.C k41 w A0_2 l0_2.length l0_2) (hc0_2 : l0_2.length ≤ c0_2) (h : r09_trans.f k a0_0 l0_1 l0_2 a1 = some r) :
  Calls Tryd.prog 56 #[.agg #[.string a0_0, .slice A0_1 l0_1.length c0_1, .slice A0_2 l0_2.length c0_2], .int .i64 a1] w fun e w' => e = .returned (.int .i64 r) ∧ Below w.heap.size w w' := by
 have HR1 := aM hr0_1
 have HC1 := aM hc0_1
 have HR2 := aM hr0_2
 have HC2 := aM hc0_2
 clear hr0_1 hc0_1 hr0_2 hc0_2
 unfold r09_trans.f at h
 by_cases hin : 0 ≤ a1 ∧ a1 < (l0_2.length : Int) ∧ l0_1.length ≤ 1000 ∧ l0_2.length ≤ 1000
 ·rw [if_pos hin] at h
  obtain ⟨h0, hlt0, hn1, hn2⟩ := hin
  obtain ⟨i, rfl⟩ : ∃ i : Nat, a1 = (i : Int) := ⟨a1.toNat, by omega⟩
  have hil : i < l0_2.length := by omega
  obtain ⟨b, hb, h⟩ := Option.bind_eq_some_iff.mp h
  obtain ⟨ad, B1, d1, B2, d2, B3, d3, e1, hx0, hx1, hx2, hx3, hx4, le1, ge1, le2, ge2, le3, ge3⟩ := at_T41 HR2.out (i : Int) (by omega) (by omega)
  cases e1
  rw [Int.toNat_natCast] at hx0 hx1 hx2 hx3 hx4 h
  generalize rd_T41 l0_2 (i : Int) = p at h hb hx0 hx1 hx2 hx3 hx4 le1 ge1 le2 ge2 le3 ge3
  have HN := aM hb
  have HG1 := aM (And.intro le1 ge1)
  have HG2 := aM (And.intro le2 ge2)
  have HG3 := aM (And.intro le3 ge3)
  have HH0 := aM h
  clear h hb le1 ge1 le2 ge2 le3 ge3 h0
  go_enter Tryd.func56, Tryd.ntmps56
  go_upto_region 2 with (first | ((with_reducible refine gate_dst (N := 2) rfl ?_); refine bX 2 (cs := #[.string a0_0, .slice A0_1 l0_1.length c0_1, .slice (some ad) l0_2.length c0_2]) (t := 28) ?_; intro g1 hg1 w1 hbox1 hb1; have HS1 := aM (show Blk w1 g1 28 [.string a0_0, .slice A0_1 l0_1.length c0_1, .slice (some ad) l0_2.length c0_2] from hbox1); obtain ⟨s0, s1, s2⟩ := nt3 HS1.out; have HB1 := aM hb1; have HGA := aM hg1; replace hx0 := (hb1.cell (World.block_lt_of_cell? w _ hx0)).trans hx0; replace hx1 := (hb1.cell (World.block_lt_of_cell? w _ hx1)).trans hx1; replace hx2 := (hb1.cell (World.block_lt_of_cell? w _ hx2)).trans hx2; replace hx3 := (hb1.cell (World.block_lt_of_cell? w _ hx3)).trans hx3; replace hx4 := (hb1.cell (World.block_lt_of_cell? w _ hx4)).trans hx4; clear hbox1 hb1 hg1) | ((with_reducible refine gate_dst (N := 5) rfl ?_); refine bX 5 (cs := #[.string ⟨#[]⟩, .slice none 0 0, .slice none 0 0, .slice none 0 0, .int .i64 0]) (t := 41) ?_; intro g2 hg2 w4 hbox hb4; have HG4 := aM (show Blk w4 g2 41 [.string ⟨#[]⟩, .slice none 0 0, .slice none 0 0, .slice none 0 0, .int .i64 0] from hbox); have hz0 := blk_cell hbox 0; have hz1 := blk_cell hbox 1; have hz2 := blk_cell hbox 2; have hz3 := blk_cell hbox 3; have hz4 := blk_cell hbox 4; have hq0 := blk_frozen hbox 0; have hq1 := blk_frozen hbox 1; have hq2 := blk_frozen hbox 2; have hq3 := blk_frozen hbox 3; have hq4 := blk_frozen hbox 4; have HB4 := aM hb4; have HGB := aM hg2; clear hbox hb4 hg2))
  obtain ⟨wr, hW5⟩ : ∃ W5, ((((w4.setCell ⟨g2, 0, none⟩ (.string p.f0)).setCell ⟨g2, 1, none⟩ (.slice B1 p.f1.length d1)).setCell ⟨g2, 2, none⟩ (.slice B2 p.f2.length d2)).setCell ⟨g2, 3, none⟩ (.slice B3 p.f3.length d3)).setCell ⟨g2, 4, none⟩ (.int .i64 p.f4) = W5 := ⟨_, rfl⟩
  have HG := aM (show Blk wr g2 41 [.string p.f0, .slice B1 p.f1.length d1, .slice B2 p.f2.length d2, .slice B3 p.f3.length d3, .int .i64 p.f4] from hW5 ▸ blk_set 4 _ (blk_set 3 _ (blk_set 2 _ (blk_set 1 _ (blk_set 0 _ HG4.out)))))
  have hb5 : Below w1.heap.size w1 wr := by rw [← hW5]; exact ((((HB4.out.setCell (p := ⟨g2, 0, none⟩) (by rw [HGB.out]; exact Nat.le_refl _) _).setCell (p := ⟨g2, 1, none⟩) (by rw [HGB.out]; exact Nat.le_refl _) _).setCell (p := ⟨g2, 2, none⟩) (by rw [HGB.out]; exact Nat.le_refl _) _).setCell (p := ⟨g2, 3, none⟩) (by rw [HGB.out]; exact Nat.le_refl _) _).setCell (p := ⟨g2, 4, none⟩) (by rw [HGB.out]; exact Nat.le_refl _) _
  rw [hW5]
  have HS := aM (blk_later HS1.out hb5)
  have HB := aM (below_step HB1.out hb5)
  clear hW5 HG4 HB4 HGB hb5 HS1 HB1 HGA hz0 hz1 hz2 hz3 hz4 hq0 hq1 hq2 hq3 hq4 hx0 hx1 hx2 hx3 hx4 s0 s1 s2
  obtain ⟨s0, s1, s2⟩ := nt3 HS.out
  obtain ⟨t0, t1, t2, t3, t4⟩ := nt5 HG.out
  cases b with
  | false =>
   have h := HH0.out
   have h : some (5 : Int) = some r := h
   obtain rfl := Option.some.inj h
   clear h
   go_wp2_with (go_at_call 54; (with_reducible refine (r09_Name.calls k p.f0 false _ HN.out).mono ?_); rintro e w' ⟨rfl, ⟨nd, rfl⟩⟩)
   go_ret
   exact ⟨rfl, by (with_reducible repeat (first | apply pw_below_drewN | apply below_drew1)); exact HB.out⟩
  | true =>
   have h := HH0.out
   rw [if_pos rfl] at h
   have HH := aM h
   clear h HH0
   go_wp2_with (go_at_call 54; (with_reducible refine (r09_Name.calls k p.f0 true _ HN.out).mono ?_); rintro e w' ⟨rfl, ⟨nd, rfl⟩⟩)
   clear s0 s1 s2 t0 t1 t2 t3 t4
   go_loopw [6] (fun v6 wr => ∃ j : Nat, v6 = .int .i64 j ∧ j ≤ l0_1.length ∧ Aside0 (((l0_1.take j).any fun y => y.f0.toList == p.f0.toList) = false) ∧ Aside0 (Blk wr g1 28 [.string a0_0, .slice A0_1 l0_1.length c0_1, .slice (some ad) l0_2.length c0_2]) ∧ Aside0 (Blk wr g2 41 [.string p.f0, .slice B1 p.f1.length d1, .slice B2 p.f2.length d2, .slice B3 p.f3.length d3, .int .i64 p.f4]) ∧ Aside0 (Below w.heap.size w wr)) (fun v6 _ => l0_1.length - (intOf v6).toNat)
   case atStart => exact ⟨0, rfl, Nat.zero_le _, ⟨rfl⟩, ⟨HS.out⟩, ⟨HG.out⟩, ⟨by (with_reducible repeat (first | apply pw_below_drewN | apply below_drew1)); exact HB.out⟩⟩
   case round =>
    clear HS HG HB
    obtain ⟨j, rfl, hj, HQ, HS, HG, HB⟩ := hrel
    obtain ⟨s0, s1, s2⟩ := nt3 HS.out
    obtain ⟨t0, t1, t2, t3, t4⟩ := nt5 HG.out
    by_cases hjl : j < l0_1.length
    ·have hjm : j < l0_1.length := by omega
     obtain ⟨ad2, e2, hy0, _, _⟩ := at_T59 HR1.out (j : Int) (by omega) (by omega)
     cases e2
     rw [Int.toNat_natCast] at hy0
     replace hy0 := (HB.out.cell (World.block_lt_of_cell? w _ hy0)).trans hy0
     have hrd : rd_T59 l0_1 (j : Int) = l0_1[j] := by simp [rd_T59, hjm]
     rw [hrd] at hy0
     clear hrd
     obtain ⟨x, hx⟩ : ∃ x, x = l0_1[j] := ⟨_, rfl⟩
     rw [← hx] at hy0
     by_cases hxs : x.f0.toList = p.f0.toList
     ·have hbeq : (x.f0.toList == p.f0.toList) = true := beq_iff_eq.mpr hxs
      have hr : r = 6 := by
       have e : transF k a0_0 l0_1 l0_2 p i = some 6 := by unfold transF; rw [if_pos]; rw [Bool.or_eq_true]; exact .inl (List.any_eq_true.2 ⟨x, hx ▸ List.getElem_mem hjm, hbeq⟩)
       have H := HH.out
       rw [e] at H
       exact (Option.some.inj H).symm
      subst hr
      clear hx hxs
      go_wp2
      go_region
      go_wp2
      go_ret
      exact ⟨rfl, by (with_reducible repeat (first | apply pw_below_drewN | apply below_drew1)); exact HB.out⟩
     ·have hbeq : (x.f0.toList == p.f0.toList) = false := beq_eq_false_iff_ne.mpr hxs
      have HQ2 := aM (show ((l0_1.take (j + 1)).any fun y => y.f0.toList == p.f0.toList) = false by rw [List.take_succ_eq_append_getElem hjm, List.any_append, HQ.out, ← hx]; simp [hbeq])
      clear hx hxs
      go_wp2
      go_region
      go_wp2
      go_roundw
      case rel => exact ⟨j + 1, by go_num, by omega, HQ2, ⟨HS.out⟩, ⟨HG.out⟩, ⟨by (with_reducible repeat (first | apply pw_below_drewN | apply below_drew1)); exact HB.out⟩⟩
      case measure => simp [intOf]; omega
    ·obtain rfl : j = l0_1.length := by omega
     have HNP := aM (show (l0_1.any fun y => y.f0.toList == p.f0.toList) = false by have e := HQ.out; rwa [List.take_length] at e)
     clear HQ hj hjl
     go_wp2
     clear s0 s1 s2 t0 t1 t2 t3 t4
     go_loopw [7] (fun v7 wr => ∃ j : Nat, v7 = .int .i64 j ∧ j ≤ i ∧ Aside0 (((l0_2.take j).any fun y => y.f0.toList == p.f0.toList) = false) ∧ Aside0 (Blk wr g1 28 [.string a0_0, .slice A0_1 l0_1.length c0_1, .slice (some ad) l0_2.length c0_2]) ∧ Aside0 (Blk wr g2 41 [.string p.f0, .slice B1 p.f1.length d1, .slice B2 p.f2.length d2, .slice B3 p.f3.length d3, .int .i64 p.f4]) ∧ Aside0 (Below w.heap.size w wr)) (fun v7 _ => i - (intOf v7).toNat)
     case atStart => exact ⟨0, rfl, Nat.zero_le _, ⟨rfl⟩, ⟨HS.out⟩, ⟨HG.out⟩, ⟨by (with_reducible repeat (first | apply pw_below_drewN | apply below_drew1)); exact HB.out⟩⟩
     case round =>
      clear HS HG HB
      obtain ⟨j, rfl, hj, HQ, HS, HG, HB⟩ := hrel
      obtain ⟨s0, s1, s2⟩ := nt3 HS.out
      obtain ⟨t0, t1, t2, t3, t4⟩ := nt5 HG.out
      by_cases hjl : j < i
      ·have hjm : j < l0_2.length := by omega
       obtain ⟨ad2, B1', d1', B2', d2', B3', d3', e2, hy0, _, _, _, _, _, _, _, _, _, _⟩ := at_T41 HR2.out (j : Int) (by omega) (by omega)
       cases e2
       rw [Int.toNat_natCast] at hy0
       replace hy0 := (HB.out.cell (World.block_lt_of_cell? w _ hy0)).trans hy0
       have hrd : rd_T41 l0_2 (j : Int) = l0_2[j] := by simp [rd_T41, hjm]
       rw [hrd] at hy0
       clear hrd
       obtain ⟨x, hx⟩ : ∃ x, x = l0_2[j] := ⟨_, rfl⟩
       rw [← hx] at hy0
       by_cases hxs : x.f0.toList = p.f0.toList
       ·have hbeq : (x.f0.toList == p.f0.toList) = true := beq_iff_eq.mpr hxs
        have hr : r = 6 := by
         have e : transF k a0_0 l0_1 l0_2 p i = some 6 := by unfold transF; rw [if_pos]; rw [Bool.or_eq_true]; exact .inr (List.any_eq_true.2 ⟨x, (by rw [hx]; exact List.mem_iff_getElem.2 ⟨j, by rw [List.length_take]; omega, List.getElem_take⟩), hbeq⟩)
         have H := HH.out
         rw [e] at H
         exact (Option.some.inj H).symm
        subst hr
        clear hx hxs
        go_wp2
        go_region
        go_wp2
        go_ret
        exact ⟨rfl, by (with_reducible repeat (first | apply pw_below_drewN | apply below_drew1)); exact HB.out⟩
       ·have hbeq : (x.f0.toList == p.f0.toList) = false := beq_eq_false_iff_ne.mpr hxs
        have HQ2 := aM (show ((l0_2.take (j + 1)).any fun y => y.f0.toList == p.f0.toList) = false by rw [List.take_succ_eq_append_getElem hjm, List.any_append, HQ.out, ← hx]; simp [hbeq])
        clear hx hxs
        go_wp2
        go_region
        go_wp2
        go_roundw
        case rel => exact ⟨j + 1, by go_num, by omega, HQ2, ⟨HS.out⟩, ⟨HG.out⟩, ⟨by (with_reducible repeat (first | apply pw_below_drewN | apply below_drew1)); exact HB.out⟩⟩
        case measure => simp [intOf]; omega
      ·obtain rfl : j = i := by omega
       have HH2 := aM (show (if p.f4 < 0 ∨ 9 < p.f4 then some 1 else (r09_arcs.f k a0_0 l0_1 l0_2 p.f1).bind fun e => if e = 0 then (r09_arcs.f k a0_0 l0_1 l0_2 p.f2).bind fun e => if e = 0 then r09_arcs.f k a0_0 l0_1 l0_2 p.f3 else some e else some e) = some r by
        have H := HH.out
        unfold transF at H
        rw [HNP.out, HQ.out, if_neg (by decide)] at H
        exact H)
       clear HH HNP HQ hj hjl
       by_cases hp4 : p.f4 < 0 ∨ 9 < p.f4
       ·have h := HH2.out
        rw [if_pos hp4] at h
        obtain rfl := Option.some.inj h
        clear h HH2
        have hc4 : p.f4 < 0 ∨ (¬ p.f4 < 0 ∧ 9 < p.f4) := by omega
        clear hp4
        rcases hc4 with b1 | ⟨b1, b2⟩
        all_goals
         go_wp2
         go_ret
         exact ⟨rfl, HB.out⟩
       ·have b1 : ¬ p.f4 < 0 := by omega
        have b2 : ¬ 9 < p.f4 := by omega
        have h := HH2.out
        rw [if_neg hp4] at h
        clear hp4 HH2
        obtain ⟨ea, ha, h⟩ := Option.bind_eq_some_iff.mp h
        have HA1 := aM ha
        clear ha
        by_cases hea : ea = 0
        ·subst hea
         rw [if_pos rfl] at h
         obtain ⟨eb, hb, h⟩ := Option.bind_eq_some_iff.mp h
         have HA2 := aM hb
         clear hb
         by_cases heb : eb = 0
         ·subst heb
          rw [if_pos rfl] at h
          have HA3 := aM h
          clear h
          go_wp2_with (first | (go_at_call 67; with_reducible refine (r09_arcs.calls k _ A0_1 c0_1 l0_1 (some ad) c0_2 l0_2 B1 d1 p.f1 0 _ (Kd.C_below HR1.out HB.out) HC1.out (Kd.C_below HR2.out HB.out) HC2.out (Kd.C_below HG1.out.2 HB.out) HG1.out.1 HA1.out).mono ?_; rintro e wx6 ⟨rfl, hbx6⟩; have HSx6 := aM (blk_later HS.out hbx6); have HGx6 := aM (blk_later HG.out hbx6); have HBx6 := aM (below_step HB.out hbx6); clear hbx6 s0 s1 s2 t0 t1 t2 t3 t4; obtain ⟨s0, s1, s2⟩ := nt3 HSx6.out; obtain ⟨t0, t1, t2, t3, t4⟩ := nt5 HGx6.out) | (go_at_call 67; with_reducible refine (r09_arcs.calls k _ A0_1 c0_1 l0_1 (some ad) c0_2 l0_2 B2 d2 p.f2 0 _ (Kd.C_below HR1.out HBx6.out) HC1.out (Kd.C_below HR2.out HBx6.out) HC2.out (Kd.C_below HG2.out.2 HBx6.out) HG2.out.1 HA2.out).mono ?_; rintro e wx7 ⟨rfl, hbx7⟩; have HSx7 := aM (blk_later HSx6.out hbx7); have HGx7 := aM (blk_later HGx6.out hbx7); have HBx7 := aM (below_step HBx6.out hbx7); clear hbx7 s0 s1 s2 t0 t1 t2 t3 t4; obtain ⟨s0, s1, s2⟩ := nt3 HSx7.out; obtain ⟨t0, t1, t2, t3, t4⟩ := nt5 HGx7.out) | (go_at_call 67; with_reducible refine (r09_arcs.calls k _ A0_1 c0_1 l0_1 (some ad) c0_2 l0_2 B3 d3 p.f3 r _ (Kd.C_below HR1.out HBx7.out) HC1.out (Kd.C_below HR2.out HBx7.out) HC2.out (Kd.C_below HG3.out.2 HBx7.out) HG3.out.1 HA3.out).mono ?_; rintro e wx8 ⟨rfl, hbx8⟩; have HSx8 := aM (blk_later HSx7.out hbx8); have HGx8 := aM (blk_later HGx7.out hbx8); have HBx8 := aM (below_step HBx7.out hbx8); clear hbx8 s0 s1 s2 t0 t1 t2 t3 t4; obtain ⟨s0, s1, s2⟩ := nt3 HSx8.out; obtain ⟨t0, t1, t2, t3, t4⟩ := nt5 HGx8.out))
          go_ret
          exact ⟨rfl, HBx8.out⟩
         ·rw [if_neg heb] at h
          obtain rfl := Option.some.inj h
          have q1 : (eb != 0) = true := bne_iff_ne.2 heb
          clear h heb
          go_wp2_with (first | (go_at_call 67; with_reducible refine (r09_arcs.calls k _ A0_1 c0_1 l0_1 (some ad) c0_2 l0_2 B1 d1 p.f1 0 _ (Kd.C_below HR1.out HB.out) HC1.out (Kd.C_below HR2.out HB.out) HC2.out (Kd.C_below HG1.out.2 HB.out) HG1.out.1 HA1.out).mono ?_; rintro e wx6 ⟨rfl, hbx6⟩; have HSx6 := aM (blk_later HS.out hbx6); have HGx6 := aM (blk_later HG.out hbx6); have HBx6 := aM (below_step HB.out hbx6); clear hbx6 s0 s1 s2 t0 t1 t2 t3 t4; obtain ⟨s0, s1, s2⟩ := nt3 HSx6.out; obtain ⟨t0, t1, t2, t3, t4⟩ := nt5 HGx6.out) | (go_at_call 67; with_reducible refine (r09_arcs.calls k _ A0_1 c0_1 l0_1 (some ad) c0_2 l0_2 B2 d2 p.f2 eb _ (Kd.C_below HR1.out HBx6.out) HC1.out (Kd.C_below HR2.out HBx6.out) HC2.out (Kd.C_below HG2.out.2 HBx6.out) HG2.out.1 HA2.out).mono ?_; rintro e wx7 ⟨rfl, hbx7⟩; have HSx7 := aM (blk_later HSx6.out hbx7); have HGx7 := aM (blk_later HGx6.out hbx7); have HBx7 := aM (below_step HBx6.out hbx7); clear hbx7 s0 s1 s2 t0 t1 t2 t3 t4; obtain ⟨s0, s1, s2⟩ := nt3 HSx7.out; obtain ⟨t0, t1, t2, t3, t4⟩ := nt5 HGx7.out))
          go_ret
          exact ⟨rfl, HBx7.out⟩
        ·rw [if_neg hea] at h
         obtain rfl := Option.some.inj h
         have q1 : (ea != 0) = true := bne_iff_ne.2 hea
         clear h hea
         go_wp2_with (go_at_call 67; with_reducible refine (r09_arcs.calls k _ A0_1 c0_1 l0_1 (some ad) c0_2 l0_2 B1 d1 p.f1 ea _ (Kd.C_below HR1.out HB.out) HC1.out (Kd.C_below HR2.out HB.out) HC2.out (Kd.C_below HG1.out.2 HB.out) HG1.out.1 HA1.out).mono ?_; rintro e wx6 ⟨rfl, hbx6⟩; have HSx6 := aM (blk_later HS.out hbx6); have HGx6 := aM (blk_later HG.out hbx6); have HBx6 := aM (below_step HB.out hbx6); clear hbx6 s0 s1 s2 t0 t1 t2 t3 t4; obtain ⟨s0, s1, s2⟩ := nt3 HSx6.out; obtain ⟨t0, t1, t2, t3, t4⟩ := nt5 HGx6.out)
         go_ret
         exact ⟨rfl, HBx6.out⟩
 ·rw [if_neg hin] at h
  cases h


end



/-! ### r09_Check: function 36 -/
mutual
def r09_Check.j0 : Nat → Bool → ByteArray → List (S59) → List (S41) → Option (Int × Int)
 | 0, _, _, _, _ => none
 | k + 1, x27, x409000, x409001, x409002 => if x27 = true then (some (2, 0)) else (r09_Check.l0 k 0 x409000 x409001 x409002)
def r09_Check.l0 : Nat → Int → ByteArray → List (S59) → List (S41) → Option (Int × Int)
 | 0, _, _, _, _ => none
 | k + 1, x3, x409000, x409001, x409002 => if x3 < (x409001.length : Int) then ((r09_place.f k x409000 x409001 x409002 x3).bind fun t411 => (if t411 = 0 then (r09_Check.l0 k (wrap64 (x3 + 1)) x409000 x409001 x409002) else (some (t411, x3)))) else (r09_Check.l1 k 0 x409000 x409001 x409002)
def r09_Check.l1 : Nat → Int → ByteArray → List (S59) → List (S41) → Option (Int × Int)
 | 0, _, _, _, _ => none
 | k + 1, x5, x409000, x409001, x409002 => if x5 < (x409002.length : Int) then ((r09_trans.f k x409000 x409001 x409002 x5).bind fun t412 => (if t412 = 0 then (r09_Check.l1 k (wrap64 (x5 + 1)) x409000 x409001 x409002) else (some (t412, wrap64 ((x409001.length : Int) + x5))))) else (some (0, 0))
end
def r09_Check.f (k : Nat) (a0_0 : ByteArray) (l0_1 : List (S59)) (l0_2 : List (S41)) : Option (Int × Int) := (r09_Name.f k a0_0).bind fun t410 => (if t410 = true then (if (l0_1.length : Int) < 1 then (r09_Check.j0 k true a0_0 l0_1 l0_2) else (if (l0_1.length : Int) > 24 then (r09_Check.j0 k true a0_0 l0_1 l0_2) else (r09_Check.j0 k (decide ((l0_2.length : Int) > 24)) a0_0 l0_1 l0_2))) else (some (5, 0)))
theorem r09_Check.mono_l : ∀ k, (∀ y0 y1 y2 y3, LeO (r09_Check.j0 k y0 y1 y2 y3) (r09_Check.j0 (k + 1) y0 y1 y2 y3)) ∧ (∀ y0 y1 y2 y3, LeO (r09_Check.l0 k y0 y1 y2 y3) (r09_Check.l0 (k + 1) y0 y1 y2 y3)) ∧ (∀ y0 y1 y2 y3, LeO (r09_Check.l1 k y0 y1 y2 y3) (r09_Check.l1 (k + 1) y0 y1 y2 y3))
 | 0 => ⟨fun _ _ _ _ r h => by simp [r09_Check.j0] at h, fun _ _ _ _ r h => by simp [r09_Check.l0] at h, fun _ _ _ _ r h => by simp [r09_Check.l1] at h⟩
 | k + 1 => by
  obtain ⟨ih0, ih1, ih2⟩ := r09_Check.mono_l k
  refine ⟨?_, ?_, ?_⟩ <;> intros <;> (first | unfold r09_Check.j0 | unfold r09_Check.l0 | unfold r09_Check.l1)
  all_goals repeat' first
   | (with_reducible first | apply ih0 | apply ih1 | apply ih2 | apply r09_Name.mono | apply r09_place.mono | apply r09_trans.mono | exact LeO.refl _ | exact LeO.none _ | refine LeO.ite ?_ ?_ | refine LeO.bind ?_ (fun _ => ?_))
theorem r09_Check.mono : ∀ a0 a1 a2 k, LeO (r09_Check.f k a0 a1 a2) (r09_Check.f (k + 1) a0 a1 a2) := by
 intro a0 a1 a2 k
 obtain ⟨ih0, ih1, ih2⟩ := r09_Check.mono_l k
 unfold r09_Check.f
 repeat' first
   | (with_reducible first | apply ih0 | apply ih1 | apply ih2 | apply r09_Name.mono | apply r09_place.mono | apply r09_trans.mono | exact LeO.refl _ | exact LeO.none _ | refine LeO.ite ?_ ?_ | refine LeO.bind ?_ (fun _ => ?_))
set_option maxHeartbeats 8000000 in
set_option maxRecDepth 100000 in
theorem r09_Check.calls (k : Nat) (a0_0 : ByteArray) (A0_1 : Option Addr) (c0_1 : Nat) (l0_1 : List (S59)) (A0_2 : Option Addr) (c0_2 : Nat) (l0_2 : List (S41)) (r1 : Int) (r2 : Int) (w : World) (hr0_1 : Kd.C k59 w A0_1 l0_1.length l0_1) (hc0_1 : l0_1.length ≤ c0_1) (hr0_2 : Kd.C k41 w A0_2 l0_2.length l0_2) (hc0_2 : l0_2.length ≤ c0_2) (h : r09_Check.f k a0_0 l0_1 l0_2 = some (r1, r2)) :
  Calls Tryd.prog 36 #[.agg #[.string a0_0, .slice A0_1 l0_1.length c0_1, .slice A0_2 l0_2.length c0_2]] w fun e w' => e = .returned (.agg #[.int .i64 r1, .int .i64 r2]) ∧ Below w.heap.size w w' := by
 have hu28 := Tryd.underlying28; have hu9 := Tryd.underlying9; have hu25 := Tryd.underlying25; have hu26 := Tryd.underlying26; have hu66 := Tryd.underlying66; have hu3 := Tryd.underlying3; have hu29 := Tryd.underlying29; have HR0_1 := aM hr0_1; have HC0_1 := aM hc0_1; clear hr0_1 hc0_1; have HR0_2 := aM hr0_2; have HC0_2 := aM hc0_2; clear hr0_2 hc0_2; have HB := aM (Below.refl w.heap.size w)
 have H : ((r09_Name.f k a0_0).bind fun t410 => (if t410 = true then (if (l0_1.length : Int) < 1 then (r09_Check.j0 k true a0_0 l0_1 l0_2) else (if (l0_1.length : Int) > 24 then (r09_Check.j0 k true a0_0 l0_1 l0_2) else (r09_Check.j0 k (decide ((l0_2.length : Int) > 24)) a0_0 l0_1 l0_2))) else (some (5, 0)))) = some (r1, r2) := h
 clear h; obtain ⟨t410, A2, H⟩ := iB H; (try dsimp only at H)
 by_cases c3 : t410 = true
 rotate_left
 ·
  replace c3 := Bool.eq_false_iff.mpr c3
  subst c3
  have H1 : (some (5, 0)) = some (r1, r2) := by rw [if_neg (show ¬ (false = true) by decide)] at H; exact H
  clear H; have H := H1; clear H1
  simp only [Option.some.injEq, Prod.mk.injEq] at H
  obtain ⟨rfl, rfl⟩ := H
  go_enter Tryd.func36, Tryd.ntmps36
  go_wp2_with (first | ((with_reducible refine gate_dst (N := 1) rfl ?_); (try (refine gate_guard (by rfl) ?_; dsimp only)); refine bX 1 (cs := #[.string a0_0, .slice A0_1 l0_1.length c0_1, .slice A0_2 l0_2.length c0_2]) (t := 28) ?_; intro gb408 hg w46 hbox hb; have BK408 := aM (hbox); have GW408 := aM (gE hg (below_size (bB HB.out))); have GE408 := GW408; replace HB := aM (below_step (bB HB.out) hb); clear hb hbox hg) | ((with_reducible refine gate_dst (N := 2) rfl ?_); (try (refine gate_guard (by rfl) ?_; dsimp only)); refine bX 2 (cs := #[.int .i64 0, .int .i64 0]) (t := 66) ?_; intro gb409 hg w47 hbox hb; have BK409 := aM (hbox); have GW409 := aM (gE hg (below_size (bB1 HB.out GE408.out))); have GE409 := GW409; replace HB := aM (below_step (bB1 HB.out GE408.out) hb); have NB408_409 := aM (gL hg (kL BK408.out)); have NB409_408 := aM (gG hg (kL BK408.out)); replace BK408 := aM (kW BK408.out hb); clear hb hbox hg; have hnb48 := NB408_409.out; have hnc48 := NB409_408.out; obtain ⟨hcz49_0, hcz49_1, hcz49_2, hfz49_0, hfz49_1, hfz49_2⟩ := cd3 BK408.out) | ((with_reducible refine gate_callee (f := 54) rfl ?_); refine gM (some 9) Tryd.func54 #[.string a0_0] ?_; (with_reducible refine (r09_Name.calls k a0_0 false _ A2.out).mono ?_); rintro e w' ⟨rfl, ⟨nd, rfl⟩⟩; refine ⟨_, rfl, ?_⟩; (try (rw [drewN_self w47]; generalize hq_ : World.drewN w47 _ = w47; have n0_ : Aside0 (w47.heap[gb408]? = some (.cells #[.string a0_0, .slice A0_1 l0_1.length c0_1, .slice A0_2 l0_2.length c0_2] 28 (0, 0))) := ⟨by rw [← hq_]; exact (kB BK408.out)⟩; have n1_ : Aside0 (w47.heap[gb409]? = some (.cells #[.int .i64 0, .int .i64 0] 66 (0, 0))) := ⟨by rw [← hq_]; exact (kB BK409.out)⟩; have n2_ : Aside0 (Below w.heap.size w w47) := ⟨by rw [← hq_]; exact (bB2 HB.out GE408.out GE409.out)⟩; clear BK408 BK409 HB hq_; have BK408 := n0_; have BK409 := n1_; have HB := n2_; clear n0_ n1_ n2_)); obtain ⟨hcz50_0, hcz50_1, hfz50_0, hfz50_1⟩ := cd2 BK409.out))
  refine bodyPost_ret (results_cell_row rfl _ _ gb409 66 #[.int .i64 5, .int .i64 0] (0, 0) _ rfl (bP BK409.out) Tryd.underlying66 rfl (by kernel_rfl)) rfl ?_
  exact ⟨rT, bB2 HB.out GE408.out GE409.out⟩


 subst c3
 have H1 : (if (l0_1.length : Int) < 1 then (r09_Check.j0 k true a0_0 l0_1 l0_2) else (if (l0_1.length : Int) > 24 then (r09_Check.j0 k true a0_0 l0_1 l0_2) else (r09_Check.j0 k (decide ((l0_2.length : Int) > 24)) a0_0 l0_1 l0_2))) = some (r1, r2) := by rw [if_pos rfl] at H; exact H
 clear H; have H := H1; clear H1; have HC4 := aM H; clear H
 go_enter Tryd.func36, Tryd.ntmps36
 go_upto_region 3 with (first | ((with_reducible refine gate_dst (N := 1) rfl ?_); (try (refine gate_guard (by rfl) ?_; dsimp only)); refine bX 1 (cs := #[.string a0_0, .slice A0_1 l0_1.length c0_1, .slice A0_2 l0_2.length c0_2]) (t := 28) ?_; intro gb408 hg w5 hbox hb; have BK408 := aM (hbox); have GW408 := aM (gE hg (below_size (bB HB.out))); have GE408 := GW408; replace HB := aM (below_step (bB HB.out) hb); clear hb hbox hg) | ((with_reducible refine gate_dst (N := 2) rfl ?_); (try (refine gate_guard (by rfl) ?_; dsimp only)); refine bX 2 (cs := #[.int .i64 0, .int .i64 0]) (t := 66) ?_; intro gb409 hg w6 hbox hb; have BK409 := aM (hbox); have GW409 := aM (gE hg (below_size (bB1 HB.out GE408.out))); have GE409 := GW409; replace HB := aM (below_step (bB1 HB.out GE408.out) hb); have NB408_409 := aM (gL hg (kL BK408.out)); have NB409_408 := aM (gG hg (kL BK408.out)); replace BK408 := aM (kW BK408.out hb); clear hb hbox hg; have hnb7 := NB408_409.out; have hnc7 := NB409_408.out; obtain ⟨hcz8_0, hcz8_1, hcz8_2, hfz8_0, hfz8_1, hfz8_2⟩ := cd3 BK408.out) | ((with_reducible refine gate_callee (f := 54) rfl ?_); refine gM (some 9) Tryd.func54 #[.string a0_0] ?_; (with_reducible refine (r09_Name.calls k a0_0 true _ A2.out).mono ?_); rintro e w' ⟨rfl, ⟨nd, rfl⟩⟩; refine ⟨_, rfl, ?_⟩))
 (try simp only [Act.put, List.setIfInBounds_toArray, List.set_cons_zero, List.set_cons_succ])
 go_cut [27] (fun v27 wc => ∃ (kq : Nat) (x27_3 : Bool), v27 = .bool x27_3 ∧ Aside0 (r09_Check.j0 kq x27_3 a0_0 l0_1 l0_2 = some (r1, r2)) ∧ Aside0 (kq ≤ k) ∧ Aside0 (wc.heap[gb408]? = some (.cells #[.string a0_0, (.slice A0_1 l0_1.length c0_1), (.slice A0_2 l0_2.length c0_2)] 28 (0, 0))) ∧ Aside0 (wc.heap[gb409]? = some (.cells #[.int .i64 0, .int .i64 0] 66 (0, 0))) ∧ Aside0 (Below w.heap.size w wc))
 case first =>
  have H := HC4.out; clear HC4
  by_cases c9 : (l0_1.length : Int) < 1
  ·
   rw [if_pos c9] at H
   have c9b0 := decide_eq_true c9; have c9b1 : decide (l0_1.length < 1) = true := decide_eq_true (by omega); clear c9
   (first | rw [c9b0] | (simp only [i64_w, i32_w]; rw [c9b0]) | skip)
   have H' := aM H
   clear H; have hnb10 := NB408_409.out; have hnc10 := NB409_408.out
   have hcz11_0 := cz0 BK408.out
   have hcz11_1 := cz1 BK408.out
   have hcz11_2 := cz2 BK408.out
   have hfz11_0 := blk_frozen BK408.out 0; have hfz11_1 := blk_frozen BK408.out 1; have hfz11_2 := blk_frozen BK408.out 2
   go_wp2
   go_meet
   case rel => exact ⟨_, (true), eT, H', ⟨by first | omega | exact Nat.le_refl _⟩, ⟨kB BK408.out⟩, ⟨kB BK409.out⟩, ⟨bB2 HB.out GE408.out GE409.out⟩⟩
  rw [if_neg c9] at H; have c9b0 := decide_eq_false c9; have c9b1 : decide (l0_1.length < 1) = false := decide_eq_false (by omega); clear c9
  (first | rw [c9b0] | (simp only [i64_w, i32_w]; rw [c9b0]) | skip)
  by_cases c12 : (l0_1.length : Int) > 24
  ·
   rw [if_pos c12] at H
   have c12b0 : decide (24 < (l0_1.length : Int)) = true := decide_eq_true c12; have c12b1 : decide (24 < l0_1.length) = true := decide_eq_true (by omega); clear c12
   have H' := aM H
   clear H; have hnb13 := NB408_409.out; have hnc13 := NB409_408.out
   have hcz14_0 := cz0 BK408.out
   have hcz14_1 := cz1 BK408.out
   have hcz14_2 := cz2 BK408.out
   have hfz14_0 := blk_frozen BK408.out 0; have hfz14_1 := blk_frozen BK408.out 1; have hfz14_2 := blk_frozen BK408.out 2
   go_wp2
   go_meet
   case rel => exact ⟨_, (true), eT, H', ⟨by first | omega | exact Nat.le_refl _⟩, ⟨kB BK408.out⟩, ⟨kB BK409.out⟩, ⟨bB2 HB.out GE408.out GE409.out⟩⟩
  rw [if_neg c12] at H; have c12b0 : decide (24 < (l0_1.length : Int)) = false := decide_eq_false c12; have c12b1 : decide (24 < l0_1.length) = false := decide_eq_false (by omega); clear c12
  have H' := aM H
  clear H; have hnb15 := NB408_409.out; have hnc15 := NB409_408.out
  have hcz16_0 := cz0 BK408.out
  have hcz16_1 := cz1 BK408.out
  have hcz16_2 := cz2 BK408.out
  have hfz16_0 := blk_frozen BK408.out 0; have hfz16_1 := blk_frozen BK408.out 1; have hfz16_2 := blk_frozen BK408.out 2
  go_wp2
  go_meet
  case rel => exact ⟨_, (decide ((l0_2.length : Int) > 24)), eT, H', ⟨by first | omega | exact Nat.le_refl _⟩, ⟨kB BK408.out⟩, ⟨kB BK409.out⟩, ⟨bB2 HB.out GE408.out GE409.out⟩⟩
 clear HC4; obtain ⟨kq, x27_3, rfl, HA, HJ3, BK408, BK409, HB⟩ := hcut
 cases kq with
 | zero => exact absurd HA.out (by simp [r09_Check.j0])
 | succ kj3 =>
  have H := HA.out; clear HA
  simp only [r09_Check.j0] at H
  by_cases c17 : x27_3 = true
  ·
   subst c17
   have H1 : (some (2, 0)) = some (r1, r2) := by rw [if_pos rfl] at H; exact H
   clear H; have H := H1; clear H1
   simp only [Option.some.injEq, Prod.mk.injEq] at H
   obtain ⟨rfl, rfl⟩ := H; have hnb18 := NB409_408.out; have hnc18 := NB408_409.out
   have hcz19_0 : wc.cell? ⟨gb409, 0, none⟩ = some (.int .i64 0) := (blk_cell BK409.out 0).trans rfl
   have hcz19_1 : wc.cell? ⟨gb409, 1, none⟩ = some (.int .i64 0) := (blk_cell BK409.out 1).trans rfl
   have hfz19_0 := blk_frozen BK409.out 0; have hfz19_1 := blk_frozen BK409.out 1
   go_wp2
   refine bodyPost_ret (results_cell_row rfl _ _ gb409 66 #[.int .i64 2, .int .i64 0] (0, 0) _ rfl (bP BK409.out) Tryd.underlying66 rfl (by kernel_rfl)) rfl ?_
   exact ⟨rT, bB2 HB.out GE408.out GE409.out⟩
  replace c17 := Bool.eq_false_iff.mpr c17; subst c17
  have H1 : (r09_Check.l0 kj3 0 a0_0 l0_1 l0_2) = some (r1, r2) := by rw [if_neg (show ¬ (false = true) by decide)] at H; exact H
  clear H; have H := H1; clear H1
  have H' := aM H
  clear H
  go_wp2
  go_loopg [3] kj3 (fun kq v3 w' => ∃ (x3_2 : Int) (x410000_2 : Int) (x410001_2 : Int), v3 = .int .i64 x3_2 ∧ Aside0 (r09_Check.l0 kq x3_2 a0_0 l0_1 l0_2 = some (r1, r2)) ∧ Aside0 (kq ≤ kj3) ∧ Aside0 (w'.heap[gb408]? = some (.cells #[.string a0_0, (.slice A0_1 l0_1.length c0_1), (.slice A0_2 l0_2.length c0_2)] 28 (0, 0))) ∧ Aside0 (w'.heap[gb409]? = some (.cells #[.int .i64 x410000_2, .int .i64 x410001_2] 66 (0, 0))) ∧ Aside0 (Below w.heap.size w w'))
  case atStart => exact ⟨(0), (0), (0), eT, H', ⟨Nat.le_refl _⟩, ⟨kB BK408.out⟩, ⟨kB BK409.out⟩, ⟨bB2 HB.out GE408.out GE409.out⟩⟩
  clear H'; obtain ⟨x3_2, x410000_2, x410001_2, rfl, HA, HK2, BK408, BK409, HB⟩ := hrel
  cases gk with
  | zero => exact absurd HA.out (by simp [r09_Check.l0])
  | succ k2 =>
   have H := HA.out; clear HA
   simp only [r09_Check.l0] at H
   by_cases c20 : x3_2 < (l0_1.length : Int)
   ·
    rw [if_pos c20] at H
    have c20b0 := decide_eq_true c20; clear c20; obtain ⟨t411, A21, H⟩ := iB H; (try dsimp only at H)
    by_cases c22 : t411 = 0
    ·
     rw [if_pos c22] at H
     have c22b0 : (t411 == 0) = true := beq_iff_eq.mpr c22; have c22b1 : (t411 != 0) = false := bne_eq_false_iff_eq.mpr c22; clear c22
     have H' := aM H
     clear H; have hnb23 := NB408_409.out; have hnc23 := NB409_408.out
     have hcz24_0 : wr.cell? ⟨gb408, 0, none⟩ = some (.string a0_0) := (blk_cell BK408.out 0).trans rfl
     have hcz24_1 : wr.cell? ⟨gb408, 1, none⟩ = some (.slice A0_1 l0_1.length c0_1) := (blk_cell BK408.out 1).trans rfl
     have hcz24_2 : wr.cell? ⟨gb408, 2, none⟩ = some (.slice A0_2 l0_2.length c0_2) := (blk_cell BK408.out 2).trans rfl
     have hfz24_0 := blk_frozen BK408.out 0; have hfz24_1 := blk_frozen BK408.out 1; have hfz24_2 := blk_frozen BK408.out 2
     go_wp2_with (first | ((with_reducible refine gate_callee (f := 55) rfl ?_); refine gM (some 38) Tryd.func55 #[.agg #[.string a0_0, .slice A0_1 l0_1.length c0_1, .slice A0_2 l0_2.length c0_2], .int .i64 x3_2] ?_; (with_reducible refine (r09_place.calls k2 a0_0 _ _ l0_1 _ _ l0_2 x3_2 t411 _ ?side1 ?side2 ?side3 ?side4 A21.out).mono ?_); (case side1 => exact cB HR0_1.out HB.out); (case side2 => exact HC0_1.out); (case side3 => exact cB HR0_2.out HB.out); (case side4 => exact HC0_2.out); rintro e w25 ⟨rfl, hb⟩; refine ⟨_, rfl, ?_⟩; replace BK408 := aM (kW BK408.out hb); replace BK409 := aM (kW BK409.out hb); replace HB := aM (below_step (bB2 HB.out GE408.out GE409.out) hb); clear hb))
     go_roundg k2
     case measure => have := HJ3.out; have := HK2.out; omega
     case rel => exact ⟨(wrap64 (x3_2 + 1)), (x410000_2), (x410001_2), eT, H', ⟨by have := HJ3.out; have := HK2.out; omega⟩, ⟨kB BK408.out⟩, ⟨kB BK409.out⟩, ⟨bB2 HB.out GE408.out GE409.out⟩⟩
    rw [if_neg c22] at H; have c22b0 : (t411 == 0) = false := beq_eq_false_iff_ne.mpr c22; have c22b1 : (t411 != 0) = true := bne_iff_ne.mpr c22
    simp only [Option.some.injEq, Prod.mk.injEq] at H
    obtain ⟨rfl, rfl⟩ := H; have hnb26 := NB408_409.out; have hnc26 := NB409_408.out
    have hcz27_0 : wr.cell? ⟨gb408, 0, none⟩ = some (.string a0_0) := (blk_cell BK408.out 0).trans rfl
    have hcz27_1 : wr.cell? ⟨gb408, 1, none⟩ = some (.slice A0_1 l0_1.length c0_1) := (blk_cell BK408.out 1).trans rfl
    have hcz27_2 : wr.cell? ⟨gb408, 2, none⟩ = some (.slice A0_2 l0_2.length c0_2) := (blk_cell BK408.out 2).trans rfl
    have hfz27_0 := blk_frozen BK408.out 0; have hfz27_1 := blk_frozen BK408.out 1; have hfz27_2 := blk_frozen BK408.out 2
    go_wp2_with (first | ((with_reducible refine gate_callee (f := 55) rfl ?_); refine gM (some 38) Tryd.func55 #[.agg #[.string a0_0, .slice A0_1 l0_1.length c0_1, .slice A0_2 l0_2.length c0_2], .int .i64 x3_2] ?_; (with_reducible refine (r09_place.calls k2 a0_0 _ _ l0_1 _ _ l0_2 x3_2 t411 _ ?side1 ?side2 ?side3 ?side4 A21.out).mono ?_); (case side1 => exact cB HR0_1.out HB.out); (case side2 => exact HC0_1.out); (case side3 => exact cB HR0_2.out HB.out); (case side4 => exact HC0_2.out); rintro e w28 ⟨rfl, hb⟩; refine ⟨_, rfl, ?_⟩; replace BK408 := aM (kW BK408.out hb); replace BK409 := aM (kW BK409.out hb); replace HB := aM (below_step (bB2 HB.out GE408.out GE409.out) hb); clear hb; obtain ⟨hcz29_0, hcz29_1, hfz29_0, hfz29_1⟩ := cd2 BK409.out))
    refine bodyPost_ret (results_cell_row rfl _ _ gb409 66 #[.int .i64 t411, .int .i64 x3_2] (0, 0) _ rfl (bP BK409.out) Tryd.underlying66 rfl (by kernel_rfl)) rfl ?_
    exact ⟨rT, bB2 HB.out GE408.out GE409.out⟩
   rw [if_neg c20] at H; have c20b0 := decide_eq_false c20; clear c20
   have H' := aM H
   clear H; have hnb30 := NB408_409.out; have hnc30 := NB409_408.out
   have hcz31_0 : wr.cell? ⟨gb408, 0, none⟩ = some (.string a0_0) := (blk_cell BK408.out 0).trans rfl
   have hcz31_1 : wr.cell? ⟨gb408, 1, none⟩ = some (.slice A0_1 l0_1.length c0_1) := (blk_cell BK408.out 1).trans rfl
   have hcz31_2 : wr.cell? ⟨gb408, 2, none⟩ = some (.slice A0_2 l0_2.length c0_2) := (blk_cell BK408.out 2).trans rfl
   have hfz31_0 := blk_frozen BK408.out 0; have hfz31_1 := blk_frozen BK408.out 1; have hfz31_2 := blk_frozen BK408.out 2
   go_wp2
   go_loopg [5] k2 (fun kq v5 w' => ∃ (x5_3 : Int) (x410000_3 : Int) (x410001_3 : Int), v5 = .int .i64 x5_3 ∧ Aside0 (r09_Check.l1 kq x5_3 a0_0 l0_1 l0_2 = some (r1, r2)) ∧ Aside0 (kq ≤ k2) ∧ Aside0 (w'.heap[gb408]? = some (.cells #[.string a0_0, (.slice A0_1 l0_1.length c0_1), (.slice A0_2 l0_2.length c0_2)] 28 (0, 0))) ∧ Aside0 (w'.heap[gb409]? = some (.cells #[.int .i64 x410000_3, .int .i64 x410001_3] 66 (0, 0))) ∧ Aside0 (Below w.heap.size w w'))
   case atStart => exact ⟨(0), (x410000_2), (x410001_2), eT, H', ⟨Nat.le_refl _⟩, ⟨kB BK408.out⟩, ⟨kB BK409.out⟩, ⟨bB2 HB.out GE408.out GE409.out⟩⟩
   clear H'; obtain ⟨x5_3, x410000_3, x410001_3, rfl, HA, HK3, BK408, BK409, HB⟩ := hrel
   cases gk with
   | zero => exact absurd HA.out (by simp [r09_Check.l1])
   | succ k3 =>
    have H := HA.out; clear HA
    simp only [r09_Check.l1] at H
    by_cases c32 : x5_3 < (l0_2.length : Int)
    rotate_left
    ·
     rw [if_neg c32] at H
     have c32b0 := decide_eq_false c32; clear c32
     simp only [Option.some.injEq, Prod.mk.injEq] at H
     obtain ⟨rfl, rfl⟩ := H; have hnb43 := NB408_409.out; have hnc43 := NB409_408.out
     have hcz44_0 : wr.cell? ⟨gb408, 0, none⟩ = some (.string a0_0) := (blk_cell BK408.out 0).trans rfl
     have hcz44_1 : wr.cell? ⟨gb408, 1, none⟩ = some (.slice A0_1 l0_1.length c0_1) := (blk_cell BK408.out 1).trans rfl
     have hcz44_2 : wr.cell? ⟨gb408, 2, none⟩ = some (.slice A0_2 l0_2.length c0_2) := (blk_cell BK408.out 2).trans rfl
     have hfz44_0 := blk_frozen BK408.out 0; have hfz44_1 := blk_frozen BK408.out 1; have hfz44_2 := blk_frozen BK408.out 2
     have hcz45_0 : wr.cell? ⟨gb409, 0, none⟩ = some (.int .i64 x410000_3) := (blk_cell BK409.out 0).trans rfl
     have hcz45_1 : wr.cell? ⟨gb409, 1, none⟩ = some (.int .i64 x410001_3) := (blk_cell BK409.out 1).trans rfl
     have hfz45_0 := blk_frozen BK409.out 0; have hfz45_1 := blk_frozen BK409.out 1
     go_wp2
     refine bodyPost_ret (results_cell_row rfl _ _ gb409 66 #[.int .i64 0, .int .i64 0] (0, 0) _ rfl (bP BK409.out) Tryd.underlying66 rfl (by kernel_rfl)) rfl ?_
     exact ⟨rT, bB2 HB.out GE408.out GE409.out⟩
    rw [if_pos c32] at H; have c32b0 := decide_eq_true c32; clear c32; obtain ⟨t412, A33, H⟩ := iB H; (try dsimp only at H)
    by_cases c34 : t412 = 0
    ·
     rw [if_pos c34] at H
     have c34b0 : (t412 == 0) = true := beq_iff_eq.mpr c34; have c34b1 : (t412 != 0) = false := bne_eq_false_iff_eq.mpr c34; clear c34
     have H' := aM H
     clear H; have hnb35 := NB408_409.out; have hnc35 := NB409_408.out
     have hcz36_0 : wr.cell? ⟨gb408, 0, none⟩ = some (.string a0_0) := (blk_cell BK408.out 0).trans rfl
     have hcz36_1 : wr.cell? ⟨gb408, 1, none⟩ = some (.slice A0_1 l0_1.length c0_1) := (blk_cell BK408.out 1).trans rfl
     have hcz36_2 : wr.cell? ⟨gb408, 2, none⟩ = some (.slice A0_2 l0_2.length c0_2) := (blk_cell BK408.out 2).trans rfl
     have hfz36_0 := blk_frozen BK408.out 0; have hfz36_1 := blk_frozen BK408.out 1; have hfz36_2 := blk_frozen BK408.out 2
     go_wp2_with (first | ((with_reducible refine gate_callee (f := 56) rfl ?_); refine gM (some 53) Tryd.func56 #[.agg #[.string a0_0, .slice A0_1 l0_1.length c0_1, .slice A0_2 l0_2.length c0_2], .int .i64 x5_3] ?_; (with_reducible refine (r09_trans.calls k3 a0_0 _ _ l0_1 _ _ l0_2 x5_3 t412 _ ?side1 ?side2 ?side3 ?side4 A33.out).mono ?_); (case side1 => exact cB HR0_1.out HB.out); (case side2 => exact HC0_1.out); (case side3 => exact cB HR0_2.out HB.out); (case side4 => exact HC0_2.out); rintro e w37 ⟨rfl, hb⟩; refine ⟨_, rfl, ?_⟩; replace BK408 := aM (kW BK408.out hb); replace BK409 := aM (kW BK409.out hb); replace HB := aM (below_step (bB2 HB.out GE408.out GE409.out) hb); clear hb))
     go_roundg k3
     case measure => have := HJ3.out; have := HK2.out; have := HK3.out; omega
     case rel => exact ⟨(wrap64 (x5_3 + 1)), (x410000_3), (x410001_3), eT, H', ⟨by have := HJ3.out; have := HK2.out; have := HK3.out; omega⟩, ⟨kB BK408.out⟩, ⟨kB BK409.out⟩, ⟨bB2 HB.out GE408.out GE409.out⟩⟩
    rw [if_neg c34] at H; have c34b0 : (t412 == 0) = false := beq_eq_false_iff_ne.mpr c34; have c34b1 : (t412 != 0) = true := bne_iff_ne.mpr c34
    simp only [Option.some.injEq, Prod.mk.injEq] at H
    obtain ⟨rfl, rfl⟩ := H; have hnb38 := NB408_409.out; have hnc38 := NB409_408.out
    have hcz39_0 : wr.cell? ⟨gb408, 0, none⟩ = some (.string a0_0) := (blk_cell BK408.out 0).trans rfl
    have hcz39_1 : wr.cell? ⟨gb408, 1, none⟩ = some (.slice A0_1 l0_1.length c0_1) := (blk_cell BK408.out 1).trans rfl
    have hcz39_2 : wr.cell? ⟨gb408, 2, none⟩ = some (.slice A0_2 l0_2.length c0_2) := (blk_cell BK408.out 2).trans rfl
    have hfz39_0 := blk_frozen BK408.out 0; have hfz39_1 := blk_frozen BK408.out 1; have hfz39_2 := blk_frozen BK408.out 2
    go_wp2_with (first | ((with_reducible refine gate_callee (f := 56) rfl ?_); refine gM (some 53) Tryd.func56 #[.agg #[.string a0_0, .slice A0_1 l0_1.length c0_1, .slice A0_2 l0_2.length c0_2], .int .i64 x5_3] ?_; (with_reducible refine (r09_trans.calls k3 a0_0 _ _ l0_1 _ _ l0_2 x5_3 t412 _ ?side1 ?side2 ?side3 ?side4 A33.out).mono ?_); (case side1 => exact cB HR0_1.out HB.out); (case side2 => exact HC0_1.out); (case side3 => exact cB HR0_2.out HB.out); (case side4 => exact HC0_2.out); rintro e w40 ⟨rfl, hb⟩; refine ⟨_, rfl, ?_⟩; replace BK408 := aM (kW BK408.out hb); replace BK409 := aM (kW BK409.out hb); replace HB := aM (below_step (bB2 HB.out GE408.out GE409.out) hb); clear hb; obtain ⟨hcz41_0, hcz41_1, hcz41_2, hfz41_0, hfz41_1, hfz41_2⟩ := cd3 BK408.out; obtain ⟨hcz42_0, hcz42_1, hfz42_0, hfz42_1⟩ := cd2 BK409.out))
    refine bodyPost_ret (results_cell_row rfl _ _ gb409 66 #[.int .i64 t412, .int .i64 (wrap64 ((l0_1.length : Int) + x5_3))] (0, 0) _ rfl (bP BK409.out) Tryd.underlying66 rfl (by kernel_rfl)) rfl ?_
    exact ⟨rT, bB2 HB.out GE408.out GE409.out⟩
/-! ### r09_Valid: function 12 -/
def r09_Valid.f (k : Nat) (a0_0 : ByteArray) (l0_1 : List (S59)) (l0_2 : List (S41)) : Option (Bool) := (r09_Check.f k a0_0 l0_1 l0_2).bind fun bt414 => (some (bt414.1 == 0))
theorem r09_Valid.mono : ∀ a0 a1 a2 k, LeO (r09_Valid.f k a0 a1 a2) (r09_Valid.f (k + 1) a0 a1 a2) := by
 intro a0 a1 a2 k
 unfold r09_Valid.f
 repeat' first
   | (with_reducible first | apply r09_Check.mono | exact LeO.refl _ | exact LeO.none _ | refine LeO.ite ?_ ?_ | refine LeO.bind ?_ (fun _ => ?_))
set_option maxHeartbeats 8000000 in
set_option maxRecDepth 100000 in
theorem r09_Valid.calls (k : Nat) (a0_0 : ByteArray) (A0_1 : Option Addr) (c0_1 : Nat) (l0_1 : List (S59)) (A0_2 : Option Addr) (c0_2 : Nat) (l0_2 : List (S41)) (r : Bool) (w : World) (hr0_1 : Kd.C k59 w A0_1 l0_1.length l0_1) (hc0_1 : l0_1.length ≤ c0_1) (hr0_2 : Kd.C k41 w A0_2 l0_2.length l0_2) (hc0_2 : l0_2.length ≤ c0_2) (h : r09_Valid.f k a0_0 l0_1 l0_2 = some r) :
  Calls Tryd.prog 12 #[.agg #[.string a0_0, .slice A0_1 l0_1.length c0_1, .slice A0_2 l0_2.length c0_2]] w fun e w' => e = .returned (.bool r) ∧ Below w.heap.size w w' := by
 have hu28 := Tryd.underlying28; have hu9 := Tryd.underlying9; have hu25 := Tryd.underlying25; have hu26 := Tryd.underlying26; have HR0_1 := aM hr0_1; have HC0_1 := aM hc0_1; clear hr0_1 hc0_1; have HR0_2 := aM hr0_2; have HC0_2 := aM hc0_2; clear hr0_2 hc0_2; have HB := aM (Below.refl w.heap.size w); have H : ((r09_Check.f k a0_0 l0_1 l0_2).bind fun bt414 => (some (bt414.1 == 0))) = some r := h; clear h; replace H := Option.bind_eq_some_iff.mp H
 obtain ⟨⟨t414, t415⟩, A20, H⟩ := H
 replace H : (some (t414 == 0)) = some r := H
 have A2 := aM A20; clear A20
 obtain rfl := Option.some.inj H
 go_enter Tryd.func12, Tryd.ntmps12
 go_wp2_with (first | ((with_reducible refine gate_dst (N := 1) rfl ?_); refine bX 1 (cs := #[.string a0_0, .slice A0_1 l0_1.length c0_1, .slice A0_2 l0_2.length c0_2]) (t := 28) ?_; intro gb413 hg w3 hbox hb; have BK413 := aM (hbox); have GW413 := aM (gE hg (below_size (bB HB.out))); have GE413 := GW413; replace HB := aM (below_step (bB HB.out) hb); clear hb hbox hg; obtain ⟨hcz4_0, hcz4_1, hcz4_2, hfz4_0, hfz4_1, hfz4_2⟩ := cd3 BK413.out) | ((with_reducible refine gate_callee (f := 36) rfl ?_); refine gM (some 4) Tryd.func36 #[.agg #[.string a0_0, .slice A0_1 l0_1.length c0_1, .slice A0_2 l0_2.length c0_2]] ?_; (with_reducible refine (r09_Check.calls k a0_0 _ _ l0_1 _ _ l0_2 t414 t415 _ ?side1 ?side2 ?side3 ?side4 A2.out).mono ?_); (case side1 => exact cB HR0_1.out HB.out); (case side2 => exact HC0_1.out); (case side3 => exact cB HR0_2.out HB.out); (case side4 => exact HC0_2.out); rintro e w5 ⟨rfl, hb⟩; refine ⟨_, rfl, ?_⟩; replace BK413 := aM (kW BK413.out hb); replace HB := aM (below_step (bB1 HB.out GE413.out) hb); clear hb))
 go_ret
 exact ⟨rT, bB1 HB.out GE413.out⟩






/-! ### r09_Initial: function 14 -/
def r09_Initial.l0 : Nat → List Int → Int → ByteArray → List (S59) → List (S41) → Option (List Int)
 | 0, _, _, _, _, _ => none
 | k + 1, x3, x4, x496000, x496001, x496002 => if x4 < (x496001.length : Int) then ((r09_Valid.f k x496000 x496001 x496002).bind fun t496 => (if t496 = true then (if 0 ≤ x4 then (if x3.length < 17592186044416 then (r09_Initial.l0 k (x3 ++ [(rd_T59 x496001 x4).f1]) (wrap64 (x4 + 1)) x496000 x496001 x496002) else (none)) else (none)) else (some x3))) else (some x3)
def r09_Initial.f (k : Nat) (a0_0 : ByteArray) (l0_1 : List (S59)) (l0_2 : List (S41)) : Option (List Int) := r09_Initial.l0 k ([] : List Int) 0 a0_0 l0_1 l0_2
theorem r09_Initial.mono_l : ∀ k, (∀ y0 y1 y2 y3 y4, LeO (r09_Initial.l0 k y0 y1 y2 y3 y4) (r09_Initial.l0 (k + 1) y0 y1 y2 y3 y4))
 | 0 => fun _ _ _ _ _ r h => by simp [r09_Initial.l0] at h
 | k + 1 => by
  have ih0 := r09_Initial.mono_l k
  ·
   intro y0 y1 y2 y3 y4
   unfold r09_Initial.l0
   repeat' first
   | (with_reducible first | apply ih0 | apply r09_Valid.mono | exact LeO.refl _ | exact LeO.none _ | refine LeO.ite ?_ ?_ | refine LeO.bind ?_ (fun _ => ?_))
theorem r09_Initial.mono : ∀ a0 a1 a2 k, LeO (r09_Initial.f k a0 a1 a2) (r09_Initial.f (k + 1) a0 a1 a2) := by
 intro a0 a1 a2 k
 have ih0 := r09_Initial.mono_l k
 unfold r09_Initial.f
 repeat' first
   | (with_reducible first | apply ih0 | apply r09_Valid.mono | exact LeO.refl _ | exact LeO.none _ | refine LeO.ite ?_ ?_ | refine LeO.bind ?_ (fun _ => ?_))
set_option maxHeartbeats 8000000 in
set_option maxRecDepth 100000 in
theorem r09_Initial.calls (k : Nat) (a0_0 : ByteArray) (A0_1 : Option Addr) (c0_1 : Nat) (l0_1 : List (S59)) (A0_2 : Option Addr) (c0_2 : Nat) (l0_2 : List (S41)) (r : List Int) (w : World) (hr0_1 : Kd.C k59 w A0_1 l0_1.length l0_1) (hc0_1 : l0_1.length ≤ c0_1) (hr0_2 : Kd.C k41 w A0_2 l0_2.length l0_2) (hc0_2 : l0_2.length ≤ c0_2) (h : r09_Initial.f k a0_0 l0_1 l0_2 = some r) :
  Calls Tryd.prog 14 #[.agg #[.string a0_0, .slice A0_1 l0_1.length c0_1, .slice A0_2 l0_2.length c0_2]] w fun e w' => ∃ v0_ : Value, e = .returned (v0_) ∧ Kd.R (Kd.int .i64) 3 w' w.heap.size (fun _ => True) v0_ r ∧ Below w.heap.size w w' := by
 have hu28 := Tryd.underlying28; have hu9 := Tryd.underlying9; have hu25 := Tryd.underlying25; have hu26 := Tryd.underlying26; have HR0_1 := aM hr0_1; have HC0_1 := aM hc0_1; clear hr0_1 hc0_1; have HR0_2 := aM hr0_2; have HC0_2 := aM hc0_2; clear hr0_2 hc0_2; have HB := aM (Below.refl w.heap.size w); have H : (r09_Initial.l0 k ([] : List Int) 0 a0_0 l0_1 l0_2) = some r := h; clear h
 have H' := aM H
 clear H
 go_enter Tryd.func14, Tryd.ntmps14
 go_wp2_with (first | ((with_reducible refine gate_dst (N := 1) rfl ?_); refine bX 1 (cs := #[.string a0_0, .slice A0_1 l0_1.length c0_1, .slice A0_2 l0_2.length c0_2]) (t := 28) ?_; intro gb495 hg w2 hbox hb; have BK495 := aM (hbox); have GW495 := aM (gE hg (below_size (bB HB.out))); have GE495 := GW495; replace HB := aM (below_step (bB HB.out) hb); clear hb hbox hg))
 go_loopg [3, 4] k (fun kq v3 v4 w' => ∃ (x3_1 : List Int) (x4_1 : Int), v4 = .int .i64 x4_1 ∧ Aside0 (r09_Initial.l0 kq x3_1 x4_1 a0_0 l0_1 l0_2 = some r) ∧ Aside0 (kq ≤ k) ∧ Aside0 (Kd.R (Kd.int .i64) 3 w' w.heap.size (fun _ => True) v3 x3_1) ∧ Aside0 (w'.heap[gb495]? = some (.cells #[.string a0_0, (.slice A0_1 l0_1.length c0_1), (.slice A0_2 l0_2.length c0_2)] 28 (0, 0))) ∧ Aside0 (Below w.heap.size w w'))
 case atStart => exact ⟨(([] : List Int)), (0), eT, H', ⟨Nat.le_refl _⟩, ⟨nT⟩, ⟨kB BK495.out⟩, ⟨bB1 HB.out GE495.out⟩⟩
 clear H'; obtain ⟨x3_1, x4_1, rfl, HA, HK1, HO_3, BK495, HB⟩ := hrel
 cases gk with
 | zero => exact absurd HA.out (by simp [r09_Initial.l0])
 | succ k1 =>
  have H := HA.out; clear HA
  simp only [r09_Initial.l0] at H
  by_cases c3 : x4_1 < (l0_1.length : Int)
  rotate_left
  ·
   rw [if_neg c3] at H
   have c3b0 := decide_eq_false c3; clear c3
   obtain rfl := Option.some.inj H
   have hcz14_0 : wr.cell? ⟨gb495, 0, none⟩ = some (.string a0_0) := (blk_cell BK495.out 0).trans rfl
   have hcz14_1 : wr.cell? ⟨gb495, 1, none⟩ = some (.slice A0_1 l0_1.length c0_1) := (blk_cell BK495.out 1).trans rfl
   have hcz14_2 : wr.cell? ⟨gb495, 2, none⟩ = some (.slice A0_2 l0_2.length c0_2) := (blk_cell BK495.out 2).trans rfl
   have hfz14_0 := blk_frozen BK495.out 0; have hfz14_1 := blk_frozen BK495.out 1; have hfz14_2 := blk_frozen BK495.out 2
   go_wp2
   go_ret
   exact ⟨_, rT, oR HO_3.out, bB1 HB.out GE495.out⟩


  rw [if_pos c3] at H; have c3b0 := decide_eq_true c3; clear c3; obtain ⟨t496, A4, H⟩ := iB H; (try dsimp only at H)
  by_cases c5 : t496 = true
  rotate_left
  ·
   replace c5 := Bool.eq_false_iff.mpr c5
   subst c5
   have H1 : (some x3_1) = some r := by rw [if_neg (show ¬ (false = true) by decide)] at H; exact H
   clear H; have H := H1; clear H1
   obtain rfl := Option.some.inj H
   have hcz12_0 : wr.cell? ⟨gb495, 0, none⟩ = some (.string a0_0) := (blk_cell BK495.out 0).trans rfl
   have hcz12_1 : wr.cell? ⟨gb495, 1, none⟩ = some (.slice A0_1 l0_1.length c0_1) := (blk_cell BK495.out 1).trans rfl
   have hcz12_2 : wr.cell? ⟨gb495, 2, none⟩ = some (.slice A0_2 l0_2.length c0_2) := (blk_cell BK495.out 2).trans rfl
   have hfz12_0 := blk_frozen BK495.out 0; have hfz12_1 := blk_frozen BK495.out 1; have hfz12_2 := blk_frozen BK495.out 2
   go_wp2_with (first | (go_at_call 12; (with_reducible refine (r09_Valid.calls k1 a0_0 _ _ l0_1 _ _ l0_2 false _ ?side1 ?side2 ?side3 ?side4 A4.out).mono ?_); (case side1 => exact cB HR0_1.out HB.out); (case side2 => exact HC0_1.out); (case side3 => exact cB HR0_2.out HB.out); (case side4 => exact HC0_2.out); rintro e w13 ⟨rfl, hb⟩; replace HO_3 := aM (Kd.R_below (oR HO_3.out) hb); replace BK495 := aM (kW BK495.out hb); replace HB := aM (below_step (bB1 HB.out GE495.out) hb); clear hb))
   go_ret
   exact ⟨_, rT, oR HO_3.out, bB1 HB.out GE495.out⟩
  subst c5
  have H1 : (if 0 ≤ x4_1 then (if x3_1.length < 17592186044416 then (r09_Initial.l0 k1 (x3_1 ++ [(rd_T59 l0_1 x4_1).f1]) (wrap64 (x4_1 + 1)) a0_0 l0_1 l0_2) else (none)) else (none)) = some r := by rw [if_pos rfl] at H; exact H
  clear H; have H := H1; clear H1
  obtain ⟨c6, H⟩ := iP H; have c6b0 := decide_eq_true c6; clear c6
  obtain ⟨c7, H⟩ := iP H; have LMc7 := aM c7; clear c7
  obtain ⟨y498, hy498⟩ : ∃ y_ : List Int, y_ = (x3_1 ++ [(rd_T59 l0_1 x4_1).f1]) := ⟨_, rfl⟩
  replace H : (r09_Initial.l0 k1 y498 (wrap64 (x4_1 + 1)) a0_0 l0_1 l0_2) = some r := yT hy498 H
  have Ny498 := aM hy498; clear hy498
  have H' := aM H
  clear H
  have hcz8_0 : wr.cell? ⟨gb495, 0, none⟩ = some (.string a0_0) := (blk_cell BK495.out 0).trans rfl
  have hcz8_1 : wr.cell? ⟨gb495, 1, none⟩ = some (.slice A0_1 l0_1.length c0_1) := (blk_cell BK495.out 1).trans rfl
  have hcz8_2 : wr.cell? ⟨gb495, 2, none⟩ = some (.slice A0_2 l0_2.length c0_2) := (blk_cell BK495.out 2).trans rfl
  have hfz8_0 := blk_frozen BK495.out 0; have hfz8_1 := blk_frozen BK495.out 1; have hfz8_2 := blk_frozen BK495.out 2
  go_wp2_with (first | (go_at_call 12; (with_reducible refine (r09_Valid.calls k1 a0_0 _ _ l0_1 _ _ l0_2 true _ ?side1 ?side2 ?side3 ?side4 A4.out).mono ?_); (case side1 => exact cB HR0_1.out HB.out); (case side2 => exact HC0_1.out); (case side3 => exact cB HR0_2.out HB.out); (case side4 => exact HC0_2.out); rintro e w9 ⟨rfl, hb⟩; replace HO_3 := aM (Kd.R_below (oR HO_3.out) hb); replace BK495 := aM (kW BK495.out hb); replace HB := aM (below_step (bB1 HB.out GE495.out) hb); clear hb; obtain ⟨hcz10_0, hcz10_1, hcz10_2, hfz10_0, hfz10_1, hfz10_2⟩ := cd3 BK495.out; have p497 : 0 ≤ (x4_1 : Int) := dT; have q497 : x4_1 < (l0_1.length : Int) := dT; obtain ⟨ad497, e497, hx497_0, hx497_1, hx497_2⟩ := at_T59 HR0_1.out x4_1 p497 q497; cases e497; try replace hx497_0 := kX HB.out hx497_0; try replace hx497_1 := kX HB.out hx497_1; try replace hx497_2 := kX HB.out hx497_2; replace p497 := eq_true p497; replace q497 := eq_true q497) | ((with_reducible refine gate_builtin (b := .append) (xs := #[.tmp 16, .tmp 23]) rfl ?_); at_builtin; refine Kd.R_append (Kd.int .i64) (w0 := w) w.heap.size rfl (.tmp 16) (.tmp 23) 36 3 (.int .i64 0) 8 rfl Tryd.underlying36 info3 rfl (by decide) (by omega) u3 x3_1 ((rd_T59 l0_1 x4_1).f1) [.int .i64 ((rd_T59 l0_1 x4_1).f1)] (fun _ => True) (fun _ => False) rfl rfl ?aP (fun _ hk => hk.elim) ?aF ?aO ?aB ?aS ?aL ?_; (case aP => exact rfl); (case aB => exact (bB1 HB.out GE495.out)); (case aF => exact (fun _ _ => trivial)); (case aO => exact (oR HO_3.out)); (case aS => exact (below_size (bB1 HB.out GE495.out))); (case aL => have := LMc7.out; omega); intro v499 w11 ho hb hg hat; rw [← Ny498.out] at ho; replace BK495 := aM (blk_grown (g := gb495) (o := .cells #[.string a0_0, .slice (some ad497) l0_1.length c0_1, .slice A0_2 l0_2.length c0_2] 28 (0, 0)) (kB BK495.out) hg (Kd.R_ne HO_3.out BK495.out (by decide))); replace HB := aM (hb); have HO500 := aM (ho); clear HO_3; clear ho hb hg hat))
  go_roundg k1
  case measure => have := HK1.out; omega
  case rel => exact ⟨(y498), (wrap64 (x4_1 + 1)), eT, H', ⟨by have := HK1.out; omega⟩, ⟨oR HO500.out⟩, ⟨kB BK495.out⟩, ⟨bB1 HB.out GE495.out⟩⟩
/-! ### r04_Valid: function 39 -/
def r04_Valid.l0 : Nat → List Int → Int → Int → Option (Bool)
 | 0, _, _, _ => none
 | k + 1, x0, x1, x5 => if x5 < (x0.length : Int) then (if 0 ≤ x5 then (if (rd x0 x5) < 0 then (some false) else (if (rd x0 x5) > 1048576 then (some false) else (r04_Valid.l0 k x0 x1 (wrap64 (x5 + 1))))) else (none)) else (some ((x0.length : Int) == x1))
def r04_Valid.f (k : Nat) (l0 : List Int) (a1 : Int) : Option (Bool) := r04_Valid.l0 k l0 a1 0
theorem r04_Valid.mono_l : ∀ k, (∀ y0 y1 y2, LeO (r04_Valid.l0 k y0 y1 y2) (r04_Valid.l0 (k + 1) y0 y1 y2))
 | 0 => fun _ _ _ r h => by simp [r04_Valid.l0] at h
 | k + 1 => by
  have ih0 := r04_Valid.mono_l k
  ·
   intro y0 y1 y2
   unfold r04_Valid.l0
   repeat' first
   | (with_reducible first | apply ih0 | exact LeO.refl _ | exact LeO.none _ | refine LeO.ite ?_ ?_ | refine LeO.bind ?_ (fun _ => ?_))
theorem r04_Valid.mono : ∀ a0 a1 k, LeO (r04_Valid.f k a0 a1) (r04_Valid.f (k + 1) a0 a1) := by
 intro a0 a1 k
 have ih0 := r04_Valid.mono_l k
 unfold r04_Valid.f
 repeat' first
   | (with_reducible first | apply ih0 | exact LeO.refl _ | exact LeO.none _ | refine LeO.ite ?_ ?_ | refine LeO.bind ?_ (fun _ => ?_))
set_option maxHeartbeats 8000000 in
set_option maxRecDepth 100000 in
theorem r04_Valid.calls (k : Nat) (A0 : Option Addr) (c0 : Nat) (l0 : List Int) (a1 : Int) (r : Bool) (w : World) (hr0 : Kd.C (Kd.int .i64) w A0 l0.length l0) (hc0 : l0.length ≤ c0) (h : r04_Valid.f k l0 a1 = some r) :
  Calls Tryd.prog 39 #[.slice A0 l0.length c0, .int .i64 a1] w fun e w' => e = .returned (.bool r) ∧ Drawn0 w w' := by
 have HR0 := aM hr0; have HC0 := aM hc0; clear hr0 hc0; have H : (r04_Valid.l0 k l0 a1 0) = some r := h; clear h
 have H' := aM H
 clear H
 go_enter Tryd.func39, Tryd.ntmps39
 go_wp2
 go_loopg [5] k (fun kq v5 w' => ∃ (x5_1 : Int), v5 = .int .i64 x5_1 ∧ Aside0 (r04_Valid.l0 kq l0 a1 x5_1 = some r) ∧ Aside0 (kq ≤ k) ∧ Drawn0 w w')
 case atStart => exact ⟨(0), eT, H', ⟨Nat.le_refl _⟩, by repeat (first | exact Drawn0.refl _ | apply Drawn0.step)⟩
 clear H'
 obtain ⟨x5_1, rfl, HA, HK1, ⟨m1, rfl⟩⟩ := hrel
 cases gk with
 | zero => exact absurd HA.out (by simp [r04_Valid.l0])
 | succ k1 =>
  have H := HA.out; clear HA
  simp only [r04_Valid.l0] at H
  by_cases c3 : x5_1 < (l0.length : Int)
  rotate_left
  ·
   rw [if_neg c3] at H
   have c3b0 := decide_eq_false c3; clear c3
   obtain rfl := Option.some.inj H
   go_wp2
   go_ret
   exact ⟨by first | rfl | (simp; done) | (simp [*]; done), by repeat (first | exact Drawn0.refl _ | apply Drawn0.step)⟩


  rw [if_pos c3] at H; have c3b0 := decide_eq_true c3; clear c3
  obtain ⟨c4, H⟩ := iP H; have c4b0 := decide_eq_true c4; clear c4
  by_cases c5 : (rd l0 x5_1) < 0
  ·
   rw [if_pos c5] at H
   have c5b0 := decide_eq_true c5; clear c5
   obtain rfl := Option.some.inj H
   obtain ⟨p501, q501, ad501, e501, hx501_0⟩ := aT (Kd.at_int HR0.out x5_1); cases e501
   go_wp2
   go_ret
   exact ⟨by first | rfl | (simp; done) | (simp [*]; done), by repeat (first | exact Drawn0.refl _ | apply Drawn0.step)⟩
  rw [if_neg c5] at H; have c5b0 := decide_eq_false c5; clear c5
  by_cases c6 : (rd l0 x5_1) > 1048576
  ·
   rw [if_pos c6] at H
   have c6b0 : decide (1048576 < (rd l0 x5_1)) = true := decide_eq_true c6; clear c6
   obtain rfl := Option.some.inj H
   obtain ⟨p501, q501, ad501, e501, hx501_0⟩ := aT (Kd.at_int HR0.out x5_1); cases e501; obtain ⟨p502, q502, ad502, e502, hx502_0⟩ := aT (Kd.at_int HR0.out x5_1); obtain rfl : ad501 = ad502 := (by injection e502)
   go_wp2
   go_ret
   exact ⟨by first | rfl | (simp; done) | (simp [*]; done), by repeat (first | exact Drawn0.refl _ | apply Drawn0.step)⟩
  rw [if_neg c6] at H; have c6b0 : decide (1048576 < (rd l0 x5_1)) = false := decide_eq_false c6; clear c6
  have H' := aM H
  clear H; obtain ⟨p501, q501, ad501, e501, hx501_0⟩ := aT (Kd.at_int HR0.out x5_1); cases e501; obtain ⟨p502, q502, ad502, e502, hx502_0⟩ := aT (Kd.at_int HR0.out x5_1); obtain rfl : ad501 = ad502 := (by injection e502)
  go_wp2
  go_roundg k1
  case measure => have := HK1.out; omega
  case rel => exact ⟨(wrap64 (x5_1 + 1)), eT, H', ⟨by have := HK1.out; omega⟩, by repeat (first | exact Drawn0.refl _ | apply Drawn0.step)⟩
end Go.Proofs.YtejchnmhlcbfcaaDoor.Pr
