/- Functions that the statement reaches: what each answers, and that the program answers it (written by a program of this work). -/
import Derived.Test.YtejchnmhlcbfcaaDoorProg
import Derived.Below
import Derived.Deep.Draws
import Derived.Deep.AppendLies
import Derived.Maps.AppendAt
import Derived.OwnWalk
import Derived.Laws.BytesArg
import Derived.Laws.MakeOwn
import Derived.Laws.OwnMore
import Derived.Deep.OwnRows
import Derived.Tactics
import Derived.Lib.ConvBytes
import Derived.Laws.Slices
import Derived.WalkKit
import Derived.KernelRfl
import Derived.RowKit3
import Derived.Deep.LoopGhost
import Derived.Deep.QuietTactic
import Derived.BigQuiet
import Derived.WideLaws
import Derived.Deep.DeepCutAuto
import Derived.Deep.CutBlock
import Derived.Deep.RegionHeld3
import Derived.Laws.Rows
import Derived.Lib.AppendStr
import Derived.ArgAppend
import Derived.Laws.IdiomCopy
import Derived.OrdersHeld
import Derived.Laws.BitsLemmas
import Derived.RowKit
import Derived.WalkMore
import Derived.ChangeKeysEq
import Derived.Test.YtejchnmhlcbfcaaDoorVDiscoverNets
import Derived.Test.YtejchnmhlcbfcaaDoorQDiscoverNets0
import Derived.Test.YtejchnmhlcbfcaaDoorQDiscoverNets2
namespace Go.Proofs.YtejchnmhlcbfcaaDoor.Pr
open Go.RowKit Go.Proofs.YtejchnmhlcbfcaaDoorW.PrintWords Go.Proofs.YtejchnmhlcbfcaaDoorW.PrintLast Go.Proofs.YtejchnmhlcbfcaaDoorW.PrintMore
attribute [local go_sem] Instr.field asAgg
attribute [local go_sem] max2_int min2_int max_two min_two max_three min_three max_four min_four   -- for this text's walks alone
set_option linter.unusedVariables false
set_option linter.unusedSimpArgs false
/-! ### r49_Pairs: function 30 -/
mutual
def r49_Pairs.l0 : Nat → List (List Int) → Int → List (S57) → Int → Option ((List (S57)) × Int)
 | 0, _, _, _, _ => none
 | k + 1, x4, x6, x7, x8 => if x8 ≤ x6 then (r49_Pairs.l1 k x4 x6 x7 x8 1) else (r49_Pairs.l2 k x7 ([] : List (S57)) 0)
def r49_Pairs.l1 : Nat → List (List Int) → Int → List (S57) → Int → Int → Option ((List (S57)) × Int)
 | 0, _, _, _, _, _ => none
 | k + 1, x4, x6, x7, x8, x9 => if x9 ≤ x6 then ((r49_all.f k x4 x8 x8 0).bind fun t308 => (r49_Pairs.j2 k x4 x6 x7 x8 x9 t308)) else (r49_Pairs.j2 k x4 x6 x7 x8 x9 false)
def r49_Pairs.j2 : Nat → List (List Int) → Int → List (S57) → Int → Int → Bool → Option ((List (S57)) × Int)
 | 0, _, _, _, _, _, _ => none
 | k + 1, x4, x6, x7, x8, x9, x40 => if x40 = true then ((r49_causal.f k x4 x8 x9).bind fun t309 => (if t309 = true then (if x7.length < 8796093022208 then (r49_Pairs.l1 k x4 x6 (x7 ++ [(⟨x8, x9⟩ : S57)]) x8 (IntKind.u64.wrap (x9 + 1))) else (none)) else (r49_Pairs.l1 k x4 x6 x7 x8 (IntKind.u64.wrap (x9 + 1))))) else (r49_Pairs.l0 k x4 x6 x7 (IntKind.u64.wrap (x8 + 1)))
def r49_Pairs.l2 : Nat → List (S57) → List (S57) → Int → Option ((List (S57)) × Int)
 | 0, _, _, _ => none
 | k + 1, x7, x10, x11 => if x11 < (x7.length : Int) then (r49_Pairs.l3 k x7 x10 x11 true 0) else (some (x10, 0))
def r49_Pairs.l3 : Nat → List (S57) → List (S57) → Int → Bool → Int → Option ((List (S57)) × Int)
 | 0, _, _, _, _, _ => none
 | k + 1, x7, x10, x11, x12, x13 => if x13 < (x7.length : Int) then (if 0 ≤ x11 then (if x11 < (x7.length : Int) then (if 0 ≤ x13 then (if x11 = x13 then (r49_Pairs.l3 k x7 x10 x11 x12 (wrap64 (x13 + 1))) else (if (Go.bits .and .u64 ((rd_T57 x7 x11).f0) ((rd_T57 x7 x13).f0)) = ((rd_T57 x7 x11).f0) then (if (Go.bits .and .u64 ((rd_T57 x7 x11).f1) ((rd_T57 x7 x13).f1)) = ((rd_T57 x7 x11).f1) then (r49_Pairs.l3 k x7 x10 x11 false (wrap64 (x13 + 1))) else (r49_Pairs.l3 k x7 x10 x11 x12 (wrap64 (x13 + 1)))) else (r49_Pairs.l3 k x7 x10 x11 x12 (wrap64 (x13 + 1))))) else (none)) else (none)) else (none)) else (if x12 = true then (if 0 ≤ x11 then (if x11 < (x7.length : Int) then (if x10.length < 8796093022208 then (r49_Pairs.l2 k x7 (x10 ++ [(⟨(rd_T57 x7 x11).f0, (rd_T57 x7 x11).f1⟩ : S57)]) (wrap64 (x11 + 1))) else (none)) else (none)) else (none)) else (r49_Pairs.l2 k x7 x10 (wrap64 (x11 + 1))))
end
def r49_Pairs.f (k : Nat) (l0 : List (List ByteArray)) : Option ((List (S57)) × Int) := (r49_Footprint.f k l0).bind fun bt303 => (if bt303.2 = 0 then ((r06_All.f k (bt303.1.length : Int)).bind fun t307 => (r49_Pairs.l0 k bt303.1 t307 ([] : List (S57)) 1)) else (some (([] : List (S57)), bt303.2)))
theorem r49_Pairs.mono_l : ∀ k, (∀ y0 y1 y2 y3, LeO (r49_Pairs.l0 k y0 y1 y2 y3) (r49_Pairs.l0 (k + 1) y0 y1 y2 y3)) ∧ (∀ y0 y1 y2 y3 y4, LeO (r49_Pairs.l1 k y0 y1 y2 y3 y4) (r49_Pairs.l1 (k + 1) y0 y1 y2 y3 y4)) ∧ (∀ y0 y1 y2 y3 y4 y5, LeO (r49_Pairs.j2 k y0 y1 y2 y3 y4 y5) (r49_Pairs.j2 (k + 1) y0 y1 y2 y3 y4 y5)) ∧ (∀ y0 y1 y2, LeO (r49_Pairs.l2 k y0 y1 y2) (r49_Pairs.l2 (k + 1) y0 y1 y2)) ∧ (∀ y0 y1 y2 y3 y4, LeO (r49_Pairs.l3 k y0 y1 y2 y3 y4) (r49_Pairs.l3 (k + 1) y0 y1 y2 y3 y4))
 | 0 => ⟨fun _ _ _ _ r h => by simp [r49_Pairs.l0] at h, fun _ _ _ _ _ r h => by simp [r49_Pairs.l1] at h, fun _ _ _ _ _ _ r h => by simp [r49_Pairs.j2] at h, fun _ _ _ r h => by simp [r49_Pairs.l2] at h, fun _ _ _ _ _ r h => by simp [r49_Pairs.l3] at h⟩
 | k + 1 => by
  obtain ⟨ih0, ih1, ih2, ih3, ih4⟩ := r49_Pairs.mono_l k
  refine ⟨?_, ?_, ?_, ?_, ?_⟩ <;> intros <;> (first | unfold r49_Pairs.l0 | unfold r49_Pairs.l1 | unfold r49_Pairs.j2 | unfold r49_Pairs.l2 | unfold r49_Pairs.l3)
  all_goals repeat' first
   | (with_reducible first | apply ih0 | apply ih1 | apply ih2 | apply ih3 | apply ih4 | apply r06_All.mono | apply r49_Footprint.mono | apply r49_all.mono | apply r49_causal.mono | exact LeO.refl _ | exact LeO.none _ | refine LeO.ite ?_ ?_ | refine LeO.bind ?_ (fun _ => ?_))
theorem r49_Pairs.mono : ∀ a0 k, LeO (r49_Pairs.f k a0) (r49_Pairs.f (k + 1) a0) := by
 intro a0 k
 obtain ⟨ih0, ih1, ih2, ih3, ih4⟩ := r49_Pairs.mono_l k
 unfold r49_Pairs.f
 repeat' first
   | (with_reducible first | apply ih0 | apply ih1 | apply ih2 | apply ih3 | apply ih4 | apply r06_All.mono | apply r49_Footprint.mono | apply r49_all.mono | apply r49_causal.mono | exact LeO.refl _ | exact LeO.none _ | refine LeO.ite ?_ ?_ | refine LeO.bind ?_ (fun _ => ?_))
def r49_Pairs.T22 : Bool × List (List Nat × List Nat) := (true, [([], []), ([], []), ([0, 1], [0, 1]), ([2], [2]), ([], []), ([], []), ([4, 5], [4, 5]), ([6], [6]), ([], []), ([], []), ([8, 3, 0, 1, 2, 3, 8, 9], [3, 8]), ([9, 7, 10, 0, 1, 2, 3, 4, 5, 6, 7, 8, 9, 10], [7, 9])])
def r49_Pairs.B22 : List Nat := [0, 0, 3, 7, 0, 0, 48, 112, 0, 0, 783, 2047]
theorem r49_Pairs.tab22 : rtab .any (opsOf Tryd.f30 22) = r49_Pairs.T22 := by kernel_rfl
theorem r49_Pairs.bits22 : waitsOk r49_Pairs.T22.2 r49_Pairs.B22 = true := by kernel_rfl
set_option maxHeartbeats 8000000 in
set_option maxRecDepth 100000 in
theorem r49_Pairs.calls (k : Nat) (A0 : Option Addr) (c0 : Nat) (l0 : List (List ByteArray)) (r1 : List (S57)) (r2 : Int) (w : World) (hr0 : Kd.C (Kd.slice 9 Kd.string) w A0 l0.length l0) (hc0 : l0.length ≤ c0) (h : r49_Pairs.f k l0 = some (r1, r2)) :
  Calls Tryd.prog 30 #[.slice A0 l0.length c0] w fun e w' => ∃ v0_ : Value, e = .returned (.tuple #[v0_, .int .i64 r2]) ∧ Kd.R k57 57 w' w.heap.size (fun _ => True) v0_ r1 ∧ Below w.heap.size w w' := by
 have hu57 := Tryd.underlying57; have hu56 := Tryd.underlying56; have HR0 := aM hr0; have HC0 := aM hc0; clear hr0 hc0; have HB := aM (Below.refl w.heap.size w)
 have H : ((r49_Footprint.f k l0).bind fun bt303 => (if bt303.2 = 0 then ((r06_All.f k (bt303.1.length : Int)).bind fun t307 => (r49_Pairs.l0 k bt303.1 t307 ([] : List (S57)) 1)) else (some (([] : List (S57)), bt303.2)))) = some (r1, r2) := h
 clear h; obtain ⟨⟨t303, t304⟩, A2, H⟩ := iB H; (try dsimp only at H)
 by_cases c3 : t304 = 0
 rotate_left
 ·
  rw [if_neg c3] at H
  have c3b0 : (t304 == 0) = false := beq_eq_false_iff_ne.mpr c3; have c3b1 : (t304 != 0) = true := bne_iff_ne.mpr c3
  simp only [Option.some.injEq, Prod.mk.injEq] at H
  obtain ⟨rfl, rfl⟩ := H
  go_enter Tryd.func30, Tryd.ntmps30
  go_wp2_with (first | ((with_reducible refine gate_callee (f := 49) rfl ?_); refine gM (some 18) Tryd.func49 #[.slice A0 l0.length c0] ?_; (with_reducible refine (r49_Footprint.calls k _ _ l0 t303 t304 _ ?side1 ?side2 A2.out).mono ?_); (case side1 => repeat (first | exact HR0.out | (with_reducible refine Kd.C_alloc ?_ _) | (with_reducible refine Kd.C_drewN ?_ _) | (with_reducible refine Kd.C_drew ?_))); (case side2 => exact HC0.out); rintro e w72 ⟨v305, rfl, ho0, hb⟩; refine ⟨_, rfl, ?_⟩; have HO306 := aM (Kd.S_lower ho0 (below_size (bB HB.out))); replace HB := aM (below_step (bB HB.out) hb); clear hb ho0))
  go_ret2
  exact ⟨_, rT, nT, bB HB.out⟩


 rw [if_pos c3] at H; have c3b0 : (t304 == 0) = true := beq_iff_eq.mpr c3; have c3b1 : (t304 != 0) = false := bne_eq_false_iff_eq.mpr c3; clear c3; obtain ⟨t307, A4, H⟩ := iB H; (try dsimp only at H)
 have H' := aM H
 clear H
 go_enter Tryd.func30, Tryd.ntmps30
 go_wp2_with (first | ((with_reducible refine gate_callee (f := 49) rfl ?_); refine gM (some 18) Tryd.func49 #[.slice A0 l0.length c0] ?_; (with_reducible refine (r49_Footprint.calls k _ _ l0 t303 t304 _ ?side1 ?side2 A2.out).mono ?_); (case side1 => repeat (first | exact HR0.out | (with_reducible refine Kd.C_alloc ?_ _) | (with_reducible refine Kd.C_drewN ?_ _) | (with_reducible refine Kd.C_drew ?_))); (case side2 => exact HC0.out); rintro e w5 ⟨v305, rfl, ho0, hb⟩; refine ⟨_, rfl, ?_⟩; have HO306 := aM (Kd.S_lower ho0 (below_size (bB HB.out))); replace HB := aM (below_step (bB HB.out) hb); clear hb ho0; obtain ⟨Ao6, co6, eo6⟩ := Kd.S_slice HO306.out; subst eo6) | ((with_reducible refine gate_callee (f := 50) rfl ?_); refine gM (some 26) Tryd.func50 #[.int .i64 (t303.length : Int)] ?_; (with_reducible refine (r06_All.calls k (t303.length : Int) t307 _ A4.out).mono ?_); rintro e w' ⟨rfl, ⟨nd, rfl⟩⟩; refine ⟨_, rfl, ?_⟩))
 go_loopg [7, 8] k (fun kq v7 v8 w' => ∃ (x7_1 : List (S57)) (x8_1 : Int), v8 = .int .u64 x8_1 ∧ Aside0 (r49_Pairs.l0 kq t303 t307 x7_1 x8_1 = some (r1, r2)) ∧ Aside0 (kq ≤ k) ∧ Aside0 (Kd.S (Kd.slice 3 (Kd.int .i64)) 36 w' w.heap.size (fun _ => True) (.slice Ao6 t303.length co6) t303) ∧ Aside0 (Kd.R k57 57 w' w.heap.size (fun _ => True) v7 x7_1) ∧ Aside0 (Below w.heap.size w w'))
 case atStart => exact ⟨(([] : List (S57))), (1), eT, H', ⟨Nat.le_refl _⟩, ⟨oS HO306.out⟩, ⟨nT⟩, ⟨bB HB.out⟩⟩
 clear H'; obtain ⟨x7_1, x8_1, rfl, HA, HK1, HO_4, HO_7, HB⟩ := hrel
 cases gk with
 | zero => exact absurd HA.out (by simp [r49_Pairs.l0])
 | succ k1 =>
  have H := HA.out; clear HA
  simp only [r49_Pairs.l0] at H
  by_cases c7 : x8_1 ≤ t307
  ·
   rw [if_pos c7] at H
   have c7b0 := decide_eq_true c7; clear c7
   have H' := aM H
   clear H
   go_wp2
   go_loopg [7, 9] k1 (fun kq v7 v9 w' => ∃ (x7_2 : List (S57)) (x9_2 : Int), v9 = .int .u64 x9_2 ∧ Aside0 (r49_Pairs.l1 kq t303 t307 x7_2 x8_1 x9_2 = some (r1, r2)) ∧ Aside0 (kq ≤ k1) ∧ Aside0 (Kd.S (Kd.slice 3 (Kd.int .i64)) 36 w' w.heap.size (fun _ => True) (.slice Ao6 t303.length co6) t303) ∧ Aside0 (Kd.R k57 57 w' w.heap.size (fun _ => True) v7 x7_2) ∧ Aside0 (Below w.heap.size w w'))
   case atStart => exact ⟨(x7_1), (1), eT, H', ⟨Nat.le_refl _⟩, ⟨oS HO_4.out⟩, ⟨oR HO_7.out⟩, ⟨bB HB.out⟩⟩
   clear H'; obtain ⟨x7_2, x9_2, rfl, HA, HK2, HO_4, HO_7, HB⟩ := hrel
   cases gk with
   | zero => exact absurd HA.out (by simp [r49_Pairs.l1])
   | succ k2 =>
    have H := HA.out; clear HA
    simp only [r49_Pairs.l1] at H
    have HC8 := aM H; clear H
    go_upto_region 10 with (fail)
    go_cut [40] (fun v40 wc => ∃ (kq : Nat) (x40_7 : Bool), v40 = .bool x40_7 ∧ Aside0 (r49_Pairs.j2 kq t303 t307 x7_2 x8_1 x9_2 x40_7 = some (r1, r2)) ∧ Aside0 (kq ≤ k2) ∧ Aside0 (Kd.S (Kd.slice 3 (Kd.int .i64)) 36 wc w.heap.size (fun _ => True) (.slice Ao6 t303.length co6) t303) ∧ Aside0 (Kd.R k57 57 wc w.heap.size (fun _ => True) u7 x7_2) ∧ Aside0 (Below w.heap.size w wc))
    case first =>
     have H := HC8.out; clear HC8
     by_cases c9 : x9_2 ≤ t307
     rotate_left
     ·
      rw [if_neg c9] at H
      have c9b0 := decide_eq_false c9; clear c9
      (first | rw [c9b0] | (simp only [i64_w, i32_w]; rw [c9b0]) | skip)
      have H' := aM H
      clear H
      go_wp2
      go_meet
      case rel => exact ⟨_, (false), eT, H', ⟨by have := HK1.out; have := HK2.out; first | omega | exact Nat.le_refl _⟩, ⟨oS HO_4.out⟩, ⟨oR HO_7.out⟩, ⟨bB HB.out⟩⟩
     rw [if_pos c9] at H; have c9b0 := decide_eq_true c9; clear c9
     (first | rw [c9b0] | (simp only [i64_w, i32_w]; rw [c9b0]) | skip)
     obtain ⟨t308, A10, H⟩ := iB H; (try dsimp only at H)
     have H' := aM H
     clear H
     go_wp2_with (first | (go_at_call 51; (with_reducible refine (r49_all.calls k2 _ _ t303 x8_1 x8_1 0 t308 _ ?side1 ?side2 A10.out).mono ?_); (case side1 => repeat (first | exact (Kd.S_reads' HO_4.out).2.2 | (with_reducible refine Kd.C_alloc ?_ _) | (with_reducible refine Kd.C_drewN ?_ _) | (with_reducible refine Kd.C_drew ?_))); (case side2 => exact (Kd.S_reads' HO_4.out).2.1); rintro e w' ⟨rfl, ⟨nd, rfl⟩⟩))
     go_meet
     case rel => exact ⟨_, (t308), eT, H', ⟨by have := HK1.out; have := HK2.out; first | omega | exact Nat.le_refl _⟩, ⟨oS HO_4.out⟩, ⟨oR HO_7.out⟩, ⟨bB HB.out⟩⟩
    clear HC8; obtain ⟨kq, x40_7, rfl, HA, HJ7, HO_4, HO_7, HB⟩ := hcut
    cases kq with
    | zero => exact absurd HA.out (by simp [r49_Pairs.j2])
    | succ kj7 =>
     have H := HA.out; clear HA
     simp only [r49_Pairs.j2] at H
     by_cases c11 : x40_7 = true
     rotate_left
     ·
      replace c11 := Bool.eq_false_iff.mpr c11
      subst c11
      have H1 : (r49_Pairs.l0 kj7 t303 t307 x7_2 (IntKind.u64.wrap (x8_1 + 1))) = some (r1, r2) := by rw [if_neg (show ¬ (false = true) by decide)] at H; exact H
      clear H; have H := H1; clear H1
      have H' := aM H
      clear H
      go_wp2
      go_roundg kj7
      case measure => have := HK1.out; have := HK2.out; have := HJ7.out; omega
      case rel => exact ⟨(x7_2), (IntKind.u64.wrap (x8_1 + 1)), eT, H', ⟨by have := HK1.out; have := HK2.out; have := HJ7.out; omega⟩, ⟨oS HO_4.out⟩, ⟨oR HO_7.out⟩, ⟨bB HB.out⟩⟩
     subst c11
     have H1 : ((r49_causal.f kj7 t303 x8_1 x9_2).bind fun t309 => (if t309 = true then (if x7_2.length < 8796093022208 then (r49_Pairs.l1 kj7 t303 t307 (x7_2 ++ [(⟨x8_1, x9_2⟩ : S57)]) x8_1 (IntKind.u64.wrap (x9_2 + 1))) else (none)) else (r49_Pairs.l1 kj7 t303 t307 x7_2 x8_1 (IntKind.u64.wrap (x9_2 + 1))))) = some (r1, r2) := by rw [if_pos rfl] at H; exact H
     clear H; have H := H1; clear H1; obtain ⟨t309, A12, H⟩ := iB H; (try dsimp only at H)
     by_cases c13 : t309 = true
     rotate_left
     ·
      replace c13 := Bool.eq_false_iff.mpr c13
      subst c13
      have H1 : (r49_Pairs.l1 kj7 t303 t307 x7_2 x8_1 (IntKind.u64.wrap (x9_2 + 1))) = some (r1, r2) := by rw [if_neg (show ¬ (false = true) by decide)] at H; exact H
      clear H; have H := H1; clear H1
      have H' := aM H
      clear H
      go_wp2_with (first | ((with_reducible refine gate_callee (f := 52) rfl ?_); refine gM (some 46) Tryd.func52 #[.slice Ao6 t303.length co6, .int .u64 x8_1, .int .u64 x9_2] ?_; (with_reducible refine (r49_causal.calls kj7 _ _ t303 x8_1 x9_2 false _ ?side1 ?side2 A12.out).mono ?_); (case side1 => repeat (first | exact (Kd.S_reads' HO_4.out).2.2 | (with_reducible refine Kd.C_alloc ?_ _) | (with_reducible refine Kd.C_drewN ?_ _) | (with_reducible refine Kd.C_drew ?_))); (case side2 => exact (Kd.S_reads' HO_4.out).2.1); rintro e w' ⟨rfl, ⟨nd, rfl⟩⟩; refine ⟨_, rfl, ?_⟩))
      go_roundg kj7
      case measure => have := HK1.out; have := HK2.out; have := HJ7.out; omega
      case rel => exact ⟨(x7_2), (IntKind.u64.wrap (x9_2 + 1)), eT, H', ⟨by have := HK1.out; have := HK2.out; have := HJ7.out; omega⟩, ⟨oS HO_4.out⟩, ⟨oR HO_7.out⟩, ⟨bB HB.out⟩⟩
     subst c13
     have H1 : (if x7_2.length < 8796093022208 then (r49_Pairs.l1 kj7 t303 t307 (x7_2 ++ [(⟨x8_1, x9_2⟩ : S57)]) x8_1 (IntKind.u64.wrap (x9_2 + 1))) else (none)) = some (r1, r2) := by rw [if_pos rfl] at H; exact H
     clear H; have H := H1; clear H1
     obtain ⟨c14, H⟩ := iP H; have LMc14 := aM c14; clear c14
     obtain ⟨y310, hy310⟩ : ∃ y_ : List (S57), y_ = (x7_2 ++ [(⟨x8_1, x9_2⟩ : S57)]) := ⟨_, rfl⟩
     replace H : (r49_Pairs.l1 kj7 t303 t307 y310 x8_1 (IntKind.u64.wrap (x9_2 + 1))) = some (r1, r2) := yT hy310 H
     have Ny310 := aM hy310; clear hy310
     have H' := aM H
     clear H
     go_wp2_with (first | ((with_reducible refine gate_callee (f := 52) rfl ?_); refine gM (some 46) Tryd.func52 #[.slice Ao6 t303.length co6, .int .u64 x8_1, .int .u64 x9_2] ?_; (with_reducible refine (r49_causal.calls kj7 _ _ t303 x8_1 x9_2 true _ ?side1 ?side2 A12.out).mono ?_); (case side1 => repeat (first | exact (Kd.S_reads' HO_4.out).2.2 | (with_reducible refine Kd.C_alloc ?_ _) | (with_reducible refine Kd.C_drewN ?_ _) | (with_reducible refine Kd.C_drew ?_))); (case side2 => exact (Kd.S_reads' HO_4.out).2.1); rintro e w' ⟨rfl, ⟨nd, rfl⟩⟩; refine ⟨_, rfl, ?_⟩) | ((with_reducible refine gate_builtin (b := .append) (xs := #[.tmp 47, .tmp 51]) rfl ?_); at_builtin; refine Kd.R_append k57 (w0 := w) w.heap.size rfl (.tmp 47) (.tmp 51) 52 57 (.agg #[(.int .u64 0), (.int .u64 0)]) 16 rfl Tryd.underlying52 info57 rfl (by decide) (by omega) u7 x7_2 (⟨x8_1, x9_2⟩ : S57) [.int .u64 x8_1, .int .u64 x9_2] (fun _ => True) (fun _ => False) rfl rfl ?aP (fun _ hk => hk.elim) ?aF ?aO ?aB ?aS ?aL ?_; (case aP => exact k57_mkM _ _ _ (⟨x8_1, x9_2⟩ : S57)); (case aB => exact (bB HB.out)); (case aF => exact (fun _ _ => trivial)); (case aO => exact (oR HO_7.out)); (case aS => exact (below_size (bB HB.out))); (case aL => have := LMc14.out; omega); intro v311 w15 ho hb hg hat; rw [← Ny310.out] at ho; replace HO_4 := aM (Kd.S_over' (oS HO_4.out) (Kd.R_typed (oR HO_7.out)) (by decide) hg); replace HB := aM (hb); have HO312 := aM (ho); clear HO_7; clear ho hb hg hat))
     go_roundg kj7
     case measure => have := HK1.out; have := HK2.out; have := HJ7.out; omega
     case rel => exact ⟨(y310), (IntKind.u64.wrap (x9_2 + 1)), eT, H', ⟨by have := HK1.out; have := HK2.out; have := HJ7.out; omega⟩, ⟨oS HO_4.out⟩, ⟨oR HO312.out⟩, ⟨bB HB.out⟩⟩
  rw [if_neg c7] at H; have c7b0 := decide_eq_false c7; clear c7
  have H' := aM H
  clear H
  go_wp2
  go_loopg [10, 11] k1 (fun kq v10 v11 w' => ∃ (x10_2 : List (S57)) (x11_2 : Int), v11 = .int .i64 x11_2 ∧ Aside0 (r49_Pairs.l2 kq x7_1 x10_2 x11_2 = some (r1, r2)) ∧ Aside0 (kq ≤ k1) ∧ Aside0 (Kd.R k57 57 w' w.heap.size (fun k_ => some k_ ≠ (v10 : Value).ownBlock) u7 x7_1) ∧ Aside0 (Kd.R k57 57 w' w.heap.size (fun k_ => some k_ ≠ (u7 : Value).ownBlock) v10 x10_2) ∧ Aside0 (Below w.heap.size w w'))
  case atStart => exact ⟨(([] : List (S57))), (0), eT, H', ⟨Nat.le_refl _⟩, ⟨by refine oR ?_; exact Kd.R_mono HO_7.out (fun _ hk => (by simp [Value.ownBlock]))⟩, ⟨nT⟩, ⟨bB HB.out⟩⟩
  clear H'; obtain ⟨x10_2, x11_2, rfl, HA, HK2, HO_7, HO_10, HB⟩ := hrel
  cases gk with
  | zero => exact absurd HA.out (by simp [r49_Pairs.l2])
  | succ k2 =>
   have H := HA.out; clear HA
   simp only [r49_Pairs.l2] at H
   by_cases c16 : x11_2 < (x7_1.length : Int)
   rotate_left
   ·
    rw [if_neg c16] at H
    have c16b0 := decide_eq_false c16; clear c16
    simp only [Option.some.injEq, Prod.mk.injEq] at H
    obtain ⟨rfl, rfl⟩ := H; obtain ⟨Ao71, co71, eo71⟩ := Kd.R_slice HO_7.out; subst eo71
    go_wp2
    go_ret2
    exact ⟨_, rT, by refine oR ?_; exact Kd.R_mono HO_10.out (fun _ hk => trivial), bB HB.out⟩
   rw [if_pos c16] at H; have c16b0 := decide_eq_true c16; clear c16
   have H' := aM H
   clear H; obtain ⟨Ao17, co17, eo17⟩ := Kd.R_slice HO_7.out; subst eo17
   go_wp2
   go_loopg [12, 13] k2 (fun kq v12 v13 w' => ∃ (x12_3 : Bool) (x13_3 : Int), v12 = .bool x12_3 ∧ v13 = .int .i64 x13_3 ∧ Aside0 (r49_Pairs.l3 kq x7_1 x10_2 x11_2 x12_3 x13_3 = some (r1, r2)) ∧ Aside0 (kq ≤ k2) ∧ Aside0 (Kd.R k57 57 w' w.heap.size (fun k_ => some k_ ≠ (u10 : Value).ownBlock) (.slice Ao17 x7_1.length co17) x7_1) ∧ Aside0 (Kd.R k57 57 w' w.heap.size (fun k_ => some k_ ≠ ((.slice Ao17 x7_1.length co17) : Value).ownBlock) u10 x10_2) ∧ Aside0 (Below w.heap.size w w'))
   case atStart => exact ⟨(true), (0), eT, eT, H', ⟨Nat.le_refl _⟩, ⟨oR HO_7.out⟩, ⟨oR HO_10.out⟩, ⟨bB HB.out⟩⟩
   clear H'; obtain ⟨x12_3, x13_3, rfl, rfl, HA, HK3, HO_7, HO_10, HB⟩ := hrel
   cases gk with
   | zero => exact absurd HA.out (by simp [r49_Pairs.l3])
   | succ k3 =>
    have H := HA.out; clear HA
    simp only [r49_Pairs.l3] at H
    by_cases c18 : x13_3 < (x7_1.length : Int)
    rotate_left
    ·
     rw [if_neg c18] at H
     have c18b0 := decide_eq_false c18; clear c18
     by_cases c66 : x12_3 = true
     rotate_left
     ·
      replace c66 := Bool.eq_false_iff.mpr c66
      subst c66
      have H1 : (r49_Pairs.l2 k3 x7_1 x10_2 (wrap64 (x11_2 + 1))) = some (r1, r2) := by rw [if_neg (show ¬ (false = true) by decide)] at H; exact H
      clear H; have H := H1; clear H1
      have H' := aM H
      clear H
      go_wp2
      go_roundg k3
      case measure => have := HK1.out; have := HK2.out; have := HK3.out; omega
      case rel => exact ⟨(x10_2), (wrap64 (x11_2 + 1)), eT, H', ⟨by have := HK1.out; have := HK2.out; have := HK3.out; omega⟩, ⟨oR HO_7.out⟩, ⟨oR HO_10.out⟩, ⟨bB HB.out⟩⟩
     subst c66
     have H1 : (if 0 ≤ x11_2 then (if x11_2 < (x7_1.length : Int) then (if x10_2.length < 8796093022208 then (r49_Pairs.l2 k3 x7_1 (x10_2 ++ [(⟨(rd_T57 x7_1 x11_2).f0, (rd_T57 x7_1 x11_2).f1⟩ : S57)]) (wrap64 (x11_2 + 1))) else (none)) else (none)) else (none)) = some (r1, r2) := by rw [if_pos rfl] at H; exact H
     clear H; have H := H1; clear H1
     obtain ⟨c67, H⟩ := iP H; have c67b0 := decide_eq_true c67; clear c67
     obtain ⟨c68, H⟩ := iP H; have c68b0 := decide_eq_true c68; clear c68
     obtain ⟨c69, H⟩ := iP H; have LMc69 := aM c69; clear c69
     obtain ⟨y318, hy318⟩ : ∃ y_ : List (S57), y_ = (x10_2 ++ [(⟨(rd_T57 x7_1 x11_2).f0, (rd_T57 x7_1 x11_2).f1⟩ : S57)]) := ⟨_, rfl⟩
     replace H : (r49_Pairs.l2 k3 x7_1 y318 (wrap64 (x11_2 + 1))) = some (r1, r2) := yT hy318 H
     have Ny318 := aM hy318; clear hy318
     have H' := aM H
     clear H; have p317 : 0 ≤ (x11_2 : Int) := dT; have q317 : x11_2 < (x7_1.length : Int) := dT
     try (obtain ⟨Aoz317, coz317, eoz317⟩ := Kd.R_slice HO_7.out; subst eoz317)
     obtain ⟨ad317, e317, hx317_0, hx317_1⟩ := at_T57 (Kd.R_reads' HO_7.out).2.2 x11_2 p317 q317; cases e317; replace p317 := eq_true p317; replace q317 := eq_true q317
     go_wp2_with (first | ((with_reducible refine gate_builtin (b := .append) (xs := #[.tmp 97, .tmp 102]) rfl ?_); at_builtin; refine Kd.R_append k57 (w0 := w) w.heap.size rfl (.tmp 97) (.tmp 102) 52 57 (.agg #[(.int .u64 0), (.int .u64 0)]) 16 rfl Tryd.underlying52 info57 rfl (by decide) (by omega) u10 x10_2 (⟨(rd_T57 x7_1 x11_2).f0, (rd_T57 x7_1 x11_2).f1⟩ : S57) [.int .u64 ((rd_T57 x7_1 x11_2).f0), .int .u64 ((rd_T57 x7_1 x11_2).f1)] (fun k_ => some k_ ≠ (.slice (some ad317) x7_1.length co17 : Value).ownBlock) (fun _ => False) rfl rfl ?aP (fun _ hk => hk.elim) ?aF ?aO ?aB ?aS ?aL ?_; (case aP => exact k57_mkM _ _ _ (⟨(rd_T57 x7_1 x11_2).f0, (rd_T57 x7_1 x11_2).f1⟩ : S57)); (case aB => exact (bB HB.out)); (case aF => exact (fun k_ hk => Kd.fresh' (Kd.R_lt (oR HO_7.out)) k_ hk)); (case aO => exact (oR HO_10.out)); (case aS => exact (below_size (bB HB.out))); (case aL => have := LMc69.out; omega); intro v319 w70 ho hb hg hat; rw [← Ny318.out] at ho; replace HO_7 := aM (Kd.R_after (ok := (fun _ => True)) (by refine oR ?_; exact Kd.R_mono HO_7.out (fun _ hk => ⟨trivial, hk⟩)) hg hat); replace HB := aM (hb); have HO320 := aM (ho); clear HO_10; clear ho hb hg hat))
     go_roundg k3
     case measure => have := HK1.out; have := HK2.out; have := HK3.out; omega
     case rel => exact ⟨(y318), (wrap64 (x11_2 + 1)), eT, H', ⟨by have := HK1.out; have := HK2.out; have := HK3.out; omega⟩, ⟨by refine oR ?_; exact Kd.R_mono HO_7.out (fun _ hk => hk.2)⟩, ⟨oR HO320.out⟩, ⟨bB HB.out⟩⟩
    rw [if_pos c18] at H; have c18b0 := decide_eq_true c18; clear c18
    obtain ⟨c19, H⟩ := iP H; have c19b0 := decide_eq_true c19; clear c19
    obtain ⟨c20, H⟩ := iP H; have c20b0 := decide_eq_true c20; clear c20
    obtain ⟨c21, H⟩ := iP H; have c21b0 := decide_eq_true c21; clear c21
    by_cases c22 : x11_2 = x13_3
    ·
     rw [if_pos c22] at H
     have c22b0 : (x11_2 == x13_3) = true := beq_iff_eq.mpr c22; have c22b1 : (x11_2 != x13_3) = false := bne_eq_false_iff_eq.mpr c22; clear c22
     have H' := aM H
     clear H
     try go_wp2
     replace HO_7 := aM (Kd.R_drew HO_7.out); replace HO_10 := aM (Kd.R_drew HO_10.out); replace HB := aM (below_drew1 HB.out); have p313 : 0 ≤ (x11_2 : Int) := dT; have q313 : x11_2 < (x7_1.length : Int) := dT
     try (obtain ⟨Aoz313, coz313, eoz313⟩ := Kd.R_slice HO_7.out; subst eoz313)
     obtain ⟨ad313, e313, hx313_0, hx313_1⟩ := at_T57 (Kd.R_reads' HO_7.out).2.2 x11_2 p313 q313; cases e313; replace p313 := eq_true p313; replace q313 := eq_true q313; have p314 : 0 ≤ (x13_3 : Int) := dT; have q314 : x13_3 < (x7_1.length : Int) := dT
     try (obtain ⟨Aoz314, coz314, eoz314⟩ := Kd.R_slice HO_7.out; subst eoz314)
     obtain ⟨ad314, e314, hx314_0, hx314_1⟩ := at_T57 (Kd.R_reads' HO_7.out).2.2 x13_3 p314 q314; obtain rfl : ad313 = ad314 := (by injection e314); replace p314 := eq_true p314; replace q314 := eq_true q314
     refine start_ (n := 12) (S := fun w' => w'.cell? (ad313.add ((x11_2).toNat * 2)) = some (.int .u64 ((rd_T57 x7_1 x11_2).f0)) ∧ w'.cell? ⟨(ad313.add ((x11_2).toNat * 2)).block, (ad313.add ((x11_2).toNat * 2)).off + 1, none⟩ = some (.int .u64 ((rd_T57 x7_1 x11_2).f1)) ∧ w'.cell? (ad313.add ((x13_3).toNat * 2)) = some (.int .u64 ((rd_T57 x7_1 x13_3).f0)) ∧ w'.cell? ⟨(ad313.add ((x13_3).toNat * 2)).block, (ad313.add ((x13_3).toNat * 2)).off + 1, none⟩ = some (.int .u64 ((rd_T57 x7_1 x13_3).f1))) (ds := []) #[false, false, false, false, false, false, false, false, false, false, false, false] (by kernel_rfl) rfl rfl ⟨hx313_0, hx313_1, hx314_0, hx314_1⟩ (fun hHeld => ?_); refine with_tabW r49_Pairs.tab22 r49_Pairs.bits22 (fun HT_ HW_ => ?_)
     generalize wr.drew = w23 at HO_7 HO_10 HB hx313_0 hx313_1 hx314_0 hx314_1 hHeld ⊢
     refine pU 0 65 (any_of HT_.out (by kernel_rfl)) ?_
     refine pU 1 66 (any_of HT_.out (by kernel_rfl)) ?_
     refine pU 2 67 (any_of HT_.out (by kernel_rfl)) ?_
     refine pU 4 69 (any_of HT_.out (by kernel_rfl)) ?_
     refine pU 5 70 (any_of HT_.out (by kernel_rfl)) ?_
     refine pU 6 71 (any_of HT_.out (by kernel_rfl)) ?_
     refine tU 3 68 (take_ofW HT_.out HW_.out (by kernel_rfl)) hHeld ?_
     refine tU 7 72 (take_ofW HT_.out HW_.out (by kernel_rfl)) hHeld ?_
     refine join_ (σ := Nat × Nat) 2 #[true, true, true, true, true, true, true, true, true, true, false, false] (fun s_ => [(14, .pointer (some ⟨s_.1, 0, none⟩)), (15, .pointer (some ⟨s_.2, 0, none⟩))]) (fun s_ w' => (w'.cell? (ad313.add ((x11_2).toNat * 2)) = some (.int .u64 ((rd_T57 x7_1 x11_2).f0)) ∧ w'.cell? ⟨(ad313.add ((x11_2).toNat * 2)).block, (ad313.add ((x11_2).toNat * 2)).off + 1, none⟩ = some (.int .u64 ((rd_T57 x7_1 x11_2).f1)) ∧ w'.cell? (ad313.add ((x13_3).toNat * 2)) = some (.int .u64 ((rd_T57 x7_1 x13_3).f0)) ∧ w'.cell? ⟨(ad313.add ((x13_3).toNat * 2)).block, (ad313.add ((x13_3).toNat * 2)).off + 1, none⟩ = some (.int .u64 ((rd_T57 x7_1 x13_3).f1))) ∧ (Kd.R k57 57 w' w.heap.size (fun k_ => some k_ ≠ (.slice (some ad313) x7_1.length co17 : Value).ownBlock ∧ k_ ≠ s_.1 ∧ k_ ≠ s_.2) u10 x10_2) ∧ (Kd.R k57 57 w' w.heap.size (fun k_ => some k_ ≠ (u10 : Value).ownBlock ∧ k_ ≠ s_.1 ∧ k_ ≠ s_.2) (.slice (some ad313) x7_1.length co17) x7_1) ∧ (w'.heap[s_.1]? = some (.cells #[.int .u64 0, .int .u64 0] 57 (0, 0))) ∧ (w'.heap[s_.2]? = some (.cells #[.int .u64 0, .int .u64 0] 57 (0, 0))) ∧ (w.heap.size ≤ s_.1) ∧ (w.heap.size ≤ s_.1) ∧ (s_.2 ≠ s_.1) ∧ (s_.1 ≠ s_.2) ∧ (w.heap.size ≤ s_.2) ∧ (w.heap.size ≤ s_.2) ∧ (Below w.heap.size w w')) ?_ ?_
     rotate_left
     ·
      intro hCont
      refine two_ (i := 8) (j := 9) (Ni := some 14) (Nj := some 15) #[true, true, true, true, true, true, true, true, true, false, false, false] #[true, true, true, true, true, true, true, true, false, true, false, false] rfl rfl rfl rfl (two_of HT_.out (by kernel_rfl)) (by decide) (by decide) (fun K hK => ?_) (fun K hK => ?_)
      ·
       skip
       refine box_step ?hg (N := 14) ?hd (cs := #[.int .u64 0, .int .u64 0]) (t := 57) ?hr ?_; (case hd => rfl); (case hg => rfl); (case hr => first | (go_simp; done) | (go_simp; rfl))
       intro gb315 hg w24 hbox hb
       have HS0_ := (hb.cell (World.block_lt_of_cell? _ _ (hHeld.1))).trans (hHeld.1); have HS1_ := (hb.cell (World.block_lt_of_cell? _ _ (hHeld.2.1))).trans (hHeld.2.1); have HS2_ := (hb.cell (World.block_lt_of_cell? _ _ (hHeld.2.2.1))).trans (hHeld.2.2.1); have HS3_ := (hb.cell (World.block_lt_of_cell? _ _ (hHeld.2.2.2))).trans (hHeld.2.2.2); replace HO_7 := aM (Kd.R_below (Kd.R_elderB (oR HO_7.out) gb315 (Nat.le_of_eq hg.symm)) hb); replace HO_10 := aM (Kd.R_below (Kd.R_elderB (oR HO_10.out) gb315 (Nat.le_of_eq hg.symm)) hb); have BK315 := aM (hbox); have GW315 := aM (gE hg (below_size (bB HB.out))); have GE315 := GW315; replace HB := aM (below_step (bB HB.out) hb); clear hb hbox hg
       refine hK.out _ _ ⟨HS0_, HS1_, HS2_, HS3_⟩ (fun hHeld => ?_)
       clear hK K
       refine nU 14 ?_
       refine one_ (i := 9) (N := some 15) #[true, true, true, true, true, true, true, true, true, true, false, false] rfl rfl (one_of HT_.out (by kernel_rfl)) (by decide) (fun K hK => ?_)
       refine box_step ?hg (N := 15) ?hd (cs := #[.int .u64 0, .int .u64 0]) (t := 57) ?hr ?_; (case hd => rfl); (case hg => rfl); (case hr => first | (go_simp; done) | (go_simp; rfl))
       intro gb316 hg w25 hbox hb
       have HS0_ := (hb.cell (World.block_lt_of_cell? _ _ (hHeld.1))).trans (hHeld.1); have HS1_ := (hb.cell (World.block_lt_of_cell? _ _ (hHeld.2.1))).trans (hHeld.2.1); have HS2_ := (hb.cell (World.block_lt_of_cell? _ _ (hHeld.2.2.1))).trans (hHeld.2.2.1); have HS3_ := (hb.cell (World.block_lt_of_cell? _ _ (hHeld.2.2.2))).trans (hHeld.2.2.2); replace HO_7 := aM (Kd.R_below (Kd.R_elderB (oR HO_7.out) gb316 (Nat.le_of_eq hg.symm)) hb); replace HO_10 := aM (Kd.R_below (Kd.R_elderB (oR HO_10.out) gb316 (Nat.le_of_eq hg.symm)) hb); have BK316 := aM (hbox); have GW316 := aM (gE hg (below_size (bB1 HB.out GE315.out))); have GE316 := GW316; replace HB := aM (below_step (bB1 HB.out GE315.out) hb); have NB315_316 := aM (gL hg (kL BK315.out)); have NB316_315 := aM (gG hg (kL BK315.out)); replace BK315 := aM (kW BK315.out hb); clear hb hbox hg
       refine hK.out _ _ ⟨HS0_, HS1_, HS2_, HS3_⟩ (fun hHeld => ?_)
       clear hK K
       refine nU 15 ?_
       exact norm_ (by simp only [putAll, Act.put, List.setIfInBounds_toArray, List.set_cons_zero, List.set_cons_succ]) (hCont (gb315, gb316) _ ⟨hHeld, (by refine oR ?_; exact Kd.R_mono HO_10.out (fun _ hk => ⟨hk.1.1, ⟨hk.1.2, hk.2⟩⟩)), (by refine oR ?_; exact Kd.R_mono HO_7.out (fun _ hk => ⟨hk.1.1, ⟨hk.1.2, hk.2⟩⟩)), (kB BK315.out), (kB BK316.out), GW315.out, GE315.out, NB316_315.out, NB315_316.out, GW316.out, GE316.out, (bB2 HB.out GE315.out GE316.out)⟩)
      ·
       skip
       refine box_step ?hg (N := 15) ?hd (cs := #[.int .u64 0, .int .u64 0]) (t := 57) ?hr ?_; (case hd => rfl); (case hg => rfl); (case hr => first | (go_simp; done) | (go_simp; rfl))
       intro gb316 hg w24 hbox hb
       have HS0_ := (hb.cell (World.block_lt_of_cell? _ _ (hHeld.1))).trans (hHeld.1); have HS1_ := (hb.cell (World.block_lt_of_cell? _ _ (hHeld.2.1))).trans (hHeld.2.1); have HS2_ := (hb.cell (World.block_lt_of_cell? _ _ (hHeld.2.2.1))).trans (hHeld.2.2.1); have HS3_ := (hb.cell (World.block_lt_of_cell? _ _ (hHeld.2.2.2))).trans (hHeld.2.2.2); replace HO_7 := aM (Kd.R_below (Kd.R_elderB (oR HO_7.out) gb316 (Nat.le_of_eq hg.symm)) hb); replace HO_10 := aM (Kd.R_below (Kd.R_elderB (oR HO_10.out) gb316 (Nat.le_of_eq hg.symm)) hb); have BK316 := aM (hbox); have GW316 := aM (gE hg (below_size (bB HB.out))); have GE316 := GW316; replace HB := aM (below_step (bB HB.out) hb); clear hb hbox hg
       refine hK.out _ _ ⟨HS0_, HS1_, HS2_, HS3_⟩ (fun hHeld => ?_)
       clear hK K
       refine nU 15 ?_
       refine one_ (i := 8) (N := some 14) #[true, true, true, true, true, true, true, true, true, true, false, false] rfl rfl (one_of HT_.out (by kernel_rfl)) (by decide) (fun K hK => ?_)
       refine box_step ?hg (N := 14) ?hd (cs := #[.int .u64 0, .int .u64 0]) (t := 57) ?hr ?_; (case hd => rfl); (case hg => rfl); (case hr => first | (go_simp; done) | (go_simp; rfl))
       intro gb315 hg w25 hbox hb
       have HS0_ := (hb.cell (World.block_lt_of_cell? _ _ (hHeld.1))).trans (hHeld.1); have HS1_ := (hb.cell (World.block_lt_of_cell? _ _ (hHeld.2.1))).trans (hHeld.2.1); have HS2_ := (hb.cell (World.block_lt_of_cell? _ _ (hHeld.2.2.1))).trans (hHeld.2.2.1); have HS3_ := (hb.cell (World.block_lt_of_cell? _ _ (hHeld.2.2.2))).trans (hHeld.2.2.2); replace HO_7 := aM (Kd.R_below (Kd.R_elderB (oR HO_7.out) gb315 (Nat.le_of_eq hg.symm)) hb); replace HO_10 := aM (Kd.R_below (Kd.R_elderB (oR HO_10.out) gb315 (Nat.le_of_eq hg.symm)) hb); have BK315 := aM (hbox); have GW315 := aM (gE hg (below_size (bB1 HB.out GE316.out))); have GE315 := GW315; replace HB := aM (below_step (bB1 HB.out GE316.out) hb); have NB316_315 := aM (gL hg (kL BK316.out)); have NB315_316 := aM (gG hg (kL BK316.out)); replace BK316 := aM (kW BK316.out hb); clear hb hbox hg
       refine hK.out _ _ ⟨HS0_, HS1_, HS2_, HS3_⟩ (fun hHeld => ?_)
       clear hK K
       refine nU 14 ?_
       exact norm_ (by simp only [putAll, Act.put, List.setIfInBounds_toArray, List.set_cons_zero, List.set_cons_succ]) (hCont (gb315, gb316) _ ⟨hHeld, (by refine oR ?_; exact Kd.R_mono HO_10.out (fun _ hk => ⟨hk.1.1, ⟨hk.2, hk.1.2⟩⟩)), (by refine oR ?_; exact Kd.R_mono HO_7.out (fun _ hk => ⟨hk.1.1, ⟨hk.2, hk.1.2⟩⟩)), (kB BK315.out), (kB BK316.out), GW315.out, GE315.out, NB316_315.out, NB315_316.out, GW316.out, GE316.out, (bB2 HB.out GE316.out GE315.out)⟩)
     rintro ⟨gb315, gb316⟩ w26 ⟨hS_, h0_, h1_, h2_, h3_, h4_, h5_, h6_, h7_, h8_, h9_, h10_⟩
     have n0_ : Aside0 (Kd.R k57 57 w26 w.heap.size (fun k_ => some k_ ≠ (.slice (some ad313) x7_1.length co17 : Value).ownBlock ∧ k_ ≠ gb315 ∧ k_ ≠ gb316) u10 x10_2) := ⟨h0_⟩; have n1_ : Aside0 (Kd.R k57 57 w26 w.heap.size (fun k_ => some k_ ≠ (u10 : Value).ownBlock ∧ k_ ≠ gb315 ∧ k_ ≠ gb316) (.slice (some ad313) x7_1.length co17) x7_1) := ⟨h1_⟩; have n2_ : Aside0 (w26.heap[gb315]? = some (.cells #[.int .u64 0, .int .u64 0] 57 (0, 0))) := ⟨h2_⟩; have n3_ : Aside0 (w26.heap[gb316]? = some (.cells #[.int .u64 0, .int .u64 0] 57 (0, 0))) := ⟨h3_⟩; have n4_ : Aside0 (w.heap.size ≤ gb315) := ⟨h4_⟩; have n5_ : Aside0 (w.heap.size ≤ gb315) := ⟨h5_⟩; have n6_ : Aside0 (gb316 ≠ gb315) := ⟨h6_⟩; have n7_ : Aside0 (gb315 ≠ gb316) := ⟨h7_⟩; have n8_ : Aside0 (w.heap.size ≤ gb316) := ⟨h8_⟩; have n9_ : Aside0 (w.heap.size ≤ gb316) := ⟨h9_⟩; have n10_ : Aside0 (Below w.heap.size w w26) := ⟨h10_⟩; clear HO_7; clear HO_10; clear HB; clear h0_ h1_ h2_ h3_ h4_ h5_ h6_ h7_ h8_ h9_ h10_; have HO_10 := n0_; have HO_7 := n1_; have BK315 := n2_; have BK316 := n3_; have GW315 := n4_; have GE315 := n5_; have NB316_315 := n6_; have NB315_316 := n7_; have GW316 := n8_; have GE316 := n9_; have HB := n10_; clear n0_ n1_ n2_ n3_ n4_ n5_ n6_ n7_ n8_ n9_ n10_
     have hHeld : w26.cell? (ad313.add ((x11_2).toNat * 2)) = some (.int .u64 ((rd_T57 x7_1 x11_2).f0)) ∧ w26.cell? ⟨(ad313.add ((x11_2).toNat * 2)).block, (ad313.add ((x11_2).toNat * 2)).off + 1, none⟩ = some (.int .u64 ((rd_T57 x7_1 x11_2).f1)) ∧ w26.cell? (ad313.add ((x13_3).toNat * 2)) = some (.int .u64 ((rd_T57 x7_1 x13_3).f0)) ∧ w26.cell? ⟨(ad313.add ((x13_3).toNat * 2)).block, (ad313.add ((x13_3).toNat * 2)).off + 1, none⟩ = some (.int .u64 ((rd_T57 x7_1 x13_3).f1)) := hS_
     refine norm_ (a' := ?_) ?_ ?_
     rotate_left
     ·
      simp only [putAll, Act.put, List.setIfInBounds_toArray, List.set_cons_zero, List.set_cons_succ]
      rfl
     refine one_ (i := 10) (N := none) #[true, true, true, true, true, true, true, true, true, true, true, false] rfl rfl (one_of HT_.out (by kernel_rfl)) (by decide) (fun K hK => ?_)
     have hs27 : w26.cell? ⟨gb315, 0, none⟩ = some (.int .u64 0) := (blk_cell BK315.out 0).trans rfl
     have hfs27 := blk_frozen BK315.out 0; have hns27_1 := NB316_315.out; have hms27_1 := NB315_316.out
     have hs28 : w26.cell? ⟨gb315, 1, none⟩ = some (.int .u64 0) := (blk_cell BK315.out 1).trans rfl
     have hfs28 := blk_frozen BK315.out 1; have hns28_1 := NB316_315.out; have hms28_1 := NB315_316.out
     refine skip_ (w1 := ?_) (by rfl) rfl ?_ ?_
     rotate_left
     ·
      go_simp
      rfl
     refine hK.out _ _ ⟨((cell_far (p := ⟨gb315, _, none⟩) (fB (Kd.own_blk (Kd.R_away HO_7.out (fun _ hk => hk.2.1)))) _).trans (((cell_far (p := ⟨gb315, _, none⟩) (fB (Kd.own_blk (Kd.R_away HO_7.out (fun _ hk => hk.2.1)))) _).trans (hHeld.1)))), ((cell_far (p := ⟨gb315, _, none⟩) (fB (Kd.own_blk (Kd.R_away HO_7.out (fun _ hk => hk.2.1)))) _).trans (((cell_far (p := ⟨gb315, _, none⟩) (fB (Kd.own_blk (Kd.R_away HO_7.out (fun _ hk => hk.2.1)))) _).trans (hHeld.2.1)))), ((cell_far (p := ⟨gb315, _, none⟩) (fB (Kd.own_blk (Kd.R_away HO_7.out (fun _ hk => hk.2.1)))) _).trans (((cell_far (p := ⟨gb315, _, none⟩) (fB (Kd.own_blk (Kd.R_away HO_7.out (fun _ hk => hk.2.1)))) _).trans (hHeld.2.2.1)))), ((cell_far (p := ⟨gb315, _, none⟩) (fB (Kd.own_blk (Kd.R_away HO_7.out (fun _ hk => hk.2.1)))) _).trans (((cell_far (p := ⟨gb315, _, none⟩) (fB (Kd.own_blk (Kd.R_away HO_7.out (fun _ hk => hk.2.1)))) _).trans (hHeld.2.2.2))))⟩ (fun hHeld => ?_)
     clear hK K
     refine one_ (i := 11) (N := none) #[true, true, true, true, true, true, true, true, true, true, true, true] rfl rfl (one_of HT_.out (by kernel_rfl)) (by decide) (fun K hK => ?_)
     have hs29 : w26.cell? ⟨gb316, 0, none⟩ = some (.int .u64 0) := (blk_cell BK316.out 0).trans rfl
     have hfs29 := blk_frozen BK316.out 0; have hns29_0 := NB315_316.out; have hms29_0 := NB316_315.out
     have hs30 : w26.cell? ⟨gb316, 1, none⟩ = some (.int .u64 0) := (blk_cell BK316.out 1).trans rfl
     have hfs30 := blk_frozen BK316.out 1; have hns30_0 := NB315_316.out; have hms30_0 := NB316_315.out
     refine skip_ (w1 := ?_) (by rfl) rfl ?_ ?_
     rotate_left
     ·
      go_simp
      rfl
     refine hK.out _ _ ⟨((cell_far (p := ⟨gb316, _, none⟩) (fB (Kd.own_blk (Kd.R_away HO_7.out (fun _ hk => hk.2.2)))) _).trans (((cell_far (p := ⟨gb316, _, none⟩) (fB (Kd.own_blk (Kd.R_away HO_7.out (fun _ hk => hk.2.2)))) _).trans (hHeld.1)))), ((cell_far (p := ⟨gb316, _, none⟩) (fB (Kd.own_blk (Kd.R_away HO_7.out (fun _ hk => hk.2.2)))) _).trans (((cell_far (p := ⟨gb316, _, none⟩) (fB (Kd.own_blk (Kd.R_away HO_7.out (fun _ hk => hk.2.2)))) _).trans (hHeld.2.1)))), ((cell_far (p := ⟨gb316, _, none⟩) (fB (Kd.own_blk (Kd.R_away HO_7.out (fun _ hk => hk.2.2)))) _).trans (((cell_far (p := ⟨gb316, _, none⟩) (fB (Kd.own_blk (Kd.R_away HO_7.out (fun _ hk => hk.2.2)))) _).trans (hHeld.2.2.1)))), ((cell_far (p := ⟨gb316, _, none⟩) (fB (Kd.own_blk (Kd.R_away HO_7.out (fun _ hk => hk.2.2)))) _).trans (((cell_far (p := ⟨gb316, _, none⟩) (fB (Kd.own_blk (Kd.R_away HO_7.out (fun _ hk => hk.2.2)))) _).trans (hHeld.2.2.2))))⟩ (fun hHeld => ?_)
     clear hK K
     refine done_ (done_of HT_.out (by kernel_rfl)) ?_
     try go_wp2
     go_roundg k3
     case measure => have := HK1.out; have := HK2.out; have := HK3.out; omega
     case rel => exact ⟨(x12_3), (wrap64 (x13_3 + 1)), eT, eT, H', ⟨by have := HK1.out; have := HK2.out; have := HK3.out; omega⟩, ⟨by refine oR ?_; exact Kd.R_mono (Kd.R_far (p := ⟨gb316, 1, none⟩) (Kd.R_far (p := ⟨gb316, 0, none⟩) (Kd.R_far (p := ⟨gb315, 1, none⟩) (Kd.R_far (p := ⟨gb315, 0, none⟩) (Kd.R_mono (Kd.R_mono HO_7.out (fun k_ hk => (⟨hk, hk.2.1⟩ : _ ∧ k_ ≠ gb315))) (fun k_ hk => (⟨hk, hk.1.2.2⟩ : _ ∧ k_ ≠ gb316))) (fun _ hk => hk.1.2) (.int .u64 ((rd_T57 x7_1 x11_2).f0))) (fun _ hk => hk.1.2) (.int .u64 ((rd_T57 x7_1 x11_2).f1))) (fun _ hk => hk.2) (.int .u64 ((rd_T57 x7_1 x13_3).f0))) (fun _ hk => hk.2) (.int .u64 ((rd_T57 x7_1 x13_3).f1))) (fun _ hk => hk.1.1.1)⟩, ⟨by refine oR ?_; exact Kd.R_mono (Kd.R_far (p := ⟨gb316, 1, none⟩) (Kd.R_far (p := ⟨gb316, 0, none⟩) (Kd.R_far (p := ⟨gb315, 1, none⟩) (Kd.R_far (p := ⟨gb315, 0, none⟩) (Kd.R_mono (Kd.R_mono HO_10.out (fun k_ hk => (⟨hk, hk.2.1⟩ : _ ∧ k_ ≠ gb315))) (fun k_ hk => (⟨hk, hk.1.2.2⟩ : _ ∧ k_ ≠ gb316))) (fun _ hk => hk.1.2) (.int .u64 ((rd_T57 x7_1 x11_2).f0))) (fun _ hk => hk.1.2) (.int .u64 ((rd_T57 x7_1 x11_2).f1))) (fun _ hk => hk.2) (.int .u64 ((rd_T57 x7_1 x13_3).f0))) (fun _ hk => hk.2) (.int .u64 ((rd_T57 x7_1 x13_3).f1))) (fun _ hk => hk.1.1.1)⟩, ⟨bB2 HB.out GE315.out GE316.out⟩⟩
    rw [if_neg c22] at H; have c22b0 : (x11_2 == x13_3) = false := beq_eq_false_iff_ne.mpr c22; have c22b1 : (x11_2 != x13_3) = true := bne_iff_ne.mpr c22
    by_cases c31 : (Go.bits .and .u64 ((rd_T57 x7_1 x11_2).f0) ((rd_T57 x7_1 x13_3).f0)) = ((rd_T57 x7_1 x11_2).f0)
    rotate_left
    ·
     rw [if_neg c31] at H
     have c31b0 : ((Go.bits .and .u64 ((rd_T57 x7_1 x11_2).f0) ((rd_T57 x7_1 x13_3).f0)) == ((rd_T57 x7_1 x11_2).f0)) = false := beq_eq_false_iff_ne.mpr c31; have c31b1 : ((Go.bits .and .u64 ((rd_T57 x7_1 x11_2).f0) ((rd_T57 x7_1 x13_3).f0)) != ((rd_T57 x7_1 x11_2).f0)) = true := bne_iff_ne.mpr c31
     have H' := aM H
     clear H
     try go_wp2
     replace HO_7 := aM (Kd.R_drew HO_7.out); replace HO_10 := aM (Kd.R_drew HO_10.out); replace HB := aM (below_drew1 HB.out); have p313 : 0 ≤ (x11_2 : Int) := dT; have q313 : x11_2 < (x7_1.length : Int) := dT
     try (obtain ⟨Aoz313, coz313, eoz313⟩ := Kd.R_slice HO_7.out; subst eoz313)
     obtain ⟨ad313, e313, hx313_0, hx313_1⟩ := at_T57 (Kd.R_reads' HO_7.out).2.2 x11_2 p313 q313; cases e313; replace p313 := eq_true p313; replace q313 := eq_true q313; have p314 : 0 ≤ (x13_3 : Int) := dT; have q314 : x13_3 < (x7_1.length : Int) := dT
     try (obtain ⟨Aoz314, coz314, eoz314⟩ := Kd.R_slice HO_7.out; subst eoz314)
     obtain ⟨ad314, e314, hx314_0, hx314_1⟩ := at_T57 (Kd.R_reads' HO_7.out).2.2 x13_3 p314 q314; obtain rfl : ad313 = ad314 := (by injection e314); replace p314 := eq_true p314; replace q314 := eq_true q314
     refine start_ (n := 12) (S := fun w' => w'.cell? (ad313.add ((x11_2).toNat * 2)) = some (.int .u64 ((rd_T57 x7_1 x11_2).f0)) ∧ w'.cell? ⟨(ad313.add ((x11_2).toNat * 2)).block, (ad313.add ((x11_2).toNat * 2)).off + 1, none⟩ = some (.int .u64 ((rd_T57 x7_1 x11_2).f1)) ∧ w'.cell? (ad313.add ((x13_3).toNat * 2)) = some (.int .u64 ((rd_T57 x7_1 x13_3).f0)) ∧ w'.cell? ⟨(ad313.add ((x13_3).toNat * 2)).block, (ad313.add ((x13_3).toNat * 2)).off + 1, none⟩ = some (.int .u64 ((rd_T57 x7_1 x13_3).f1))) (ds := []) #[false, false, false, false, false, false, false, false, false, false, false, false] (by kernel_rfl) rfl rfl ⟨hx313_0, hx313_1, hx314_0, hx314_1⟩ (fun hHeld => ?_); refine with_tabW r49_Pairs.tab22 r49_Pairs.bits22 (fun HT_ HW_ => ?_)
     generalize wr.drew = w55 at HO_7 HO_10 HB hx313_0 hx313_1 hx314_0 hx314_1 hHeld ⊢
     refine pU 0 65 (any_of HT_.out (by kernel_rfl)) ?_
     refine pU 1 66 (any_of HT_.out (by kernel_rfl)) ?_
     refine pU 2 67 (any_of HT_.out (by kernel_rfl)) ?_
     refine pU 4 69 (any_of HT_.out (by kernel_rfl)) ?_
     refine pU 5 70 (any_of HT_.out (by kernel_rfl)) ?_
     refine pU 6 71 (any_of HT_.out (by kernel_rfl)) ?_
     refine tU 3 68 (take_ofW HT_.out HW_.out (by kernel_rfl)) hHeld ?_
     refine tU 7 72 (take_ofW HT_.out HW_.out (by kernel_rfl)) hHeld ?_
     refine join_ (σ := Nat × Nat) 2 #[true, true, true, true, true, true, true, true, true, true, false, false] (fun s_ => [(14, .pointer (some ⟨s_.1, 0, none⟩)), (15, .pointer (some ⟨s_.2, 0, none⟩))]) (fun s_ w' => (w'.cell? (ad313.add ((x11_2).toNat * 2)) = some (.int .u64 ((rd_T57 x7_1 x11_2).f0)) ∧ w'.cell? ⟨(ad313.add ((x11_2).toNat * 2)).block, (ad313.add ((x11_2).toNat * 2)).off + 1, none⟩ = some (.int .u64 ((rd_T57 x7_1 x11_2).f1)) ∧ w'.cell? (ad313.add ((x13_3).toNat * 2)) = some (.int .u64 ((rd_T57 x7_1 x13_3).f0)) ∧ w'.cell? ⟨(ad313.add ((x13_3).toNat * 2)).block, (ad313.add ((x13_3).toNat * 2)).off + 1, none⟩ = some (.int .u64 ((rd_T57 x7_1 x13_3).f1))) ∧ (Kd.R k57 57 w' w.heap.size (fun k_ => some k_ ≠ (.slice (some ad313) x7_1.length co17 : Value).ownBlock ∧ k_ ≠ s_.1 ∧ k_ ≠ s_.2) u10 x10_2) ∧ (Kd.R k57 57 w' w.heap.size (fun k_ => some k_ ≠ (u10 : Value).ownBlock ∧ k_ ≠ s_.1 ∧ k_ ≠ s_.2) (.slice (some ad313) x7_1.length co17) x7_1) ∧ (w'.heap[s_.1]? = some (.cells #[.int .u64 0, .int .u64 0] 57 (0, 0))) ∧ (w'.heap[s_.2]? = some (.cells #[.int .u64 0, .int .u64 0] 57 (0, 0))) ∧ (w.heap.size ≤ s_.1) ∧ (w.heap.size ≤ s_.1) ∧ (s_.2 ≠ s_.1) ∧ (s_.1 ≠ s_.2) ∧ (w.heap.size ≤ s_.2) ∧ (w.heap.size ≤ s_.2) ∧ (Below w.heap.size w w')) ?_ ?_
     rotate_left
     ·
      intro hCont
      refine two_ (i := 8) (j := 9) (Ni := some 14) (Nj := some 15) #[true, true, true, true, true, true, true, true, true, false, false, false] #[true, true, true, true, true, true, true, true, false, true, false, false] rfl rfl rfl rfl (two_of HT_.out (by kernel_rfl)) (by decide) (by decide) (fun K hK => ?_) (fun K hK => ?_)
      ·
       skip
       refine box_step ?hg (N := 14) ?hd (cs := #[.int .u64 0, .int .u64 0]) (t := 57) ?hr ?_; (case hd => rfl); (case hg => rfl); (case hr => first | (go_simp; done) | (go_simp; rfl))
       intro gb315 hg w56 hbox hb
       have HS0_ := (hb.cell (World.block_lt_of_cell? _ _ (hHeld.1))).trans (hHeld.1); have HS1_ := (hb.cell (World.block_lt_of_cell? _ _ (hHeld.2.1))).trans (hHeld.2.1); have HS2_ := (hb.cell (World.block_lt_of_cell? _ _ (hHeld.2.2.1))).trans (hHeld.2.2.1); have HS3_ := (hb.cell (World.block_lt_of_cell? _ _ (hHeld.2.2.2))).trans (hHeld.2.2.2); replace HO_7 := aM (Kd.R_below (Kd.R_elderB (oR HO_7.out) gb315 (Nat.le_of_eq hg.symm)) hb); replace HO_10 := aM (Kd.R_below (Kd.R_elderB (oR HO_10.out) gb315 (Nat.le_of_eq hg.symm)) hb); have BK315 := aM (hbox); have GW315 := aM (gE hg (below_size (bB HB.out))); have GE315 := GW315; replace HB := aM (below_step (bB HB.out) hb); clear hb hbox hg
       refine hK.out _ _ ⟨HS0_, HS1_, HS2_, HS3_⟩ (fun hHeld => ?_)
       clear hK K
       refine nU 14 ?_
       refine one_ (i := 9) (N := some 15) #[true, true, true, true, true, true, true, true, true, true, false, false] rfl rfl (one_of HT_.out (by kernel_rfl)) (by decide) (fun K hK => ?_)
       refine box_step ?hg (N := 15) ?hd (cs := #[.int .u64 0, .int .u64 0]) (t := 57) ?hr ?_; (case hd => rfl); (case hg => rfl); (case hr => first | (go_simp; done) | (go_simp; rfl))
       intro gb316 hg w57 hbox hb
       have HS0_ := (hb.cell (World.block_lt_of_cell? _ _ (hHeld.1))).trans (hHeld.1); have HS1_ := (hb.cell (World.block_lt_of_cell? _ _ (hHeld.2.1))).trans (hHeld.2.1); have HS2_ := (hb.cell (World.block_lt_of_cell? _ _ (hHeld.2.2.1))).trans (hHeld.2.2.1); have HS3_ := (hb.cell (World.block_lt_of_cell? _ _ (hHeld.2.2.2))).trans (hHeld.2.2.2); replace HO_7 := aM (Kd.R_below (Kd.R_elderB (oR HO_7.out) gb316 (Nat.le_of_eq hg.symm)) hb); replace HO_10 := aM (Kd.R_below (Kd.R_elderB (oR HO_10.out) gb316 (Nat.le_of_eq hg.symm)) hb); have BK316 := aM (hbox); have GW316 := aM (gE hg (below_size (bB1 HB.out GE315.out))); have GE316 := GW316; replace HB := aM (below_step (bB1 HB.out GE315.out) hb); have NB315_316 := aM (gL hg (kL BK315.out)); have NB316_315 := aM (gG hg (kL BK315.out)); replace BK315 := aM (kW BK315.out hb); clear hb hbox hg
       refine hK.out _ _ ⟨HS0_, HS1_, HS2_, HS3_⟩ (fun hHeld => ?_)
       clear hK K
       refine nU 15 ?_
       exact norm_ (by simp only [putAll, Act.put, List.setIfInBounds_toArray, List.set_cons_zero, List.set_cons_succ]) (hCont (gb315, gb316) _ ⟨hHeld, (by refine oR ?_; exact Kd.R_mono HO_10.out (fun _ hk => ⟨hk.1.1, ⟨hk.1.2, hk.2⟩⟩)), (by refine oR ?_; exact Kd.R_mono HO_7.out (fun _ hk => ⟨hk.1.1, ⟨hk.1.2, hk.2⟩⟩)), (kB BK315.out), (kB BK316.out), GW315.out, GE315.out, NB316_315.out, NB315_316.out, GW316.out, GE316.out, (bB2 HB.out GE315.out GE316.out)⟩)
      ·
       skip
       refine box_step ?hg (N := 15) ?hd (cs := #[.int .u64 0, .int .u64 0]) (t := 57) ?hr ?_; (case hd => rfl); (case hg => rfl); (case hr => first | (go_simp; done) | (go_simp; rfl))
       intro gb316 hg w56 hbox hb
       have HS0_ := (hb.cell (World.block_lt_of_cell? _ _ (hHeld.1))).trans (hHeld.1); have HS1_ := (hb.cell (World.block_lt_of_cell? _ _ (hHeld.2.1))).trans (hHeld.2.1); have HS2_ := (hb.cell (World.block_lt_of_cell? _ _ (hHeld.2.2.1))).trans (hHeld.2.2.1); have HS3_ := (hb.cell (World.block_lt_of_cell? _ _ (hHeld.2.2.2))).trans (hHeld.2.2.2); replace HO_7 := aM (Kd.R_below (Kd.R_elderB (oR HO_7.out) gb316 (Nat.le_of_eq hg.symm)) hb); replace HO_10 := aM (Kd.R_below (Kd.R_elderB (oR HO_10.out) gb316 (Nat.le_of_eq hg.symm)) hb); have BK316 := aM (hbox); have GW316 := aM (gE hg (below_size (bB HB.out))); have GE316 := GW316; replace HB := aM (below_step (bB HB.out) hb); clear hb hbox hg
       refine hK.out _ _ ⟨HS0_, HS1_, HS2_, HS3_⟩ (fun hHeld => ?_)
       clear hK K
       refine nU 15 ?_
       refine one_ (i := 8) (N := some 14) #[true, true, true, true, true, true, true, true, true, true, false, false] rfl rfl (one_of HT_.out (by kernel_rfl)) (by decide) (fun K hK => ?_)
       refine box_step ?hg (N := 14) ?hd (cs := #[.int .u64 0, .int .u64 0]) (t := 57) ?hr ?_; (case hd => rfl); (case hg => rfl); (case hr => first | (go_simp; done) | (go_simp; rfl))
       intro gb315 hg w57 hbox hb
       have HS0_ := (hb.cell (World.block_lt_of_cell? _ _ (hHeld.1))).trans (hHeld.1); have HS1_ := (hb.cell (World.block_lt_of_cell? _ _ (hHeld.2.1))).trans (hHeld.2.1); have HS2_ := (hb.cell (World.block_lt_of_cell? _ _ (hHeld.2.2.1))).trans (hHeld.2.2.1); have HS3_ := (hb.cell (World.block_lt_of_cell? _ _ (hHeld.2.2.2))).trans (hHeld.2.2.2); replace HO_7 := aM (Kd.R_below (Kd.R_elderB (oR HO_7.out) gb315 (Nat.le_of_eq hg.symm)) hb); replace HO_10 := aM (Kd.R_below (Kd.R_elderB (oR HO_10.out) gb315 (Nat.le_of_eq hg.symm)) hb); have BK315 := aM (hbox); have GW315 := aM (gE hg (below_size (bB1 HB.out GE316.out))); have GE315 := GW315; replace HB := aM (below_step (bB1 HB.out GE316.out) hb); have NB316_315 := aM (gL hg (kL BK316.out)); have NB315_316 := aM (gG hg (kL BK316.out)); replace BK316 := aM (kW BK316.out hb); clear hb hbox hg
       refine hK.out _ _ ⟨HS0_, HS1_, HS2_, HS3_⟩ (fun hHeld => ?_)
       clear hK K
       refine nU 14 ?_
       exact norm_ (by simp only [putAll, Act.put, List.setIfInBounds_toArray, List.set_cons_zero, List.set_cons_succ]) (hCont (gb315, gb316) _ ⟨hHeld, (by refine oR ?_; exact Kd.R_mono HO_10.out (fun _ hk => ⟨hk.1.1, ⟨hk.2, hk.1.2⟩⟩)), (by refine oR ?_; exact Kd.R_mono HO_7.out (fun _ hk => ⟨hk.1.1, ⟨hk.2, hk.1.2⟩⟩)), (kB BK315.out), (kB BK316.out), GW315.out, GE315.out, NB316_315.out, NB315_316.out, GW316.out, GE316.out, (bB2 HB.out GE316.out GE315.out)⟩)
     rintro ⟨gb315, gb316⟩ w58 ⟨hS_, h0_, h1_, h2_, h3_, h4_, h5_, h6_, h7_, h8_, h9_, h10_⟩
     have n0_ : Aside0 (Kd.R k57 57 w58 w.heap.size (fun k_ => some k_ ≠ (.slice (some ad313) x7_1.length co17 : Value).ownBlock ∧ k_ ≠ gb315 ∧ k_ ≠ gb316) u10 x10_2) := ⟨h0_⟩; have n1_ : Aside0 (Kd.R k57 57 w58 w.heap.size (fun k_ => some k_ ≠ (u10 : Value).ownBlock ∧ k_ ≠ gb315 ∧ k_ ≠ gb316) (.slice (some ad313) x7_1.length co17) x7_1) := ⟨h1_⟩; have n2_ : Aside0 (w58.heap[gb315]? = some (.cells #[.int .u64 0, .int .u64 0] 57 (0, 0))) := ⟨h2_⟩; have n3_ : Aside0 (w58.heap[gb316]? = some (.cells #[.int .u64 0, .int .u64 0] 57 (0, 0))) := ⟨h3_⟩; have n4_ : Aside0 (w.heap.size ≤ gb315) := ⟨h4_⟩; have n5_ : Aside0 (w.heap.size ≤ gb315) := ⟨h5_⟩; have n6_ : Aside0 (gb316 ≠ gb315) := ⟨h6_⟩; have n7_ : Aside0 (gb315 ≠ gb316) := ⟨h7_⟩; have n8_ : Aside0 (w.heap.size ≤ gb316) := ⟨h8_⟩; have n9_ : Aside0 (w.heap.size ≤ gb316) := ⟨h9_⟩; have n10_ : Aside0 (Below w.heap.size w w58) := ⟨h10_⟩; clear HO_7; clear HO_10; clear HB; clear h0_ h1_ h2_ h3_ h4_ h5_ h6_ h7_ h8_ h9_ h10_; have HO_10 := n0_; have HO_7 := n1_; have BK315 := n2_; have BK316 := n3_; have GW315 := n4_; have GE315 := n5_; have NB316_315 := n6_; have NB315_316 := n7_; have GW316 := n8_; have GE316 := n9_; have HB := n10_; clear n0_ n1_ n2_ n3_ n4_ n5_ n6_ n7_ n8_ n9_ n10_
     have hHeld : w58.cell? (ad313.add ((x11_2).toNat * 2)) = some (.int .u64 ((rd_T57 x7_1 x11_2).f0)) ∧ w58.cell? ⟨(ad313.add ((x11_2).toNat * 2)).block, (ad313.add ((x11_2).toNat * 2)).off + 1, none⟩ = some (.int .u64 ((rd_T57 x7_1 x11_2).f1)) ∧ w58.cell? (ad313.add ((x13_3).toNat * 2)) = some (.int .u64 ((rd_T57 x7_1 x13_3).f0)) ∧ w58.cell? ⟨(ad313.add ((x13_3).toNat * 2)).block, (ad313.add ((x13_3).toNat * 2)).off + 1, none⟩ = some (.int .u64 ((rd_T57 x7_1 x13_3).f1)) := hS_
     refine norm_ (a' := ?_) ?_ ?_
     rotate_left
     ·
      simp only [putAll, Act.put, List.setIfInBounds_toArray, List.set_cons_zero, List.set_cons_succ]
      rfl
     refine one_ (i := 10) (N := none) #[true, true, true, true, true, true, true, true, true, true, true, false] rfl rfl (one_of HT_.out (by kernel_rfl)) (by decide) (fun K hK => ?_)
     have hs59 : w58.cell? ⟨gb315, 0, none⟩ = some (.int .u64 0) := (blk_cell BK315.out 0).trans rfl
     have hfs59 := blk_frozen BK315.out 0; have hns59_1 := NB316_315.out; have hms59_1 := NB315_316.out
     have hs60 : w58.cell? ⟨gb315, 1, none⟩ = some (.int .u64 0) := (blk_cell BK315.out 1).trans rfl
     have hfs60 := blk_frozen BK315.out 1; have hns60_1 := NB316_315.out; have hms60_1 := NB315_316.out
     refine skip_ (w1 := ?_) (by rfl) rfl ?_ ?_
     rotate_left
     ·
      go_simp
      rfl
     refine hK.out _ _ ⟨((cell_far (p := ⟨gb315, _, none⟩) (fB (Kd.own_blk (Kd.R_away HO_7.out (fun _ hk => hk.2.1)))) _).trans (((cell_far (p := ⟨gb315, _, none⟩) (fB (Kd.own_blk (Kd.R_away HO_7.out (fun _ hk => hk.2.1)))) _).trans (hHeld.1)))), ((cell_far (p := ⟨gb315, _, none⟩) (fB (Kd.own_blk (Kd.R_away HO_7.out (fun _ hk => hk.2.1)))) _).trans (((cell_far (p := ⟨gb315, _, none⟩) (fB (Kd.own_blk (Kd.R_away HO_7.out (fun _ hk => hk.2.1)))) _).trans (hHeld.2.1)))), ((cell_far (p := ⟨gb315, _, none⟩) (fB (Kd.own_blk (Kd.R_away HO_7.out (fun _ hk => hk.2.1)))) _).trans (((cell_far (p := ⟨gb315, _, none⟩) (fB (Kd.own_blk (Kd.R_away HO_7.out (fun _ hk => hk.2.1)))) _).trans (hHeld.2.2.1)))), ((cell_far (p := ⟨gb315, _, none⟩) (fB (Kd.own_blk (Kd.R_away HO_7.out (fun _ hk => hk.2.1)))) _).trans (((cell_far (p := ⟨gb315, _, none⟩) (fB (Kd.own_blk (Kd.R_away HO_7.out (fun _ hk => hk.2.1)))) _).trans (hHeld.2.2.2))))⟩ (fun hHeld => ?_)
     clear hK K
     refine one_ (i := 11) (N := none) #[true, true, true, true, true, true, true, true, true, true, true, true] rfl rfl (one_of HT_.out (by kernel_rfl)) (by decide) (fun K hK => ?_)
     have hs61 : w58.cell? ⟨gb316, 0, none⟩ = some (.int .u64 0) := (blk_cell BK316.out 0).trans rfl
     have hfs61 := blk_frozen BK316.out 0; have hns61_0 := NB315_316.out; have hms61_0 := NB316_315.out
     have hs62 : w58.cell? ⟨gb316, 1, none⟩ = some (.int .u64 0) := (blk_cell BK316.out 1).trans rfl
     have hfs62 := blk_frozen BK316.out 1; have hns62_0 := NB315_316.out; have hms62_0 := NB316_315.out
     refine skip_ (w1 := ?_) (by rfl) rfl ?_ ?_
     rotate_left
     ·
      go_simp
      rfl
     refine hK.out _ _ ⟨((cell_far (p := ⟨gb316, _, none⟩) (fB (Kd.own_blk (Kd.R_away HO_7.out (fun _ hk => hk.2.2)))) _).trans (((cell_far (p := ⟨gb316, _, none⟩) (fB (Kd.own_blk (Kd.R_away HO_7.out (fun _ hk => hk.2.2)))) _).trans (hHeld.1)))), ((cell_far (p := ⟨gb316, _, none⟩) (fB (Kd.own_blk (Kd.R_away HO_7.out (fun _ hk => hk.2.2)))) _).trans (((cell_far (p := ⟨gb316, _, none⟩) (fB (Kd.own_blk (Kd.R_away HO_7.out (fun _ hk => hk.2.2)))) _).trans (hHeld.2.1)))), ((cell_far (p := ⟨gb316, _, none⟩) (fB (Kd.own_blk (Kd.R_away HO_7.out (fun _ hk => hk.2.2)))) _).trans (((cell_far (p := ⟨gb316, _, none⟩) (fB (Kd.own_blk (Kd.R_away HO_7.out (fun _ hk => hk.2.2)))) _).trans (hHeld.2.2.1)))), ((cell_far (p := ⟨gb316, _, none⟩) (fB (Kd.own_blk (Kd.R_away HO_7.out (fun _ hk => hk.2.2)))) _).trans (((cell_far (p := ⟨gb316, _, none⟩) (fB (Kd.own_blk (Kd.R_away HO_7.out (fun _ hk => hk.2.2)))) _).trans (hHeld.2.2.2))))⟩ (fun hHeld => ?_)
     clear hK K
     refine done_ (done_of HT_.out (by kernel_rfl)) ?_
     have hnb63 := NB315_316.out; have hnc63 := NB316_315.out
     have hcz64_0 := cz0 BK315.out
     have hcz64_1 := cz1 BK315.out
     have hfz64_0 := blk_frozen BK315.out 0; have hfz64_1 := blk_frozen BK315.out 1
     have hcz65_0 := cz0 BK316.out
     have hcz65_1 := cz1 BK316.out
     have hfz65_0 := blk_frozen BK316.out 0; have hfz65_1 := blk_frozen BK316.out 1
     try go_wp2
     go_roundg k3
     case measure => have := HK1.out; have := HK2.out; have := HK3.out; omega
     case rel => exact ⟨(x12_3), (wrap64 (x13_3 + 1)), eT, eT, H', ⟨by have := HK1.out; have := HK2.out; have := HK3.out; omega⟩, ⟨by refine oR ?_; exact Kd.R_mono (Kd.R_far (p := ⟨gb316, 1, none⟩) (Kd.R_far (p := ⟨gb316, 0, none⟩) (Kd.R_far (p := ⟨gb315, 1, none⟩) (Kd.R_far (p := ⟨gb315, 0, none⟩) (Kd.R_mono (Kd.R_mono HO_7.out (fun k_ hk => (⟨hk, hk.2.1⟩ : _ ∧ k_ ≠ gb315))) (fun k_ hk => (⟨hk, hk.1.2.2⟩ : _ ∧ k_ ≠ gb316))) (fun _ hk => hk.1.2) (.int .u64 ((rd_T57 x7_1 x11_2).f0))) (fun _ hk => hk.1.2) (.int .u64 ((rd_T57 x7_1 x11_2).f1))) (fun _ hk => hk.2) (.int .u64 ((rd_T57 x7_1 x13_3).f0))) (fun _ hk => hk.2) (.int .u64 ((rd_T57 x7_1 x13_3).f1))) (fun _ hk => hk.1.1.1)⟩, ⟨by refine oR ?_; exact Kd.R_mono (Kd.R_far (p := ⟨gb316, 1, none⟩) (Kd.R_far (p := ⟨gb316, 0, none⟩) (Kd.R_far (p := ⟨gb315, 1, none⟩) (Kd.R_far (p := ⟨gb315, 0, none⟩) (Kd.R_mono (Kd.R_mono HO_10.out (fun k_ hk => (⟨hk, hk.2.1⟩ : _ ∧ k_ ≠ gb315))) (fun k_ hk => (⟨hk, hk.1.2.2⟩ : _ ∧ k_ ≠ gb316))) (fun _ hk => hk.1.2) (.int .u64 ((rd_T57 x7_1 x11_2).f0))) (fun _ hk => hk.1.2) (.int .u64 ((rd_T57 x7_1 x11_2).f1))) (fun _ hk => hk.2) (.int .u64 ((rd_T57 x7_1 x13_3).f0))) (fun _ hk => hk.2) (.int .u64 ((rd_T57 x7_1 x13_3).f1))) (fun _ hk => hk.1.1.1)⟩, ⟨bB2 HB.out GE315.out GE316.out⟩⟩
    rw [if_pos c31] at H; have c31b0 : ((Go.bits .and .u64 ((rd_T57 x7_1 x11_2).f0) ((rd_T57 x7_1 x13_3).f0)) == ((rd_T57 x7_1 x11_2).f0)) = true := beq_iff_eq.mpr c31; have c31b1 : ((Go.bits .and .u64 ((rd_T57 x7_1 x11_2).f0) ((rd_T57 x7_1 x13_3).f0)) != ((rd_T57 x7_1 x11_2).f0)) = false := bne_eq_false_iff_eq.mpr c31; clear c31
    by_cases c32 : (Go.bits .and .u64 ((rd_T57 x7_1 x11_2).f1) ((rd_T57 x7_1 x13_3).f1)) = ((rd_T57 x7_1 x11_2).f1)
    rotate_left
    ·
     rw [if_neg c32] at H
     have c32b0 : ((Go.bits .and .u64 ((rd_T57 x7_1 x11_2).f1) ((rd_T57 x7_1 x13_3).f1)) == ((rd_T57 x7_1 x11_2).f1)) = false := beq_eq_false_iff_ne.mpr c32; have c32b1 : ((Go.bits .and .u64 ((rd_T57 x7_1 x11_2).f1) ((rd_T57 x7_1 x13_3).f1)) != ((rd_T57 x7_1 x11_2).f1)) = true := bne_iff_ne.mpr c32
     have H' := aM H
     clear H
     try go_wp2
     replace HO_7 := aM (Kd.R_drew HO_7.out); replace HO_10 := aM (Kd.R_drew HO_10.out); replace HB := aM (below_drew1 HB.out); have p313 : 0 ≤ (x11_2 : Int) := dT; have q313 : x11_2 < (x7_1.length : Int) := dT
     try (obtain ⟨Aoz313, coz313, eoz313⟩ := Kd.R_slice HO_7.out; subst eoz313)
     obtain ⟨ad313, e313, hx313_0, hx313_1⟩ := at_T57 (Kd.R_reads' HO_7.out).2.2 x11_2 p313 q313; cases e313; replace p313 := eq_true p313; replace q313 := eq_true q313; have p314 : 0 ≤ (x13_3 : Int) := dT; have q314 : x13_3 < (x7_1.length : Int) := dT
     try (obtain ⟨Aoz314, coz314, eoz314⟩ := Kd.R_slice HO_7.out; subst eoz314)
     obtain ⟨ad314, e314, hx314_0, hx314_1⟩ := at_T57 (Kd.R_reads' HO_7.out).2.2 x13_3 p314 q314; obtain rfl : ad313 = ad314 := (by injection e314); replace p314 := eq_true p314; replace q314 := eq_true q314
     refine start_ (n := 12) (S := fun w' => w'.cell? (ad313.add ((x11_2).toNat * 2)) = some (.int .u64 ((rd_T57 x7_1 x11_2).f0)) ∧ w'.cell? ⟨(ad313.add ((x11_2).toNat * 2)).block, (ad313.add ((x11_2).toNat * 2)).off + 1, none⟩ = some (.int .u64 ((rd_T57 x7_1 x11_2).f1)) ∧ w'.cell? (ad313.add ((x13_3).toNat * 2)) = some (.int .u64 ((rd_T57 x7_1 x13_3).f0)) ∧ w'.cell? ⟨(ad313.add ((x13_3).toNat * 2)).block, (ad313.add ((x13_3).toNat * 2)).off + 1, none⟩ = some (.int .u64 ((rd_T57 x7_1 x13_3).f1))) (ds := []) #[false, false, false, false, false, false, false, false, false, false, false, false] (by kernel_rfl) rfl rfl ⟨hx313_0, hx313_1, hx314_0, hx314_1⟩ (fun hHeld => ?_); refine with_tabW r49_Pairs.tab22 r49_Pairs.bits22 (fun HT_ HW_ => ?_)
     generalize wr.drew = w44 at HO_7 HO_10 HB hx313_0 hx313_1 hx314_0 hx314_1 hHeld ⊢
     refine pU 0 65 (any_of HT_.out (by kernel_rfl)) ?_
     refine pU 1 66 (any_of HT_.out (by kernel_rfl)) ?_
     refine pU 2 67 (any_of HT_.out (by kernel_rfl)) ?_
     refine pU 4 69 (any_of HT_.out (by kernel_rfl)) ?_
     refine pU 5 70 (any_of HT_.out (by kernel_rfl)) ?_
     refine pU 6 71 (any_of HT_.out (by kernel_rfl)) ?_
     refine tU 3 68 (take_ofW HT_.out HW_.out (by kernel_rfl)) hHeld ?_
     refine tU 7 72 (take_ofW HT_.out HW_.out (by kernel_rfl)) hHeld ?_
     refine join_ (σ := Nat × Nat) 2 #[true, true, true, true, true, true, true, true, true, true, false, false] (fun s_ => [(14, .pointer (some ⟨s_.1, 0, none⟩)), (15, .pointer (some ⟨s_.2, 0, none⟩))]) (fun s_ w' => (w'.cell? (ad313.add ((x11_2).toNat * 2)) = some (.int .u64 ((rd_T57 x7_1 x11_2).f0)) ∧ w'.cell? ⟨(ad313.add ((x11_2).toNat * 2)).block, (ad313.add ((x11_2).toNat * 2)).off + 1, none⟩ = some (.int .u64 ((rd_T57 x7_1 x11_2).f1)) ∧ w'.cell? (ad313.add ((x13_3).toNat * 2)) = some (.int .u64 ((rd_T57 x7_1 x13_3).f0)) ∧ w'.cell? ⟨(ad313.add ((x13_3).toNat * 2)).block, (ad313.add ((x13_3).toNat * 2)).off + 1, none⟩ = some (.int .u64 ((rd_T57 x7_1 x13_3).f1))) ∧ (Kd.R k57 57 w' w.heap.size (fun k_ => some k_ ≠ (.slice (some ad313) x7_1.length co17 : Value).ownBlock ∧ k_ ≠ s_.1 ∧ k_ ≠ s_.2) u10 x10_2) ∧ (Kd.R k57 57 w' w.heap.size (fun k_ => some k_ ≠ (u10 : Value).ownBlock ∧ k_ ≠ s_.1 ∧ k_ ≠ s_.2) (.slice (some ad313) x7_1.length co17) x7_1) ∧ (w'.heap[s_.1]? = some (.cells #[.int .u64 0, .int .u64 0] 57 (0, 0))) ∧ (w'.heap[s_.2]? = some (.cells #[.int .u64 0, .int .u64 0] 57 (0, 0))) ∧ (w.heap.size ≤ s_.1) ∧ (w.heap.size ≤ s_.1) ∧ (s_.2 ≠ s_.1) ∧ (s_.1 ≠ s_.2) ∧ (w.heap.size ≤ s_.2) ∧ (w.heap.size ≤ s_.2) ∧ (Below w.heap.size w w')) ?_ ?_
     rotate_left
     ·
      intro hCont
      refine two_ (i := 8) (j := 9) (Ni := some 14) (Nj := some 15) #[true, true, true, true, true, true, true, true, true, false, false, false] #[true, true, true, true, true, true, true, true, false, true, false, false] rfl rfl rfl rfl (two_of HT_.out (by kernel_rfl)) (by decide) (by decide) (fun K hK => ?_) (fun K hK => ?_)
      ·
       skip
       refine box_step ?hg (N := 14) ?hd (cs := #[.int .u64 0, .int .u64 0]) (t := 57) ?hr ?_; (case hd => rfl); (case hg => rfl); (case hr => first | (go_simp; done) | (go_simp; rfl))
       intro gb315 hg w45 hbox hb
       have HS0_ := (hb.cell (World.block_lt_of_cell? _ _ (hHeld.1))).trans (hHeld.1); have HS1_ := (hb.cell (World.block_lt_of_cell? _ _ (hHeld.2.1))).trans (hHeld.2.1); have HS2_ := (hb.cell (World.block_lt_of_cell? _ _ (hHeld.2.2.1))).trans (hHeld.2.2.1); have HS3_ := (hb.cell (World.block_lt_of_cell? _ _ (hHeld.2.2.2))).trans (hHeld.2.2.2); replace HO_7 := aM (Kd.R_below (Kd.R_elderB (oR HO_7.out) gb315 (Nat.le_of_eq hg.symm)) hb); replace HO_10 := aM (Kd.R_below (Kd.R_elderB (oR HO_10.out) gb315 (Nat.le_of_eq hg.symm)) hb); have BK315 := aM (hbox); have GW315 := aM (gE hg (below_size (bB HB.out))); have GE315 := GW315; replace HB := aM (below_step (bB HB.out) hb); clear hb hbox hg
       refine hK.out _ _ ⟨HS0_, HS1_, HS2_, HS3_⟩ (fun hHeld => ?_)
       clear hK K
       refine nU 14 ?_
       refine one_ (i := 9) (N := some 15) #[true, true, true, true, true, true, true, true, true, true, false, false] rfl rfl (one_of HT_.out (by kernel_rfl)) (by decide) (fun K hK => ?_)
       refine box_step ?hg (N := 15) ?hd (cs := #[.int .u64 0, .int .u64 0]) (t := 57) ?hr ?_; (case hd => rfl); (case hg => rfl); (case hr => first | (go_simp; done) | (go_simp; rfl))
       intro gb316 hg w46 hbox hb
       have HS0_ := (hb.cell (World.block_lt_of_cell? _ _ (hHeld.1))).trans (hHeld.1); have HS1_ := (hb.cell (World.block_lt_of_cell? _ _ (hHeld.2.1))).trans (hHeld.2.1); have HS2_ := (hb.cell (World.block_lt_of_cell? _ _ (hHeld.2.2.1))).trans (hHeld.2.2.1); have HS3_ := (hb.cell (World.block_lt_of_cell? _ _ (hHeld.2.2.2))).trans (hHeld.2.2.2); replace HO_7 := aM (Kd.R_below (Kd.R_elderB (oR HO_7.out) gb316 (Nat.le_of_eq hg.symm)) hb); replace HO_10 := aM (Kd.R_below (Kd.R_elderB (oR HO_10.out) gb316 (Nat.le_of_eq hg.symm)) hb); have BK316 := aM (hbox); have GW316 := aM (gE hg (below_size (bB1 HB.out GE315.out))); have GE316 := GW316; replace HB := aM (below_step (bB1 HB.out GE315.out) hb); have NB315_316 := aM (gL hg (kL BK315.out)); have NB316_315 := aM (gG hg (kL BK315.out)); replace BK315 := aM (kW BK315.out hb); clear hb hbox hg
       refine hK.out _ _ ⟨HS0_, HS1_, HS2_, HS3_⟩ (fun hHeld => ?_)
       clear hK K
       refine nU 15 ?_
       exact norm_ (by simp only [putAll, Act.put, List.setIfInBounds_toArray, List.set_cons_zero, List.set_cons_succ]) (hCont (gb315, gb316) _ ⟨hHeld, (by refine oR ?_; exact Kd.R_mono HO_10.out (fun _ hk => ⟨hk.1.1, ⟨hk.1.2, hk.2⟩⟩)), (by refine oR ?_; exact Kd.R_mono HO_7.out (fun _ hk => ⟨hk.1.1, ⟨hk.1.2, hk.2⟩⟩)), (kB BK315.out), (kB BK316.out), GW315.out, GE315.out, NB316_315.out, NB315_316.out, GW316.out, GE316.out, (bB2 HB.out GE315.out GE316.out)⟩)
      ·
       skip
       refine box_step ?hg (N := 15) ?hd (cs := #[.int .u64 0, .int .u64 0]) (t := 57) ?hr ?_; (case hd => rfl); (case hg => rfl); (case hr => first | (go_simp; done) | (go_simp; rfl))
       intro gb316 hg w45 hbox hb
       have HS0_ := (hb.cell (World.block_lt_of_cell? _ _ (hHeld.1))).trans (hHeld.1); have HS1_ := (hb.cell (World.block_lt_of_cell? _ _ (hHeld.2.1))).trans (hHeld.2.1); have HS2_ := (hb.cell (World.block_lt_of_cell? _ _ (hHeld.2.2.1))).trans (hHeld.2.2.1); have HS3_ := (hb.cell (World.block_lt_of_cell? _ _ (hHeld.2.2.2))).trans (hHeld.2.2.2); replace HO_7 := aM (Kd.R_below (Kd.R_elderB (oR HO_7.out) gb316 (Nat.le_of_eq hg.symm)) hb); replace HO_10 := aM (Kd.R_below (Kd.R_elderB (oR HO_10.out) gb316 (Nat.le_of_eq hg.symm)) hb); have BK316 := aM (hbox); have GW316 := aM (gE hg (below_size (bB HB.out))); have GE316 := GW316; replace HB := aM (below_step (bB HB.out) hb); clear hb hbox hg
       refine hK.out _ _ ⟨HS0_, HS1_, HS2_, HS3_⟩ (fun hHeld => ?_)
       clear hK K
       refine nU 15 ?_
       refine one_ (i := 8) (N := some 14) #[true, true, true, true, true, true, true, true, true, true, false, false] rfl rfl (one_of HT_.out (by kernel_rfl)) (by decide) (fun K hK => ?_)
       refine box_step ?hg (N := 14) ?hd (cs := #[.int .u64 0, .int .u64 0]) (t := 57) ?hr ?_; (case hd => rfl); (case hg => rfl); (case hr => first | (go_simp; done) | (go_simp; rfl))
       intro gb315 hg w46 hbox hb
       have HS0_ := (hb.cell (World.block_lt_of_cell? _ _ (hHeld.1))).trans (hHeld.1); have HS1_ := (hb.cell (World.block_lt_of_cell? _ _ (hHeld.2.1))).trans (hHeld.2.1); have HS2_ := (hb.cell (World.block_lt_of_cell? _ _ (hHeld.2.2.1))).trans (hHeld.2.2.1); have HS3_ := (hb.cell (World.block_lt_of_cell? _ _ (hHeld.2.2.2))).trans (hHeld.2.2.2); replace HO_7 := aM (Kd.R_below (Kd.R_elderB (oR HO_7.out) gb315 (Nat.le_of_eq hg.symm)) hb); replace HO_10 := aM (Kd.R_below (Kd.R_elderB (oR HO_10.out) gb315 (Nat.le_of_eq hg.symm)) hb); have BK315 := aM (hbox); have GW315 := aM (gE hg (below_size (bB1 HB.out GE316.out))); have GE315 := GW315; replace HB := aM (below_step (bB1 HB.out GE316.out) hb); have NB316_315 := aM (gL hg (kL BK316.out)); have NB315_316 := aM (gG hg (kL BK316.out)); replace BK316 := aM (kW BK316.out hb); clear hb hbox hg
       refine hK.out _ _ ⟨HS0_, HS1_, HS2_, HS3_⟩ (fun hHeld => ?_)
       clear hK K
       refine nU 14 ?_
       exact norm_ (by simp only [putAll, Act.put, List.setIfInBounds_toArray, List.set_cons_zero, List.set_cons_succ]) (hCont (gb315, gb316) _ ⟨hHeld, (by refine oR ?_; exact Kd.R_mono HO_10.out (fun _ hk => ⟨hk.1.1, ⟨hk.2, hk.1.2⟩⟩)), (by refine oR ?_; exact Kd.R_mono HO_7.out (fun _ hk => ⟨hk.1.1, ⟨hk.2, hk.1.2⟩⟩)), (kB BK315.out), (kB BK316.out), GW315.out, GE315.out, NB316_315.out, NB315_316.out, GW316.out, GE316.out, (bB2 HB.out GE316.out GE315.out)⟩)
     rintro ⟨gb315, gb316⟩ w47 ⟨hS_, h0_, h1_, h2_, h3_, h4_, h5_, h6_, h7_, h8_, h9_, h10_⟩
     have n0_ : Aside0 (Kd.R k57 57 w47 w.heap.size (fun k_ => some k_ ≠ (.slice (some ad313) x7_1.length co17 : Value).ownBlock ∧ k_ ≠ gb315 ∧ k_ ≠ gb316) u10 x10_2) := ⟨h0_⟩; have n1_ : Aside0 (Kd.R k57 57 w47 w.heap.size (fun k_ => some k_ ≠ (u10 : Value).ownBlock ∧ k_ ≠ gb315 ∧ k_ ≠ gb316) (.slice (some ad313) x7_1.length co17) x7_1) := ⟨h1_⟩; have n2_ : Aside0 (w47.heap[gb315]? = some (.cells #[.int .u64 0, .int .u64 0] 57 (0, 0))) := ⟨h2_⟩; have n3_ : Aside0 (w47.heap[gb316]? = some (.cells #[.int .u64 0, .int .u64 0] 57 (0, 0))) := ⟨h3_⟩; have n4_ : Aside0 (w.heap.size ≤ gb315) := ⟨h4_⟩; have n5_ : Aside0 (w.heap.size ≤ gb315) := ⟨h5_⟩; have n6_ : Aside0 (gb316 ≠ gb315) := ⟨h6_⟩; have n7_ : Aside0 (gb315 ≠ gb316) := ⟨h7_⟩; have n8_ : Aside0 (w.heap.size ≤ gb316) := ⟨h8_⟩; have n9_ : Aside0 (w.heap.size ≤ gb316) := ⟨h9_⟩; have n10_ : Aside0 (Below w.heap.size w w47) := ⟨h10_⟩; clear HO_7; clear HO_10; clear HB; clear h0_ h1_ h2_ h3_ h4_ h5_ h6_ h7_ h8_ h9_ h10_; have HO_10 := n0_; have HO_7 := n1_; have BK315 := n2_; have BK316 := n3_; have GW315 := n4_; have GE315 := n5_; have NB316_315 := n6_; have NB315_316 := n7_; have GW316 := n8_; have GE316 := n9_; have HB := n10_; clear n0_ n1_ n2_ n3_ n4_ n5_ n6_ n7_ n8_ n9_ n10_
     have hHeld : w47.cell? (ad313.add ((x11_2).toNat * 2)) = some (.int .u64 ((rd_T57 x7_1 x11_2).f0)) ∧ w47.cell? ⟨(ad313.add ((x11_2).toNat * 2)).block, (ad313.add ((x11_2).toNat * 2)).off + 1, none⟩ = some (.int .u64 ((rd_T57 x7_1 x11_2).f1)) ∧ w47.cell? (ad313.add ((x13_3).toNat * 2)) = some (.int .u64 ((rd_T57 x7_1 x13_3).f0)) ∧ w47.cell? ⟨(ad313.add ((x13_3).toNat * 2)).block, (ad313.add ((x13_3).toNat * 2)).off + 1, none⟩ = some (.int .u64 ((rd_T57 x7_1 x13_3).f1)) := hS_
     refine norm_ (a' := ?_) ?_ ?_
     rotate_left
     ·
      simp only [putAll, Act.put, List.setIfInBounds_toArray, List.set_cons_zero, List.set_cons_succ]
      rfl
     refine one_ (i := 10) (N := none) #[true, true, true, true, true, true, true, true, true, true, true, false] rfl rfl (one_of HT_.out (by kernel_rfl)) (by decide) (fun K hK => ?_)
     have hs48 : w47.cell? ⟨gb315, 0, none⟩ = some (.int .u64 0) := (blk_cell BK315.out 0).trans rfl
     have hfs48 := blk_frozen BK315.out 0; have hns48_1 := NB316_315.out; have hms48_1 := NB315_316.out
     have hs49 : w47.cell? ⟨gb315, 1, none⟩ = some (.int .u64 0) := (blk_cell BK315.out 1).trans rfl
     have hfs49 := blk_frozen BK315.out 1; have hns49_1 := NB316_315.out; have hms49_1 := NB315_316.out
     refine skip_ (w1 := ?_) (by rfl) rfl ?_ ?_
     rotate_left
     ·
      go_simp
      rfl
     refine hK.out _ _ ⟨((cell_far (p := ⟨gb315, _, none⟩) (fB (Kd.own_blk (Kd.R_away HO_7.out (fun _ hk => hk.2.1)))) _).trans (((cell_far (p := ⟨gb315, _, none⟩) (fB (Kd.own_blk (Kd.R_away HO_7.out (fun _ hk => hk.2.1)))) _).trans (hHeld.1)))), ((cell_far (p := ⟨gb315, _, none⟩) (fB (Kd.own_blk (Kd.R_away HO_7.out (fun _ hk => hk.2.1)))) _).trans (((cell_far (p := ⟨gb315, _, none⟩) (fB (Kd.own_blk (Kd.R_away HO_7.out (fun _ hk => hk.2.1)))) _).trans (hHeld.2.1)))), ((cell_far (p := ⟨gb315, _, none⟩) (fB (Kd.own_blk (Kd.R_away HO_7.out (fun _ hk => hk.2.1)))) _).trans (((cell_far (p := ⟨gb315, _, none⟩) (fB (Kd.own_blk (Kd.R_away HO_7.out (fun _ hk => hk.2.1)))) _).trans (hHeld.2.2.1)))), ((cell_far (p := ⟨gb315, _, none⟩) (fB (Kd.own_blk (Kd.R_away HO_7.out (fun _ hk => hk.2.1)))) _).trans (((cell_far (p := ⟨gb315, _, none⟩) (fB (Kd.own_blk (Kd.R_away HO_7.out (fun _ hk => hk.2.1)))) _).trans (hHeld.2.2.2))))⟩ (fun hHeld => ?_)
     clear hK K
     refine one_ (i := 11) (N := none) #[true, true, true, true, true, true, true, true, true, true, true, true] rfl rfl (one_of HT_.out (by kernel_rfl)) (by decide) (fun K hK => ?_)
     have hs50 : w47.cell? ⟨gb316, 0, none⟩ = some (.int .u64 0) := (blk_cell BK316.out 0).trans rfl
     have hfs50 := blk_frozen BK316.out 0; have hns50_0 := NB315_316.out; have hms50_0 := NB316_315.out
     have hs51 : w47.cell? ⟨gb316, 1, none⟩ = some (.int .u64 0) := (blk_cell BK316.out 1).trans rfl
     have hfs51 := blk_frozen BK316.out 1; have hns51_0 := NB315_316.out; have hms51_0 := NB316_315.out
     refine skip_ (w1 := ?_) (by rfl) rfl ?_ ?_
     rotate_left
     ·
      go_simp
      rfl
     refine hK.out _ _ ⟨((cell_far (p := ⟨gb316, _, none⟩) (fB (Kd.own_blk (Kd.R_away HO_7.out (fun _ hk => hk.2.2)))) _).trans (((cell_far (p := ⟨gb316, _, none⟩) (fB (Kd.own_blk (Kd.R_away HO_7.out (fun _ hk => hk.2.2)))) _).trans (hHeld.1)))), ((cell_far (p := ⟨gb316, _, none⟩) (fB (Kd.own_blk (Kd.R_away HO_7.out (fun _ hk => hk.2.2)))) _).trans (((cell_far (p := ⟨gb316, _, none⟩) (fB (Kd.own_blk (Kd.R_away HO_7.out (fun _ hk => hk.2.2)))) _).trans (hHeld.2.1)))), ((cell_far (p := ⟨gb316, _, none⟩) (fB (Kd.own_blk (Kd.R_away HO_7.out (fun _ hk => hk.2.2)))) _).trans (((cell_far (p := ⟨gb316, _, none⟩) (fB (Kd.own_blk (Kd.R_away HO_7.out (fun _ hk => hk.2.2)))) _).trans (hHeld.2.2.1)))), ((cell_far (p := ⟨gb316, _, none⟩) (fB (Kd.own_blk (Kd.R_away HO_7.out (fun _ hk => hk.2.2)))) _).trans (((cell_far (p := ⟨gb316, _, none⟩) (fB (Kd.own_blk (Kd.R_away HO_7.out (fun _ hk => hk.2.2)))) _).trans (hHeld.2.2.2))))⟩ (fun hHeld => ?_)
     clear hK K
     refine done_ (done_of HT_.out (by kernel_rfl)) ?_
     have hnb52 := NB315_316.out; have hnc52 := NB316_315.out
     have hcz53_0 := cz0 BK315.out
     have hcz53_1 := cz1 BK315.out
     have hfz53_0 := blk_frozen BK315.out 0; have hfz53_1 := blk_frozen BK315.out 1
     have hcz54_0 := cz0 BK316.out
     have hcz54_1 := cz1 BK316.out
     have hfz54_0 := blk_frozen BK316.out 0; have hfz54_1 := blk_frozen BK316.out 1
     try go_wp2
     go_roundg k3
     case measure => have := HK1.out; have := HK2.out; have := HK3.out; omega
     case rel => exact ⟨(x12_3), (wrap64 (x13_3 + 1)), eT, eT, H', ⟨by have := HK1.out; have := HK2.out; have := HK3.out; omega⟩, ⟨by refine oR ?_; exact Kd.R_mono (Kd.R_far (p := ⟨gb316, 1, none⟩) (Kd.R_far (p := ⟨gb316, 0, none⟩) (Kd.R_far (p := ⟨gb315, 1, none⟩) (Kd.R_far (p := ⟨gb315, 0, none⟩) (Kd.R_mono (Kd.R_mono HO_7.out (fun k_ hk => (⟨hk, hk.2.1⟩ : _ ∧ k_ ≠ gb315))) (fun k_ hk => (⟨hk, hk.1.2.2⟩ : _ ∧ k_ ≠ gb316))) (fun _ hk => hk.1.2) (.int .u64 ((rd_T57 x7_1 x11_2).f0))) (fun _ hk => hk.1.2) (.int .u64 ((rd_T57 x7_1 x11_2).f1))) (fun _ hk => hk.2) (.int .u64 ((rd_T57 x7_1 x13_3).f0))) (fun _ hk => hk.2) (.int .u64 ((rd_T57 x7_1 x13_3).f1))) (fun _ hk => hk.1.1.1)⟩, ⟨by refine oR ?_; exact Kd.R_mono (Kd.R_far (p := ⟨gb316, 1, none⟩) (Kd.R_far (p := ⟨gb316, 0, none⟩) (Kd.R_far (p := ⟨gb315, 1, none⟩) (Kd.R_far (p := ⟨gb315, 0, none⟩) (Kd.R_mono (Kd.R_mono HO_10.out (fun k_ hk => (⟨hk, hk.2.1⟩ : _ ∧ k_ ≠ gb315))) (fun k_ hk => (⟨hk, hk.1.2.2⟩ : _ ∧ k_ ≠ gb316))) (fun _ hk => hk.1.2) (.int .u64 ((rd_T57 x7_1 x11_2).f0))) (fun _ hk => hk.1.2) (.int .u64 ((rd_T57 x7_1 x11_2).f1))) (fun _ hk => hk.2) (.int .u64 ((rd_T57 x7_1 x13_3).f0))) (fun _ hk => hk.2) (.int .u64 ((rd_T57 x7_1 x13_3).f1))) (fun _ hk => hk.1.1.1)⟩, ⟨bB2 HB.out GE315.out GE316.out⟩⟩
    rw [if_pos c32] at H; have c32b0 : ((Go.bits .and .u64 ((rd_T57 x7_1 x11_2).f1) ((rd_T57 x7_1 x13_3).f1)) == ((rd_T57 x7_1 x11_2).f1)) = true := beq_iff_eq.mpr c32; have c32b1 : ((Go.bits .and .u64 ((rd_T57 x7_1 x11_2).f1) ((rd_T57 x7_1 x13_3).f1)) != ((rd_T57 x7_1 x11_2).f1)) = false := bne_eq_false_iff_eq.mpr c32; clear c32
    have H' := aM H
    clear H
    try go_wp2
    replace HO_7 := aM (Kd.R_drew HO_7.out); replace HO_10 := aM (Kd.R_drew HO_10.out); replace HB := aM (below_drew1 HB.out); have p313 : 0 ≤ (x11_2 : Int) := dT; have q313 : x11_2 < (x7_1.length : Int) := dT
    try (obtain ⟨Aoz313, coz313, eoz313⟩ := Kd.R_slice HO_7.out; subst eoz313)
    obtain ⟨ad313, e313, hx313_0, hx313_1⟩ := at_T57 (Kd.R_reads' HO_7.out).2.2 x11_2 p313 q313; cases e313; replace p313 := eq_true p313; replace q313 := eq_true q313; have p314 : 0 ≤ (x13_3 : Int) := dT; have q314 : x13_3 < (x7_1.length : Int) := dT
    try (obtain ⟨Aoz314, coz314, eoz314⟩ := Kd.R_slice HO_7.out; subst eoz314)
    obtain ⟨ad314, e314, hx314_0, hx314_1⟩ := at_T57 (Kd.R_reads' HO_7.out).2.2 x13_3 p314 q314; obtain rfl : ad313 = ad314 := (by injection e314); replace p314 := eq_true p314; replace q314 := eq_true q314
    refine start_ (n := 12) (S := fun w' => w'.cell? (ad313.add ((x11_2).toNat * 2)) = some (.int .u64 ((rd_T57 x7_1 x11_2).f0)) ∧ w'.cell? ⟨(ad313.add ((x11_2).toNat * 2)).block, (ad313.add ((x11_2).toNat * 2)).off + 1, none⟩ = some (.int .u64 ((rd_T57 x7_1 x11_2).f1)) ∧ w'.cell? (ad313.add ((x13_3).toNat * 2)) = some (.int .u64 ((rd_T57 x7_1 x13_3).f0)) ∧ w'.cell? ⟨(ad313.add ((x13_3).toNat * 2)).block, (ad313.add ((x13_3).toNat * 2)).off + 1, none⟩ = some (.int .u64 ((rd_T57 x7_1 x13_3).f1))) (ds := []) #[false, false, false, false, false, false, false, false, false, false, false, false] (by kernel_rfl) rfl rfl ⟨hx313_0, hx313_1, hx314_0, hx314_1⟩ (fun hHeld => ?_); refine with_tabW r49_Pairs.tab22 r49_Pairs.bits22 (fun HT_ HW_ => ?_)
    generalize wr.drew = w33 at HO_7 HO_10 HB hx313_0 hx313_1 hx314_0 hx314_1 hHeld ⊢
    refine pU 0 65 (any_of HT_.out (by kernel_rfl)) ?_
    refine pU 1 66 (any_of HT_.out (by kernel_rfl)) ?_
    refine pU 2 67 (any_of HT_.out (by kernel_rfl)) ?_
    refine pU 4 69 (any_of HT_.out (by kernel_rfl)) ?_
    refine pU 5 70 (any_of HT_.out (by kernel_rfl)) ?_
    refine pU 6 71 (any_of HT_.out (by kernel_rfl)) ?_
    refine tU 3 68 (take_ofW HT_.out HW_.out (by kernel_rfl)) hHeld ?_
    refine tU 7 72 (take_ofW HT_.out HW_.out (by kernel_rfl)) hHeld ?_
    refine join_ (σ := Nat × Nat) 2 #[true, true, true, true, true, true, true, true, true, true, false, false] (fun s_ => [(14, .pointer (some ⟨s_.1, 0, none⟩)), (15, .pointer (some ⟨s_.2, 0, none⟩))]) (fun s_ w' => (w'.cell? (ad313.add ((x11_2).toNat * 2)) = some (.int .u64 ((rd_T57 x7_1 x11_2).f0)) ∧ w'.cell? ⟨(ad313.add ((x11_2).toNat * 2)).block, (ad313.add ((x11_2).toNat * 2)).off + 1, none⟩ = some (.int .u64 ((rd_T57 x7_1 x11_2).f1)) ∧ w'.cell? (ad313.add ((x13_3).toNat * 2)) = some (.int .u64 ((rd_T57 x7_1 x13_3).f0)) ∧ w'.cell? ⟨(ad313.add ((x13_3).toNat * 2)).block, (ad313.add ((x13_3).toNat * 2)).off + 1, none⟩ = some (.int .u64 ((rd_T57 x7_1 x13_3).f1))) ∧ (Kd.R k57 57 w' w.heap.size (fun k_ => some k_ ≠ (.slice (some ad313) x7_1.length co17 : Value).ownBlock ∧ k_ ≠ s_.1 ∧ k_ ≠ s_.2) u10 x10_2) ∧ (Kd.R k57 57 w' w.heap.size (fun k_ => some k_ ≠ (u10 : Value).ownBlock ∧ k_ ≠ s_.1 ∧ k_ ≠ s_.2) (.slice (some ad313) x7_1.length co17) x7_1) ∧ (w'.heap[s_.1]? = some (.cells #[.int .u64 0, .int .u64 0] 57 (0, 0))) ∧ (w'.heap[s_.2]? = some (.cells #[.int .u64 0, .int .u64 0] 57 (0, 0))) ∧ (w.heap.size ≤ s_.1) ∧ (w.heap.size ≤ s_.1) ∧ (s_.2 ≠ s_.1) ∧ (s_.1 ≠ s_.2) ∧ (w.heap.size ≤ s_.2) ∧ (w.heap.size ≤ s_.2) ∧ (Below w.heap.size w w')) ?_ ?_
    rotate_left
    ·
     intro hCont
     refine two_ (i := 8) (j := 9) (Ni := some 14) (Nj := some 15) #[true, true, true, true, true, true, true, true, true, false, false, false] #[true, true, true, true, true, true, true, true, false, true, false, false] rfl rfl rfl rfl (two_of HT_.out (by kernel_rfl)) (by decide) (by decide) (fun K hK => ?_) (fun K hK => ?_)
     ·
      skip
      refine box_step ?hg (N := 14) ?hd (cs := #[.int .u64 0, .int .u64 0]) (t := 57) ?hr ?_; (case hd => rfl); (case hg => rfl); (case hr => first | (go_simp; done) | (go_simp; rfl))
      intro gb315 hg w34 hbox hb
      have HS0_ := (hb.cell (World.block_lt_of_cell? _ _ (hHeld.1))).trans (hHeld.1); have HS1_ := (hb.cell (World.block_lt_of_cell? _ _ (hHeld.2.1))).trans (hHeld.2.1); have HS2_ := (hb.cell (World.block_lt_of_cell? _ _ (hHeld.2.2.1))).trans (hHeld.2.2.1); have HS3_ := (hb.cell (World.block_lt_of_cell? _ _ (hHeld.2.2.2))).trans (hHeld.2.2.2); replace HO_7 := aM (Kd.R_below (Kd.R_elderB (oR HO_7.out) gb315 (Nat.le_of_eq hg.symm)) hb); replace HO_10 := aM (Kd.R_below (Kd.R_elderB (oR HO_10.out) gb315 (Nat.le_of_eq hg.symm)) hb); have BK315 := aM (hbox); have GW315 := aM (gE hg (below_size (bB HB.out))); have GE315 := GW315; replace HB := aM (below_step (bB HB.out) hb); clear hb hbox hg
      refine hK.out _ _ ⟨HS0_, HS1_, HS2_, HS3_⟩ (fun hHeld => ?_)
      clear hK K
      refine nU 14 ?_
      refine one_ (i := 9) (N := some 15) #[true, true, true, true, true, true, true, true, true, true, false, false] rfl rfl (one_of HT_.out (by kernel_rfl)) (by decide) (fun K hK => ?_)
      refine box_step ?hg (N := 15) ?hd (cs := #[.int .u64 0, .int .u64 0]) (t := 57) ?hr ?_; (case hd => rfl); (case hg => rfl); (case hr => first | (go_simp; done) | (go_simp; rfl))
      intro gb316 hg w35 hbox hb
      have HS0_ := (hb.cell (World.block_lt_of_cell? _ _ (hHeld.1))).trans (hHeld.1); have HS1_ := (hb.cell (World.block_lt_of_cell? _ _ (hHeld.2.1))).trans (hHeld.2.1); have HS2_ := (hb.cell (World.block_lt_of_cell? _ _ (hHeld.2.2.1))).trans (hHeld.2.2.1); have HS3_ := (hb.cell (World.block_lt_of_cell? _ _ (hHeld.2.2.2))).trans (hHeld.2.2.2); replace HO_7 := aM (Kd.R_below (Kd.R_elderB (oR HO_7.out) gb316 (Nat.le_of_eq hg.symm)) hb); replace HO_10 := aM (Kd.R_below (Kd.R_elderB (oR HO_10.out) gb316 (Nat.le_of_eq hg.symm)) hb); have BK316 := aM (hbox); have GW316 := aM (gE hg (below_size (bB1 HB.out GE315.out))); have GE316 := GW316; replace HB := aM (below_step (bB1 HB.out GE315.out) hb); have NB315_316 := aM (gL hg (kL BK315.out)); have NB316_315 := aM (gG hg (kL BK315.out)); replace BK315 := aM (kW BK315.out hb); clear hb hbox hg
      refine hK.out _ _ ⟨HS0_, HS1_, HS2_, HS3_⟩ (fun hHeld => ?_)
      clear hK K
      refine nU 15 ?_
      exact norm_ (by simp only [putAll, Act.put, List.setIfInBounds_toArray, List.set_cons_zero, List.set_cons_succ]) (hCont (gb315, gb316) _ ⟨hHeld, (by refine oR ?_; exact Kd.R_mono HO_10.out (fun _ hk => ⟨hk.1.1, ⟨hk.1.2, hk.2⟩⟩)), (by refine oR ?_; exact Kd.R_mono HO_7.out (fun _ hk => ⟨hk.1.1, ⟨hk.1.2, hk.2⟩⟩)), (kB BK315.out), (kB BK316.out), GW315.out, GE315.out, NB316_315.out, NB315_316.out, GW316.out, GE316.out, (bB2 HB.out GE315.out GE316.out)⟩)
     ·
      skip
      refine box_step ?hg (N := 15) ?hd (cs := #[.int .u64 0, .int .u64 0]) (t := 57) ?hr ?_; (case hd => rfl); (case hg => rfl); (case hr => first | (go_simp; done) | (go_simp; rfl))
      intro gb316 hg w34 hbox hb
      have HS0_ := (hb.cell (World.block_lt_of_cell? _ _ (hHeld.1))).trans (hHeld.1); have HS1_ := (hb.cell (World.block_lt_of_cell? _ _ (hHeld.2.1))).trans (hHeld.2.1); have HS2_ := (hb.cell (World.block_lt_of_cell? _ _ (hHeld.2.2.1))).trans (hHeld.2.2.1); have HS3_ := (hb.cell (World.block_lt_of_cell? _ _ (hHeld.2.2.2))).trans (hHeld.2.2.2); replace HO_7 := aM (Kd.R_below (Kd.R_elderB (oR HO_7.out) gb316 (Nat.le_of_eq hg.symm)) hb); replace HO_10 := aM (Kd.R_below (Kd.R_elderB (oR HO_10.out) gb316 (Nat.le_of_eq hg.symm)) hb); have BK316 := aM (hbox); have GW316 := aM (gE hg (below_size (bB HB.out))); have GE316 := GW316; replace HB := aM (below_step (bB HB.out) hb); clear hb hbox hg
      refine hK.out _ _ ⟨HS0_, HS1_, HS2_, HS3_⟩ (fun hHeld => ?_)
      clear hK K
      refine nU 15 ?_
      refine one_ (i := 8) (N := some 14) #[true, true, true, true, true, true, true, true, true, true, false, false] rfl rfl (one_of HT_.out (by kernel_rfl)) (by decide) (fun K hK => ?_)
      refine box_step ?hg (N := 14) ?hd (cs := #[.int .u64 0, .int .u64 0]) (t := 57) ?hr ?_; (case hd => rfl); (case hg => rfl); (case hr => first | (go_simp; done) | (go_simp; rfl))
      intro gb315 hg w35 hbox hb
      have HS0_ := (hb.cell (World.block_lt_of_cell? _ _ (hHeld.1))).trans (hHeld.1); have HS1_ := (hb.cell (World.block_lt_of_cell? _ _ (hHeld.2.1))).trans (hHeld.2.1); have HS2_ := (hb.cell (World.block_lt_of_cell? _ _ (hHeld.2.2.1))).trans (hHeld.2.2.1); have HS3_ := (hb.cell (World.block_lt_of_cell? _ _ (hHeld.2.2.2))).trans (hHeld.2.2.2); replace HO_7 := aM (Kd.R_below (Kd.R_elderB (oR HO_7.out) gb315 (Nat.le_of_eq hg.symm)) hb); replace HO_10 := aM (Kd.R_below (Kd.R_elderB (oR HO_10.out) gb315 (Nat.le_of_eq hg.symm)) hb); have BK315 := aM (hbox); have GW315 := aM (gE hg (below_size (bB1 HB.out GE316.out))); have GE315 := GW315; replace HB := aM (below_step (bB1 HB.out GE316.out) hb); have NB316_315 := aM (gL hg (kL BK316.out)); have NB315_316 := aM (gG hg (kL BK316.out)); replace BK316 := aM (kW BK316.out hb); clear hb hbox hg
      refine hK.out _ _ ⟨HS0_, HS1_, HS2_, HS3_⟩ (fun hHeld => ?_)
      clear hK K
      refine nU 14 ?_
      exact norm_ (by simp only [putAll, Act.put, List.setIfInBounds_toArray, List.set_cons_zero, List.set_cons_succ]) (hCont (gb315, gb316) _ ⟨hHeld, (by refine oR ?_; exact Kd.R_mono HO_10.out (fun _ hk => ⟨hk.1.1, ⟨hk.2, hk.1.2⟩⟩)), (by refine oR ?_; exact Kd.R_mono HO_7.out (fun _ hk => ⟨hk.1.1, ⟨hk.2, hk.1.2⟩⟩)), (kB BK315.out), (kB BK316.out), GW315.out, GE315.out, NB316_315.out, NB315_316.out, GW316.out, GE316.out, (bB2 HB.out GE316.out GE315.out)⟩)
    rintro ⟨gb315, gb316⟩ w36 ⟨hS_, h0_, h1_, h2_, h3_, h4_, h5_, h6_, h7_, h8_, h9_, h10_⟩
    have n0_ : Aside0 (Kd.R k57 57 w36 w.heap.size (fun k_ => some k_ ≠ (.slice (some ad313) x7_1.length co17 : Value).ownBlock ∧ k_ ≠ gb315 ∧ k_ ≠ gb316) u10 x10_2) := ⟨h0_⟩; have n1_ : Aside0 (Kd.R k57 57 w36 w.heap.size (fun k_ => some k_ ≠ (u10 : Value).ownBlock ∧ k_ ≠ gb315 ∧ k_ ≠ gb316) (.slice (some ad313) x7_1.length co17) x7_1) := ⟨h1_⟩; have n2_ : Aside0 (w36.heap[gb315]? = some (.cells #[.int .u64 0, .int .u64 0] 57 (0, 0))) := ⟨h2_⟩; have n3_ : Aside0 (w36.heap[gb316]? = some (.cells #[.int .u64 0, .int .u64 0] 57 (0, 0))) := ⟨h3_⟩; have n4_ : Aside0 (w.heap.size ≤ gb315) := ⟨h4_⟩; have n5_ : Aside0 (w.heap.size ≤ gb315) := ⟨h5_⟩; have n6_ : Aside0 (gb316 ≠ gb315) := ⟨h6_⟩; have n7_ : Aside0 (gb315 ≠ gb316) := ⟨h7_⟩; have n8_ : Aside0 (w.heap.size ≤ gb316) := ⟨h8_⟩; have n9_ : Aside0 (w.heap.size ≤ gb316) := ⟨h9_⟩; have n10_ : Aside0 (Below w.heap.size w w36) := ⟨h10_⟩; clear HO_7; clear HO_10; clear HB; clear h0_ h1_ h2_ h3_ h4_ h5_ h6_ h7_ h8_ h9_ h10_; have HO_10 := n0_; have HO_7 := n1_; have BK315 := n2_; have BK316 := n3_; have GW315 := n4_; have GE315 := n5_; have NB316_315 := n6_; have NB315_316 := n7_; have GW316 := n8_; have GE316 := n9_; have HB := n10_; clear n0_ n1_ n2_ n3_ n4_ n5_ n6_ n7_ n8_ n9_ n10_
    have hHeld : w36.cell? (ad313.add ((x11_2).toNat * 2)) = some (.int .u64 ((rd_T57 x7_1 x11_2).f0)) ∧ w36.cell? ⟨(ad313.add ((x11_2).toNat * 2)).block, (ad313.add ((x11_2).toNat * 2)).off + 1, none⟩ = some (.int .u64 ((rd_T57 x7_1 x11_2).f1)) ∧ w36.cell? (ad313.add ((x13_3).toNat * 2)) = some (.int .u64 ((rd_T57 x7_1 x13_3).f0)) ∧ w36.cell? ⟨(ad313.add ((x13_3).toNat * 2)).block, (ad313.add ((x13_3).toNat * 2)).off + 1, none⟩ = some (.int .u64 ((rd_T57 x7_1 x13_3).f1)) := hS_
    refine norm_ (a' := ?_) ?_ ?_
    rotate_left
    ·
     simp only [putAll, Act.put, List.setIfInBounds_toArray, List.set_cons_zero, List.set_cons_succ]
     rfl
    refine one_ (i := 10) (N := none) #[true, true, true, true, true, true, true, true, true, true, true, false] rfl rfl (one_of HT_.out (by kernel_rfl)) (by decide) (fun K hK => ?_)
    have hs37 : w36.cell? ⟨gb315, 0, none⟩ = some (.int .u64 0) := (blk_cell BK315.out 0).trans rfl
    have hfs37 := blk_frozen BK315.out 0; have hns37_1 := NB316_315.out; have hms37_1 := NB315_316.out
    have hs38 : w36.cell? ⟨gb315, 1, none⟩ = some (.int .u64 0) := (blk_cell BK315.out 1).trans rfl
    have hfs38 := blk_frozen BK315.out 1; have hns38_1 := NB316_315.out; have hms38_1 := NB315_316.out
    refine skip_ (w1 := ?_) (by rfl) rfl ?_ ?_
    rotate_left
    ·
     go_simp
     rfl
    refine hK.out _ _ ⟨((cell_far (p := ⟨gb315, _, none⟩) (fB (Kd.own_blk (Kd.R_away HO_7.out (fun _ hk => hk.2.1)))) _).trans (((cell_far (p := ⟨gb315, _, none⟩) (fB (Kd.own_blk (Kd.R_away HO_7.out (fun _ hk => hk.2.1)))) _).trans (hHeld.1)))), ((cell_far (p := ⟨gb315, _, none⟩) (fB (Kd.own_blk (Kd.R_away HO_7.out (fun _ hk => hk.2.1)))) _).trans (((cell_far (p := ⟨gb315, _, none⟩) (fB (Kd.own_blk (Kd.R_away HO_7.out (fun _ hk => hk.2.1)))) _).trans (hHeld.2.1)))), ((cell_far (p := ⟨gb315, _, none⟩) (fB (Kd.own_blk (Kd.R_away HO_7.out (fun _ hk => hk.2.1)))) _).trans (((cell_far (p := ⟨gb315, _, none⟩) (fB (Kd.own_blk (Kd.R_away HO_7.out (fun _ hk => hk.2.1)))) _).trans (hHeld.2.2.1)))), ((cell_far (p := ⟨gb315, _, none⟩) (fB (Kd.own_blk (Kd.R_away HO_7.out (fun _ hk => hk.2.1)))) _).trans (((cell_far (p := ⟨gb315, _, none⟩) (fB (Kd.own_blk (Kd.R_away HO_7.out (fun _ hk => hk.2.1)))) _).trans (hHeld.2.2.2))))⟩ (fun hHeld => ?_)
    clear hK K
    refine one_ (i := 11) (N := none) #[true, true, true, true, true, true, true, true, true, true, true, true] rfl rfl (one_of HT_.out (by kernel_rfl)) (by decide) (fun K hK => ?_)
    have hs39 : w36.cell? ⟨gb316, 0, none⟩ = some (.int .u64 0) := (blk_cell BK316.out 0).trans rfl
    have hfs39 := blk_frozen BK316.out 0; have hns39_0 := NB315_316.out; have hms39_0 := NB316_315.out
    have hs40 : w36.cell? ⟨gb316, 1, none⟩ = some (.int .u64 0) := (blk_cell BK316.out 1).trans rfl
    have hfs40 := blk_frozen BK316.out 1; have hns40_0 := NB315_316.out; have hms40_0 := NB316_315.out
    refine skip_ (w1 := ?_) (by rfl) rfl ?_ ?_
    rotate_left
    ·
     go_simp
     rfl
    refine hK.out _ _ ⟨((cell_far (p := ⟨gb316, _, none⟩) (fB (Kd.own_blk (Kd.R_away HO_7.out (fun _ hk => hk.2.2)))) _).trans (((cell_far (p := ⟨gb316, _, none⟩) (fB (Kd.own_blk (Kd.R_away HO_7.out (fun _ hk => hk.2.2)))) _).trans (hHeld.1)))), ((cell_far (p := ⟨gb316, _, none⟩) (fB (Kd.own_blk (Kd.R_away HO_7.out (fun _ hk => hk.2.2)))) _).trans (((cell_far (p := ⟨gb316, _, none⟩) (fB (Kd.own_blk (Kd.R_away HO_7.out (fun _ hk => hk.2.2)))) _).trans (hHeld.2.1)))), ((cell_far (p := ⟨gb316, _, none⟩) (fB (Kd.own_blk (Kd.R_away HO_7.out (fun _ hk => hk.2.2)))) _).trans (((cell_far (p := ⟨gb316, _, none⟩) (fB (Kd.own_blk (Kd.R_away HO_7.out (fun _ hk => hk.2.2)))) _).trans (hHeld.2.2.1)))), ((cell_far (p := ⟨gb316, _, none⟩) (fB (Kd.own_blk (Kd.R_away HO_7.out (fun _ hk => hk.2.2)))) _).trans (((cell_far (p := ⟨gb316, _, none⟩) (fB (Kd.own_blk (Kd.R_away HO_7.out (fun _ hk => hk.2.2)))) _).trans (hHeld.2.2.2))))⟩ (fun hHeld => ?_)
    clear hK K
    refine done_ (done_of HT_.out (by kernel_rfl)) ?_
    have hnb41 := NB315_316.out; have hnc41 := NB316_315.out
    have hcz42_0 := cz0 BK315.out
    have hcz42_1 := cz1 BK315.out
    have hfz42_0 := blk_frozen BK315.out 0; have hfz42_1 := blk_frozen BK315.out 1
    have hcz43_0 := cz0 BK316.out
    have hcz43_1 := cz1 BK316.out
    have hfz43_0 := blk_frozen BK316.out 0; have hfz43_1 := blk_frozen BK316.out 1
    try go_wp2
    go_roundg k3
    case measure => have := HK1.out; have := HK2.out; have := HK3.out; omega
    case rel => exact ⟨(false), (wrap64 (x13_3 + 1)), eT, eT, H', ⟨by have := HK1.out; have := HK2.out; have := HK3.out; omega⟩, ⟨by refine oR ?_; exact Kd.R_mono (Kd.R_far (p := ⟨gb316, 1, none⟩) (Kd.R_far (p := ⟨gb316, 0, none⟩) (Kd.R_far (p := ⟨gb315, 1, none⟩) (Kd.R_far (p := ⟨gb315, 0, none⟩) (Kd.R_mono (Kd.R_mono HO_7.out (fun k_ hk => (⟨hk, hk.2.1⟩ : _ ∧ k_ ≠ gb315))) (fun k_ hk => (⟨hk, hk.1.2.2⟩ : _ ∧ k_ ≠ gb316))) (fun _ hk => hk.1.2) (.int .u64 ((rd_T57 x7_1 x11_2).f0))) (fun _ hk => hk.1.2) (.int .u64 ((rd_T57 x7_1 x11_2).f1))) (fun _ hk => hk.2) (.int .u64 ((rd_T57 x7_1 x13_3).f0))) (fun _ hk => hk.2) (.int .u64 ((rd_T57 x7_1 x13_3).f1))) (fun _ hk => hk.1.1.1)⟩, ⟨by refine oR ?_; exact Kd.R_mono (Kd.R_far (p := ⟨gb316, 1, none⟩) (Kd.R_far (p := ⟨gb316, 0, none⟩) (Kd.R_far (p := ⟨gb315, 1, none⟩) (Kd.R_far (p := ⟨gb315, 0, none⟩) (Kd.R_mono (Kd.R_mono HO_10.out (fun k_ hk => (⟨hk, hk.2.1⟩ : _ ∧ k_ ≠ gb315))) (fun k_ hk => (⟨hk, hk.1.2.2⟩ : _ ∧ k_ ≠ gb316))) (fun _ hk => hk.1.2) (.int .u64 ((rd_T57 x7_1 x11_2).f0))) (fun _ hk => hk.1.2) (.int .u64 ((rd_T57 x7_1 x11_2).f1))) (fun _ hk => hk.2) (.int .u64 ((rd_T57 x7_1 x13_3).f0))) (fun _ hk => hk.2) (.int .u64 ((rd_T57 x7_1 x13_3).f1))) (fun _ hk => hk.1.1.1)⟩, ⟨bB2 HB.out GE315.out GE316.out⟩⟩


/-! ### r04_Number: function 31 -/
mutual
def r04_Number.l0 : Nat → Int → ByteArray → Int → Option (ByteArray)
 | 0, _, _, _ => none
 | k + 1, x0, x3, x4 => if x4 = 0 then (r04_Number.j1 k x0 x3 x4 (x3.toList == ([] : List UInt8))) else (r04_Number.j1 k x0 x3 x4 true)
def r04_Number.j1 : Nat → Int → ByteArray → Int → Bool → Option (ByteArray)
 | 0, _, _, _, _ => none
 | k + 1, x0, x3, x4, x12 => if x12 = true then (if (Int.tmod x4 10) < 0 then (if 0 ≤ (wrap64 (-(Int.tmod x4 10))) then (if (wrap64 (-(Int.tmod x4 10))) ≤ (wrap64 ((wrap64 (-(Int.tmod x4 10))) + 1)) then (if (wrap64 ((wrap64 (-(Int.tmod x4 10))) + 1)) ≤ 10 then (if ((⟨#[48, 49, 50, 51, 52, 53, 54, 55, 56, 57]⟩ : ByteArray).extract ((wrap64 (-(Int.tmod x4 10))) : Int).toNat ((wrap64 ((wrap64 (-(Int.tmod x4 10))) + 1)) : Int).toNat).size + x3.size ≤ 9223372036854775807 then (r04_Number.l0 k x0 (((⟨#[48, 49, 50, 51, 52, 53, 54, 55, 56, 57]⟩ : ByteArray).extract ((wrap64 (-(Int.tmod x4 10))) : Int).toNat ((wrap64 ((wrap64 (-(Int.tmod x4 10))) + 1)) : Int).toNat) ++ x3) (wrap64 (Int.tdiv x4 10))) else (none)) else (none)) else (none)) else (none)) else (if 0 ≤ (Int.tmod x4 10) then (if (Int.tmod x4 10) ≤ (wrap64 ((Int.tmod x4 10) + 1)) then (if (wrap64 ((Int.tmod x4 10) + 1)) ≤ 10 then (if ((⟨#[48, 49, 50, 51, 52, 53, 54, 55, 56, 57]⟩ : ByteArray).extract ((Int.tmod x4 10) : Int).toNat ((wrap64 ((Int.tmod x4 10) + 1)) : Int).toNat).size + x3.size ≤ 9223372036854775807 then (r04_Number.l0 k x0 (((⟨#[48, 49, 50, 51, 52, 53, 54, 55, 56, 57]⟩ : ByteArray).extract ((Int.tmod x4 10) : Int).toNat ((wrap64 ((Int.tmod x4 10) + 1)) : Int).toNat) ++ x3) (wrap64 (Int.tdiv x4 10))) else (none)) else (none)) else (none)) else (none))) else (if x0 < 0 then (if 1 + x3.size ≤ 9223372036854775807 then (some ((⟨#[45]⟩ : ByteArray) ++ x3)) else (none)) else (some x3))
end
def r04_Number.f (k : Nat) (a0 : Int) : Option (ByteArray) := r04_Number.l0 k a0 (⟨#[]⟩ : ByteArray) a0
theorem r04_Number.mono_l : ∀ k, (∀ y0 y1 y2, LeO (r04_Number.l0 k y0 y1 y2) (r04_Number.l0 (k + 1) y0 y1 y2)) ∧ (∀ y0 y1 y2 y3, LeO (r04_Number.j1 k y0 y1 y2 y3) (r04_Number.j1 (k + 1) y0 y1 y2 y3))
 | 0 => ⟨fun _ _ _ r h => by simp [r04_Number.l0] at h, fun _ _ _ _ r h => by simp [r04_Number.j1] at h⟩
 | k + 1 => by
  obtain ⟨ih0, ih1⟩ := r04_Number.mono_l k
  refine ⟨?_, ?_⟩ <;> intros <;> (first | unfold r04_Number.l0 | unfold r04_Number.j1)
  all_goals repeat' first
   | (with_reducible first | apply ih0 | apply ih1 | exact LeO.refl _ | exact LeO.none _ | refine LeO.ite ?_ ?_ | refine LeO.bind ?_ (fun _ => ?_))
theorem r04_Number.mono : ∀ a0 k, LeO (r04_Number.f k a0) (r04_Number.f (k + 1) a0) := by
 intro a0 k
 obtain ⟨ih0, ih1⟩ := r04_Number.mono_l k
 unfold r04_Number.f
 repeat' first
   | (with_reducible first | apply ih0 | apply ih1 | exact LeO.refl _ | exact LeO.none _ | refine LeO.ite ?_ ?_ | refine LeO.bind ?_ (fun _ => ?_))
set_option maxHeartbeats 8000000 in
set_option maxRecDepth 100000 in
theorem r04_Number.calls (k : Nat) (a0 : Int) (r : ByteArray) (w : World) (h : r04_Number.f k a0 = some r) :
  Calls Tryd.prog 31 #[.int .i64 a0] w fun e w' => e = .returned (.string r) ∧ Drawn0 w w' := by
 have H : (r04_Number.l0 k a0 (⟨#[]⟩ : ByteArray) a0) = some r := h
 clear h
 have H' := aM H
 clear H
 go_enter Tryd.func31, Tryd.ntmps31
 go_wp2
 go_loopg [3, 4] k (fun kq v3 v4 w' => ∃ (x3_1 : ByteArray) (x4_1 : Int), v3 = .string x3_1 ∧ v4 = .int .i64 x4_1 ∧ Aside0 (r04_Number.l0 kq a0 x3_1 x4_1 = some r) ∧ Aside0 (kq ≤ k) ∧ Drawn0 w w')
 case atStart => exact ⟨((⟨#[]⟩ : ByteArray)), (a0), eT, eT, H', ⟨Nat.le_refl _⟩, by repeat (first | exact Drawn0.refl _ | apply Drawn0.step)⟩
 clear H'
 obtain ⟨x3_1, x4_1, rfl, rfl, HA, HK1, ⟨m1, rfl⟩⟩ := hrel
 cases gk with
 | zero => exact absurd HA.out (by simp [r04_Number.l0])
 | succ k1 =>
  have H := HA.out; clear HA
  simp only [r04_Number.l0] at H
  have HC2 := aM H; clear H
  go_upto_region 3 with (fail)
  go_cut [12] (fun v12 wc => ∃ (kq : Nat) (x12_1 : Bool), v12 = .bool x12_1 ∧ Aside0 (r04_Number.j1 kq a0 x3_1 x4_1 x12_1 = some r) ∧ Aside0 (kq ≤ k1) ∧ Drawn0 w wc)
  case first =>
   have H := HC2.out; clear HC2
   by_cases c3 : x4_1 = 0
   rotate_left
   ·
    rw [if_neg c3] at H
    have c3b0 : (x4_1 == 0) = false := beq_eq_false_iff_ne.mpr c3; have c3b1 : (x4_1 != 0) = true := bne_iff_ne.mpr c3
    (first | rw [c3b0] | (simp only [i64_w, i32_w]; rw [c3b0]) | skip)
    have H' := aM H
    clear H
    go_wp2
    go_meet
    case rel => exact ⟨_, (true), eT, H', ⟨by have := HK1.out; first | omega | exact Nat.le_refl _⟩, by repeat (first | exact Drawn0.refl _ | apply Drawn0.step)⟩
   rw [if_pos c3] at H; have c3b0 : (x4_1 == 0) = true := beq_iff_eq.mpr c3; have c3b1 : (x4_1 != 0) = false := bne_eq_false_iff_eq.mpr c3; clear c3
   (first | rw [c3b0] | (simp only [i64_w, i32_w]; rw [c3b0]) | skip)
   have H' := aM H
   clear H
   go_wp2
   go_meet
   case rel => exact ⟨_, ((x3_1.toList == ([] : List UInt8))), eT, H', ⟨by have := HK1.out; first | omega | exact Nat.le_refl _⟩, by repeat (first | exact Drawn0.refl _ | apply Drawn0.step)⟩
  clear HC2
  obtain ⟨kq, x12_1, rfl, HA, HJ1, ⟨mc1, rfl⟩⟩ := hcut
  cases kq with
  | zero => exact absurd HA.out (by simp [r04_Number.j1])
  | succ kj1 =>
   have H := HA.out; clear HA
   simp only [r04_Number.j1] at H
   by_cases c4 : x12_1 = true
   rotate_left
   ·
    replace c4 := Bool.eq_false_iff.mpr c4
    subst c4
    have H1 : (if a0 < 0 then (if 1 + x3_1.size ≤ 9223372036854775807 then (some ((⟨#[45]⟩ : ByteArray) ++ x3_1)) else (none)) else (some x3_1)) = some r := by rw [if_neg (show ¬ (false = true) by decide)] at H; exact H
    clear H; have H := H1; clear H1
    by_cases c16 : a0 < 0
    rotate_left
    ·
     rw [if_neg c16] at H
     have c16b0 := decide_eq_false c16; clear c16
     obtain rfl := Option.some.inj H
     go_wp2
     go_ret
     exact ⟨by first | rfl | (simp; done) | (simp [*]; done), by repeat (first | exact Drawn0.refl _ | apply Drawn0.step)⟩


    rw [if_pos c16] at H; have c16b0 := decide_eq_true c16; clear c16
    obtain ⟨c17, H⟩ := iP H; have c17b0 := eq_true c17; have c17b1 : decide (1 + x3_1.size ≤ 9223372036854775807) = true := decide_eq_true c17
    try have c17b2 : (9223372036854775807 < 1 + x3_1.size) = False := eq_false (Nat.not_lt.2 c17)
    obtain rfl := Option.some.inj H
    go_wp2
    go_ret
    exact ⟨by first | rfl | (simp; done) | (simp [*]; done), by repeat (first | exact Drawn0.refl _ | apply Drawn0.step)⟩
   subst c4
   have H1 : (if (Int.tmod x4_1 10) < 0 then (if 0 ≤ (wrap64 (-(Int.tmod x4_1 10))) then (if (wrap64 (-(Int.tmod x4_1 10))) ≤ (wrap64 ((wrap64 (-(Int.tmod x4_1 10))) + 1)) then (if (wrap64 ((wrap64 (-(Int.tmod x4_1 10))) + 1)) ≤ 10 then (if ((⟨#[48, 49, 50, 51, 52, 53, 54, 55, 56, 57]⟩ : ByteArray).extract ((wrap64 (-(Int.tmod x4_1 10))) : Int).toNat ((wrap64 ((wrap64 (-(Int.tmod x4_1 10))) + 1)) : Int).toNat).size + x3_1.size ≤ 9223372036854775807 then (r04_Number.l0 kj1 a0 (((⟨#[48, 49, 50, 51, 52, 53, 54, 55, 56, 57]⟩ : ByteArray).extract ((wrap64 (-(Int.tmod x4_1 10))) : Int).toNat ((wrap64 ((wrap64 (-(Int.tmod x4_1 10))) + 1)) : Int).toNat) ++ x3_1) (wrap64 (Int.tdiv x4_1 10))) else (none)) else (none)) else (none)) else (none)) else (if 0 ≤ (Int.tmod x4_1 10) then (if (Int.tmod x4_1 10) ≤ (wrap64 ((Int.tmod x4_1 10) + 1)) then (if (wrap64 ((Int.tmod x4_1 10) + 1)) ≤ 10 then (if ((⟨#[48, 49, 50, 51, 52, 53, 54, 55, 56, 57]⟩ : ByteArray).extract ((Int.tmod x4_1 10) : Int).toNat ((wrap64 ((Int.tmod x4_1 10) + 1)) : Int).toNat).size + x3_1.size ≤ 9223372036854775807 then (r04_Number.l0 kj1 a0 (((⟨#[48, 49, 50, 51, 52, 53, 54, 55, 56, 57]⟩ : ByteArray).extract ((Int.tmod x4_1 10) : Int).toNat ((wrap64 ((Int.tmod x4_1 10) + 1)) : Int).toNat) ++ x3_1) (wrap64 (Int.tdiv x4_1 10))) else (none)) else (none)) else (none)) else (none))) = some r := by rw [if_pos rfl] at H; exact H
   clear H; have H := H1; clear H1
   by_cases c5 : (Int.tmod x4_1 10) < 0
   rotate_left
   ·
    rw [if_neg c5] at H
    have c5b0 := decide_eq_false c5; clear c5
    obtain ⟨ji11, hji11⟩ : ∃ j_ : Int, (Int.tmod x4_1 10) = j_ := ⟨_, rfl⟩
    replace H : (if 0 ≤ (ji11) then (if (ji11) ≤ (wrap64 ((ji11) + 1)) then (if (wrap64 ((ji11) + 1)) ≤ 10 then (if ((⟨#[48, 49, 50, 51, 52, 53, 54, 55, 56, 57]⟩ : ByteArray).extract ((ji11) : Int).toNat ((wrap64 ((ji11) + 1)) : Int).toNat).size + x3_1.size ≤ 9223372036854775807 then (r04_Number.l0 kj1 a0 (((⟨#[48, 49, 50, 51, 52, 53, 54, 55, 56, 57]⟩ : ByteArray).extract ((ji11) : Int).toNat ((wrap64 ((ji11) + 1)) : Int).toNat) ++ x3_1) (wrap64 (Int.tdiv x4_1 10))) else (none)) else (none)) else (none)) else (none)) = some r := by first | (rw [hji11] at H; exact H) | (simp only [hji11] at H ⊢; exact H)
    (try rw [hji11] at c5b0)
    obtain ⟨c12, H⟩ := iP H; have c12b0 := eq_true c12; have c12b1 := decide_eq_true c12; clear c12
    obtain ⟨c13, H⟩ := iP H; have c13b0 := eq_true c13; have c13b1 : decide ((ji11) ≤ (wrap64 ((ji11) + 1))) = true := decide_eq_true c13
    obtain ⟨c14, H⟩ := iP H; have c14b0 := eq_true c14; have c14b1 : decide ((wrap64 ((ji11) + 1)) ≤ 10) = true := decide_eq_true c14
    obtain ⟨c15, H⟩ := iP H; have c15b0 := eq_true c15
    have c15b1 : decide (((⟨#[48, 49, 50, 51, 52, 53, 54, 55, 56, 57]⟩ : ByteArray).extract ((ji11) : Int).toNat ((wrap64 ((ji11) + 1)) : Int).toNat).size + x3_1.size ≤ 9223372036854775807) = true := decide_eq_true c15
    try have c15b2 : (9223372036854775807 < ((⟨#[48, 49, 50, 51, 52, 53, 54, 55, 56, 57]⟩ : ByteArray).extract ((ji11) : Int).toNat ((wrap64 ((ji11) + 1)) : Int).toNat).size + x3_1.size) = False := eq_false (Nat.not_lt.2 c15)
    have H' := aM H
    clear H
    go_wp2
    go_roundg kj1
    case measure => have := HK1.out; have := HJ1.out; omega
    case rel => exact ⟨(((⟨#[48, 49, 50, 51, 52, 53, 54, 55, 56, 57]⟩ : ByteArray).extract ((ji11) : Int).toNat ((wrap64 ((ji11) + 1)) : Int).toNat) ++ x3_1), (wrap64 (Int.tdiv x4_1 10)), (by first | rfl | (simp; done) | (simp only [← hji11] <;> (first | rfl | simp)) | (simp [*]; done)), eT, H', ⟨by have := HK1.out; have := HJ1.out; omega⟩, by repeat (first | exact Drawn0.refl _ | apply Drawn0.step)⟩
   rw [if_pos c5] at H; have c5b0 := decide_eq_true c5; clear c5
   obtain ⟨ji6, hji6⟩ : ∃ j_ : Int, (wrap64 (-(Int.tmod x4_1 10))) = j_ := ⟨_, rfl⟩
   replace H : (if 0 ≤ (ji6) then (if (ji6) ≤ (wrap64 ((ji6) + 1)) then (if (wrap64 ((ji6) + 1)) ≤ 10 then (if ((⟨#[48, 49, 50, 51, 52, 53, 54, 55, 56, 57]⟩ : ByteArray).extract ((ji6) : Int).toNat ((wrap64 ((ji6) + 1)) : Int).toNat).size + x3_1.size ≤ 9223372036854775807 then (r04_Number.l0 kj1 a0 (((⟨#[48, 49, 50, 51, 52, 53, 54, 55, 56, 57]⟩ : ByteArray).extract ((ji6) : Int).toNat ((wrap64 ((ji6) + 1)) : Int).toNat) ++ x3_1) (wrap64 (Int.tdiv x4_1 10))) else (none)) else (none)) else (none)) else (none)) = some r := by first | (rw [hji6] at H; exact H) | (simp only [hji6] at H ⊢; exact H)
   have hji6w : (IntKind.i64.wrap (-(Int.tmod x4_1 10))) = ji6 := (i64_w _).trans hji6
   obtain ⟨c7, H⟩ := iP H; have c7b0 := eq_true c7; have c7b1 := decide_eq_true c7; clear c7
   obtain ⟨c8, H⟩ := iP H; have c8b0 := eq_true c8; have c8b1 : decide ((ji6) ≤ (wrap64 ((ji6) + 1))) = true := decide_eq_true c8
   obtain ⟨c9, H⟩ := iP H; have c9b0 := eq_true c9; have c9b1 : decide ((wrap64 ((ji6) + 1)) ≤ 10) = true := decide_eq_true c9
   obtain ⟨c10, H⟩ := iP H; have c10b0 := eq_true c10
   have c10b1 : decide (((⟨#[48, 49, 50, 51, 52, 53, 54, 55, 56, 57]⟩ : ByteArray).extract ((ji6) : Int).toNat ((wrap64 ((ji6) + 1)) : Int).toNat).size + x3_1.size ≤ 9223372036854775807) = true := decide_eq_true c10
   try have c10b2 : (9223372036854775807 < ((⟨#[48, 49, 50, 51, 52, 53, 54, 55, 56, 57]⟩ : ByteArray).extract ((ji6) : Int).toNat ((wrap64 ((ji6) + 1)) : Int).toNat).size + x3_1.size) = False := eq_false (Nat.not_lt.2 c10)
   have H' := aM H
   clear H
   go_wp2
   go_roundg kj1
   case measure => have := HK1.out; have := HJ1.out; omega
   case rel => exact ⟨(((⟨#[48, 49, 50, 51, 52, 53, 54, 55, 56, 57]⟩ : ByteArray).extract ((ji6) : Int).toNat ((wrap64 ((ji6) + 1)) : Int).toNat) ++ x3_1), (wrap64 (Int.tdiv x4_1 10)), (by first | rfl | (simp; done) | (simp only [← hji6] <;> (first | rfl | simp)) | (simp [*]; done)), eT, H', ⟨by have := HK1.out; have := HJ1.out; omega⟩, by repeat (first | exact Drawn0.refl _ | apply Drawn0.step)⟩
/-! ### r48_First: function 32 -/
def r48_First.l0 : Nat → List (List ByteArray) → List ByteArray → Int → Option (List ByteArray)
 | 0, _, _, _ => none
 | k + 1, x0, x3, x4 => if x4 < (x0.length : Int) then (if 0 ≤ x4 then (if ((rd_L1 x0 x4).length : Int) > 0 then (if 0 < ((rd_L1 x0 x4).length : Int) then ((r48_Insert.f k x3 (rdOf ByteArray.empty (rd_L1 x0 x4) 0)).bind fun t324 => (r48_First.l0 k x0 t324 (wrap64 (x4 + 1)))) else (none)) else (r48_First.l0 k x0 x3 (wrap64 (x4 + 1)))) else (none)) else (some x3)
def r48_First.f (k : Nat) (l0 : List (List ByteArray)) : Option (List ByteArray) := r48_First.l0 k l0 ([] : List ByteArray) 0
theorem r48_First.mono_l : ∀ k, (∀ y0 y1 y2, LeO (r48_First.l0 k y0 y1 y2) (r48_First.l0 (k + 1) y0 y1 y2))
 | 0 => fun _ _ _ r h => by simp [r48_First.l0] at h
 | k + 1 => by
  have ih0 := r48_First.mono_l k
  ·
   intro y0 y1 y2
   unfold r48_First.l0
   repeat' first
   | (with_reducible first | apply ih0 | apply r48_Insert.mono | exact LeO.refl _ | exact LeO.none _ | refine LeO.ite ?_ ?_ | refine LeO.bind ?_ (fun _ => ?_))
theorem r48_First.mono : ∀ a0 k, LeO (r48_First.f k a0) (r48_First.f (k + 1) a0) := by
 intro a0 k
 have ih0 := r48_First.mono_l k
 unfold r48_First.f
 repeat' first
   | (with_reducible first | apply ih0 | apply r48_Insert.mono | exact LeO.refl _ | exact LeO.none _ | refine LeO.ite ?_ ?_ | refine LeO.bind ?_ (fun _ => ?_))
set_option maxHeartbeats 8000000 in
set_option maxRecDepth 100000 in
theorem r48_First.calls (k : Nat) (A0 : Option Addr) (c0 : Nat) (l0 : List (List ByteArray)) (r : List ByteArray) (w : World) (hr0 : Kd.C (Kd.slice 9 Kd.string) w A0 l0.length l0) (hc0 : l0.length ≤ c0) (h : r48_First.f k l0 = some r) :
  Calls Tryd.prog 32 #[.slice A0 l0.length c0] w fun e w' => ∃ v0_ : Value, e = .returned (v0_) ∧ Kd.R Kd.string 9 w' w.heap.size (fun _ => True) v0_ r ∧ Below w.heap.size w w' := by
 have HR0 := aM hr0; have HC0 := aM hc0; clear hr0 hc0; have HB := aM (Below.refl w.heap.size w); have H : (r48_First.l0 k l0 ([] : List ByteArray) 0) = some r := h; clear h
 have H' := aM H
 clear H
 go_enter Tryd.func32, Tryd.ntmps32
 go_wp2
 go_loopg [3, 4] k (fun kq v3 v4 w' => ∃ (x3_1 : List ByteArray) (x4_1 : Int), v4 = .int .i64 x4_1 ∧ Aside0 (r48_First.l0 kq l0 x3_1 x4_1 = some r) ∧ Aside0 (kq ≤ k) ∧ Aside0 (Kd.R Kd.string 9 w' w.heap.size (fun _ => True) v3 x3_1) ∧ Aside0 (Below w.heap.size w w'))
 case atStart => exact ⟨(([] : List ByteArray)), (0), eT, H', ⟨Nat.le_refl _⟩, ⟨nT⟩, ⟨bB HB.out⟩⟩
 clear H'; obtain ⟨x3_1, x4_1, rfl, HA, HK1, HO_3, HB⟩ := hrel
 cases gk with
 | zero => exact absurd HA.out (by simp [r48_First.l0])
 | succ k1 =>
  have H := HA.out; clear HA
  simp only [r48_First.l0] at H
  by_cases c2 : x4_1 < (l0.length : Int)
  rotate_left
  ·
   rw [if_neg c2] at H
   have c2b0 := decide_eq_false c2; clear c2
   obtain rfl := Option.some.inj H
   go_wp2
   go_ret
   exact ⟨_, rT, oR HO_3.out, bB HB.out⟩


  rw [if_pos c2] at H; have c2b0 := decide_eq_true c2; clear c2
  obtain ⟨c3, H⟩ := iP H; have c3b0 := decide_eq_true c3; clear c3
  by_cases c4 : ((rd_L1 l0 x4_1).length : Int) > 0
  rotate_left
  ·
   rw [if_neg c4] at H
   have c4b0 : decide (0 < ((rd_L1 l0 x4_1).length : Int)) = false := decide_eq_false c4; have c4b1 : decide (0 < (rd_L1 l0 x4_1).length) = false := decide_eq_false (by omega); clear c4
   have H' := aM H
   clear H; obtain ⟨p321, q321, ad321, A321_0, c321_0, e321, hx321_0, hl321_0, hi321_0⟩ := aT (at_L1 HR0.out x4_1); cases e321
   try replace hx321_0 := kX HB.out hx321_0
   have HR321_0 := aM hi321_0; have HC321_0 := aM hl321_0; clear hi321_0 hl321_0
   go_wp2
   go_roundg k1
   case measure => have := HK1.out; omega
   case rel => exact ⟨(x3_1), (wrap64 (x4_1 + 1)), eT, H', ⟨by have := HK1.out; omega⟩, ⟨oR HO_3.out⟩, ⟨bB HB.out⟩⟩
  rw [if_pos c4] at H; have c4b0 : decide (0 < ((rd_L1 l0 x4_1).length : Int)) = true := decide_eq_true c4; have c4b1 : decide (0 < (rd_L1 l0 x4_1).length) = true := decide_eq_true (by omega); clear c4
  obtain ⟨c5, H⟩ := iP H; have c5b0 := decide_eq_true c5; have c5b1 : decide (0 < (rd_L1 l0 x4_1).length) = true := decide_eq_true (by omega); clear c5; obtain ⟨t324, A6, H⟩ := iB H; (try dsimp only at H)
  have H' := aM H
  clear H; obtain ⟨p321, q321, ad321, A321_0, c321_0, e321, hx321_0, hl321_0, hi321_0⟩ := aT (at_L1 HR0.out x4_1); cases e321
  try replace hx321_0 := kX HB.out hx321_0
  have HR321_0 := aM hi321_0; have HC321_0 := aM hl321_0; clear hi321_0 hl321_0; obtain ⟨p322, q322, ad322, A322_0, c322_0, e322, hx322_0, hl322_0, hi322_0⟩ := aT (at_L1 HR0.out x4_1); obtain rfl : ad321 = ad322 := (by injection e322)
  try (first | (have hq_ := (hHeld.1).symm.trans hx322_0; injection hq_ with hq_; injection hq_ with h1_ h2_ h3_; rw [h1_, h3_] at hHeld; (try clear hq_ h1_ h2_ h3_)) | (have hq_ := (hHeld).symm.trans hx322_0; injection hq_ with hq_; injection hq_ with h1_ h2_ h3_; rw [h1_, h3_] at hHeld; (try clear hq_ h1_ h2_ h3_)) | (have hq_ := (hHeld.2.1).symm.trans hx322_0; injection hq_ with hq_; injection hq_ with h1_ h2_ h3_; rw [h1_, h3_] at hHeld; (try clear hq_ h1_ h2_ h3_)) | (have hq_ := (hHeld.2).symm.trans hx322_0; injection hq_ with hq_; injection hq_ with h1_ h2_ h3_; rw [h1_, h3_] at hHeld; (try clear hq_ h1_ h2_ h3_)) | (have hq_ := (hHeld.2.2.1).symm.trans hx322_0; injection hq_ with hq_; injection hq_ with h1_ h2_ h3_; rw [h1_, h3_] at hHeld; (try clear hq_ h1_ h2_ h3_)) | (have hq_ := (hHeld.2.2).symm.trans hx322_0; injection hq_ with hq_; injection hq_ with h1_ h2_ h3_; rw [h1_, h3_] at hHeld; (try clear hq_ h1_ h2_ h3_)) | (have hq_ := (hHeld.2.2.2.1).symm.trans hx322_0; injection hq_ with hq_; injection hq_ with h1_ h2_ h3_; rw [h1_, h3_] at hHeld; (try clear hq_ h1_ h2_ h3_)) | (have hq_ := (hHeld.2.2.2).symm.trans hx322_0; injection hq_ with hq_; injection hq_ with h1_ h2_ h3_; rw [h1_, h3_] at hHeld; (try clear hq_ h1_ h2_ h3_)) | (have hq_ := (hHeld.2.2.2.2.1).symm.trans hx322_0; injection hq_ with hq_; injection hq_ with h1_ h2_ h3_; rw [h1_, h3_] at hHeld; (try clear hq_ h1_ h2_ h3_)) | (have hq_ := (hHeld.2.2.2.2).symm.trans hx322_0; injection hq_ with hq_; injection hq_ with h1_ h2_ h3_; rw [h1_, h3_] at hHeld; (try clear hq_ h1_ h2_ h3_)) | (have hq_ := (hHeld.2.2.2.2.2.1).symm.trans hx322_0; injection hq_ with hq_; injection hq_ with h1_ h2_ h3_; rw [h1_, h3_] at hHeld; (try clear hq_ h1_ h2_ h3_)) | (have hq_ := (hHeld.2.2.2.2.2).symm.trans hx322_0; injection hq_ with hq_; injection hq_ with h1_ h2_ h3_; rw [h1_, h3_] at hHeld; (try clear hq_ h1_ h2_ h3_)) | (have hq_ := (hHeld.2.2.2.2.2.2.1).symm.trans hx322_0; injection hq_ with hq_; injection hq_ with h1_ h2_ h3_; rw [h1_, h3_] at hHeld; (try clear hq_ h1_ h2_ h3_)) | (have hq_ := (hHeld.2.2.2.2.2.2).symm.trans hx322_0; injection hq_ with hq_; injection hq_ with h1_ h2_ h3_; rw [h1_, h3_] at hHeld; (try clear hq_ h1_ h2_ h3_)) | (have hq_ := (hHeld.2.2.2.2.2.2.2.1).symm.trans hx322_0; injection hq_ with hq_; injection hq_ with h1_ h2_ h3_; rw [h1_, h3_] at hHeld; (try clear hq_ h1_ h2_ h3_)) | (have hq_ := (hHeld.2.2.2.2.2.2.2).symm.trans hx322_0; injection hq_ with hq_; injection hq_ with h1_ h2_ h3_; rw [h1_, h3_] at hHeld; (try clear hq_ h1_ h2_ h3_)))
  try replace hx322_0 := kX HB.out hx322_0
  have HR322_0 := aM hi322_0; have HC322_0 := aM hl322_0; clear hi322_0 hl322_0; have ea_ := Option.some.inj (hx321_0.symm.trans hx322_0); injection ea_ with ea_ en_ ec_; subst ea_; subst ec_; clear en_; have p323 : 0 ≤ (0 : Int) := (by omega); have q323 : 0 < ((rd_L1 l0 x4_1).length : Int) := dT; obtain ⟨ad323, e323, hx323_0⟩ := Kd.at_string HR322_0.out 0 p323 q323; cases e323; have qi323 : (0 < (rd_L1 l0 x4_1).length) = True := eq_true (by omega)
  (try rw [show ((0 : Int)).toNat = 0 from rfl] at hx323_0)
  (try rw [Addr.add_zero'] at hx323_0)
  try replace hx323_0 := kX HB.out hx323_0
  replace p323 := eq_true p323; replace q323 := eq_true q323; obtain ⟨Ao7, co7, eo7⟩ := Kd.R_slice HO_3.out; subst eo7
  go_wp2_with (first | ((with_reducible refine gate_callee (f := 44) rfl ?_); refine gM (some 24) Tryd.func44 #[.slice Ao7 x3_1.length co7, .string (rdOf ByteArray.empty (rd_L1 l0 x4_1) 0)] ?_; (with_reducible refine (r48_Insert.calls k1 (fun k_ => some k_ = (.slice Ao7 x3_1.length co7 : Value).ownBlock) (.slice Ao7 x3_1.length co7) x3_1 (rdOf ByteArray.empty (rd_L1 l0 x4_1) 0) t324 w _ ?side1 ?side2 A6.out).mono ?_); (case side1 => repeat (first | (with_reducible first | exact HB.out | apply below_alloc | apply pw_below_drewN | apply below_drew1) | exact HB.out)); (case side2 => exact Kd.R_tight rfl HO_3.out); rintro e w8 ⟨v325, rfl, ho0, hb, hkp⟩; refine ⟨_, rfl, ?_⟩; have HO326 := aM (Kd.R_mono (ok' := fun k_ => True) ho0 (fun k_ hk_ => trivial)); replace HB := aM (hb); clear HO_3; clear hb hkp ho0))
  go_roundg k1
  case measure => have := HK1.out; omega
  case rel => exact ⟨(t324), (wrap64 (x4_1 + 1)), eT, H', ⟨by have := HK1.out; omega⟩, ⟨oR HO326.out⟩, ⟨bB HB.out⟩⟩
/-! ### r48_Last: function 33 -/
def r48_Last.l0 : Nat → List (List ByteArray) → List ByteArray → Int → Option (List ByteArray)
 | 0, _, _, _ => none
 | k + 1, x0, x3, x4 => if x4 < (x0.length : Int) then (if 0 ≤ x4 then (if ((rd_L1 x0 x4).length : Int) > 0 then (if 0 ≤ (wrap64 (((rd_L1 x0 x4).length : Int) - 1)) then (if (wrap64 (((rd_L1 x0 x4).length : Int) - 1)) < ((rd_L1 x0 x4).length : Int) then ((r48_Insert.f k x3 (rdOf ByteArray.empty (rd_L1 x0 x4) (wrap64 (((rd_L1 x0 x4).length : Int) - 1)))).bind fun t331 => (r48_Last.l0 k x0 t331 (wrap64 (x4 + 1)))) else (none)) else (none)) else (r48_Last.l0 k x0 x3 (wrap64 (x4 + 1)))) else (none)) else (some x3)
def r48_Last.f (k : Nat) (l0 : List (List ByteArray)) : Option (List ByteArray) := r48_Last.l0 k l0 ([] : List ByteArray) 0
theorem r48_Last.mono_l : ∀ k, (∀ y0 y1 y2, LeO (r48_Last.l0 k y0 y1 y2) (r48_Last.l0 (k + 1) y0 y1 y2))
 | 0 => fun _ _ _ r h => by simp [r48_Last.l0] at h
 | k + 1 => by
  have ih0 := r48_Last.mono_l k
  ·
   intro y0 y1 y2
   unfold r48_Last.l0
   repeat' first
   | (with_reducible first | apply ih0 | apply r48_Insert.mono | exact LeO.refl _ | exact LeO.none _ | refine LeO.ite ?_ ?_ | refine LeO.bind ?_ (fun _ => ?_))
theorem r48_Last.mono : ∀ a0 k, LeO (r48_Last.f k a0) (r48_Last.f (k + 1) a0) := by
 intro a0 k
 have ih0 := r48_Last.mono_l k
 unfold r48_Last.f
 repeat' first
   | (with_reducible first | apply ih0 | apply r48_Insert.mono | exact LeO.refl _ | exact LeO.none _ | refine LeO.ite ?_ ?_ | refine LeO.bind ?_ (fun _ => ?_))
def r48_Last.T6 : Bool × List (List Nat × List Nat) := (true, [([], []), ([], []), ([], []), ([1, 2], [1, 2]), ([3], [3]), ([], []), ([], []), ([5, 6], [5, 6]), ([7], [7]), ([8], [8]), ([9], [9]), ([4, 10], [4, 10]), ([11], [11]), ([0, 12], [0, 12]), ([13, 13, 0, 1, 2, 3, 4, 5, 6, 7, 8, 9, 10, 11, 12, 13], [0, 13])])
def r48_Last.B6 : List Nat := [0, 0, 0, 6, 14, 0, 0, 96, 224, 480, 992, 2046, 4094, 8191, 16383]
theorem r48_Last.tab6 : rtab .any (opsOf Tryd.f33 6) = r48_Last.T6 := by kernel_rfl
theorem r48_Last.bits6 : waitsOk r48_Last.T6.2 r48_Last.B6 = true := by kernel_rfl
set_option maxHeartbeats 8000000 in
set_option maxRecDepth 100000 in
theorem r48_Last.calls (k : Nat) (A0 : Option Addr) (c0 : Nat) (l0 : List (List ByteArray)) (r : List ByteArray) (w : World) (hr0 : Kd.C (Kd.slice 9 Kd.string) w A0 l0.length l0) (hc0 : l0.length ≤ c0) (h : r48_Last.f k l0 = some r) :
  Calls Tryd.prog 33 #[.slice A0 l0.length c0] w fun e w' => ∃ v0_ : Value, e = .returned (v0_) ∧ Kd.R Kd.string 9 w' w.heap.size (fun _ => True) v0_ r ∧ Below w.heap.size w w' := by
 have HR0 := aM hr0; have HC0 := aM hc0; clear hr0 hc0; have HB := aM (Below.refl w.heap.size w); have H : (r48_Last.l0 k l0 ([] : List ByteArray) 0) = some r := h; clear h
 have H' := aM H
 clear H
 go_enter Tryd.func33, Tryd.ntmps33
 go_wp2
 go_loopg [3, 4] k (fun kq v3 v4 w' => ∃ (x3_1 : List ByteArray) (x4_1 : Int), v4 = .int .i64 x4_1 ∧ Aside0 (r48_Last.l0 kq l0 x3_1 x4_1 = some r) ∧ Aside0 (kq ≤ k) ∧ Aside0 (Kd.R Kd.string 9 w' w.heap.size (fun _ => True) v3 x3_1) ∧ Aside0 (Below w.heap.size w w'))
 case atStart => exact ⟨(([] : List ByteArray)), (0), eT, H', ⟨Nat.le_refl _⟩, ⟨nT⟩, ⟨bB HB.out⟩⟩
 clear H'; obtain ⟨x3_1, x4_1, rfl, HA, HK1, HO_3, HB⟩ := hrel
 cases gk with
 | zero => exact absurd HA.out (by simp [r48_Last.l0])
 | succ k1 =>
  have H := HA.out; clear HA
  simp only [r48_Last.l0] at H
  by_cases c2 : x4_1 < (l0.length : Int)
  rotate_left
  ·
   rw [if_neg c2] at H
   have c2b0 := decide_eq_false c2; clear c2
   obtain rfl := Option.some.inj H
   go_wp2
   go_ret
   exact ⟨_, rT, oR HO_3.out, bB HB.out⟩


  rw [if_pos c2] at H; have c2b0 := decide_eq_true c2; clear c2
  obtain ⟨c3, H⟩ := iP H; have c3b0 := decide_eq_true c3; clear c3
  by_cases c4 : ((rd_L1 l0 x4_1).length : Int) > 0
  rotate_left
  ·
   rw [if_neg c4] at H
   have c4b0 : decide (0 < ((rd_L1 l0 x4_1).length : Int)) = false := decide_eq_false c4; have c4b1 : decide (0 < (rd_L1 l0 x4_1).length) = false := decide_eq_false (by omega); clear c4
   have H' := aM H
   clear H; obtain ⟨p327, q327, ad327, A327_0, c327_0, e327, hx327_0, hl327_0, hi327_0⟩ := aT (at_L1 HR0.out x4_1); cases e327
   try replace hx327_0 := kX HB.out hx327_0
   have HR327_0 := aM hi327_0; have HC327_0 := aM hl327_0; clear hi327_0 hl327_0
   go_wp2
   go_roundg k1
   case measure => have := HK1.out; omega
   case rel => exact ⟨(x3_1), (wrap64 (x4_1 + 1)), eT, H', ⟨by have := HK1.out; omega⟩, ⟨oR HO_3.out⟩, ⟨bB HB.out⟩⟩
  rw [if_pos c4] at H; have c4b0 : decide (0 < ((rd_L1 l0 x4_1).length : Int)) = true := decide_eq_true c4; have c4b1 : decide (0 < (rd_L1 l0 x4_1).length) = true := decide_eq_true (by omega); clear c4
  obtain ⟨ji5, hji5⟩ : ∃ j_ : Int, (wrap64 (((rd_L1 l0 x4_1).length : Int) - 1)) = j_ := ⟨_, rfl⟩
  replace H : (if 0 ≤ (ji5) then (if (ji5) < ((rd_L1 l0 x4_1).length : Int) then ((r48_Insert.f k1 x3_1 (rdOf ByteArray.empty (rd_L1 l0 x4_1) (ji5))).bind fun t331 => (r48_Last.l0 k1 l0 t331 (wrap64 (x4_1 + 1)))) else (none)) else (none)) = some r := by first | (rw [hji5] at H; exact H) | (simp only [hji5] at H ⊢; exact H)
  have hji5w : (IntKind.i64.wrap (((rd_L1 l0 x4_1).length : Int) - 1)) = ji5 := (i64_w _).trans hji5
  obtain ⟨c6, H⟩ := iP H; have c6b0 := decide_eq_true c6; clear c6
  obtain ⟨c7, H⟩ := iP H; have c7b0 := decide_eq_true c7; clear c7; obtain ⟨t331, A8, H⟩ := iB H; (try dsimp only at H)
  have H' := aM H
  clear H; obtain ⟨p327, q327, ad327, A327_0, c327_0, e327, hx327_0, hl327_0, hi327_0⟩ := aT (at_L1 HR0.out x4_1); cases e327
  try replace hx327_0 := kX HB.out hx327_0
  have HR327_0 := aM hi327_0; have HC327_0 := aM hl327_0; clear hi327_0 hl327_0
  try go_wp2
  replace HO_3 := aM (Kd.R_drew HO_3.out); replace HB := aM (below_drew1 HB.out); obtain ⟨p328, q328, ad328, A328_0, c328_0, e328, hx328_0, hl328_0, hi328_0⟩ := aT (at_L1 HR0.out x4_1); have hw328_0 := hx328_0; obtain rfl : ad327 = ad328 := (by injection e328)
  try (first | (have hq_ := (hHeld.1).symm.trans hx328_0; injection hq_ with hq_; injection hq_ with h1_ h2_ h3_; rw [h1_, h3_] at hHeld; (try clear hq_ h1_ h2_ h3_)) | (have hq_ := (hHeld).symm.trans hx328_0; injection hq_ with hq_; injection hq_ with h1_ h2_ h3_; rw [h1_, h3_] at hHeld; (try clear hq_ h1_ h2_ h3_)) | (have hq_ := (hHeld.2.1).symm.trans hx328_0; injection hq_ with hq_; injection hq_ with h1_ h2_ h3_; rw [h1_, h3_] at hHeld; (try clear hq_ h1_ h2_ h3_)) | (have hq_ := (hHeld.2).symm.trans hx328_0; injection hq_ with hq_; injection hq_ with h1_ h2_ h3_; rw [h1_, h3_] at hHeld; (try clear hq_ h1_ h2_ h3_)) | (have hq_ := (hHeld.2.2.1).symm.trans hx328_0; injection hq_ with hq_; injection hq_ with h1_ h2_ h3_; rw [h1_, h3_] at hHeld; (try clear hq_ h1_ h2_ h3_)) | (have hq_ := (hHeld.2.2).symm.trans hx328_0; injection hq_ with hq_; injection hq_ with h1_ h2_ h3_; rw [h1_, h3_] at hHeld; (try clear hq_ h1_ h2_ h3_)) | (have hq_ := (hHeld.2.2.2.1).symm.trans hx328_0; injection hq_ with hq_; injection hq_ with h1_ h2_ h3_; rw [h1_, h3_] at hHeld; (try clear hq_ h1_ h2_ h3_)) | (have hq_ := (hHeld.2.2.2).symm.trans hx328_0; injection hq_ with hq_; injection hq_ with h1_ h2_ h3_; rw [h1_, h3_] at hHeld; (try clear hq_ h1_ h2_ h3_)) | (have hq_ := (hHeld.2.2.2.2.1).symm.trans hx328_0; injection hq_ with hq_; injection hq_ with h1_ h2_ h3_; rw [h1_, h3_] at hHeld; (try clear hq_ h1_ h2_ h3_)) | (have hq_ := (hHeld.2.2.2.2).symm.trans hx328_0; injection hq_ with hq_; injection hq_ with h1_ h2_ h3_; rw [h1_, h3_] at hHeld; (try clear hq_ h1_ h2_ h3_)) | (have hq_ := (hHeld.2.2.2.2.2.1).symm.trans hx328_0; injection hq_ with hq_; injection hq_ with h1_ h2_ h3_; rw [h1_, h3_] at hHeld; (try clear hq_ h1_ h2_ h3_)) | (have hq_ := (hHeld.2.2.2.2.2).symm.trans hx328_0; injection hq_ with hq_; injection hq_ with h1_ h2_ h3_; rw [h1_, h3_] at hHeld; (try clear hq_ h1_ h2_ h3_)) | (have hq_ := (hHeld.2.2.2.2.2.2.1).symm.trans hx328_0; injection hq_ with hq_; injection hq_ with h1_ h2_ h3_; rw [h1_, h3_] at hHeld; (try clear hq_ h1_ h2_ h3_)) | (have hq_ := (hHeld.2.2.2.2.2.2).symm.trans hx328_0; injection hq_ with hq_; injection hq_ with h1_ h2_ h3_; rw [h1_, h3_] at hHeld; (try clear hq_ h1_ h2_ h3_)) | (have hq_ := (hHeld.2.2.2.2.2.2.2.1).symm.trans hx328_0; injection hq_ with hq_; injection hq_ with h1_ h2_ h3_; rw [h1_, h3_] at hHeld; (try clear hq_ h1_ h2_ h3_)) | (have hq_ := (hHeld.2.2.2.2.2.2.2).symm.trans hx328_0; injection hq_ with hq_; injection hq_ with h1_ h2_ h3_; rw [h1_, h3_] at hHeld; (try clear hq_ h1_ h2_ h3_)))
  try replace hx328_0 := kX HB.out hx328_0
  have HR328_0 := aM hi328_0; have HC328_0 := aM hl328_0; clear hi328_0 hl328_0; obtain ⟨p329, q329, ad329, A329_0, c329_0, e329, hx329_0, hl329_0, hi329_0⟩ := aT (at_L1 HR0.out x4_1); have hw329_0 := hx329_0; obtain rfl : ad327 = ad329 := (by injection e329)
  try (first | (have hq_ := (hHeld.1).symm.trans hx329_0; injection hq_ with hq_; injection hq_ with h1_ h2_ h3_; rw [h1_, h3_] at hHeld; (try clear hq_ h1_ h2_ h3_)) | (have hq_ := (hHeld).symm.trans hx329_0; injection hq_ with hq_; injection hq_ with h1_ h2_ h3_; rw [h1_, h3_] at hHeld; (try clear hq_ h1_ h2_ h3_)) | (have hq_ := (hHeld.2.1).symm.trans hx329_0; injection hq_ with hq_; injection hq_ with h1_ h2_ h3_; rw [h1_, h3_] at hHeld; (try clear hq_ h1_ h2_ h3_)) | (have hq_ := (hHeld.2).symm.trans hx329_0; injection hq_ with hq_; injection hq_ with h1_ h2_ h3_; rw [h1_, h3_] at hHeld; (try clear hq_ h1_ h2_ h3_)) | (have hq_ := (hHeld.2.2.1).symm.trans hx329_0; injection hq_ with hq_; injection hq_ with h1_ h2_ h3_; rw [h1_, h3_] at hHeld; (try clear hq_ h1_ h2_ h3_)) | (have hq_ := (hHeld.2.2).symm.trans hx329_0; injection hq_ with hq_; injection hq_ with h1_ h2_ h3_; rw [h1_, h3_] at hHeld; (try clear hq_ h1_ h2_ h3_)) | (have hq_ := (hHeld.2.2.2.1).symm.trans hx329_0; injection hq_ with hq_; injection hq_ with h1_ h2_ h3_; rw [h1_, h3_] at hHeld; (try clear hq_ h1_ h2_ h3_)) | (have hq_ := (hHeld.2.2.2).symm.trans hx329_0; injection hq_ with hq_; injection hq_ with h1_ h2_ h3_; rw [h1_, h3_] at hHeld; (try clear hq_ h1_ h2_ h3_)) | (have hq_ := (hHeld.2.2.2.2.1).symm.trans hx329_0; injection hq_ with hq_; injection hq_ with h1_ h2_ h3_; rw [h1_, h3_] at hHeld; (try clear hq_ h1_ h2_ h3_)) | (have hq_ := (hHeld.2.2.2.2).symm.trans hx329_0; injection hq_ with hq_; injection hq_ with h1_ h2_ h3_; rw [h1_, h3_] at hHeld; (try clear hq_ h1_ h2_ h3_)) | (have hq_ := (hHeld.2.2.2.2.2.1).symm.trans hx329_0; injection hq_ with hq_; injection hq_ with h1_ h2_ h3_; rw [h1_, h3_] at hHeld; (try clear hq_ h1_ h2_ h3_)) | (have hq_ := (hHeld.2.2.2.2.2).symm.trans hx329_0; injection hq_ with hq_; injection hq_ with h1_ h2_ h3_; rw [h1_, h3_] at hHeld; (try clear hq_ h1_ h2_ h3_)) | (have hq_ := (hHeld.2.2.2.2.2.2.1).symm.trans hx329_0; injection hq_ with hq_; injection hq_ with h1_ h2_ h3_; rw [h1_, h3_] at hHeld; (try clear hq_ h1_ h2_ h3_)) | (have hq_ := (hHeld.2.2.2.2.2.2).symm.trans hx329_0; injection hq_ with hq_; injection hq_ with h1_ h2_ h3_; rw [h1_, h3_] at hHeld; (try clear hq_ h1_ h2_ h3_)) | (have hq_ := (hHeld.2.2.2.2.2.2.2.1).symm.trans hx329_0; injection hq_ with hq_; injection hq_ with h1_ h2_ h3_; rw [h1_, h3_] at hHeld; (try clear hq_ h1_ h2_ h3_)) | (have hq_ := (hHeld.2.2.2.2.2.2.2).symm.trans hx329_0; injection hq_ with hq_; injection hq_ with h1_ h2_ h3_; rw [h1_, h3_] at hHeld; (try clear hq_ h1_ h2_ h3_)))
  try replace hx329_0 := kX HB.out hx329_0
  have HR329_0 := aM hi329_0; have HC329_0 := aM hl329_0; clear hi329_0 hl329_0; have ea_ := Option.some.inj (hx328_0.symm.trans hx329_0); injection ea_ with ea_ en_ ec_; subst ea_; subst ec_; clear en_; obtain ⟨p330, q330, ad330, e330, hx330_0⟩ := aT (Kd.at_string HR328_0.out (ji5)); have hw330_0 := hx330_0; cases e330
  try replace hx330_0 := kX HB.out hx330_0; obtain ⟨Ao10, co10, eo10⟩ := Kd.R_slice HO_3.out
  (first | subst eo10 | (injection eo10 with f1_ f2_ f3_; have f4_ := f1_.symm; have f5_ := f3_.symm; clear f1_ f2_ f3_; subst f4_; subst f5_))
  refine start_ (n := 15) (S := fun w' => w'.cell? (ad327.add (x4_1).toNat) = some (.slice (some ad330) (rd_L1 l0 x4_1).length c328_0) ∧ w'.cell? (ad327.add (x4_1).toNat) = some (.slice (some ad330) (rd_L1 l0 x4_1).length c328_0) ∧ w'.cell? (ad330.add ((ji5)).toNat) = some (.string (rdOf ByteArray.empty (rd_L1 l0 x4_1) (ji5)))) (ds := []) #[false, false, false, false, false, false, false, false, false, false, false, false, false, false, false] (by kernel_rfl) rfl rfl ⟨((HB.out.cell (World.block_lt_of_cell? w _ hw328_0)).trans hw328_0), ((HB.out.cell (World.block_lt_of_cell? w _ hw329_0)).trans hw329_0), ((HB.out.cell (World.block_lt_of_cell? w _ hw330_0)).trans hw330_0)⟩ (fun hHeld => ?_); refine with_tabW r48_Last.tab6 r48_Last.bits6 (fun HT_ HW_ => ?_)
  generalize wr.drew = w9 at HO_3 HB HR328_0 HR329_0 hx328_0 hx329_0 hx330_0 hHeld ⊢
  refine pU 0 17 (any_of HT_.out (by kernel_rfl)) ?_
  refine pU 1 18 (any_of HT_.out (by kernel_rfl)) ?_
  refine pU 2 19 (any_of HT_.out (by kernel_rfl)) ?_
  refine pU 3 20 (any_of HT_.out (by kernel_rfl)) ?_
  refine pU 5 22 (any_of HT_.out (by kernel_rfl)) ?_
  refine pU 6 23 (any_of HT_.out (by kernel_rfl)) ?_
  refine pU 7 24 (any_of HT_.out (by kernel_rfl)) ?_
  refine tU 4 21 (take_ofW HT_.out HW_.out (by kernel_rfl)) hHeld ?_
  refine tU 8 25 (take_ofW HT_.out HW_.out (by kernel_rfl)) hHeld ?_
  refine pU 9 26 (any_of HT_.out (by kernel_rfl)) ?_
  refine pU 10 27 (any_of HT_.out (by kernel_rfl)) ?_
  refine pU 11 28 (any_of HT_.out (by kernel_rfl)) ?_
  refine tU 12 29 (take_ofW HT_.out HW_.out (by kernel_rfl)) hHeld ?_
  refine one_ (i := 13) (N := some 30) #[true, true, true, true, true, true, true, true, true, true, true, true, true, true, false] rfl rfl (one_of HT_.out (by kernel_rfl)) (by decide) (fun K hK => ?_)
  refine goes_ Tryd.func44 (by kernel_rfl) rfl #[.slice Ao10 x3_1.length co10, .string (rdOf ByteArray.empty (rd_L1 l0 x4_1) (ji5))] (by rfl) rfl rfl (by (try simp only [List.map_toArray, List.map_cons, List.map_nil]); first | done | (simp only [hji5]; rfl) | rfl | (simp only [List.length_drop, List.length_take]; rfl)) ?_
  with_reducible refine (r48_Insert.calls k1 (fun k_ => some k_ = (.slice Ao10 x3_1.length co10 : Value).ownBlock) (.slice Ao10 x3_1.length co10) x3_1 (rdOf ByteArray.empty (rd_L1 l0 x4_1) (ji5)) t331 w _ ?side1 ?side2 A8.out).mono ?_
  (case side1 => repeat (first | (with_reducible first | exact HB.out | apply below_alloc | apply pw_below_drewN | apply below_drew1) | exact HB.out))
  (case side2 => exact Kd.R_tight rfl HO_3.out)
  rintro e w11 ⟨v332, rfl, ho0, hb, hkp⟩
  refine ⟨_, rfl, ?_⟩
  have HO333 := aM (Kd.R_mono (ok' := fun k_ => True) ho0 (fun k_ hk_ => trivial)); replace HB := aM (hb); clear HO_3
  (try clear hb)
  (try clear hkp)
  (try clear ho0)
  refine hK.out _ _ ⟨((HB.out.cell (World.block_lt_of_cell? w _ hw328_0)).trans hw328_0), ((HB.out.cell (World.block_lt_of_cell? w _ hw329_0)).trans hw329_0), ((HB.out.cell (World.block_lt_of_cell? w _ hw330_0)).trans hw330_0)⟩ (fun hHeld => ?_)
  clear hK K
  refine nU 30 ?_
  refine pU 14 3 (any_of HT_.out (by kernel_rfl)) ?_
  refine done_ (done_of HT_.out (by kernel_rfl)) ?_
  try go_wp2
  go_roundg k1
  case measure => have := HK1.out; omega
  case rel => exact ⟨(t331), (wrap64 (x4_1 + 1)), eT, H', ⟨by have := HK1.out; omega⟩, ⟨oR HO333.out⟩, ⟨bB HB.out⟩⟩


end Go.Proofs.YtejchnmhlcbfcaaDoor.Pr
