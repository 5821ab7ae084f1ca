/- Functions that the statement reaches: what each answers, and that the program answers it (written by a program of this work). -/
import Derived.Test.YtejchnmhlcbfcaaDoorProg
import Derived.Below
import Derived.Deep.Draws
import Derived.Deep.AppendLies
import Derived.Maps.AppendAt
import Derived.OwnWalk
import Derived.Laws.BytesArg
import Derived.Laws.MakeOwn
import Derived.Laws.OwnMore
import Derived.Deep.OwnRows
import Derived.Tactics
import Derived.Lib.ConvBytes
import Derived.Laws.Slices
import Derived.WalkKit
import Derived.KernelRfl
import Derived.RowKit3
import Derived.Deep.LoopGhost
import Derived.Deep.QuietTactic
import Derived.BigQuiet
import Derived.WideLaws
import Derived.Deep.DeepCutAuto
import Derived.Deep.CutBlock
import Derived.Deep.RegionHeld3
import Derived.Laws.Rows
import Derived.Lib.AppendStr
import Derived.ArgAppend
import Derived.Laws.IdiomCopy
import Derived.OrdersHeld
import Derived.Laws.BitsLemmas
import Derived.RowKit
import Derived.WalkMore
import Derived.ChangeKeysEq
import Derived.Test.YtejchnmhlcbfcaaDoorVDiscoverChains
import Derived.Test.YtejchnmhlcbfcaaDoorQDiscoverChains0
import Derived.Test.YtejchnmhlcbfcaaDoorQDiscoverChains1
import Derived.Test.YtejchnmhlcbfcaaDoorQDiscoverChains2
import Derived.Test.YtejchnmhlcbfcaaDoorQDiscoverChains3
namespace Go.Proofs.YtejchnmhlcbfcaaDoor.Pr
open Go.RowKit Go.Proofs.YtejchnmhlcbfcaaDoorW.PrintWords Go.Proofs.YtejchnmhlcbfcaaDoorW.PrintLast Go.Proofs.YtejchnmhlcbfcaaDoorW.PrintMore
attribute [local go_sem] Instr.field asAgg
attribute [local go_sem] max2_int min2_int max_two min_two max_three min_three max_four min_four   -- for this text's walks alone
set_option linter.unusedVariables false
set_option linter.unusedSimpArgs false
/-! ### l49_DiscoverChains: function 4 -/
mutual
def l49_DiscoverChains.j0 : Nat → List ByteArray → Int → Bool → Option (Bool)
 | 0, _, _, _ => none
 | k + 1, x0, x1, x30 => if x30 = true then ((l49_exampleHolds.f k).bind fun t543 => (some t543)) else (l49_DiscoverChains.l0 k x0 x1 0)
def l49_DiscoverChains.l0 : Nat → List ByteArray → Int → Int → Option (Bool)
 | 0, _, _, _ => none
 | k + 1, x0, x1, x5 => if x5 < (x0.length : Int) then (if 0 ≤ x5 then (if x5 ≤ (x0.length : Int) then ((r48_Has.f k (x0.take (x5 : Int).toNat) (rdOf ByteArray.empty x0 x5)).bind fun t550 => (if t550 = true then ((l49_exampleHolds.f k).bind fun t551 => (some t551)) else (l49_DiscoverChains.l0 k x0 x1 (wrap64 (x5 + 1))))) else (none)) else (none)) else (l49_DiscoverChains.l1 k x0 x1 ([] : List (List ByteArray)) 0)
def l49_DiscoverChains.l1 : Nat → List ByteArray → Int → List (List ByteArray) → Int → Option (Bool)
 | 0, _, _, _, _ => none
 | k + 1, x0, x1, x6, x7 => if x7 < x1 then (if x6.length < 5864062014805 then (l49_DiscoverChains.l1 k x0 x1 (x6 ++ [x0]) (wrap64 (x7 + 1))) else (none)) else ((d_Alpha.f k x6).bind fun bt555 => (if bt555.2.2.2 = 0 then ((r09_Initial.f k bt555.1 bt555.2.1 bt555.2.2.1).bind fun t566 => (l49_DiscoverChains.l2 k x0 t566 0 bt555.1 bt555.2.1 bt555.2.2.1)) else (if bt555.2.2.2 = 5 then ((l49_exampleHolds.f k).bind fun t564 => (some t564)) else (if bt555.2.2.2 = 6 then ((l49_exampleHolds.f k).bind fun t565 => (some t565)) else (some false)))))
def l49_DiscoverChains.l2 : Nat → List ByteArray → List Int → Int → ByteArray → List (S59) → List (S41) → Option (Bool)
 | 0, _, _, _, _, _, _ => none
 | k + 1, x0, x10, x11, x564000, x564001, x564002 => if x11 < (x0.length : Int) then ((r11_List.f k x564000 x564001 x564002 x10).bind fun t573 => (if (t573.length : Int) = 1 then (if 0 < (t573.length : Int) then (if 0 ≤ (rd t573 0) then (if (rd t573 0) < (x564002.length : Int) then (if 0 ≤ x11 then (l49_DiscoverChains.j4 k x0 x10 x11 t573 (((rd_T41 x564002 (rd t573 0)).f0).toList != (rdOf ByteArray.empty x0 x11).toList) x564000 x564001 x564002) else (none)) else (none)) else (none)) else (none)) else (l49_DiscoverChains.j4 k x0 x10 x11 t573 true x564000 x564001 x564002))) else (if (x564001.length : Int) = (wrap64 ((x0.length : Int) + 1)) then ((r04_Total.f k x10).bind fun t569 => (if t569 = 1 then (if 1 < (x10.length : Int) then (if (rd x10 1) = 1 then ((r11_Dead.f k x564000 x564001 x564002 x10).bind fun t571 => (if t571 = true then ((l49_exampleHolds.f k).bind fun t572 => (some t572)) else (some false))) else (some false)) else (none)) else (some false))) else (some false))
def l49_DiscoverChains.j4 : Nat → List ByteArray → List Int → Int → List Int → Bool → ByteArray → List (S59) → List (S41) → Option (Bool)
 | 0, _, _, _, _, _, _, _, _ => none
 | k + 1, x0, x10, x11, x12, x100, x564000, x564001, x564002 => if x100 = true then (some false) else (if 0 < (x12.length : Int) then ((r11_Fire.f k x564000 x564001 x564002 x10 (rd x12 0)).bind fun bt580 => (if bt580.2 = 0 then (l49_DiscoverChains.l2 k x0 bt580.1 (wrap64 (x11 + 1)) x564000 x564001 x564002) else (some false))) else (none))
end
def l49_DiscoverChains.f (k : Nat) (l0 : List ByteArray) (a1 : Int) : Option (Bool) := if (l0.length : Int) < 1 then (l49_DiscoverChains.j0 k l0 a1 true) else (if (l0.length : Int) > 10 then (l49_DiscoverChains.j0 k l0 a1 true) else (if a1 < 1 then (l49_DiscoverChains.j0 k l0 a1 true) else (l49_DiscoverChains.j0 k l0 a1 (decide (a1 > 10)))))
theorem l49_DiscoverChains.mono_l : ∀ k, (∀ y0 y1 y2, LeO (l49_DiscoverChains.j0 k y0 y1 y2) (l49_DiscoverChains.j0 (k + 1) y0 y1 y2)) ∧ (∀ y0 y1 y2, LeO (l49_DiscoverChains.l0 k y0 y1 y2) (l49_DiscoverChains.l0 (k + 1) y0 y1 y2)) ∧ (∀ y0 y1 y2 y3, LeO (l49_DiscoverChains.l1 k y0 y1 y2 y3) (l49_DiscoverChains.l1 (k + 1) y0 y1 y2 y3)) ∧ (∀ y0 y1 y2 y3 y4 y5, LeO (l49_DiscoverChains.l2 k y0 y1 y2 y3 y4 y5) (l49_DiscoverChains.l2 (k + 1) y0 y1 y2 y3 y4 y5)) ∧ (∀ y0 y1 y2 y3 y4 y5 y6 y7, LeO (l49_DiscoverChains.j4 k y0 y1 y2 y3 y4 y5 y6 y7) (l49_DiscoverChains.j4 (k + 1) y0 y1 y2 y3 y4 y5 y6 y7))
 | 0 => ⟨fun _ _ _ r h => by simp [l49_DiscoverChains.j0] at h, fun _ _ _ r h => by simp [l49_DiscoverChains.l0] at h, fun _ _ _ _ r h => by simp [l49_DiscoverChains.l1] at h, fun _ _ _ _ _ _ r h => by simp [l49_DiscoverChains.l2] at h, fun _ _ _ _ _ _ _ _ r h => by simp [l49_DiscoverChains.j4] at h⟩
 | k + 1 => by
  obtain ⟨ih0, ih1, ih2, ih3, ih4⟩ := l49_DiscoverChains.mono_l k
  refine ⟨?_, ?_, ?_, ?_, ?_⟩ <;> intros <;> (first | unfold l49_DiscoverChains.j0 | unfold l49_DiscoverChains.l0 | unfold l49_DiscoverChains.l1 | unfold l49_DiscoverChains.l2 | unfold l49_DiscoverChains.j4)
  all_goals repeat' first
   | (with_reducible first | apply ih0 | apply ih1 | apply ih2 | apply ih3 | apply ih4 | apply d_Alpha.mono | apply l49_exampleHolds.mono | apply r04_Total.mono | apply r09_Initial.mono | apply r11_Dead.mono | apply r11_Fire.mono | apply r11_List.mono | apply r48_Has.mono | exact LeO.refl _ | exact LeO.none _ | refine LeO.ite ?_ ?_ | refine LeO.bind ?_ (fun _ => ?_))
theorem l49_DiscoverChains.mono : ∀ a0 a1 k, LeO (l49_DiscoverChains.f k a0 a1) (l49_DiscoverChains.f (k + 1) a0 a1) := by
 intro a0 a1 k
 obtain ⟨ih0, ih1, ih2, ih3, ih4⟩ := l49_DiscoverChains.mono_l k
 unfold l49_DiscoverChains.f
 repeat' first
   | (with_reducible first | apply ih0 | apply ih1 | apply ih2 | apply ih3 | apply ih4 | apply d_Alpha.mono | apply l49_exampleHolds.mono | apply r04_Total.mono | apply r09_Initial.mono | apply r11_Dead.mono | apply r11_Fire.mono | apply r11_List.mono | apply r48_Has.mono | exact LeO.refl _ | exact LeO.none _ | refine LeO.ite ?_ ?_ | refine LeO.bind ?_ (fun _ => ?_))
def l49_DiscoverChains.T6 : Bool × List (List Nat × List Nat) := (true, [([], []), ([], []), ([0, 1], [0, 1]), ([], []), ([], []), ([3, 4], [3, 4]), ([5], [5]), ([2, 6], [2, 6])])
def l49_DiscoverChains.B6 : List Nat := [0, 0, 3, 0, 0, 24, 56, 127]
theorem l49_DiscoverChains.tab6 : rtab .any (opsOf Tryd.f4 6) = l49_DiscoverChains.T6 := by kernel_rfl
theorem l49_DiscoverChains.bits6 : waitsOk l49_DiscoverChains.T6.2 l49_DiscoverChains.B6 = true := by kernel_rfl
def l49_DiscoverChains.T21 : Bool × List (List Nat × List Nat) := (true, [([], []), ([0], [0]), ([1], [1]), ([2], [2]), ([3], [3]), ([4, 3], [3, 4]), ([3], [3]), ([6, 3], [3, 6]), ([7, 3], [3, 7]), ([5, 8, 3], [3, 5, 8]), ([9, 3], [3, 9]), ([10, 3], [3, 10]), ([3], [3]), ([3], [3]), ([12, 13, 3], [3, 12, 13]), ([14, 3], [3, 14]), ([11, 15, 3], [3, 11, 15]), ([3, 16], [3, 16])])
def l49_DiscoverChains.B21 : List Nat := [0, 1, 3, 7, 15, 31, 15, 79, 207, 511, 1023, 2047, 15, 15, 12303, 28687, 65535, 131071]
theorem l49_DiscoverChains.tab21 : rtab .any (opsOf Tryd.f4 21) = l49_DiscoverChains.T21 := by kernel_rfl
theorem l49_DiscoverChains.bits21 : waitsOk l49_DiscoverChains.T21.2 l49_DiscoverChains.B21 = true := by kernel_rfl
def l49_DiscoverChains.T23 : Bool × List (List Nat × List Nat) := (true, [([], []), ([], []), ([], []), ([2], [2]), ([3], [3]), ([0, 1, 4], [0, 1, 4]), ([5], [5]), ([6], [6]), ([6], [6]), ([7, 5, 0, 1, 2, 3, 4, 5, 6, 7], [7]), ([8, 9, 0, 1, 2, 3, 4, 5, 6, 7, 8, 9], [8])])
def l49_DiscoverChains.B23 : List Nat := [0, 0, 0, 4, 12, 31, 63, 127, 127, 255, 1023]
theorem l49_DiscoverChains.tab23 : rtab .any (opsOf Tryd.f4 23) = l49_DiscoverChains.T23 := by kernel_rfl
theorem l49_DiscoverChains.bits23 : waitsOk l49_DiscoverChains.T23.2 l49_DiscoverChains.B23 = true := by kernel_rfl
set_option maxHeartbeats 8000000 in
set_option maxRecDepth 100000 in
theorem l49_DiscoverChains.calls (k : Nat) (P0_ : Nat → Prop) (A0 : Option Addr) (c0 : Nat) (l0 : List ByteArray) (a1 : Int) (r : Bool) (w : World) (hs0 : Kd.V Kd.string 9 w w.heap.size (fun k_ => P0_ k_) (.slice A0 l0.length c0) l0) (h : l49_DiscoverChains.f k l0 a1 = some r) (hrT_ : Aside0 (r = true)) :
  Calls Tryd.prog 4 #[.slice A0 l0.length c0, .int .i64 a1] w fun e w' => e = .returned (.bool r) ∧ Below w.heap.size w w' := by
 have hu28 := Tryd.underlying28; have hu9 := Tryd.underlying9; have hu25 := Tryd.underlying25; have hu26 := Tryd.underlying26; have HO0 := aM (show Kd.V Kd.string 9 w w.heap.size (fun k_ => (P0_ k_ ∨ w.heap.size ≤ k_)) (.slice A0 l0.length c0) l0 from Kd.V_mono hs0 (fun k_ hk => .inl hk)); have HB := aM (Below.refl w.heap.size w)
 have H : (if (l0.length : Int) < 1 then (l49_DiscoverChains.j0 k l0 a1 true) else (if (l0.length : Int) > 10 then (l49_DiscoverChains.j0 k l0 a1 true) else (if a1 < 1 then (l49_DiscoverChains.j0 k l0 a1 true) else (l49_DiscoverChains.j0 k l0 a1 (decide (a1 > 10)))))) = some r := h
 clear h; have HC3 := aM H; clear H
 go_enter Tryd.func4, Tryd.ntmps4
 go_upto_region 1 with (fail)
 go_cut [30] (fun v30 wc => ∃ (kq : Nat) (x30_2 : Bool), v30 = .bool x30_2 ∧ Aside0 (l49_DiscoverChains.j0 kq l0 a1 x30_2 = some r) ∧ Aside0 (kq ≤ k) ∧ Aside0 (Kd.V Kd.string 9 wc w.heap.size (fun k_ => (P0_ k_ ∨ w.heap.size ≤ k_)) (.slice A0 l0.length c0) l0) ∧ Aside0 (Below w.heap.size w wc))
 case first =>
  have H := HC3.out; clear HC3
  by_cases c4 : (l0.length : Int) < 1
  ·
   rw [if_pos c4] at H
   have c4b0 := decide_eq_true c4; have c4b1 : decide (l0.length < 1) = true := decide_eq_true (by omega); clear c4
   (first | rw [c4b0] | (simp only [i64_w, i32_w]; rw [c4b0]) | skip)
   have H' := aM H
   clear H
   go_wp2
   go_meet
   case rel => exact ⟨_, (true), eT, H', ⟨by first | omega | exact Nat.le_refl _⟩, ⟨oV HO0.out⟩, ⟨bB HB.out⟩⟩
  rw [if_neg c4] at H; have c4b0 := decide_eq_false c4; have c4b1 : decide (l0.length < 1) = false := decide_eq_false (by omega); clear c4
  (first | rw [c4b0] | (simp only [i64_w, i32_w]; rw [c4b0]) | skip)
  by_cases c5 : (l0.length : Int) > 10
  ·
   rw [if_pos c5] at H
   have c5b0 : decide (10 < (l0.length : Int)) = true := decide_eq_true c5; have c5b1 : decide (10 < l0.length) = true := decide_eq_true (by omega); clear c5
   have H' := aM H
   clear H
   go_wp2
   go_meet
   case rel => exact ⟨_, (true), eT, H', ⟨by first | omega | exact Nat.le_refl _⟩, ⟨oV HO0.out⟩, ⟨bB HB.out⟩⟩
  rw [if_neg c5] at H; have c5b0 : decide (10 < (l0.length : Int)) = false := decide_eq_false c5; have c5b1 : decide (10 < l0.length) = false := decide_eq_false (by omega); clear c5
  by_cases c6 : a1 < 1
  ·
   rw [if_pos c6] at H
   have c6b0 := decide_eq_true c6; clear c6
   have H' := aM H
   clear H
   go_wp2
   go_meet
   case rel => exact ⟨_, (true), eT, H', ⟨by first | omega | exact Nat.le_refl _⟩, ⟨oV HO0.out⟩, ⟨bB HB.out⟩⟩
  rw [if_neg c6] at H; have c6b0 := decide_eq_false c6; clear c6
  have H' := aM H
  clear H
  go_wp2
  go_meet
  case rel => exact ⟨_, (decide (a1 > 10)), eT, H', ⟨by first | omega | exact Nat.le_refl _⟩, ⟨oV HO0.out⟩, ⟨bB HB.out⟩⟩
 clear HC3; obtain ⟨kq, x30_2, rfl, HA, HJ2, HO_0, HB⟩ := hcut
 cases kq with
 | zero => exact absurd HA.out (by simp [l49_DiscoverChains.j0])
 | succ kj2 =>
  have H := HA.out; clear HA
  simp only [l49_DiscoverChains.j0] at H
  by_cases c7 : x30_2 = true
  ·
   subst c7
   have H1 : ((l49_exampleHolds.f kj2).bind fun t543 => (some t543)) = some r := by rw [if_pos rfl] at H; exact H
   clear H; have H := H1; clear H1; replace H := Option.bind_eq_some_iff.mp H; obtain ⟨t543, A80, H⟩ := H
   replace H : (some t543) = some r := H
   have A8 := aM A80; clear A80
   obtain rfl := Option.some.inj H
   go_wp2_with (first | ((with_reducible refine gate_callee (f := 8) rfl ?_); refine gM (some 31) Tryd.func8 #[] ?_; (with_reducible refine (l49_exampleHolds.calls kj2  t543 _ A8.out (by first | exact hrT_ | exact ⟨rfl⟩)).mono ?_); rintro e w9 ⟨rfl, hb⟩; refine ⟨_, rfl, ?_⟩; replace HO_0 := aM (Kd.V_below (oV HO_0.out) hb); replace HB := aM (below_step (bB HB.out) hb); clear hb))
   go_ret
   exact ⟨rT, bB HB.out⟩
  replace c7 := Bool.eq_false_iff.mpr c7; subst c7
  have H1 : (l49_DiscoverChains.l0 kj2 l0 a1 0) = some r := by rw [if_neg (show ¬ (false = true) by decide)] at H; exact H
  clear H; have H := H1; clear H1
  have H' := aM H
  clear H
  go_wp2
  go_loopg [5] kj2 (fun kq v5 w' => ∃ (x5_2 : Int), v5 = .int .i64 x5_2 ∧ Aside0 (l49_DiscoverChains.l0 kq l0 a1 x5_2 = some r) ∧ Aside0 (kq ≤ kj2) ∧ Aside0 (Kd.V Kd.string 9 w' w.heap.size (fun k_ => (P0_ k_ ∨ w.heap.size ≤ k_)) (.slice A0 l0.length c0) l0) ∧ Aside0 (Below w.heap.size w w'))
  case atStart => exact ⟨(0), eT, H', ⟨Nat.le_refl _⟩, ⟨oV HO_0.out⟩, ⟨bB HB.out⟩⟩
  clear H'; obtain ⟨x5_2, rfl, HA, HK2, HO_0, HB⟩ := hrel
  cases gk with
  | zero => exact absurd HA.out (by simp [l49_DiscoverChains.l0])
  | succ k2 =>
   have H := HA.out; clear HA
   simp only [l49_DiscoverChains.l0] at H
   by_cases c10 : x5_2 < (l0.length : Int)
   ·
    rw [if_pos c10] at H
    have c10b0 := decide_eq_true c10; clear c10
    obtain ⟨c11, H⟩ := iP H; have c11b0 := eq_true c11; have c11b1 := decide_eq_true c11; clear c11
    obtain ⟨c12, H⟩ := iP H; have c12b0 := eq_true c12; have c12b1 := decide_eq_true c12; have HTK_x5_2_l0 := aM (of_decide_eq_true c12b1); clear c12
    obtain ⟨y544, hy544⟩ : ∃ y_ : List ByteArray, y_ = (l0.take (x5_2 : Int).toNat) := ⟨_, rfl⟩
    replace H : ((r48_Has.f k2 y544 (rdOf ByteArray.empty l0 x5_2)).bind fun t550 => (if t550 = true then ((l49_exampleHolds.f k2).bind fun t551 => (some t551)) else (l49_DiscoverChains.l0 k2 l0 a1 (wrap64 (x5_2 + 1))))) = some r := yT hy544 H
    have Ny544 := aM hy544; clear hy544; obtain ⟨t550, A13, H⟩ := iB H; (try dsimp only at H)
    by_cases c14 : t550 = true
    rotate_left
    ·
     replace c14 := Bool.eq_false_iff.mpr c14
     subst c14
     have H1 : (l49_DiscoverChains.l0 k2 l0 a1 (wrap64 (x5_2 + 1))) = some r := by rw [if_neg (show ¬ (false = true) by decide)] at H; exact H
     clear H; have H := H1; clear H1
     have H' := aM H
     clear H
     try go_wp2
     replace HO_0 := aM (Kd.V_drew HO_0.out); replace HB := aM (below_drew1 HB.out); have q20 : (x5_2 : Int) ≤ ((l0.length : Int) : Int) := dT; obtain ⟨i020, hi020, _, hsz20, _⟩ := info_parts info9; have hroom20 : l0.length ≤ c0 := (Kd.V_reads' HO_0.out).2.1; have hC20 : Kd.F Kd.string _ _ A0 l0.length l0 := (Kd.V_at (base := w.heap.size) HO_0.out).2.2; have hcut20 := cut_to (P := Tryd.prog) 34 9 .i64 Tryd.underlying34 hi020 A0 l0.length c0 x5_2 (dT) q20 hroom20; have hr20 := Kd.F_take (m := (x5_2 : Int).toNat) hC20 (by omega); have hy20 : y544.length = (x5_2 : Int).toNat := (by rw [Ny544.out, List.length_take]; omega); rw [← Ny544.out] at hr20; rw [← hy20] at hcut20; have HO548 := aM (show Kd.V Kd.string 9 _ w.heap.size _ (.slice A0 y544.length c0) y544 from Kd.V_mk (by omega) hr20); have HC548 := aM (show y544.length ≤ c0 from by omega); clear hr20 hC20 hroom20 hi020 hsz20; have KY20 := aM hy20; clear hy20; replace q20 := eq_true q20; obtain ⟨p549, q549, ad549, e549, hx549_0⟩ := aT (Kd.at_string (Kd.V_reads' HO_0.out).2.2 x5_2); cases e549
     refine start_ (n := 8) (S := fun w' => w'.cell? (ad549.add (x5_2).toNat) = some (.string (rdOf ByteArray.empty l0 x5_2))) (ds := []) #[false, false, false, false, false, false, false, false] (by kernel_rfl) rfl rfl (hx549_0) (fun hHeld => ?_); refine with_tabW l49_DiscoverChains.tab6 l49_DiscoverChains.bits6 (fun HT_ HW_ => ?_)
     generalize wr.drew = w19 at HO_0 HB HO548 hx549_0 hHeld ⊢
     refine pU 0 38 (any_of HT_.out (by kernel_rfl)) ?_
     refine pU 1 39 (any_of HT_.out (by kernel_rfl)) ?_
     refine pU 2 40 (any_of HT_.out (by kernel_rfl)) ?_
     refine pU 3 41 (any_of HT_.out (by kernel_rfl)) ?_
     refine pU 4 42 (any_of HT_.out (by kernel_rfl)) ?_
     refine pU 5 43 (any_of HT_.out (by kernel_rfl)) ?_
     refine take_ (i := 6) (N := some 44) (v := ?_) (a' := ?_) #[true, true, true, true, true, true, true, false] rfl rfl (take_ofW HT_.out HW_.out (by kernel_rfl)) (fun _ _ _ h => h) (Or.inl ⟨by rfl, ?_⟩) hHeld ?_ ?_
     rotate_left
     ·
      intro w' s0
      go_simp
      with_reducible rfl
     rotate_left
     ·
      simp only [Act.put, List.setIfInBounds_toArray, List.set_cons_zero, List.set_cons_succ, i64_w, i32_w]
      rfl
     refine one_ (i := 7) (N := some 45) #[true, true, true, true, true, true, true, true] rfl rfl (one_of HT_.out (by kernel_rfl)) (by decide) (fun K hK => ?_)
     refine goes_ Tryd.func13 (by kernel_rfl) rfl #[.slice (some ad549) y544.length c0, .string (rdOf ByteArray.empty l0 x5_2)] (by rfl) rfl rfl mT ?_
     with_reducible refine (r48_Has.calls k2 _ _ y544 (rdOf ByteArray.empty l0 x5_2) false _ ?side1 ?side2 A13.out).mono ?_
     (case side1 => repeat (first | exact (Kd.V_reads' HO548.out).2.2 | (with_reducible refine Kd.C_alloc ?_ _) | (with_reducible refine Kd.C_drewN ?_ _) | (with_reducible refine Kd.C_drew ?_)))
     (case side2 => exact (Kd.V_reads' HO548.out).2.1)
     rintro e w' ⟨rfl, ⟨nd, rfl⟩⟩
     refine ⟨_, rfl, ?_⟩
     refine hK.out _ _ (hHeld) (fun hHeld => ?_)
     clear hK K
     refine nU 45 ?_
     refine done_ (done_of HT_.out (by kernel_rfl)) ?_
     try go_wp2
     go_roundg k2
     case measure => have := HJ2.out; have := HK2.out; omega
     case rel => exact ⟨(wrap64 (x5_2 + 1)), eT, H', ⟨by have := HJ2.out; have := HK2.out; omega⟩, ⟨oV HO_0.out⟩, ⟨bB HB.out⟩⟩
    subst c14
    have H1 : ((l49_exampleHolds.f k2).bind fun t551 => (some t551)) = some r := by rw [if_pos rfl] at H; exact H
    clear H; have H := H1; clear H1; replace H := Option.bind_eq_some_iff.mp H; obtain ⟨t551, A150, H⟩ := H
    replace H : (some t551) = some r := H
    have A15 := aM A150; clear A150
    obtain rfl := Option.some.inj H
    try go_wp2
    replace HO_0 := aM (Kd.V_drew HO_0.out); replace HB := aM (below_drew1 HB.out); have q17 : (x5_2 : Int) ≤ ((l0.length : Int) : Int) := dT; obtain ⟨i017, hi017, _, hsz17, _⟩ := info_parts info9; have hroom17 : l0.length ≤ c0 := (Kd.V_reads' HO_0.out).2.1; have hC17 : Kd.F Kd.string _ _ A0 l0.length l0 := (Kd.V_at (base := w.heap.size) HO_0.out).2.2; have hcut17 := cut_to (P := Tryd.prog) 34 9 .i64 Tryd.underlying34 hi017 A0 l0.length c0 x5_2 (dT) q17 hroom17; have hr17 := Kd.F_take (m := (x5_2 : Int).toNat) hC17 (by omega); have hy17 : y544.length = (x5_2 : Int).toNat := (by rw [Ny544.out, List.length_take]; omega); rw [← Ny544.out] at hr17; rw [← hy17] at hcut17; have HO548 := aM (show Kd.V Kd.string 9 _ w.heap.size _ (.slice A0 y544.length c0) y544 from Kd.V_mk (by omega) hr17); have HC548 := aM (show y544.length ≤ c0 from by omega); clear hr17 hC17 hroom17 hi017 hsz17; have KY17 := aM hy17; clear hy17; replace q17 := eq_true q17; obtain ⟨p549, q549, ad549, e549, hx549_0⟩ := aT (Kd.at_string (Kd.V_reads' HO_0.out).2.2 x5_2); cases e549
    refine start_ (n := 8) (S := fun w' => w'.cell? (ad549.add (x5_2).toNat) = some (.string (rdOf ByteArray.empty l0 x5_2))) (ds := []) #[false, false, false, false, false, false, false, false] (by kernel_rfl) rfl rfl (hx549_0) (fun hHeld => ?_); refine with_tabW l49_DiscoverChains.tab6 l49_DiscoverChains.bits6 (fun HT_ HW_ => ?_)
    generalize wr.drew = w16 at HO_0 HB HO548 hx549_0 hHeld ⊢
    refine pU 0 38 (any_of HT_.out (by kernel_rfl)) ?_
    refine pU 1 39 (any_of HT_.out (by kernel_rfl)) ?_
    refine pU 2 40 (any_of HT_.out (by kernel_rfl)) ?_
    refine pU 3 41 (any_of HT_.out (by kernel_rfl)) ?_
    refine pU 4 42 (any_of HT_.out (by kernel_rfl)) ?_
    refine pU 5 43 (any_of HT_.out (by kernel_rfl)) ?_
    refine take_ (i := 6) (N := some 44) (v := ?_) (a' := ?_) #[true, true, true, true, true, true, true, false] rfl rfl (take_ofW HT_.out HW_.out (by kernel_rfl)) (fun _ _ _ h => h) (Or.inl ⟨by rfl, ?_⟩) hHeld ?_ ?_
    rotate_left
    ·
     intro w' s0
     go_simp
     with_reducible rfl
    rotate_left
    ·
     simp only [Act.put, List.setIfInBounds_toArray, List.set_cons_zero, List.set_cons_succ, i64_w, i32_w]
     rfl
    refine one_ (i := 7) (N := some 45) #[true, true, true, true, true, true, true, true] rfl rfl (one_of HT_.out (by kernel_rfl)) (by decide) (fun K hK => ?_)
    refine goes_ Tryd.func13 (by kernel_rfl) rfl #[.slice (some ad549) y544.length c0, .string (rdOf ByteArray.empty l0 x5_2)] (by rfl) rfl rfl mT ?_
    with_reducible refine (r48_Has.calls k2 _ _ y544 (rdOf ByteArray.empty l0 x5_2) true _ ?side1 ?side2 A13.out).mono ?_
    (case side1 => repeat (first | exact (Kd.V_reads' HO548.out).2.2 | (with_reducible refine Kd.C_alloc ?_ _) | (with_reducible refine Kd.C_drewN ?_ _) | (with_reducible refine Kd.C_drew ?_)))
    (case side2 => exact (Kd.V_reads' HO548.out).2.1)
    rintro e w' ⟨rfl, ⟨nd, rfl⟩⟩
    refine ⟨_, rfl, ?_⟩
    refine hK.out _ _ (hHeld) (fun hHeld => ?_)
    clear hK K
    refine nU 45 ?_
    refine done_ (done_of HT_.out (by kernel_rfl)) ?_
    try go_wp2_with (first | ((with_reducible refine gate_callee (f := 8) rfl ?_); refine gM (some 46) Tryd.func8 #[] ?_; (with_reducible refine (l49_exampleHolds.calls k2  t551 _ A15.out (by first | exact hrT_ | exact ⟨rfl⟩)).mono ?_); rintro e w18 ⟨rfl, hb⟩; refine ⟨_, rfl, ?_⟩; replace HO_0 := aM (Kd.V_below (oV HO_0.out) hb); replace HO548 := aM (Kd.V_below (oV HO548.out) hb); replace HB := aM (below_step (bB HB.out) hb); clear hb))
    go_ret
    exact ⟨rT, bB HB.out⟩
   rw [if_neg c10] at H; have c10b0 := decide_eq_false c10; clear c10
   have H' := aM H
   clear H
   go_wp2
   go_loopg [6, 7] k2 (fun kq v6 v7 w' => ∃ (x6_3 : List (List ByteArray)) (x7_3 : Int), v7 = .int .i64 x7_3 ∧ Aside0 (l49_DiscoverChains.l1 kq l0 a1 x6_3 x7_3 = some r) ∧ Aside0 (kq ≤ k2) ∧ Aside0 (Kd.V Kd.string 9 w' w.heap.size (fun k_ => (P0_ k_ ∨ w.heap.size ≤ k_) ∧ some k_ ≠ (v6 : Value).ownBlock) (.slice A0 l0.length c0) l0) ∧ Aside0 (Kd.N (Kd.slice 9 Kd.string) 34 w' w.heap.size (fun k_ => (P0_ k_ ∨ w.heap.size ≤ k_)) v6 x6_3) ∧ Aside0 (Below w.heap.size w w'))
   case atStart => exact ⟨(([] : List (List ByteArray))), (0), eT, H', ⟨Nat.le_refl _⟩, ⟨by refine oV ?_; exact Kd.V_mono HO_0.out (fun _ hk => ⟨hk, (by simp [Value.ownBlock])⟩)⟩, ⟨nT⟩, ⟨bB HB.out⟩⟩
   clear H'
   try clear hx5
   try clear hx549_0
   obtain ⟨x6_3, x7_3, rfl, HA, HK3, HO_0, HO_6, HB⟩ := hrel
   cases gk with
   | zero => exact absurd HA.out (by simp [l49_DiscoverChains.l1])
   | succ k3 =>
    have H := HA.out; clear HA
    simp only [l49_DiscoverChains.l1] at H
    by_cases c21 : x7_3 < a1
    ·
     rw [if_pos c21] at H
     have c21b0 := decide_eq_true c21; clear c21
     obtain ⟨c22, H⟩ := iP H; have LMc22 := aM c22; clear c22
     obtain ⟨y552, hy552⟩ : ∃ y_ : List (List ByteArray), y_ = (x6_3 ++ [l0]) := ⟨_, rfl⟩
     replace H : (l49_DiscoverChains.l1 k3 l0 a1 y552 (wrap64 (x7_3 + 1))) = some r := yT hy552 H
     have Ny552 := aM hy552; clear hy552
     have H' := aM H
     clear H
     go_wp2_with (first | ((with_reducible refine gate_builtin (b := .append) (xs := #[.tmp 52, .tmp 54]) rfl ?_); (try (refine gate_guard (by rfl) ?_; dsimp only)); at_builtin; refine Kd.N_append (Kd.slice 9 Kd.string) (w0 := w) w.heap.size rfl (.tmp 52) (.tmp 54) 22 34 (.slice none 0 0) 24 rfl Tryd.underlying22 info34 rfl (by decide) (by omega) u6 x6_3 l0 [.slice A0 l0.length c0] (fun k_ => (P0_ k_ ∨ w.heap.size ≤ k_)) (fun k_ => ((fun k_ => (P0_ k_ ∨ w.heap.size ≤ k_))) k_ ∧ some k_ ≠ (u6 : Value).ownBlock) rfl rfl ?aP (fun _ hk => hk) ?aF ?aO ?aB ?aS ?aL ?_; (case aP => exact (Kd.FK_slice_mk (Kd.V_reads' (Kd.V_mono (ok' := (fun k_ => ((fun k_ => (P0_ k_ ∨ w.heap.size ≤ k_))) k_ ∧ some k_ ≠ (u6 : Value).ownBlock)) (HO_0.out) (fun k_ hk => ⟨hk.1, hk.2⟩))).2.1 (Kd.V_F (by refine oV ?_; exact (Kd.V_mono (ok' := (fun k_ => ((fun k_ => (P0_ k_ ∨ w.heap.size ≤ k_))) k_ ∧ some k_ ≠ (u6 : Value).ownBlock)) (HO_0.out) (fun k_ hk => ⟨hk.1, hk.2⟩)))))); (case aB => exact (bB HB.out)); (case aF => exact (fun k_ hk => (.inr (Nat.le_trans (below_size (bB HB.out)) hk)))); (case aO => exact (oN HO_6.out)); (case aS => exact (below_size (bB HB.out))); (case aL => have := LMc22.out; omega); intro v553 w23 ho hb hg hat; rw [← Ny552.out] at ho; replace HO_0 := aM (Kd.V_afterv (ok := (fun k_ => (P0_ k_ ∨ w.heap.size ≤ k_))) (oV HO_0.out) hg hat); replace HB := aM (hb); have HO554 := aM (ho); clear HO_6; clear ho hb hg hat))
     go_roundg k3
     case measure => have := HJ2.out; have := HK2.out; have := HK3.out; omega
     case rel => exact ⟨(y552), (wrap64 (x7_3 + 1)), eT, H', ⟨by have := HJ2.out; have := HK2.out; have := HK3.out; omega⟩, ⟨oV HO_0.out⟩, ⟨oN HO554.out⟩, ⟨bB HB.out⟩⟩
    rw [if_neg c21] at H; have c21b0 := decide_eq_false c21; clear c21; obtain ⟨⟨t555, t556, t559, t562⟩, A24, H⟩ := iB H; (try dsimp only at H)
    by_cases c25 : t562 = 0
    rotate_left
    ·
     rw [if_neg c25] at H
     have c25b0 : (t562 == 0) = false := beq_eq_false_iff_ne.mpr c25; have c25b1 : (t562 != 0) = true := bne_iff_ne.mpr c25
     by_cases c68 : t562 = 5
     ·
      rw [if_pos c68] at H
      have c68b0 : (t562 == 5) = true := beq_iff_eq.mpr c68; have c68b1 : (t562 != 5) = false := bne_eq_false_iff_eq.mpr c68; clear c68; replace H := Option.bind_eq_some_iff.mp H; obtain ⟨t564, A690, H⟩ := H
      replace H : (some t564) = some r := H
      have A69 := aM A690; clear A690
      obtain rfl := Option.some.inj H
      obtain ⟨Ao70, co70, eo70⟩ := Kd.N_slice HO_6.out; subst eo70
      go_wp2_with (first | ((with_reducible refine gate_callee (f := 9) rfl ?_); refine gM (some 58) Tryd.func9 #[.slice Ao70 x6_3.length co70] ?_; (with_reducible refine (d_Alpha.calls k3 _ _ x6_3 t555 t556 t559 t562 _ ?side1 ?side2 A24.out).mono ?_); (case side1 => repeat (first | exact (Kd.N_reads' HO_6.out).2.2 | (with_reducible refine Kd.C_alloc ?_ _) | (with_reducible refine Kd.C_drewN ?_ _) | (with_reducible refine Kd.C_drew ?_))); (case side2 => exact (Kd.N_reads' HO_6.out).2.1); rintro e w71 ⟨v557, v560, rfl, ho0, ho1, hb⟩; refine ⟨_, rfl, ?_⟩; replace HO_0 := aM (Kd.V_mono (Kd.V_told (Kd.V_told (Kd.V_old (oV HO_0.out) hb) (Kd.R_base ho0)) (by first | exact Kd.N_base ho1 | exact Kd.S_base ho1)) (fun _ h_ => h_.1)); have HO558 := aM (Kd.R_lower (Kd.R_newM (M := fun k_ => (w.heap.size ≤ k_)) ho0 (below_size (bB HB.out)) (fun k_ h_ => h_)) (below_size (bB HB.out))); have HO561 := aM (Kd.N_lower (Kd.N_mono (ok' := fun k_ => (P0_ k_ ∨ w.heap.size ≤ k_) ∧ some k_ ≠ (v557 : Value).ownBlock ∧ some k_ ≠ (.slice Ao70 x6_3.length co70 : Value).ownBlock) (Kd.S_N (Kd.S_bound (Kd.S_apart' ho1 (Kd.R_typed ho0) (by decide)))) (fun k_ hk_ => ⟨(.inr (Nat.le_trans (below_size (bB HB.out)) hk_.2.1)), hk_.1.2, (Kd.fresh' (Kd.N_lt (oN HO_6.out)) k_ hk_.2.1)⟩)) (below_size (bB HB.out))); replace HO_6 := aM (Kd.N_mono (Kd.N_told (Kd.N_told (Kd.N_old (oN HO_6.out) hb) (Kd.R_base ho0)) (by first | exact Kd.N_base ho1 | exact Kd.S_base ho1)) (fun _ h_ => h_.1)); replace HB := aM (below_step (bB HB.out) hb); clear hb ho0 ho1) | ((with_reducible refine gate_dst (N := 8) rfl ?_); (try (refine gate_guard (by rfl) ?_; dsimp only)); refine bX 8 (cs := #[.string (⟨#[]⟩ : ByteArray), .slice none 0 0, .slice none 0 0]) (t := 28) ?_; intro gb563 hg w72 hbox hb; replace HO_0 := aM (Kd.V_below (Kd.V_elderB (oV HO_0.out) gb563 (Nat.le_of_eq hg.symm)) hb); replace HO_6 := aM (Kd.N_below (Kd.N_elderB (oN HO_6.out) gb563 (Nat.le_of_eq hg.symm)) hb); replace HO558 := aM (Kd.R_below (oR HO558.out) hb); replace HO561 := aM (Kd.N_below (Kd.N_elderB (oN HO561.out) gb563 (Nat.le_of_eq hg.symm)) hb); have BK563 := aM (hbox); have GW563 := aM (gE hg (below_size (bB HB.out))); have GE563 := GW563; replace HB := aM (below_step (bB HB.out) hb); clear hb hbox hg; obtain ⟨hcz73_0, hcz73_1, hcz73_2, hfz73_0, hfz73_1, hfz73_2⟩ := cd3 BK563.out; obtain ⟨Ao74, co74, eo74⟩ := Kd.R_slice HO558.out; subst eo74; obtain ⟨Ao75, co75, eo75⟩ := Kd.N_slice HO561.out; subst eo75) | (go_at_call 8; (with_reducible refine (l49_exampleHolds.calls k3  t564 _ A69.out (by first | exact hrT_ | exact ⟨rfl⟩)).mono ?_); rintro e w76 ⟨rfl, hb⟩; replace HO_0 := aM (Kd.V_below (by refine oV ?_; exact (Kd.V_mono (Kd.V_far (p := ⟨gb563, 2, none⟩) (Kd.V_far (p := ⟨gb563, 1, none⟩) (Kd.V_far (p := ⟨gb563, 0, none⟩) (Kd.V_mono HO_0.out (fun k_ hk => (⟨hk, hk.2⟩ : _ ∧ k_ ≠ gb563))) (fun _ hk => hk.2) (.string t555)) (fun _ hk => hk.2) (.slice Ao74 t556.length co74)) (fun _ hk => hk.2) (.slice Ao75 t559.length co75)) (fun _ h_ => h_.1))) hb); replace HO_6 := aM (Kd.N_below (by refine oN ?_; exact (Kd.N_mono (Kd.N_far (p := ⟨gb563, 2, none⟩) (Kd.N_far (p := ⟨gb563, 1, none⟩) (Kd.N_far (p := ⟨gb563, 0, none⟩) (Kd.N_mono HO_6.out (fun k_ hk => (⟨hk, hk.2⟩ : _ ∧ k_ ≠ gb563))) (fun _ hk => hk.2) (.string t555)) (fun _ hk => hk.2) (.slice Ao74 t556.length co74)) (fun _ hk => hk.2) (.slice Ao75 t559.length co75)) (fun _ h_ => h_.1))) hb); replace HO558 := aM (Kd.R_below (by refine oR ?_; exact (tR HO558.out BK563.out)) hb); replace HO561 := aM (Kd.N_below (by refine oN ?_; exact (Kd.N_mono (Kd.N_far (p := ⟨gb563, 2, none⟩) (Kd.N_far (p := ⟨gb563, 1, none⟩) (Kd.N_far (p := ⟨gb563, 0, none⟩) (Kd.N_mono HO561.out (fun k_ hk => (⟨hk, hk.2⟩ : _ ∧ k_ ≠ gb563))) (fun _ hk => hk.2) (.string t555)) (fun _ hk => hk.2) (.slice Ao74 t556.length co74)) (fun _ hk => hk.2) (.slice Ao75 t559.length co75)) (fun _ h_ => h_.1))) hb); replace BK563 := aM (blk_below (g := gb563) (o := .cells #[.string t555, .slice Ao74 t556.length co74, .slice Ao75 t559.length co75] 28 (0, 0)) (bP BK563.out) hb); replace HB := aM (below_step (bB1 HB.out GE563.out) hb); clear hb))
      go_ret
      exact ⟨rT, bB1 HB.out GE563.out⟩
     rw [if_neg c68] at H; have c68b0 : (t562 == 5) = false := beq_eq_false_iff_ne.mpr c68; have c68b1 : (t562 != 5) = true := bne_iff_ne.mpr c68
     by_cases c77 : t562 = 6
     rotate_left
     ·
      rw [if_neg c77] at H
      have c77b0 : (t562 == 6) = false := beq_eq_false_iff_ne.mpr c77; have c77b1 : (t562 != 6) = true := bne_iff_ne.mpr c77
      exact absurd ((Option.some.inj H).trans hrT_.out) Bool.false_ne_true


     rw [if_pos c77] at H; have c77b0 : (t562 == 6) = true := beq_iff_eq.mpr c77; have c77b1 : (t562 != 6) = false := bne_eq_false_iff_eq.mpr c77; clear c77; replace H := Option.bind_eq_some_iff.mp H; obtain ⟨t565, A780, H⟩ := H
     replace H : (some t565) = some r := H
     have A78 := aM A780; clear A780
     obtain rfl := Option.some.inj H
     obtain ⟨Ao79, co79, eo79⟩ := Kd.N_slice HO_6.out; subst eo79
     go_wp2_with (first | ((with_reducible refine gate_callee (f := 9) rfl ?_); refine gM (some 58) Tryd.func9 #[.slice Ao79 x6_3.length co79] ?_; (with_reducible refine (d_Alpha.calls k3 _ _ x6_3 t555 t556 t559 t562 _ ?side1 ?side2 A24.out).mono ?_); (case side1 => repeat (first | exact (Kd.N_reads' HO_6.out).2.2 | (with_reducible refine Kd.C_alloc ?_ _) | (with_reducible refine Kd.C_drewN ?_ _) | (with_reducible refine Kd.C_drew ?_))); (case side2 => exact (Kd.N_reads' HO_6.out).2.1); rintro e w80 ⟨v557, v560, rfl, ho0, ho1, hb⟩; refine ⟨_, rfl, ?_⟩; replace HO_0 := aM (Kd.V_mono (Kd.V_told (Kd.V_told (Kd.V_old (oV HO_0.out) hb) (Kd.R_base ho0)) (by first | exact Kd.N_base ho1 | exact Kd.S_base ho1)) (fun _ h_ => h_.1)); have HO558 := aM (Kd.R_lower (Kd.R_newM (M := fun k_ => (w.heap.size ≤ k_)) ho0 (below_size (bB HB.out)) (fun k_ h_ => h_)) (below_size (bB HB.out))); have HO561 := aM (Kd.N_lower (Kd.N_mono (ok' := fun k_ => (P0_ k_ ∨ w.heap.size ≤ k_) ∧ some k_ ≠ (v557 : Value).ownBlock ∧ some k_ ≠ (.slice Ao79 x6_3.length co79 : Value).ownBlock) (Kd.S_N (Kd.S_bound (Kd.S_apart' ho1 (Kd.R_typed ho0) (by decide)))) (fun k_ hk_ => ⟨(.inr (Nat.le_trans (below_size (bB HB.out)) hk_.2.1)), hk_.1.2, (Kd.fresh' (Kd.N_lt (oN HO_6.out)) k_ hk_.2.1)⟩)) (below_size (bB HB.out))); replace HO_6 := aM (Kd.N_mono (Kd.N_told (Kd.N_told (Kd.N_old (oN HO_6.out) hb) (Kd.R_base ho0)) (by first | exact Kd.N_base ho1 | exact Kd.S_base ho1)) (fun _ h_ => h_.1)); replace HB := aM (below_step (bB HB.out) hb); clear hb ho0 ho1) | ((with_reducible refine gate_dst (N := 8) rfl ?_); (try (refine gate_guard (by rfl) ?_; dsimp only)); refine bX 8 (cs := #[.string (⟨#[]⟩ : ByteArray), .slice none 0 0, .slice none 0 0]) (t := 28) ?_; intro gb563 hg w81 hbox hb; replace HO_0 := aM (Kd.V_below (Kd.V_elderB (oV HO_0.out) gb563 (Nat.le_of_eq hg.symm)) hb); replace HO_6 := aM (Kd.N_below (Kd.N_elderB (oN HO_6.out) gb563 (Nat.le_of_eq hg.symm)) hb); replace HO558 := aM (Kd.R_below (oR HO558.out) hb); replace HO561 := aM (Kd.N_below (Kd.N_elderB (oN HO561.out) gb563 (Nat.le_of_eq hg.symm)) hb); have BK563 := aM (hbox); have GW563 := aM (gE hg (below_size (bB HB.out))); have GE563 := GW563; replace HB := aM (below_step (bB HB.out) hb); clear hb hbox hg; obtain ⟨hcz82_0, hcz82_1, hcz82_2, hfz82_0, hfz82_1, hfz82_2⟩ := cd3 BK563.out; obtain ⟨Ao83, co83, eo83⟩ := Kd.R_slice HO558.out; subst eo83; obtain ⟨Ao84, co84, eo84⟩ := Kd.N_slice HO561.out; subst eo84) | (go_at_call 8; (with_reducible refine (l49_exampleHolds.calls k3  t565 _ A78.out (by first | exact hrT_ | exact ⟨rfl⟩)).mono ?_); rintro e w85 ⟨rfl, hb⟩; replace HO_0 := aM (Kd.V_below (by refine oV ?_; exact (Kd.V_mono (Kd.V_far (p := ⟨gb563, 2, none⟩) (Kd.V_far (p := ⟨gb563, 1, none⟩) (Kd.V_far (p := ⟨gb563, 0, none⟩) (Kd.V_mono HO_0.out (fun k_ hk => (⟨hk, hk.2⟩ : _ ∧ k_ ≠ gb563))) (fun _ hk => hk.2) (.string t555)) (fun _ hk => hk.2) (.slice Ao83 t556.length co83)) (fun _ hk => hk.2) (.slice Ao84 t559.length co84)) (fun _ h_ => h_.1))) hb); replace HO_6 := aM (Kd.N_below (by refine oN ?_; exact (Kd.N_mono (Kd.N_far (p := ⟨gb563, 2, none⟩) (Kd.N_far (p := ⟨gb563, 1, none⟩) (Kd.N_far (p := ⟨gb563, 0, none⟩) (Kd.N_mono HO_6.out (fun k_ hk => (⟨hk, hk.2⟩ : _ ∧ k_ ≠ gb563))) (fun _ hk => hk.2) (.string t555)) (fun _ hk => hk.2) (.slice Ao83 t556.length co83)) (fun _ hk => hk.2) (.slice Ao84 t559.length co84)) (fun _ h_ => h_.1))) hb); replace HO558 := aM (Kd.R_below (by refine oR ?_; exact (tR HO558.out BK563.out)) hb); replace HO561 := aM (Kd.N_below (by refine oN ?_; exact (Kd.N_mono (Kd.N_far (p := ⟨gb563, 2, none⟩) (Kd.N_far (p := ⟨gb563, 1, none⟩) (Kd.N_far (p := ⟨gb563, 0, none⟩) (Kd.N_mono HO561.out (fun k_ hk => (⟨hk, hk.2⟩ : _ ∧ k_ ≠ gb563))) (fun _ hk => hk.2) (.string t555)) (fun _ hk => hk.2) (.slice Ao83 t556.length co83)) (fun _ hk => hk.2) (.slice Ao84 t559.length co84)) (fun _ h_ => h_.1))) hb); replace BK563 := aM (blk_below (g := gb563) (o := .cells #[.string t555, .slice Ao83 t556.length co83, .slice Ao84 t559.length co84] 28 (0, 0)) (bP BK563.out) hb); replace HB := aM (below_step (bB1 HB.out GE563.out) hb); clear hb))
     go_ret
     exact ⟨rT, bB1 HB.out GE563.out⟩
    rw [if_pos c25] at H; have c25b0 : (t562 == 0) = true := beq_iff_eq.mpr c25; have c25b1 : (t562 != 0) = false := bne_eq_false_iff_eq.mpr c25; clear c25; obtain ⟨t566, A26, H⟩ := iB H; (try dsimp only at H)
    have H' := aM H
    clear H; obtain ⟨Ao27, co27, eo27⟩ := Kd.N_slice HO_6.out; subst eo27
    go_wp2_with (first | ((with_reducible refine gate_callee (f := 9) rfl ?_); refine gM (some 58) Tryd.func9 #[.slice Ao27 x6_3.length co27] ?_; (with_reducible refine (d_Alpha.calls k3 _ _ x6_3 t555 t556 t559 t562 _ ?side1 ?side2 A24.out).mono ?_); (case side1 => repeat (first | exact (Kd.N_reads' HO_6.out).2.2 | (with_reducible refine Kd.C_alloc ?_ _) | (with_reducible refine Kd.C_drewN ?_ _) | (with_reducible refine Kd.C_drew ?_))); (case side2 => exact (Kd.N_reads' HO_6.out).2.1); rintro e w28 ⟨v557, v560, rfl, ho0, ho1, hb⟩; refine ⟨_, rfl, ?_⟩; replace HO_0 := aM (Kd.V_mono (Kd.V_told (Kd.V_told (Kd.V_old (oV HO_0.out) hb) (Kd.R_base ho0)) (by first | exact Kd.N_base ho1 | exact Kd.S_base ho1)) (fun _ h_ => h_.1)); have HO558 := aM (Kd.R_lower (Kd.R_newM (M := fun k_ => (w.heap.size ≤ k_)) ho0 (below_size (bB HB.out)) (fun k_ h_ => h_)) (below_size (bB HB.out))); have HO561 := aM (Kd.N_lower (Kd.N_mono (ok' := fun k_ => (P0_ k_ ∨ w.heap.size ≤ k_) ∧ some k_ ≠ (v557 : Value).ownBlock ∧ some k_ ≠ (.slice Ao27 x6_3.length co27 : Value).ownBlock) (Kd.S_N (Kd.S_bound (Kd.S_apart' ho1 (Kd.R_typed ho0) (by decide)))) (fun k_ hk_ => ⟨(.inr (Nat.le_trans (below_size (bB HB.out)) hk_.2.1)), hk_.1.2, (Kd.fresh' (Kd.N_lt (oN HO_6.out)) k_ hk_.2.1)⟩)) (below_size (bB HB.out))); replace HO_6 := aM (Kd.N_mono (Kd.N_told (Kd.N_told (Kd.N_old (oN HO_6.out) hb) (Kd.R_base ho0)) (by first | exact Kd.N_base ho1 | exact Kd.S_base ho1)) (fun _ h_ => h_.1)); replace HB := aM (below_step (bB HB.out) hb); clear hb ho0 ho1) | ((with_reducible refine gate_dst (N := 8) rfl ?_); (try (refine gate_guard (by rfl) ?_; dsimp only)); refine bX 8 (cs := #[.string (⟨#[]⟩ : ByteArray), .slice none 0 0, .slice none 0 0]) (t := 28) ?_; intro gb563 hg w29 hbox hb; replace HO_0 := aM (Kd.V_below (Kd.V_elderB (oV HO_0.out) gb563 (Nat.le_of_eq hg.symm)) hb); replace HO_6 := aM (Kd.N_below (Kd.N_elderB (oN HO_6.out) gb563 (Nat.le_of_eq hg.symm)) hb); replace HO558 := aM (Kd.R_below (oR HO558.out) hb); replace HO561 := aM (Kd.N_below (Kd.N_elderB (oN HO561.out) gb563 (Nat.le_of_eq hg.symm)) hb); have BK563 := aM (hbox); have GW563 := aM (gE hg (below_size (bB HB.out))); have GE563 := GW563; replace HB := aM (below_step (bB HB.out) hb); clear hb hbox hg; obtain ⟨hcz30_0, hcz30_1, hcz30_2, hfz30_0, hfz30_1, hfz30_2⟩ := cd3 BK563.out; obtain ⟨Ao31, co31, eo31⟩ := Kd.R_slice HO558.out; subst eo31; obtain ⟨Ao32, co32, eo32⟩ := Kd.N_slice HO561.out; subst eo32) | ((with_reducible refine gate_callee (f := 14) rfl ?_); refine gM (some 73) Tryd.func14 #[.agg #[.string t555, .slice Ao31 t556.length co31, .slice Ao32 t559.length co32]] ?_; (with_reducible refine (r09_Initial.calls k3 t555 _ _ t556 _ _ t559 t566 _ ?side1 ?side2 ?side3 ?side4 A26.out).mono ?_); (case side1 => refine (Kd.R_reads' (e := 59) (base := w.heap.size) (ok := fun k_ => ((w.heap.size ≤ k_) ∧ True)) (n := t556.length) (c := co31) ?_).2.2; exact (by refine oR ?_; exact (tR HO558.out BK563.out))); (case side2 => exact (Kd.R_reads' HO558.out).2.1); (case side3 => refine (Kd.N_reads' (e := 41) (base := w.heap.size) (ok := fun k_ => (((P0_ k_ ∨ w.heap.size ≤ k_) ∧ (some k_ ≠ (.slice Ao31 t556.length co31 : Value).ownBlock ∧ some k_ ≠ (.slice Ao27 x6_3.length co27 : Value).ownBlock)) ∧ k_ ≠ gb563)) (n := t559.length) (c := co32) ?_).2.2; exact (by refine oN ?_; exact (Kd.N_mono (Kd.N_far (p := ⟨gb563, 2, none⟩) (Kd.N_far (p := ⟨gb563, 1, none⟩) (Kd.N_far (p := ⟨gb563, 0, none⟩) (Kd.N_mono HO561.out (fun k_ hk => (⟨hk, hk.2⟩ : _ ∧ k_ ≠ gb563))) (fun _ hk => hk.2) (.string t555)) (fun _ hk => hk.2) (.slice Ao31 t556.length co31)) (fun _ hk => hk.2) (.slice Ao32 t559.length co32)) (fun _ h_ => h_.1)))); (case side4 => exact (Kd.N_reads' HO561.out).2.1); rintro e w33 ⟨v567, rfl, ho0, hb⟩; refine ⟨_, rfl, ?_⟩; replace HO_0 := aM (Kd.V_elder' (by refine oV ?_; exact (Kd.V_mono (Kd.V_far (p := ⟨gb563, 2, none⟩) (Kd.V_far (p := ⟨gb563, 1, none⟩) (Kd.V_far (p := ⟨gb563, 0, none⟩) (Kd.V_mono HO_0.out (fun k_ hk => (⟨hk, hk.2⟩ : _ ∧ k_ ≠ gb563))) (fun _ hk => hk.2) (.string t555)) (fun _ hk => hk.2) (.slice Ao31 t556.length co31)) (fun _ hk => hk.2) (.slice Ao32 t559.length co32)) (fun _ h_ => h_.1))) (Kd.R_base ho0) hb); replace HO_6 := aM (Kd.N_elder' (by refine oN ?_; exact (Kd.N_mono (Kd.N_far (p := ⟨gb563, 2, none⟩) (Kd.N_far (p := ⟨gb563, 1, none⟩) (Kd.N_far (p := ⟨gb563, 0, none⟩) (Kd.N_mono HO_6.out (fun k_ hk => (⟨hk, hk.2⟩ : _ ∧ k_ ≠ gb563))) (fun _ hk => hk.2) (.string t555)) (fun _ hk => hk.2) (.slice Ao31 t556.length co31)) (fun _ hk => hk.2) (.slice Ao32 t559.length co32)) (fun _ h_ => h_.1))) (Kd.R_base ho0) hb); replace HO558 := aM (Kd.R_below (by refine oR ?_; exact (tR HO558.out BK563.out)) hb); replace HO561 := aM (Kd.N_elder' (by refine oN ?_; exact (Kd.N_mono (Kd.N_far (p := ⟨gb563, 2, none⟩) (Kd.N_far (p := ⟨gb563, 1, none⟩) (Kd.N_far (p := ⟨gb563, 0, none⟩) (Kd.N_mono HO561.out (fun k_ hk => (⟨hk, hk.2⟩ : _ ∧ k_ ≠ gb563))) (fun _ hk => hk.2) (.string t555)) (fun _ hk => hk.2) (.slice Ao31 t556.length co31)) (fun _ hk => hk.2) (.slice Ao32 t559.length co32)) (fun _ h_ => h_.1))) (Kd.R_base ho0) hb); have HO568 := aM (Kd.R_lower (Kd.R_newM (M := fun k_ => (w.heap.size ≤ k_)) ho0 (below_size (bB1 HB.out GE563.out)) (fun k_ h_ => h_)) (below_size (bB1 HB.out GE563.out))); replace BK563 := aM (blk_below (g := gb563) (o := .cells #[.string t555, .slice Ao31 t556.length co31, .slice Ao32 t559.length co32] 28 (0, 0)) (bP BK563.out) hb); replace HB := aM (below_step (bB1 HB.out GE563.out) hb); clear hb ho0))
    go_loopg [10, 11] k3 (fun kq v10 v11 w' => ∃ (x10_4 : List Int) (x11_4 : Int), v11 = .int .i64 x11_4 ∧ Aside0 (l49_DiscoverChains.l2 kq l0 x10_4 x11_4 t555 t556 t559 = some r) ∧ Aside0 (kq ≤ k3) ∧ Aside0 (Kd.V Kd.string 9 w' w.heap.size (fun k_ => (P0_ k_ ∨ w.heap.size ≤ k_) ∧ some k_ ≠ (v10 : Value).ownBlock ∧ some k_ ≠ ((.slice Ao31 t556.length co31) : Value).ownBlock ∧ some k_ ≠ ((.slice Ao32 t559.length co32) : Value).ownBlock ∧ k_ ≠ gb563) (.slice A0 l0.length c0) l0) ∧ Aside0 (Kd.R (Kd.int .i64) 3 w' w.heap.size (fun k_ => (w.heap.size ≤ k_)) v10 x10_4) ∧ Aside0 (Kd.R k59 59 w' w.heap.size (fun k_ => (w.heap.size ≤ k_)) (.slice Ao31 t556.length co31) t556) ∧ Aside0 (Kd.N k41 41 w' w.heap.size (fun k_ => (P0_ k_ ∨ w.heap.size ≤ k_) ∧ some k_ ≠ (v10 : Value).ownBlock ∧ some k_ ≠ ((.slice Ao31 t556.length co31) : Value).ownBlock ∧ k_ ≠ gb563) (.slice Ao32 t559.length co32) t559) ∧ Aside0 (w'.heap[gb563]? = some (.cells #[.string t555, (.slice Ao31 t556.length co31), (.slice Ao32 t559.length co32)] 28 (0, 0))) ∧ Aside0 (Below w.heap.size w w'))
    case atStart => exact ⟨(t566), (0), eT, H', ⟨Nat.le_refl _⟩, ⟨by refine oV ?_; exact Kd.V_mono HO_0.out (fun _ hk => ⟨hk.1.1.1.1.1, ⟨hk.2, ⟨hk.1.1.1.2, ⟨hk.1.1.2, hk.1.2⟩⟩⟩⟩)⟩, ⟨by refine oR ?_; exact Kd.R_mono HO568.out (fun _ hk => hk.1)⟩, ⟨by refine oR ?_; exact Kd.R_mono HO558.out (fun _ hk => hk.1)⟩, ⟨by refine oN ?_; exact Kd.N_mono HO561.out (fun _ hk => ⟨hk.1.1.1, ⟨hk.2, ⟨hk.1.1.2.1, hk.1.2⟩⟩⟩)⟩, ⟨kB BK563.out⟩, ⟨bB1 HB.out GE563.out⟩⟩
    clear H'
    try clear hx5
    try clear hx549_0
    obtain ⟨x10_4, x11_4, rfl, HA, HK4, HO_0, HO_10, HO_564001, HO_564002, BK563, HB⟩ := hrel
    cases gk with
    | zero => exact absurd HA.out (by simp [l49_DiscoverChains.l2])
    | succ k4 =>
     have H := HA.out; clear HA
     simp only [l49_DiscoverChains.l2] at H
     by_cases c34 : x11_4 < (l0.length : Int)
     rotate_left
     ·
      rw [if_neg c34] at H
      have c34b0 := decide_eq_false c34; clear c34
      by_cases c56 : (t556.length : Int) = (wrap64 ((l0.length : Int) + 1))
      rotate_left
      ·
       rw [if_neg c56] at H
       have c56b0 : ((t556.length : Int) == (wrap64 ((l0.length : Int) + 1))) = false := beq_eq_false_iff_ne.mpr c56; have c56b1 : ((t556.length : Int) != (wrap64 ((l0.length : Int) + 1))) = true := bne_iff_ne.mpr c56
       exact absurd ((Option.some.inj H).trans hrT_.out) Bool.false_ne_true
      rw [if_pos c56] at H; have c56b0 : ((t556.length : Int) == (wrap64 ((l0.length : Int) + 1))) = true := beq_iff_eq.mpr c56; have c56b1 : ((t556.length : Int) != (wrap64 ((l0.length : Int) + 1))) = false := bne_eq_false_iff_eq.mpr c56; clear c56; obtain ⟨t569, A57, H⟩ := iB H; (try dsimp only at H)
      by_cases c58 : t569 = 1
      rotate_left
      ·
       rw [if_neg c58] at H
       have c58b0 : (t569 == 1) = false := beq_eq_false_iff_ne.mpr c58; have c58b1 : (t569 != 1) = true := bne_iff_ne.mpr c58
       exact absurd ((Option.some.inj H).trans hrT_.out) Bool.false_ne_true
      rw [if_pos c58] at H; have c58b0 : (t569 == 1) = true := beq_iff_eq.mpr c58; have c58b1 : (t569 != 1) = false := bne_eq_false_iff_eq.mpr c58; clear c58
      obtain ⟨c59, H⟩ := iP H; have c59b0 := decide_eq_true c59; have c59b1 : decide (1 < x10_4.length) = true := decide_eq_true (by omega); clear c59
      by_cases c60 : (rd x10_4 1) = 1
      rotate_left
      ·
       rw [if_neg c60] at H
       have c60b0 : ((rd x10_4 1) == 1) = false := beq_eq_false_iff_ne.mpr c60; have c60b1 : ((rd x10_4 1) != 1) = true := bne_iff_ne.mpr c60
       exact absurd ((Option.some.inj H).trans hrT_.out) Bool.false_ne_true
      rw [if_pos c60] at H; have c60b0 : ((rd x10_4 1) == 1) = true := beq_iff_eq.mpr c60; have c60b1 : ((rd x10_4 1) != 1) = false := bne_eq_false_iff_eq.mpr c60; clear c60; obtain ⟨t571, A61, H⟩ := iB H; (try dsimp only at H)
      by_cases c62 : t571 = true
      rotate_left
      ·
       replace c62 := Bool.eq_false_iff.mpr c62
       subst c62
       have H1 : (some false) = some r := by rw [if_neg (show ¬ (false = true) by decide)] at H; exact H
       clear H; have H := H1; clear H1
       exact absurd ((Option.some.inj H).trans hrT_.out) Bool.false_ne_true
      subst c62
      have H1 : ((l49_exampleHolds.f k4).bind fun t572 => (some t572)) = some r := by rw [if_pos rfl] at H; exact H
      clear H; have H := H1; clear H1; replace H := Option.bind_eq_some_iff.mp H; obtain ⟨t572, A630, H⟩ := H
      replace H : (some t572) = some r := H
      have A63 := aM A630; clear A630
      obtain rfl := Option.some.inj H
      have hcz64_0 : wr.cell? ⟨gb563, 0, none⟩ = some (.string t555) := (blk_cell BK563.out 0).trans rfl
      have hcz64_1 : wr.cell? ⟨gb563, 1, none⟩ = some (.slice Ao31 t556.length co31) := (blk_cell BK563.out 1).trans rfl
      have hcz64_2 : wr.cell? ⟨gb563, 2, none⟩ = some (.slice Ao32 t559.length co32) := (blk_cell BK563.out 2).trans rfl
      have hfz64_0 := blk_frozen BK563.out 0; have hfz64_1 := blk_frozen BK563.out 1; have hfz64_2 := blk_frozen BK563.out 2; obtain ⟨Ao65, co65, eo65⟩ := Kd.R_slice HO_10.out; subst eo65
      go_wp2_with (first | (go_at_call 17; (with_reducible refine (r04_Total.calls k4 _ _ x10_4 t569 _ ?side1 ?side2 A57.out).mono ?_); (case side1 => repeat (first | exact (Kd.R_reads' HO_10.out).2.2 | (with_reducible refine Kd.C_alloc ?_ _) | (with_reducible refine Kd.C_drewN ?_ _) | (with_reducible refine Kd.C_drew ?_))); (case side2 => exact (Kd.R_reads' HO_10.out).2.1); rintro e w' ⟨rfl, ⟨nd, rfl⟩⟩; have p570 : 0 ≤ (1 : Int) := (by omega); have q570 : 1 < (x10_4.length : Int) := dT; obtain ⟨ad570, e570, hx570_0⟩ := Kd.at_int (Kd.R_reads' HO_10.out).2.2 1 p570 q570; cases e570; (try simp only [show (1 : Int).toNat = 1 from rfl, Nat.reduceMul, Nat.reduceEqDiff, Go.Addr.add, ↓reduceIte] at hx570_0); have qi570 : (1 < x10_4.length) = True := eq_true (by omega); (try rw [show ((1 : Int)).toNat = 1 from rfl] at hx570_0); replace p570 := eq_true p570; replace q570 := eq_true q570) | (go_at_call 18; (with_reducible refine (r11_Dead.calls k4 t555 _ _ t556 _ _ t559 _ _ x10_4 true _ ?side1 ?side2 ?side3 ?side4 ?side5 ?side6 A61.out).mono ?_); (case side1 => repeat (first | exact (Kd.R_reads' HO_564001.out).2.2 | (with_reducible refine Kd.C_alloc ?_ _) | (with_reducible refine Kd.C_drewN ?_ _) | (with_reducible refine Kd.C_drew ?_))); (case side2 => exact (Kd.R_reads' HO_564001.out).2.1); (case side3 => repeat (first | exact (Kd.N_reads' HO_564002.out).2.2 | (with_reducible refine Kd.C_alloc ?_ _) | (with_reducible refine Kd.C_drewN ?_ _) | (with_reducible refine Kd.C_drew ?_))); (case side4 => exact (Kd.N_reads' HO_564002.out).2.1); (case side5 => repeat (first | exact (Kd.R_reads' HO_10.out).2.2 | (with_reducible refine Kd.C_alloc ?_ _) | (with_reducible refine Kd.C_drewN ?_ _) | (with_reducible refine Kd.C_drew ?_))); (case side6 => exact (Kd.R_reads' HO_10.out).2.1); rintro e w66 ⟨rfl, hb⟩; replace HO_0 := aM (Kd.V_below (oV HO_0.out) hb); replace HO_10 := aM (Kd.R_below (oR HO_10.out) hb); replace HO_564001 := aM (Kd.R_below (oR HO_564001.out) hb); replace HO_564002 := aM (Kd.N_below (oN HO_564002.out) hb); replace BK563 := aM (kW BK563.out hb); replace HB := aM (below_step (bB1 HB.out GE563.out) hb); clear hb) | (go_at_call 8; (with_reducible refine (l49_exampleHolds.calls k4  t572 _ A63.out (by first | exact hrT_ | exact ⟨rfl⟩)).mono ?_); rintro e w67 ⟨rfl, hb⟩; replace HO_0 := aM (Kd.V_below (oV HO_0.out) hb); replace HO_10 := aM (Kd.R_below (oR HO_10.out) hb); replace HO_564001 := aM (Kd.R_below (oR HO_564001.out) hb); replace HO_564002 := aM (Kd.N_below (oN HO_564002.out) hb); replace BK563 := aM (kW BK563.out hb); replace HB := aM (below_step (bB1 HB.out GE563.out) hb); clear hb))
      go_ret
      exact ⟨rT, bB1 HB.out GE563.out⟩
     rw [if_pos c34] at H; have c34b0 := decide_eq_true c34; clear c34; obtain ⟨t573, A35, H⟩ := iB H; (try dsimp only at H); have HC36 := aM H; clear H
     have hcz37_0 : wr.cell? ⟨gb563, 0, none⟩ = some (.string t555) := (blk_cell BK563.out 0).trans rfl
     have hcz37_1 : wr.cell? ⟨gb563, 1, none⟩ = some (.slice Ao31 t556.length co31) := (blk_cell BK563.out 1).trans rfl
     have hcz37_2 : wr.cell? ⟨gb563, 2, none⟩ = some (.slice Ao32 t559.length co32) := (blk_cell BK563.out 2).trans rfl
     have hfz37_0 := blk_frozen BK563.out 0; have hfz37_1 := blk_frozen BK563.out 1; have hfz37_2 := blk_frozen BK563.out 2; obtain ⟨Ao38, co38, eo38⟩ := Kd.R_slice HO_10.out; subst eo38
     go_upto_region 21 with (first | ((with_reducible refine gate_callee (f := 15) rfl ?_); refine gM (some 82) Tryd.func15 #[.agg #[.string t555, .slice Ao31 t556.length co31, .slice Ao32 t559.length co32], .slice Ao38 x10_4.length co38] ?_; (with_reducible refine (r11_List.calls k4 t555 _ _ t556 _ _ t559 _ _ x10_4 t573 _ ?side1 ?side2 ?side3 ?side4 ?side5 ?side6 A35.out).mono ?_); (case side1 => repeat (first | exact (Kd.R_reads' HO_564001.out).2.2 | (with_reducible refine Kd.C_alloc ?_ _) | (with_reducible refine Kd.C_drewN ?_ _) | (with_reducible refine Kd.C_drew ?_))); (case side2 => exact (Kd.R_reads' HO_564001.out).2.1); (case side3 => repeat (first | exact (Kd.N_reads' HO_564002.out).2.2 | (with_reducible refine Kd.C_alloc ?_ _) | (with_reducible refine Kd.C_drewN ?_ _) | (with_reducible refine Kd.C_drew ?_))); (case side4 => exact (Kd.N_reads' HO_564002.out).2.1); (case side5 => repeat (first | exact (Kd.R_reads' HO_10.out).2.2 | (with_reducible refine Kd.C_alloc ?_ _) | (with_reducible refine Kd.C_drewN ?_ _) | (with_reducible refine Kd.C_drew ?_))); (case side6 => exact (Kd.R_reads' HO_10.out).2.1); rintro e w39 ⟨v574, rfl, ho0, hb⟩; refine ⟨_, rfl, ?_⟩; replace HO_0 := aM (Kd.V_elder' (oV HO_0.out) (Kd.R_base ho0) hb); replace HO_564001 := aM (Kd.R_below (oR HO_564001.out) hb); replace HO_564002 := aM (Kd.N_elder' (oN HO_564002.out) (Kd.R_base ho0) hb); have HO575 := aM (Kd.R_lower (Kd.R_new' (Kd.R_newM (M := fun k_ => (w.heap.size ≤ k_)) ho0 (below_size (bB1 HB.out GE563.out)) (fun k_ h_ => h_)) (Kd.R_lt (oR HO_10.out))) (below_size (bB1 HB.out GE563.out))); replace HO_10 := aM (Kd.R_elder' (oR HO_10.out) (Kd.R_base ho0) hb); replace BK563 := aM (kW BK563.out hb); replace HB := aM (below_step (bB1 HB.out GE563.out) hb); clear hb ho0))
     (try simp only [Act.put, List.setIfInBounds_toArray, List.set_cons_zero, List.set_cons_succ])
     go_cut [100] (fun v100 wc => ∃ (kq : Nat) (x100_35 : Bool), v100 = .bool x100_35 ∧ Aside0 (l49_DiscoverChains.j4 kq l0 x10_4 x11_4 t573 x100_35 t555 t556 t559 = some r) ∧ Aside0 (kq ≤ k4) ∧ Aside0 (Kd.V Kd.string 9 wc w.heap.size (fun k_ => (P0_ k_ ∨ w.heap.size ≤ k_) ∧ some k_ ≠ ((.slice Ao38 x10_4.length co38) : Value).ownBlock ∧ some k_ ≠ (v574 : Value).ownBlock ∧ some k_ ≠ ((.slice Ao31 t556.length co31) : Value).ownBlock ∧ some k_ ≠ ((.slice Ao32 t559.length co32) : Value).ownBlock ∧ k_ ≠ gb563) (.slice A0 l0.length c0) l0) ∧ Aside0 (Kd.R (Kd.int .i64) 3 wc w.heap.size (fun k_ => (w.heap.size ≤ k_) ∧ some k_ ≠ (v574 : Value).ownBlock) (.slice Ao38 x10_4.length co38) x10_4) ∧ Aside0 (Kd.R (Kd.int .i64) 3 wc w.heap.size (fun k_ => (w.heap.size ≤ k_) ∧ some k_ ≠ ((.slice Ao38 x10_4.length co38) : Value).ownBlock) v574 t573) ∧ Aside0 (Kd.R k59 59 wc w.heap.size (fun k_ => (w.heap.size ≤ k_)) (.slice Ao31 t556.length co31) t556) ∧ Aside0 (Kd.N k41 41 wc w.heap.size (fun k_ => (P0_ k_ ∨ w.heap.size ≤ k_) ∧ some k_ ≠ ((.slice Ao38 x10_4.length co38) : Value).ownBlock ∧ some k_ ≠ (v574 : Value).ownBlock ∧ some k_ ≠ ((.slice Ao31 t556.length co31) : Value).ownBlock ∧ k_ ≠ gb563) (.slice Ao32 t559.length co32) t559) ∧ Aside0 (wc.heap[gb563]? = some (.cells #[.string t555, (.slice Ao31 t556.length co31), (.slice Ao32 t559.length co32)] 28 (0, 0))) ∧ Aside0 (Below w.heap.size w wc))
     case first =>
      have H := HC36.out; clear HC36
      by_cases c40 : (t573.length : Int) = 1
      rotate_left
      ·
       rw [if_neg c40] at H
       have c40b0 : ((t573.length : Int) == 1) = false := beq_eq_false_iff_ne.mpr c40; have c40b1 : ((t573.length : Int) != 1) = true := bne_iff_ne.mpr c40
       (first | rw [c40b0] | (simp only [i64_w, i32_w]; rw [c40b0]) | skip)
       have H' := aM H
       clear H
       try go_wp2
       replace HO_0 := aM (Kd.V_drew HO_0.out); replace HO_10 := aM (Kd.R_drew HO_10.out); replace HO_564001 := aM (Kd.R_drew HO_564001.out); replace HO_564002 := aM (Kd.N_drew HO_564002.out); replace HO575 := aM (Kd.R_drew HO575.out); replace BK563 := aM (blk_drew BK563.out); replace HB := aM (below_drew1 HB.out); obtain ⟨Ao48, co48, eo48⟩ := Kd.R_slice HO575.out
       (first | subst eo48 | (injection eo48 with f1_ f2_ f3_; have f4_ := f1_.symm; have f5_ := f3_.symm; clear f1_ f2_ f3_; subst f4_; subst f5_))
       refine start_ (n := 18) (S := fun w' => True) (ds := []) #[false, false, false, false, false, false, false, false, false, false, false, false, false, false, false, false, false, false] (by kernel_rfl) rfl rfl trivial (fun hHeld => ?_); refine with_tabW l49_DiscoverChains.tab21 l49_DiscoverChains.bits21 (fun HT_ HW_ => ?_)
       generalize w39.drew = w47 at HO_0 HO_10 HO_564001 HO_564002 HO575 BK563 HB hHeld ⊢
       refine pU 0 83 (any_of HT_.out (by kernel_rfl)) ?_
       refine pU 1 84 (any_of HT_.out (by kernel_rfl)) ?_
       refine pU 2 85 (any_of HT_.out (by kernel_rfl)) ?_
       refine pU 3 86 (any_of HT_.out (by kernel_rfl)) ?_
       refine pure_ (i := 4) (N := some 87) (v := undef) (a' := ?_) #[true, true, true, true, true, false, false, false, false, false, false, false, false, false, false, false, false, false] rfl rfl (any_of HT_.out (by kernel_rfl)) (fun _ _ _ h => h) (Or.inr ⟨by rfl, rfl⟩) ?_ ?_
       rotate_left
       ·
        simp only [Act.put, List.setIfInBounds_toArray, List.set_cons_zero, List.set_cons_succ, i64_w, i32_w]
        rfl
       refine pure_ (i := 5) (N := some 88) (v := undef) (a' := ?_) #[true, true, true, true, true, true, false, false, false, false, false, false, false, false, false, false, false, false] rfl rfl (any_of HT_.out (by kernel_rfl)) (fun _ _ _ h => h) (Or.inr ⟨by rfl, rfl⟩) ?_ ?_
       rotate_left
       ·
        simp only [Act.put, List.setIfInBounds_toArray, List.set_cons_zero, List.set_cons_succ, i64_w, i32_w]
        rfl
       refine pure_ (i := 6) (N := some 89) (v := undef) (a' := ?_) #[true, true, true, true, true, true, true, false, false, false, false, false, false, false, false, false, false, false] rfl rfl (any_of HT_.out (by kernel_rfl)) (fun _ _ _ h => h) (Or.inr ⟨by rfl, rfl⟩) ?_ ?_
       rotate_left
       ·
        simp only [Act.put, List.setIfInBounds_toArray, List.set_cons_zero, List.set_cons_succ, i64_w, i32_w]
        rfl
       refine pure_ (i := 7) (N := some 90) (v := undef) (a' := ?_) #[true, true, true, true, true, true, true, true, false, false, false, false, false, false, false, false, false, false] rfl rfl (any_of HT_.out (by kernel_rfl)) (fun _ _ _ h => h) (Or.inr ⟨by rfl, rfl⟩) ?_ ?_
       rotate_left
       ·
        simp only [Act.put, List.setIfInBounds_toArray, List.set_cons_zero, List.set_cons_succ, i64_w, i32_w]
        rfl
       refine pure_ (i := 8) (N := some 91) (v := undef) (a' := ?_) #[true, true, true, true, true, true, true, true, true, false, false, false, false, false, false, false, false, false] rfl rfl (any_of HT_.out (by kernel_rfl)) (fun _ _ _ h => h) (Or.inr ⟨by rfl, rfl⟩) ?_ ?_
       rotate_left
       ·
        simp only [Act.put, List.setIfInBounds_toArray, List.set_cons_zero, List.set_cons_succ, i64_w, i32_w]
        rfl
       refine pure_ (i := 9) (N := some 92) (v := undef) (a' := ?_) #[true, true, true, true, true, true, true, true, true, true, false, false, false, false, false, false, false, false] rfl rfl (any_of HT_.out (by kernel_rfl)) (fun _ _ _ h => h) (Or.inr ⟨by rfl, rfl⟩) ?_ ?_
       rotate_left
       ·
        simp only [Act.put, List.setIfInBounds_toArray, List.set_cons_zero, List.set_cons_succ, i64_w, i32_w]
        rfl
       refine pure_ (i := 10) (N := some 93) (v := undef) (a' := ?_) #[true, true, true, true, true, true, true, true, true, true, true, false, false, false, false, false, false, false] rfl rfl (any_of HT_.out (by kernel_rfl)) (fun _ _ _ h => h) (Or.inr ⟨by rfl, rfl⟩) ?_ ?_
       rotate_left
       ·
        simp only [Act.put, List.setIfInBounds_toArray, List.set_cons_zero, List.set_cons_succ, i64_w, i32_w]
        rfl
       refine pure_ (i := 11) (N := some 94) (v := undef) (a' := ?_) #[true, true, true, true, true, true, true, true, true, true, true, true, false, false, false, false, false, false] rfl rfl (any_of HT_.out (by kernel_rfl)) (fun _ _ _ h => h) (Or.inr ⟨by rfl, rfl⟩) ?_ ?_
       rotate_left
       ·
        simp only [Act.put, List.setIfInBounds_toArray, List.set_cons_zero, List.set_cons_succ, i64_w, i32_w]
        rfl
       refine pure_ (i := 12) (N := some 95) (v := undef) (a' := ?_) #[true, true, true, true, true, true, true, true, true, true, true, true, true, false, false, false, false, false] rfl rfl (any_of HT_.out (by kernel_rfl)) (fun _ _ _ h => h) (Or.inr ⟨by rfl, rfl⟩) ?_ ?_
       rotate_left
       ·
        simp only [Act.put, List.setIfInBounds_toArray, List.set_cons_zero, List.set_cons_succ, i64_w, i32_w]
        rfl
       refine pure_ (i := 13) (N := some 96) (v := undef) (a' := ?_) #[true, true, true, true, true, true, true, true, true, true, true, true, true, true, false, false, false, false] rfl rfl (any_of HT_.out (by kernel_rfl)) (fun _ _ _ h => h) (Or.inr ⟨by rfl, rfl⟩) ?_ ?_
       rotate_left
       ·
        simp only [Act.put, List.setIfInBounds_toArray, List.set_cons_zero, List.set_cons_succ, i64_w, i32_w]
        rfl
       refine pure_ (i := 14) (N := some 97) (v := undef) (a' := ?_) #[true, true, true, true, true, true, true, true, true, true, true, true, true, true, true, false, false, false] rfl rfl (any_of HT_.out (by kernel_rfl)) (fun _ _ _ h => h) (Or.inr ⟨by rfl, rfl⟩) ?_ ?_
       rotate_left
       ·
        simp only [Act.put, List.setIfInBounds_toArray, List.set_cons_zero, List.set_cons_succ, i64_w, i32_w]
        rfl
       refine pure_ (i := 15) (N := some 98) (v := undef) (a' := ?_) #[true, true, true, true, true, true, true, true, true, true, true, true, true, true, true, true, false, false] rfl rfl (any_of HT_.out (by kernel_rfl)) (fun _ _ _ h => h) (Or.inr ⟨by rfl, rfl⟩) ?_ ?_
       rotate_left
       ·
        simp only [Act.put, List.setIfInBounds_toArray, List.set_cons_zero, List.set_cons_succ, i64_w, i32_w]
        rfl
       refine pure_ (i := 16) (N := some 99) (v := undef) (a' := ?_) #[true, true, true, true, true, true, true, true, true, true, true, true, true, true, true, true, true, false] rfl rfl (any_of HT_.out (by kernel_rfl)) (fun _ _ _ h => h) (Or.inr ⟨by rfl, rfl⟩) ?_ ?_
       rotate_left
       ·
        simp only [Act.put, List.setIfInBounds_toArray, List.set_cons_zero, List.set_cons_succ, i64_w, i32_w]
        rfl
       refine pU 17 100 (any_of HT_.out (by kernel_rfl)) ?_
       refine done_ (done_of HT_.out (by kernel_rfl)) ?_
       try go_wp2
       go_meet
       case rel => exact ⟨_, (true), eT, H', ⟨by have := HJ2.out; have := HK2.out; have := HK3.out; have := HK4.out; first | omega | exact Nat.le_refl _⟩, ⟨by refine oV ?_; exact Kd.V_mono HO_0.out (fun _ hk => ⟨hk.1.1, ⟨hk.1.2.1, ⟨hk.2, ⟨hk.1.2.2.1, ⟨hk.1.2.2.2.1, hk.1.2.2.2.2⟩⟩⟩⟩⟩)⟩, ⟨oR HO_10.out⟩, ⟨by refine oR ?_; exact Kd.R_mono HO575.out (fun _ hk => ⟨hk.1.1, hk.2⟩)⟩, ⟨oR HO_564001.out⟩, ⟨by refine oN ?_; exact Kd.N_mono HO_564002.out (fun _ hk => ⟨hk.1.1, ⟨hk.1.2.1, ⟨hk.2, ⟨hk.1.2.2.1, hk.1.2.2.2⟩⟩⟩⟩)⟩, ⟨kB BK563.out⟩, ⟨bB1 HB.out GE563.out⟩⟩
      rw [if_pos c40] at H; have c40b0 : ((t573.length : Int) == 1) = true := beq_iff_eq.mpr c40; have c40b1 : ((t573.length : Int) != 1) = false := bne_eq_false_iff_eq.mpr c40; clear c40
      (first | rw [c40b0] | (simp only [i64_w, i32_w]; rw [c40b0]) | skip)
      obtain ⟨c41, H⟩ := iP H; have c41b0 := decide_eq_true c41; have c41b1 : decide (0 < t573.length) = true := decide_eq_true (by omega); clear c41
      obtain ⟨c42, H⟩ := iP H; have c42b0 := decide_eq_true c42; clear c42
      obtain ⟨c43, H⟩ := iP H; have c43b0 := decide_eq_true c43; clear c43
      obtain ⟨c44, H⟩ := iP H; have c44b0 := decide_eq_true c44; clear c44
      have H' := aM H
      clear H
      try go_wp2
      replace HO_0 := aM (Kd.V_drew HO_0.out); replace HO_10 := aM (Kd.R_drew HO_10.out); replace HO_564001 := aM (Kd.R_drew HO_564001.out); replace HO_564002 := aM (Kd.N_drew HO_564002.out); replace HO575 := aM (Kd.R_drew HO575.out); replace BK563 := aM (blk_drew BK563.out); replace HB := aM (below_drew1 HB.out); obtain ⟨Ao46, co46, eo46⟩ := Kd.R_slice HO575.out
      (first | subst eo46 | (injection eo46 with f1_ f2_ f3_; have f4_ := f1_.symm; have f5_ := f3_.symm; clear f1_ f2_ f3_; subst f4_; subst f5_))
      have p576 : 0 ≤ (0 : Int) := (by omega); have q576 : 0 < (t573.length : Int) := dT; obtain ⟨ad576, e576, hx576_0⟩ := Kd.at_int (Kd.R_reads' HO575.out).2.2 0 p576 q576; cases e576; have qi576 : (0 < t573.length) = True := eq_true (by omega)
      (try rw [show ((0 : Int)).toNat = 0 from rfl] at hx576_0)
      (try rw [Addr.add_zero'] at hx576_0)
      replace p576 := eq_true p576; replace q576 := eq_true q576; have p577 : 0 ≤ ((rd t573 0) : Int) := dT; have q577 : (rd t573 0) < (t559.length : Int) := dT; obtain ⟨ad577, A577_1, c577_1, A577_2, c577_2, A577_3, c577_3, e577, hx577_0, hx577_1, hx577_2, hx577_3, hx577_4, hl577_1, hi577_1, hl577_2, hi577_2, hl577_3, hi577_3⟩ := at_T41 (Kd.N_reads' HO_564002.out).2.2 (rd t573 0) p577 q577; cases e577; obtain ⟨ce577, hce577, hMe577, hcc577⟩ := Kd.N_get HO_564002.out z41 (rd t573 0) p577 (by first | exact q577 | exact dT | (have e_ := (Kd.N_reads' HO_564002.out).1; omega)); obtain ⟨ua577_1, uc577_1, ua577_2, uc577_2, ua577_3, uc577_3, rfl, ul577_1, ge577_1, ul577_2, ge577_2, ul577_3, ge577_3⟩ := k41_openF hMe577; have hv577_1 := hcc577 1 _ rfl; rw [add_field _ _ 1 (by omega)] at hv577_1; replace hv577_1 := Option.some.inj (hv577_1.symm.trans hx577_1); injection hv577_1 with hva_ hvn_ hvc_; rw [hva_] at ge577_1; rw [hvc_] at ul577_1; have HL577_1 := aM (show Kd.V k62 62 _ w.heap.size _ _ ((rd_T41 t559 (rd t573 0)).f1) from Kd.V_mk ul577_1 ge577_1); clear hva_ hvn_ hvc_ ge577_1 ul577_1; have hv577_2 := hcc577 2 _ rfl; rw [add_field _ _ 2 (by omega)] at hv577_2; replace hv577_2 := Option.some.inj (hv577_2.symm.trans hx577_2); injection hv577_2 with hva_ hvn_ hvc_; rw [hva_] at ge577_2; rw [hvc_] at ul577_2; have HL577_2 := aM (show Kd.V k62 62 _ w.heap.size _ _ ((rd_T41 t559 (rd t573 0)).f2) from Kd.V_mk ul577_2 ge577_2); clear hva_ hvn_ hvc_ ge577_2 ul577_2; have hv577_3 := hcc577 3 _ rfl; rw [add_field _ _ 3 (by omega)] at hv577_3; replace hv577_3 := Option.some.inj (hv577_3.symm.trans hx577_3); injection hv577_3 with hva_ hvn_ hvc_; rw [hva_] at ge577_3; rw [hvc_] at ul577_3; have HL577_3 := aM (show Kd.V k62 62 _ w.heap.size _ _ ((rd_T41 t559 (rd t573 0)).f3) from Kd.V_mk ul577_3 ge577_3); clear hva_ hvn_ hvc_ ge577_3 ul577_3; clear hcc577 hce577; have HR577_1 := aM hi577_1; have HC577_1 := aM hl577_1; clear hi577_1 hl577_1; have HR577_2 := aM hi577_2; have HC577_2 := aM hl577_2; clear hi577_2 hl577_2; have HR577_3 := aM hi577_3; have HC577_3 := aM hl577_3; clear hi577_3 hl577_3; replace p577 := eq_true p577; replace q577 := eq_true q577; obtain ⟨p578, q578, ad578, e578, hx578_0⟩ := aT (Kd.at_string (Kd.V_reads' HO_0.out).2.2 x11_4); cases e578
      refine start_ (n := 18) (S := fun w' => w'.cell? ⟨gb563, 0, none⟩ = some (.string t555) ∧ w'.cell? ⟨gb563, 1, none⟩ = some (.slice Ao31 t556.length co31) ∧ w'.cell? ⟨gb563, 2, none⟩ = some (.slice (some ad577) t559.length co32) ∧ w'.cell? ad576 = some (.int .i64 (rd t573 0)) ∧ w'.cell? (ad577.add (((rd t573 0)).toNat * 5)) = some (.string ((rd_T41 t559 (rd t573 0)).f0)) ∧ w'.cell? ⟨(ad577.add (((rd t573 0)).toNat * 5)).block, (ad577.add (((rd t573 0)).toNat * 5)).off + 1, none⟩ = some (.slice A577_1 ((rd_T41 t559 (rd t573 0)).f1).length c577_1) ∧ w'.cell? ⟨(ad577.add (((rd t573 0)).toNat * 5)).block, (ad577.add (((rd t573 0)).toNat * 5)).off + 2, none⟩ = some (.slice A577_2 ((rd_T41 t559 (rd t573 0)).f2).length c577_2) ∧ w'.cell? ⟨(ad577.add (((rd t573 0)).toNat * 5)).block, (ad577.add (((rd t573 0)).toNat * 5)).off + 3, none⟩ = some (.slice A577_3 ((rd_T41 t559 (rd t573 0)).f3).length c577_3) ∧ w'.cell? ⟨(ad577.add (((rd t573 0)).toNat * 5)).block, (ad577.add (((rd t573 0)).toNat * 5)).off + 4, none⟩ = some (.int .i64 ((rd_T41 t559 (rd t573 0)).f4)) ∧ w'.cell? (ad578.add (x11_4).toNat) = some (.string (rdOf ByteArray.empty l0 x11_4))) (ds := []) #[false, false, false, false, false, false, false, false, false, false, false, false, false, false, false, false, false, false] (by kernel_rfl) rfl rfl ⟨(blk_cell BK563.out 0).trans rfl, (blk_cell BK563.out 1).trans rfl, (blk_cell BK563.out 2).trans rfl, hx576_0, hx577_0, hx577_1, hx577_2, hx577_3, hx577_4, hx578_0⟩ (fun hHeld => ?_); refine with_tabW l49_DiscoverChains.tab21 l49_DiscoverChains.bits21 (fun HT_ HW_ => ?_)
      generalize w39.drew = w45 at HO_0 HO_10 HO_564001 HO_564002 HO575 BK563 HB HL577_1 HL577_2 HL577_3 HR577_1 HR577_2 HR577_3 hx576_0 hx577_0 hx577_1 hx577_2 hx577_3 hx577_4 hx578_0 hHeld ⊢
      refine pU 0 83 (any_of HT_.out (by kernel_rfl)) ?_
      refine pU 1 84 (any_of HT_.out (by kernel_rfl)) ?_
      refine pU 2 85 (any_of HT_.out (by kernel_rfl)) ?_
      refine pU 3 86 (any_of HT_.out (by kernel_rfl)) ?_
      refine pU 4 87 (any_of HT_.out (by kernel_rfl)) ?_
      refine pU 6 89 (any_of HT_.out (by kernel_rfl)) ?_
      refine pU 7 90 (any_of HT_.out (by kernel_rfl)) ?_
      refine pU 12 95 (any_of HT_.out (by kernel_rfl)) ?_
      refine pU 13 96 (any_of HT_.out (by kernel_rfl)) ?_
      refine pU 14 97 (any_of HT_.out (by kernel_rfl)) ?_
      refine tU 5 88 (take_ofW HT_.out HW_.out (by kernel_rfl)) hHeld ?_
      refine tU 8 91 (take_ofW HT_.out HW_.out (by kernel_rfl)) hHeld ?_
      refine pU 9 92 (any_of HT_.out (by kernel_rfl)) ?_
      refine pU 10 93 (any_of HT_.out (by kernel_rfl)) ?_
      refine tU 11 94 (take_ofW HT_.out HW_.out (by kernel_rfl)) hHeld ?_
      refine tU 15 98 (take_ofW HT_.out HW_.out (by kernel_rfl)) hHeld ?_
      refine pU 16 99 (any_of HT_.out (by kernel_rfl)) ?_
      refine pU 17 100 (any_of HT_.out (by kernel_rfl)) ?_
      refine done_ (done_of HT_.out (by kernel_rfl)) ?_
      try go_wp2
      go_meet
      case rel => exact ⟨_, ((((rd_T41 t559 (rd t573 0)).f0).toList != (rdOf ByteArray.empty l0 x11_4).toList)), eT, H', ⟨by have := HJ2.out; have := HK2.out; have := HK3.out; have := HK4.out; first | omega | exact Nat.le_refl _⟩, ⟨by refine oV ?_; exact Kd.V_mono HO_0.out (fun _ hk => ⟨hk.1.1, ⟨hk.1.2.1, ⟨hk.2, ⟨hk.1.2.2.1, ⟨hk.1.2.2.2.1, hk.1.2.2.2.2⟩⟩⟩⟩⟩)⟩, ⟨oR HO_10.out⟩, ⟨by refine oR ?_; exact Kd.R_mono HO575.out (fun _ hk => ⟨hk.1.1, hk.2⟩)⟩, ⟨oR HO_564001.out⟩, ⟨by refine oN ?_; exact Kd.N_mono HO_564002.out (fun _ hk => ⟨hk.1.1, ⟨hk.1.2.1, ⟨hk.2, ⟨hk.1.2.2.1, hk.1.2.2.2⟩⟩⟩⟩)⟩, ⟨kB BK563.out⟩, ⟨bB1 HB.out GE563.out⟩⟩
     clear HC36
     try clear hx5
     try clear qi5
     try clear hx549_0
     try clear hx576_0
     try clear hx577_0
     try clear hx577_1
     try clear hx577_2
     try clear hx577_3
     try clear hx577_4
     try clear hx578_0
     obtain ⟨kq, x100_35, rfl, HA, HJ35, HO_0, HO_10, HO_12, HO_564001, HO_564002, BK563, HB⟩ := hcut
     cases kq with
     | zero => exact absurd HA.out (by simp [l49_DiscoverChains.j4])
     | succ kj35 =>
      have H := HA.out; clear HA
      simp only [l49_DiscoverChains.j4] at H
      by_cases c49 : x100_35 = true
      ·
       subst c49
       have H1 : (some false) = some r := by rw [if_pos rfl] at H; exact H
       clear H; have H := H1; clear H1
       exact absurd ((Option.some.inj H).trans hrT_.out) Bool.false_ne_true
      replace c49 := Bool.eq_false_iff.mpr c49; subst c49
      have H1 : (if 0 < (t573.length : Int) then ((r11_Fire.f kj35 t555 t556 t559 x10_4 (rd t573 0)).bind fun bt580 => (if bt580.2 = 0 then (l49_DiscoverChains.l2 kj35 l0 bt580.1 (wrap64 (x11_4 + 1)) t555 t556 t559) else (some false))) else (none)) = some r := by rw [if_neg (show ¬ (false = true) by decide)] at H; exact H
      clear H; have H := H1; clear H1
      obtain ⟨c50, H⟩ := iP H; have c50b0 := decide_eq_true c50; have c50b1 : decide (0 < t573.length) = true := decide_eq_true (by omega); clear c50; obtain ⟨⟨t580, t583⟩, A51, H⟩ := iB H; (try dsimp only at H)
      by_cases c52 : t583 = 0
      rotate_left
      ·
       rw [if_neg c52] at H
       have c52b0 : (t583 == 0) = false := beq_eq_false_iff_ne.mpr c52; have c52b1 : (t583 != 0) = true := bne_iff_ne.mpr c52
       exact absurd ((Option.some.inj H).trans hrT_.out) Bool.false_ne_true
      rw [if_pos c52] at H; have c52b0 : (t583 == 0) = true := beq_iff_eq.mpr c52; have c52b1 : (t583 != 0) = false := bne_eq_false_iff_eq.mpr c52; clear c52
      have H' := aM H
      clear H
      try go_wp2
      replace HO_0 := aM (Kd.V_drew HO_0.out); replace HO_10 := aM (Kd.R_drew HO_10.out); replace HO_12 := aM (Kd.R_drew HO_12.out); replace HO_564001 := aM (Kd.R_drew HO_564001.out); replace HO_564002 := aM (Kd.N_drew HO_564002.out); replace BK563 := aM (blk_drew BK563.out); replace HB := aM (below_drew1 HB.out); obtain ⟨Ao54, co54, eo54⟩ := Kd.R_slice HO_12.out
      (first | subst eo54 | (injection eo54 with f1_ f2_ f3_; have f4_ := f1_.symm; have f5_ := f3_.symm; clear f1_ f2_ f3_; subst f4_; subst f5_))
      have p579 : 0 ≤ (0 : Int) := (by omega); have q579 : 0 < (t573.length : Int) := dT
      try (obtain ⟨Aoz579, coz579, eoz579⟩ := Kd.R_slice HO_12.out; subst eoz579)
      obtain ⟨ad579, e579, hx579_0⟩ := Kd.at_int (Kd.R_reads' HO_12.out).2.2 0 p579 q579; cases e579; have qi579 : (0 < t573.length) = True := eq_true (by omega)
      (try rw [show ((0 : Int)).toNat = 0 from rfl] at hx579_0)
      (try rw [Addr.add_zero'] at hx579_0)
      replace p579 := eq_true p579; replace q579 := eq_true q579
      refine start_ (n := 11) (S := fun w' => w'.cell? ⟨gb563, 0, none⟩ = some (.string t555) ∧ w'.cell? ⟨gb563, 1, none⟩ = some (.slice Ao31 t556.length co31) ∧ w'.cell? ⟨gb563, 2, none⟩ = some (.slice Ao32 t559.length co32) ∧ w'.cell? ad579 = some (.int .i64 (rd t573 0))) (ds := []) #[false, false, false, false, false, false, false, false, false, false, false] (by kernel_rfl) rfl rfl ⟨(blk_cell BK563.out 0).trans rfl, (blk_cell BK563.out 1).trans rfl, (blk_cell BK563.out 2).trans rfl, hx579_0⟩ (fun hHeld => ?_); refine with_tabW l49_DiscoverChains.tab23 l49_DiscoverChains.bits23 (fun HT_ HW_ => ?_)
      generalize wc.drew = w53 at HO_0 HO_10 HO_12 HO_564001 HO_564002 BK563 HB hx579_0 hHeld ⊢
      refine pU 1 103 (any_of HT_.out (by kernel_rfl)) ?_
      refine pU 2 104 (any_of HT_.out (by kernel_rfl)) ?_
      refine pU 3 105 (any_of HT_.out (by kernel_rfl)) ?_
      refine tU 0 102 (take_ofW HT_.out HW_.out (by kernel_rfl)) hHeld ?_
      refine tU 4 106 (take_ofW HT_.out HW_.out (by kernel_rfl)) hHeld ?_
      refine one_ (i := 5) (N := some 107) #[true, true, true, true, true, true, false, false, false, false, false] rfl rfl (one_of HT_.out (by kernel_rfl)) (by decide) (fun K hK => ?_)
      refine goes_ Tryd.func16 (by kernel_rfl) rfl #[.agg #[.string t555, .slice Ao31 t556.length co31, .slice Ao32 t559.length co32], .slice Ao38 x10_4.length co38, .int .i64 (rd t573 0)] (by rfl) rfl rfl mT ?_
      with_reducible refine (r11_Fire.calls kj35 t555 _ _ t556 _ _ t559 _ _ x10_4 (rd t573 0) t580 t583 _ ?side1 ?side2 ?side3 ?side4 ?side5 ?side6 A51.out).mono ?_
      (case side1 => repeat (first | exact (Kd.R_reads' HO_564001.out).2.2 | (with_reducible refine Kd.C_alloc ?_ _) | (with_reducible refine Kd.C_drewN ?_ _) | (with_reducible refine Kd.C_drew ?_)))
      (case side2 => exact (Kd.R_reads' HO_564001.out).2.1)
      (case side3 => repeat (first | exact (Kd.N_reads' HO_564002.out).2.2 | (with_reducible refine Kd.C_alloc ?_ _) | (with_reducible refine Kd.C_drewN ?_ _) | (with_reducible refine Kd.C_drew ?_)))
      (case side4 => exact (Kd.N_reads' HO_564002.out).2.1)
      (case side5 => repeat (first | exact (Kd.R_reads' HO_10.out).2.2 | (with_reducible refine Kd.C_alloc ?_ _) | (with_reducible refine Kd.C_drewN ?_ _) | (with_reducible refine Kd.C_drew ?_)))
      (case side6 => exact (Kd.R_reads' HO_10.out).2.1)
      rintro e w55 ⟨v581, rfl, ho0, hb⟩
      have HS3_ := (hb.cell (World.block_lt_of_cell? _ _ (hHeld.2.2.2))).trans (hHeld.2.2.2)
      refine ⟨_, rfl, ?_⟩
      replace HO_0 := aM (Kd.V_elder' (oV HO_0.out) (Kd.R_base ho0) hb); replace HO_564001 := aM (Kd.R_below (oR HO_564001.out) hb); replace HO_564002 := aM (Kd.N_elder' (oN HO_564002.out) (Kd.R_base ho0) hb); have HO582 := aM (Kd.R_lower (Kd.R_new' (Kd.R_new' (Kd.R_newM (M := fun k_ => (w.heap.size ≤ k_)) ho0 (below_size (bB1 HB.out GE563.out)) (fun k_ h_ => h_)) (Kd.R_lt (oR HO_10.out))) (Kd.R_lt (oR HO_12.out))) (below_size (bB1 HB.out GE563.out))); replace HO_10 := aM (Kd.R_elder' (oR HO_10.out) (Kd.R_base ho0) hb); replace HO_12 := aM (Kd.R_elder' (oR HO_12.out) (Kd.R_base ho0) hb); replace BK563 := aM (kW BK563.out hb); replace HB := aM (below_step (bB1 HB.out GE563.out) hb)
      (try clear hb)
      (try clear hb2)
      (try clear hk)
      (try clear hi)
      (try clear ho0)
      refine hK.out _ _ ⟨(blk_cell BK563.out 0).trans rfl, (blk_cell BK563.out 1).trans rfl, (blk_cell BK563.out 2).trans rfl, HS3_⟩ (fun hHeld => ?_)
      clear hK K
      refine nU 107 ?_
      refine pU 6 101 (any_of HT_.out (by kernel_rfl)) ?_
      refine pU 7 108 (any_of HT_.out (by kernel_rfl)) ?_
      refine pU 8 109 (any_of HT_.out (by kernel_rfl)) ?_
      refine pU 9 13 (any_of HT_.out (by kernel_rfl)) ?_
      refine pU 10 14 (any_of HT_.out (by kernel_rfl)) ?_
      refine done_ (done_of HT_.out (by kernel_rfl)) ?_
      try go_wp2
      go_roundg kj35
      case measure => have := HJ2.out; have := HK2.out; have := HK3.out; have := HK4.out; have := HJ35.out; omega
      case rel => exact ⟨(t580), (wrap64 (x11_4 + 1)), eT, H', ⟨by have := HJ2.out; have := HK2.out; have := HK3.out; have := HK4.out; have := HJ35.out; omega⟩, ⟨by refine oV ?_; exact Kd.V_mono HO_0.out (fun _ hk => ⟨hk.1.1, ⟨hk.2, ⟨hk.1.2.2.2.1, ⟨hk.1.2.2.2.2.1, hk.1.2.2.2.2.2⟩⟩⟩⟩)⟩, ⟨by refine oR ?_; exact Kd.R_mono HO582.out (fun _ hk => hk.1.1.1)⟩, ⟨oR HO_564001.out⟩, ⟨by refine oN ?_; exact Kd.N_mono HO_564002.out (fun _ hk => ⟨hk.1.1, ⟨hk.2, ⟨hk.1.2.2.2.1, hk.1.2.2.2.2⟩⟩⟩)⟩, ⟨kB BK563.out⟩, ⟨bB1 HB.out GE563.out⟩⟩
end Go.Proofs.YtejchnmhlcbfcaaDoor.Pr
