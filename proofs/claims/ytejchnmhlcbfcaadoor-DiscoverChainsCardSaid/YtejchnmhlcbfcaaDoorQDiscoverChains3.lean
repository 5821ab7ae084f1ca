/- Functions that the statement reaches: what each answers, and that the program answers it (written by a program of this work). -/
import Derived.Test.YtejchnmhlcbfcaaDoorProg
import Derived.Below
import Derived.Deep.Draws
import Derived.Deep.AppendLies
import Derived.Maps.AppendAt
import Derived.OwnWalk
import Derived.Laws.BytesArg
import Derived.Laws.MakeOwn
import Derived.Laws.OwnMore
import Derived.Deep.OwnRows
import Derived.Tactics
import Derived.Lib.ConvBytes
import Derived.Laws.Slices
import Derived.WalkKit
import Derived.KernelRfl
import Derived.RowKit3
import Derived.Deep.LoopGhost
import Derived.Deep.QuietTactic
import Derived.BigQuiet
import Derived.WideLaws
import Derived.Deep.DeepCutAuto
import Derived.Deep.CutBlock
import Derived.Deep.RegionHeld3
import Derived.Laws.Rows
import Derived.Lib.AppendStr
import Derived.ArgAppend
import Derived.Laws.IdiomCopy
import Derived.OrdersHeld
import Derived.Laws.BitsLemmas
import Derived.RowKit
import Derived.WalkMore
import Derived.ChangeKeysEq
import Derived.Test.YtejchnmhlcbfcaaDoorVDiscoverChains
import Derived.Test.YtejchnmhlcbfcaaDoorBDiscoverChains
import Derived.Test.YtejchnmhlcbfcaaDoorQDiscoverChains0
import Derived.Test.YtejchnmhlcbfcaaDoorQDiscoverChains2
namespace Go.Proofs.YtejchnmhlcbfcaaDoor.Pr
open Go.RowKit Go.Proofs.YtejchnmhlcbfcaaDoorW.PrintWords Go.Proofs.YtejchnmhlcbfcaaDoorW.PrintLast Go.Proofs.YtejchnmhlcbfcaaDoorW.PrintMore
attribute [local go_sem] Instr.field asAgg
attribute [local go_sem] max2_int min2_int max_two min_two max_three min_three max_four min_four   -- for this text's walks alone
set_option linter.unusedVariables false
set_option linter.unusedSimpArgs false
/-! ### r11_Good: function 37 -/
def r11_Good.f (k : Nat) (a0_0 : ByteArray) (l0_1 : List (S59)) (l0_2 : List (S41)) (l1 : List Int) : Option (Bool) := (r09_Check.f k a0_0 l0_1 l0_2).bind fun bt504 => (if bt504.1 = 0 then ((r04_Valid.f k l1 (l0_1.length : Int)).bind fun t506 => (some t506)) else (some false))
theorem r11_Good.mono : ∀ a0 a1 a2 a3 k, LeO (r11_Good.f k a0 a1 a2 a3) (r11_Good.f (k + 1) a0 a1 a2 a3) := by
 intro a0 a1 a2 a3 k
 unfold r11_Good.f
 repeat' first
   | (with_reducible first | apply r04_Valid.mono | apply r09_Check.mono | exact LeO.refl _ | exact LeO.none _ | refine LeO.ite ?_ ?_ | refine LeO.bind ?_ (fun _ => ?_))
set_option maxHeartbeats 8000000 in
set_option maxRecDepth 100000 in
theorem r11_Good.calls (k : Nat) (a0_0 : ByteArray) (A0_1 : Option Addr) (c0_1 : Nat) (l0_1 : List (S59)) (A0_2 : Option Addr) (c0_2 : Nat) (l0_2 : List (S41)) (A1 : Option Addr) (c1 : Nat) (l1 : List Int) (r : Bool) (w : World) (hr0_1 : Kd.C k59 w A0_1 l0_1.length l0_1) (hc0_1 : l0_1.length ≤ c0_1) (hr0_2 : Kd.C k41 w A0_2 l0_2.length l0_2) (hc0_2 : l0_2.length ≤ c0_2) (hr1 : Kd.C (Kd.int .i64) w A1 l1.length l1) (hc1 : l1.length ≤ c1) (h : r11_Good.f k a0_0 l0_1 l0_2 l1 = some r) :
  Calls Tryd.prog 37 #[.agg #[.string a0_0, .slice A0_1 l0_1.length c0_1, .slice A0_2 l0_2.length c0_2], .slice A1 l1.length c1] w fun e w' => e = .returned (.bool r) ∧ Below w.heap.size w w' := by
 have hu28 := Tryd.underlying28; have hu9 := Tryd.underlying9; have hu25 := Tryd.underlying25; have hu26 := Tryd.underlying26; have HR0_1 := aM hr0_1; have HC0_1 := aM hc0_1; clear hr0_1 hc0_1; have HR0_2 := aM hr0_2; have HC0_2 := aM hc0_2; clear hr0_2 hc0_2; have HR1 := aM hr1; have HC1 := aM hc1; clear hr1 hc1; have HB := aM (Below.refl w.heap.size w); have H : ((r09_Check.f k a0_0 l0_1 l0_2).bind fun bt504 => (if bt504.1 = 0 then ((r04_Valid.f k l1 (l0_1.length : Int)).bind fun t506 => (some t506)) else (some false))) = some r := h; clear h; obtain ⟨⟨t504, t505⟩, A3, H⟩ := iB H; (try dsimp only at H)
 by_cases c4 : t504 = 0
 rotate_left
 ·
  rw [if_neg c4] at H
  have c4b0 : (t504 == 0) = false := beq_eq_false_iff_ne.mpr c4; have c4b1 : (t504 != 0) = true := bne_iff_ne.mpr c4
  obtain rfl := Option.some.inj H
  go_enter Tryd.func37, Tryd.ntmps37
  go_wp2_with (first | ((with_reducible refine gate_dst (N := 2) rfl ?_); (try (refine gate_guard (by rfl) ?_; dsimp only)); refine bX 2 (cs := #[.string a0_0, .slice A0_1 l0_1.length c0_1, .slice A0_2 l0_2.length c0_2]) (t := 28) ?_; intro gb503 hg w10 hbox hb; have BK503 := aM (hbox); have GW503 := aM (gE hg (below_size (bB HB.out))); have GE503 := GW503; replace HB := aM (below_step (bB HB.out) hb); clear hb hbox hg; obtain ⟨hcz11_0, hcz11_1, hcz11_2, hfz11_0, hfz11_1, hfz11_2⟩ := cd3 BK503.out) | ((with_reducible refine gate_callee (f := 36) rfl ?_); refine gM (some 6) Tryd.func36 #[.agg #[.string a0_0, .slice A0_1 l0_1.length c0_1, .slice A0_2 l0_2.length c0_2]] ?_; (with_reducible refine (r09_Check.calls k a0_0 _ _ l0_1 _ _ l0_2 t504 t505 _ ?side1 ?side2 ?side3 ?side4 A3.out).mono ?_); (case side1 => exact cB HR0_1.out HB.out); (case side2 => exact HC0_1.out); (case side3 => exact cB HR0_2.out HB.out); (case side4 => exact HC0_2.out); rintro e w12 ⟨rfl, hb⟩; refine ⟨_, rfl, ?_⟩; replace BK503 := aM (kW BK503.out hb); replace HB := aM (below_step (bB1 HB.out GE503.out) hb); clear hb))
  go_ret
  exact ⟨rT, bB1 HB.out GE503.out⟩


 rw [if_pos c4] at H; have c4b0 : (t504 == 0) = true := beq_iff_eq.mpr c4; have c4b1 : (t504 != 0) = false := bne_eq_false_iff_eq.mpr c4; clear c4; replace H := Option.bind_eq_some_iff.mp H; obtain ⟨t506, A50, H⟩ := H
 replace H : (some t506) = some r := H
 have A5 := aM A50; clear A50
 obtain rfl := Option.some.inj H
 go_enter Tryd.func37, Tryd.ntmps37
 go_wp2_with (first | ((with_reducible refine gate_dst (N := 2) rfl ?_); (try (refine gate_guard (by rfl) ?_; dsimp only)); refine bX 2 (cs := #[.string a0_0, .slice A0_1 l0_1.length c0_1, .slice A0_2 l0_2.length c0_2]) (t := 28) ?_; intro gb503 hg w6 hbox hb; have BK503 := aM (hbox); have GW503 := aM (gE hg (below_size (bB HB.out))); have GE503 := GW503; replace HB := aM (below_step (bB HB.out) hb); clear hb hbox hg; obtain ⟨hcz7_0, hcz7_1, hcz7_2, hfz7_0, hfz7_1, hfz7_2⟩ := cd3 BK503.out) | ((with_reducible refine gate_callee (f := 36) rfl ?_); refine gM (some 6) Tryd.func36 #[.agg #[.string a0_0, .slice A0_1 l0_1.length c0_1, .slice A0_2 l0_2.length c0_2]] ?_; (with_reducible refine (r09_Check.calls k a0_0 _ _ l0_1 _ _ l0_2 t504 t505 _ ?side1 ?side2 ?side3 ?side4 A3.out).mono ?_); (case side1 => exact cB HR0_1.out HB.out); (case side2 => exact HC0_1.out); (case side3 => exact cB HR0_2.out HB.out); (case side4 => exact HC0_2.out); rintro e w8 ⟨rfl, hb⟩; refine ⟨_, rfl, ?_⟩; replace BK503 := aM (kW BK503.out hb); replace HB := aM (below_step (bB1 HB.out GE503.out) hb); clear hb; obtain ⟨hcz9_0, hcz9_1, hcz9_2, hfz9_0, hfz9_1, hfz9_2⟩ := cd3 BK503.out) | (go_at_call 39; (with_reducible refine (r04_Valid.calls k _ _ l1 (l0_1.length : Int) t506 _ ?side1 ?side2 A5.out).mono ?_); (case side1 => exact cB HR1.out HB.out); (case side2 => exact HC1.out); rintro e w' ⟨rfl, ⟨nd, rfl⟩⟩))
 go_ret
 exact ⟨rT, bB1 HB.out GE503.out⟩
/-! ### r11_weight: function 58 -/
def r11_weight.l0 : Nat → List (S62) → Int → Int → Option (Int)
 | 0, _, _, _ => none
 | k + 1, x0, x1, x5 => if x5 < (x0.length : Int) then (if 0 ≤ x5 then (if ((rd_T62 x0 x5).f0) = x1 then (some ((rd_T62 x0 x5).f1)) else (r11_weight.l0 k x0 x1 (wrap64 (x5 + 1)))) else (none)) else (some 0)
def r11_weight.f (k : Nat) (l0 : List (S62)) (a1 : Int) : Option (Int) := r11_weight.l0 k l0 a1 0
theorem r11_weight.mono_l : ∀ k, (∀ y0 y1 y2, LeO (r11_weight.l0 k y0 y1 y2) (r11_weight.l0 (k + 1) y0 y1 y2))
 | 0 => fun _ _ _ r h => by simp [r11_weight.l0] at h
 | k + 1 => by
  have ih0 := r11_weight.mono_l k
  ·
   intro y0 y1 y2
   unfold r11_weight.l0
   repeat' first
   | (with_reducible first | apply ih0 | exact LeO.refl _ | exact LeO.none _ | refine LeO.ite ?_ ?_ | refine LeO.bind ?_ (fun _ => ?_))
theorem r11_weight.mono : ∀ a0 a1 k, LeO (r11_weight.f k a0 a1) (r11_weight.f (k + 1) a0 a1) := by
 intro a0 a1 k
 have ih0 := r11_weight.mono_l k
 unfold r11_weight.f
 repeat' first
   | (with_reducible first | apply ih0 | exact LeO.refl _ | exact LeO.none _ | refine LeO.ite ?_ ?_ | refine LeO.bind ?_ (fun _ => ?_))
set_option maxHeartbeats 8000000 in
set_option maxRecDepth 100000 in
theorem r11_weight.calls (k : Nat) (A0 : Option Addr) (c0 : Nat) (l0 : List (S62)) (a1 : Int) (r : Int) (w : World) (hr0 : Kd.C k62 w A0 l0.length l0) (hc0 : l0.length ≤ c0) (h : r11_weight.f k l0 a1 = some r) :
  Calls Tryd.prog 58 #[.slice A0 l0.length c0, .int .i64 a1] w fun e w' => e = .returned (.int .i64 r) ∧ Drawn0 w w' := by
 have HR0 := aM hr0; have HC0 := aM hc0; clear hr0 hc0; have H : (r11_weight.l0 k l0 a1 0) = some r := h; clear h
 have H' := aM H
 clear H
 go_enter Tryd.func58, Tryd.ntmps58
 go_wp2
 go_loopg [5] k (fun kq v5 w' => ∃ (x5_1 : Int), v5 = .int .i64 x5_1 ∧ Aside0 (r11_weight.l0 kq l0 a1 x5_1 = some r) ∧ Aside0 (kq ≤ k) ∧ Drawn0 w w')
 case atStart => exact ⟨(0), eT, H', ⟨Nat.le_refl _⟩, by repeat (first | exact Drawn0.refl _ | apply Drawn0.step)⟩
 clear H'
 obtain ⟨x5_1, rfl, HA, HK1, ⟨m1, rfl⟩⟩ := hrel
 cases gk with
 | zero => exact absurd HA.out (by simp [r11_weight.l0])
 | succ k1 =>
  have H := HA.out; clear HA
  simp only [r11_weight.l0] at H
  by_cases c3 : x5_1 < (l0.length : Int)
  rotate_left
  ·
   rw [if_neg c3] at H
   have c3b0 := decide_eq_false c3; clear c3
   obtain rfl := Option.some.inj H
   go_wp2
   go_ret
   exact ⟨by first | rfl | (simp; done) | (simp [*]; done), by repeat (first | exact Drawn0.refl _ | apply Drawn0.step)⟩


  rw [if_pos c3] at H; have c3b0 := decide_eq_true c3; clear c3
  obtain ⟨c4, H⟩ := iP H; have c4b0 := decide_eq_true c4; clear c4
  by_cases c5 : ((rd_T62 l0 x5_1).f0) = a1
  rotate_left
  ·
   rw [if_neg c5] at H
   have c5b0 : (((rd_T62 l0 x5_1).f0) == a1) = false := beq_eq_false_iff_ne.mpr c5; have c5b1 : (((rd_T62 l0 x5_1).f0) != a1) = true := bne_iff_ne.mpr c5
   have H' := aM H
   clear H; obtain ⟨p507, q507, ad507, e507, hx507_0, hx507_1⟩ := aT (at_T62 HR0.out x5_1); cases e507
   go_wp2
   go_roundg k1
   case measure => have := HK1.out; omega
   case rel => exact ⟨(wrap64 (x5_1 + 1)), eT, H', ⟨by have := HK1.out; omega⟩, by repeat (first | exact Drawn0.refl _ | apply Drawn0.step)⟩
  rw [if_pos c5] at H; have c5b0 : (((rd_T62 l0 x5_1).f0) == a1) = true := beq_iff_eq.mpr c5; have c5b1 : (((rd_T62 l0 x5_1).f0) != a1) = false := bne_eq_false_iff_eq.mpr c5; clear c5
  obtain rfl := Option.some.inj H
  obtain ⟨p507, q507, ad507, e507, hx507_0, hx507_1⟩ := aT (at_T62 HR0.out x5_1); cases e507; obtain ⟨p508, q508, ad508, e508, hx508_0, hx508_1⟩ := aT (at_T62 HR0.out x5_1); obtain rfl : ad507 = ad508 := (by injection e508)
  go_wp2
  go_ret
  exact ⟨by first | rfl | (simp; done) | (simp [*]; done), by repeat (first | exact Drawn0.refl _ | apply Drawn0.step)⟩


section
-- STUBBED 57
/-! ### r11_Ready: function 57: by hand -/
/-- Flags out of bits. -/
def rFl (n m : Nat) : Array Bool := ⟨(List.range n).map fun i => Nat.testBit m i⟩
def r11_Ready.l0 : Nat → List Int → Int → ByteArray → List (S59) → List (S41) → ByteArray → List (S62) → List (S62) → List (S62) → Int → Option (Bool)
 | 0, _, _, _, _, _, _, _, _, _, _ => none
 | k + 1, x1, x8, x277000, x277001, x277002, x279000, x279001, x279002, x279003, x279004 => if x8 < (x277001.length : Int) then ((r11_weight.f k x279003 x8).bind fun t279 => (if 0 ≤ x8 then (if x8 < (x1.length : Int) then ((r11_weight.f k x279001 x8).bind fun t281 => ((r11_weight.f k x279002 x8).bind fun t282 => ((r11_weight.f k x279001 x8).bind fun t284 => (if (rd x1 x8) < t284 then (some false) else (if t279 > 0 then (if (rd x1 x8) ≥ t279 then (some false) else (if ((rd_T59 x277001 x8).f2) > 0 then (if (wrap64 ((wrap64 ((rd x1 x8) - t281)) + t282)) > ((rd_T59 x277001 x8).f2) then (some false) else (r11_Ready.l0 k x1 (wrap64 (x8 + 1)) x277000 x277001 x277002 x279000 x279001 x279002 x279003 x279004)) else (r11_Ready.l0 k x1 (wrap64 (x8 + 1)) x277000 x277001 x277002 x279000 x279001 x279002 x279003 x279004))) else (if ((rd_T59 x277001 x8).f2) > 0 then (if (wrap64 ((wrap64 ((rd x1 x8) - t281)) + t282)) > ((rd_T59 x277001 x8).f2) then (some false) else (r11_Ready.l0 k x1 (wrap64 (x8 + 1)) x277000 x277001 x277002 x279000 x279001 x279002 x279003 x279004)) else (r11_Ready.l0 k x1 (wrap64 (x8 + 1)) x277000 x277001 x277002 x279000 x279001 x279002 x279003 x279004))))))) else (none)) else (none))) else (some true)
def r11_Ready.f (k : Nat) (a0_0 : ByteArray) (l0_1 : List (S59)) (l0_2 : List (S41)) (l1 : List Int) (a2 : Int) : Option (Bool) := if 0 ≤ a2 then (if a2 < (l0_2.length : Int) then (r11_Ready.l0 k l1 0 a0_0 l0_1 l0_2 ((rd_T41 l0_2 a2).f0) ((rd_T41 l0_2 a2).f1) ((rd_T41 l0_2 a2).f2) ((rd_T41 l0_2 a2).f3) ((rd_T41 l0_2 a2).f4)) else (none)) else (none)
theorem r11_Ready.mono_l : ∀ k, (∀ y0 y1 y2 y3 y4 y5 y6 y7 y8 y9, LeO (r11_Ready.l0 k y0 y1 y2 y3 y4 y5 y6 y7 y8 y9) (r11_Ready.l0 (k + 1) y0 y1 y2 y3 y4 y5 y6 y7 y8 y9))
 | 0 => fun _ _ _ _ _ _ _ _ _ _ r h => by simp [r11_Ready.l0] at h
 | k + 1 => by
  have ih0 := r11_Ready.mono_l k
  ·intro y0 y1 y2 y3 y4 y5 y6 y7 y8 y9
   unfold r11_Ready.l0
   repeat' first
   | (with_reducible apply ih0)
   | (with_reducible apply r11_weight.mono)
   | (with_reducible exact LeO.refl _)
   | (with_reducible exact LeO.none _)
   | (with_reducible refine LeO.ite ?_ ?_)
   | (with_reducible refine LeO.bind ?_ (fun _ => ?_))
   | apply ih0
   | apply r11_weight.mono
   | exact LeO.none _
   | refine LeO.ite ?_ ?_
   | refine LeO.bind ?_ (fun _ => ?_)
theorem r11_Ready.mono : ∀ a0 a1 a2 a3 a4 k, LeO (r11_Ready.f k a0 a1 a2 a3 a4) (r11_Ready.f (k + 1) a0 a1 a2 a3 a4) := by
 intro a0 a1 a2 a3 a4 k
 have ih0 := r11_Ready.mono_l k
 unfold r11_Ready.f
 repeat' first
   | (with_reducible apply ih0)
   | (with_reducible apply r11_weight.mono)
   | (with_reducible exact LeO.refl _)
   | (with_reducible exact LeO.none _)
   | (with_reducible refine LeO.ite ?_ ?_)
   | (with_reducible refine LeO.bind ?_ (fun _ => ?_))
   | apply ih0
   | apply r11_weight.mono
   | exact LeO.none _
   | refine LeO.ite ?_ ?_
   | refine LeO.bind ?_ (fun _ => ?_)
def r11_Ready.T6 : Bool × List (List Nat × List Nat) := (true, [([], []), ([], []), ([0, 1], [0, 1]), ([2], [2]), ([], []), ([4], [4]), ([], []), ([5, 6], [5, 6]), ([3, 7], [3, 7]), ([], []), ([9], [9]), ([], []), ([10, 11, 7], [10, 11]), ([8, 12], [8, 12]), ([13, 12, 0, 1, 2, 3, 4, 5, 6, 7, 8, 9, 10, 11, 12, 13], [13])])
def r11_Ready.B6 : List Nat := [0, 0, 3, 7, 0, 16, 0, 112, 255, 0, 512, 0, 3824, 8191, 16383]
theorem r11_Ready.tab6 : rtab .any (opsOf Tryd.f57 6) = r11_Ready.T6 := by kernel_rfl
theorem r11_Ready.bits6 : waitsOk r11_Ready.T6.2 r11_Ready.B6 = true := by kernel_rfl
def r11_Ready.T7 : Bool × List (List Nat × List Nat) := (true, [([], []), ([], []), ([0, 1], [0, 1]), ([2], [2]), ([], []), ([4], [4]), ([], []), ([5, 6], [5, 6]), ([3, 7], [3, 7]), ([8, 7], [8]), ([9], [9]), ([10, 9], [9, 10]), ([11, 9, 9], [9, 11]), ([12], [12]), ([12], [12]), ([13, 14, 12], [12, 13, 14]), ([15, 12], [12, 15]), ([12], [12]), ([16, 17, 12], [12, 16, 17]), ([12, 18, 9], [9, 12, 18]), ([9, 19], [9, 19]), ([20, 12], [20]), ([21], [21]), ([22, 21], [21, 22]), ([21], [21]), ([23, 24, 21], [21, 23, 24]), ([25, 21], [21, 25]), ([26, 21], [21, 26]), ([27, 21], [21, 27]), ([28, 21, 21], [21, 28]), ([29], [29]), ([29], [29]), ([31, 29], [29, 31]), ([29], [29]), ([32, 33, 29], [29, 32, 33]), ([34, 29], [29, 34]), ([35, 29], [29, 35]), ([30, 36, 29], [29, 30, 36]), ([29, 37, 21], [21, 29, 37]), ([21, 38], [21, 38])])
def r11_Ready.B7 : List Nat := [0, 0, 3, 7, 0, 16, 0, 112, 255, 511, 1023, 2047, 4095, 8191, 8191, 32767, 65535, 8191, 262143, 524287, 1048575, 2097151, 4194303, 8388607, 4194303, 33554431, 67108863, 134217727, 268435455, 536870911, 1073741823, 1073741823, 3221225471, 1073741823, 16106127359, 33285996543, 67645734911, 137438953471, 274877906943, 549755813887]
theorem r11_Ready.tab7 : rtab .any (opsOf Tryd.f57 7) = r11_Ready.T7 := by kernel_rfl
theorem r11_Ready.bits7 : waitsOk r11_Ready.T7.2 r11_Ready.B7 = true := by kernel_rfl
set_option maxHeartbeats 8000000 in
set_option maxRecDepth 100000 in
theorem r11_Ready.calls (k : Nat) (a0_0 : ByteArray) (A0_1 : Option Addr) (c0_1 : Nat) (l0_1 : List (S59)) (A0_2 : Option Addr) (c0_2 : Nat) (l0_2 : List (S41)) (A1 : Option Addr) (c1 : Nat) (l1 : List Int) (a2 : Int) (r : Bool) (w : World) (hr0_1 : Kd.C k59 w A0_1 l0_1.length l0_1) (hc0_1 : l0_1.length ≤ c0_1) (hr0_2 : Kd.C k41 w A0_2 l0_2.length l0_2) (hc0_2 : l0_2.length ≤ c0_2) (hr1 : Kd.C (Kd.int .i64) w A1 l1.length l1) (hc1 : l1.length ≤ c1) (h : r11_Ready.f k a0_0 l0_1 l0_2 l1 a2 = some r) :
  Calls Tryd.prog 57 #[.agg #[.string a0_0, .slice A0_1 l0_1.length c0_1, .slice A0_2 l0_2.length c0_2], .slice A1 l1.length c1, .int .i64 a2] w fun e w' => e = .returned (.bool r) ∧ Below w.heap.size w w' := by
 have hu25 := Tryd.underlying28
 have hu9 := Tryd.underlying9
 have hu22 := Tryd.underlying25
 have hu23 := Tryd.underlying26
 have hu40 := Tryd.underlying41
 have hu3 := Tryd.underlying3
 have hu9 := Tryd.underlying9
 have hu38 := Tryd.underlying39
 have HR0_1 := aM hr0_1
 have HC0_1 := aM hc0_1
 clear hr0_1 hc0_1
 have HR0_2 := aM hr0_2
 have HC0_2 := aM hc0_2
 clear hr0_2 hc0_2
 have HR1 := aM hr1
 have HC1 := aM hc1
 clear hr1 hc1
 have HB := aM (Below.refl w.heap.size w)
 have H : (if 0 ≤ a2 then (if a2 < (l0_2.length : Int) then (r11_Ready.l0 k l1 0 a0_0 l0_1 l0_2 ((rd_T41 l0_2 a2).f0) ((rd_T41 l0_2 a2).f1) ((rd_T41 l0_2 a2).f2) ((rd_T41 l0_2 a2).f3) ((rd_T41 l0_2 a2).f4)) else (none)) else (none)) = some r := h
 clear h
 by_cases c4 : 0 ≤ a2
 ·rw [if_pos c4] at H
  have c4b0 : decide (0 ≤ a2) = true := decide_eq_true c4
  clear c4
  by_cases c5 : a2 < (l0_2.length : Int)
  ·rw [if_pos c5] at H
   have c5b0 : decide (a2 < (l0_2.length : Int)) = true := decide_eq_true c5
   clear c5
   have H' := aM H
   clear H
   go_enter Tryd.func57, Tryd.ntmps57
   go_wp2_with (first | ((with_reducible refine gate_dst (N := 3) rfl ?_); refine bX 3 (cs := #[.string a0_0, .slice A0_1 l0_1.length c0_1, .slice A0_2 l0_2.length c0_2]) (t := 28) ?_; intro gb276 hg w6 hbox hb; have BK276 := aM (hbox); have GW276 := aM (gE hg (below_size (bB HB.out))); have GE276 := GW276; replace HB := aM (below_step (bB HB.out) hb); clear hb hbox hg; obtain ⟨hcz7_0, hcz7_1, hcz7_2, hfz7_0, hfz7_1, hfz7_2⟩ := cd3 BK276.out; have p277 : 0 ≤ (a2 : Int) := dT; have q277 : a2 < (l0_2.length : Int) := dT; obtain ⟨ad277, A277_1, c277_1, A277_2, c277_2, A277_3, c277_3, e277, hx277_0, hx277_1, hx277_2, hx277_3, hx277_4, hl277_1, hi277_1, hl277_2, hi277_2, hl277_3, hi277_3⟩ := at_T41 HR0_2.out a2 p277 q277; cases e277; replace hx277_0 := (HB.out.cell (World.block_lt_of_cell? w _ hx277_0)).trans hx277_0; replace hx277_1 := (HB.out.cell (World.block_lt_of_cell? w _ hx277_1)).trans hx277_1; replace hx277_2 := (HB.out.cell (World.block_lt_of_cell? w _ hx277_2)).trans hx277_2; replace hx277_3 := (HB.out.cell (World.block_lt_of_cell? w _ hx277_3)).trans hx277_3; replace hx277_4 := (HB.out.cell (World.block_lt_of_cell? w _ hx277_4)).trans hx277_4; have HR277_1 := aM hi277_1; have HC277_1 := aM hl277_1; clear hi277_1 hl277_1; have HR277_2 := aM hi277_2; have HC277_2 := aM hl277_2; clear hi277_2 hl277_2; have HR277_3 := aM hi277_3; have HC277_3 := aM hl277_3; clear hi277_3 hl277_3; replace p277 := eq_true p277; replace q277 := eq_true q277) | ((with_reducible refine gate_dst (N := 7) rfl ?_); refine bX 7 (cs := #[.string (⟨#[]⟩ : ByteArray), .slice none 0 0, .slice none 0 0, .slice none 0 0, .int .i64 0]) (t := 41) ?_; intro gb278 hg w8 hbox hb; have BK278 := aM (hbox); have GW278 := aM (gE hg (below_size (bB1 HB.out GE276.out))); have GE278 := GW278; replace HB := aM (below_step (bB1 HB.out GE276.out) hb); have NB276_278 := aM (gL hg (kL BK276.out)); have NB278_276 := aM (gG hg (kL BK276.out)); replace BK276 := aM (kW BK276.out hb); clear hb hbox hg; have hnb9 := NB278_276.out; have hnc9 := NB276_278.out; obtain ⟨hcz10_0, hcz10_1, hcz10_2, hcz10_3, hcz10_4, hfz10_0, hfz10_1, hfz10_2, hfz10_3, hfz10_4⟩ := cd5 BK278.out))
   go_loopg [8] k (fun kq v8 w' => ∃ (x8_1 : Int), v8 = .int .i64 x8_1 ∧ Aside0 (r11_Ready.l0 kq l1 x8_1 a0_0 l0_1 l0_2 ((rd_T41 l0_2 a2).f0) ((rd_T41 l0_2 a2).f1) ((rd_T41 l0_2 a2).f2) ((rd_T41 l0_2 a2).f3) ((rd_T41 l0_2 a2).f4) = some r) ∧ Aside0 (kq ≤ k) ∧ Aside0 (w'.heap[gb276]? = some (.cells #[.string a0_0, (.slice A0_1 l0_1.length c0_1), (.slice (some ad277) l0_2.length c0_2)] 28 (0, 0))) ∧ Aside0 (w'.heap[gb278]? = some (.cells #[.string ((rd_T41 l0_2 a2).f0), (.slice A277_1 ((rd_T41 l0_2 a2).f1).length c277_1), (.slice A277_2 ((rd_T41 l0_2 a2).f2).length c277_2), (.slice A277_3 ((rd_T41 l0_2 a2).f3).length c277_3), .int .i64 ((rd_T41 l0_2 a2).f4)] 41 (0, 0))) ∧ Aside0 (Below w.heap.size w w'))
   case atStart => exact ⟨(0), eT, H', ⟨Nat.le_refl _⟩, ⟨bF BK276.out NB276_278.out⟩, ⟨bP BK278.out⟩, ⟨bB2 HB.out GE276.out GE278.out⟩⟩
   case round =>
    clear H'
    try clear c1
    try clear c2
    try clear p2
    try clear q2
    try clear hx2
    try clear c4
    try clear c4b0
    try clear c5
    try clear c5b0
    try clear c6
    try clear c9
    try clear hcz10_0
    try clear hcz10_1
    try clear hcz10_2
    try clear hcz10_3
    try clear hcz10_4
    try clear hcz7_0
    try clear hcz7_1
    try clear hcz7_2
    try clear hfz10_0
    try clear hfz10_1
    try clear hfz10_2
    try clear hfz10_3
    try clear hfz10_4
    try clear hfz7_0
    try clear hfz7_1
    try clear hfz7_2
    try clear hx277_0
    try clear hx277_1
    try clear hx277_2
    try clear hx277_3
    try clear hx277_4
    try clear p277
    try clear q277
    obtain ⟨x8_1, rfl, HA, HK1, BK276, BK278, HB⟩ := hrel
    cases gk with
    | zero => exact absurd HA.out (by simp [r11_Ready.l0])
    | succ k1 =>
     have H := HA.out
     clear HA
     simp only [r11_Ready.l0] at H
     by_cases c11 : x8_1 < (l0_1.length : Int)
     ·rw [if_pos c11] at H
      have c11b0 : decide (x8_1 < (l0_1.length : Int)) = true := decide_eq_true c11
      clear c11
      replace H := Option.bind_eq_some_iff.mp H
      obtain ⟨t279, A120, H⟩ := H
      replace H : (if 0 ≤ x8_1 then (if x8_1 < (l1.length : Int) then ((r11_weight.f k1 ((rd_T41 l0_2 a2).f1) x8_1).bind fun t281 => ((r11_weight.f k1 ((rd_T41 l0_2 a2).f2) x8_1).bind fun t282 => ((r11_weight.f k1 ((rd_T41 l0_2 a2).f1) x8_1).bind fun t284 => (if (rd l1 x8_1) < t284 then (some false) else (if t279 > 0 then (if (rd l1 x8_1) ≥ t279 then (some false) else (if ((rd_T59 l0_1 x8_1).f2) > 0 then (if (wrap64 ((wrap64 ((rd l1 x8_1) - t281)) + t282)) > ((rd_T59 l0_1 x8_1).f2) then (some false) else (r11_Ready.l0 k1 l1 (wrap64 (x8_1 + 1)) a0_0 l0_1 l0_2 ((rd_T41 l0_2 a2).f0) ((rd_T41 l0_2 a2).f1) ((rd_T41 l0_2 a2).f2) ((rd_T41 l0_2 a2).f3) ((rd_T41 l0_2 a2).f4))) else (r11_Ready.l0 k1 l1 (wrap64 (x8_1 + 1)) a0_0 l0_1 l0_2 ((rd_T41 l0_2 a2).f0) ((rd_T41 l0_2 a2).f1) ((rd_T41 l0_2 a2).f2) ((rd_T41 l0_2 a2).f3) ((rd_T41 l0_2 a2).f4)))) else (if ((rd_T59 l0_1 x8_1).f2) > 0 then (if (wrap64 ((wrap64 ((rd l1 x8_1) - t281)) + t282)) > ((rd_T59 l0_1 x8_1).f2) then (some false) else (r11_Ready.l0 k1 l1 (wrap64 (x8_1 + 1)) a0_0 l0_1 l0_2 ((rd_T41 l0_2 a2).f0) ((rd_T41 l0_2 a2).f1) ((rd_T41 l0_2 a2).f2) ((rd_T41 l0_2 a2).f3) ((rd_T41 l0_2 a2).f4))) else (r11_Ready.l0 k1 l1 (wrap64 (x8_1 + 1)) a0_0 l0_1 l0_2 ((rd_T41 l0_2 a2).f0) ((rd_T41 l0_2 a2).f1) ((rd_T41 l0_2 a2).f2) ((rd_T41 l0_2 a2).f3) ((rd_T41 l0_2 a2).f4)))))))) else (none)) else (none)) = some r := H
      have A12 := aM A120
      clear A120
      by_cases c13 : 0 ≤ x8_1
      ·rw [if_pos c13] at H
       have c13b0 : decide (0 ≤ x8_1) = true := decide_eq_true c13
       clear c13
       by_cases c14 : x8_1 < (l1.length : Int)
       ·rw [if_pos c14] at H
        have c14b0 : decide (x8_1 < (l1.length : Int)) = true := decide_eq_true c14
        clear c14
        replace H := Option.bind_eq_some_iff.mp H
        obtain ⟨t281, A150, H⟩ := H
        replace H : ((r11_weight.f k1 ((rd_T41 l0_2 a2).f2) x8_1).bind fun t282 => ((r11_weight.f k1 ((rd_T41 l0_2 a2).f1) x8_1).bind fun t284 => (if (rd l1 x8_1) < t284 then (some false) else (if t279 > 0 then (if (rd l1 x8_1) ≥ t279 then (some false) else (if ((rd_T59 l0_1 x8_1).f2) > 0 then (if (wrap64 ((wrap64 ((rd l1 x8_1) - t281)) + t282)) > ((rd_T59 l0_1 x8_1).f2) then (some false) else (r11_Ready.l0 k1 l1 (wrap64 (x8_1 + 1)) a0_0 l0_1 l0_2 ((rd_T41 l0_2 a2).f0) ((rd_T41 l0_2 a2).f1) ((rd_T41 l0_2 a2).f2) ((rd_T41 l0_2 a2).f3) ((rd_T41 l0_2 a2).f4))) else (r11_Ready.l0 k1 l1 (wrap64 (x8_1 + 1)) a0_0 l0_1 l0_2 ((rd_T41 l0_2 a2).f0) ((rd_T41 l0_2 a2).f1) ((rd_T41 l0_2 a2).f2) ((rd_T41 l0_2 a2).f3) ((rd_T41 l0_2 a2).f4)))) else (if ((rd_T59 l0_1 x8_1).f2) > 0 then (if (wrap64 ((wrap64 ((rd l1 x8_1) - t281)) + t282)) > ((rd_T59 l0_1 x8_1).f2) then (some false) else (r11_Ready.l0 k1 l1 (wrap64 (x8_1 + 1)) a0_0 l0_1 l0_2 ((rd_T41 l0_2 a2).f0) ((rd_T41 l0_2 a2).f1) ((rd_T41 l0_2 a2).f2) ((rd_T41 l0_2 a2).f3) ((rd_T41 l0_2 a2).f4))) else (r11_Ready.l0 k1 l1 (wrap64 (x8_1 + 1)) a0_0 l0_1 l0_2 ((rd_T41 l0_2 a2).f0) ((rd_T41 l0_2 a2).f1) ((rd_T41 l0_2 a2).f2) ((rd_T41 l0_2 a2).f3) ((rd_T41 l0_2 a2).f4))))))) = some r := H
        have A15 := aM A150
        clear A150
        replace H := Option.bind_eq_some_iff.mp H
        obtain ⟨t282, A160, H⟩ := H
        replace H : ((r11_weight.f k1 ((rd_T41 l0_2 a2).f1) x8_1).bind fun t284 => (if (rd l1 x8_1) < t284 then (some false) else (if t279 > 0 then (if (rd l1 x8_1) ≥ t279 then (some false) else (if ((rd_T59 l0_1 x8_1).f2) > 0 then (if (wrap64 ((wrap64 ((rd l1 x8_1) - t281)) + t282)) > ((rd_T59 l0_1 x8_1).f2) then (some false) else (r11_Ready.l0 k1 l1 (wrap64 (x8_1 + 1)) a0_0 l0_1 l0_2 ((rd_T41 l0_2 a2).f0) ((rd_T41 l0_2 a2).f1) ((rd_T41 l0_2 a2).f2) ((rd_T41 l0_2 a2).f3) ((rd_T41 l0_2 a2).f4))) else (r11_Ready.l0 k1 l1 (wrap64 (x8_1 + 1)) a0_0 l0_1 l0_2 ((rd_T41 l0_2 a2).f0) ((rd_T41 l0_2 a2).f1) ((rd_T41 l0_2 a2).f2) ((rd_T41 l0_2 a2).f3) ((rd_T41 l0_2 a2).f4)))) else (if ((rd_T59 l0_1 x8_1).f2) > 0 then (if (wrap64 ((wrap64 ((rd l1 x8_1) - t281)) + t282)) > ((rd_T59 l0_1 x8_1).f2) then (some false) else (r11_Ready.l0 k1 l1 (wrap64 (x8_1 + 1)) a0_0 l0_1 l0_2 ((rd_T41 l0_2 a2).f0) ((rd_T41 l0_2 a2).f1) ((rd_T41 l0_2 a2).f2) ((rd_T41 l0_2 a2).f3) ((rd_T41 l0_2 a2).f4))) else (r11_Ready.l0 k1 l1 (wrap64 (x8_1 + 1)) a0_0 l0_1 l0_2 ((rd_T41 l0_2 a2).f0) ((rd_T41 l0_2 a2).f1) ((rd_T41 l0_2 a2).f2) ((rd_T41 l0_2 a2).f3) ((rd_T41 l0_2 a2).f4)))))) = some r := H
        have A16 := aM A160
        clear A160
        replace H := Option.bind_eq_some_iff.mp H
        obtain ⟨t284, A170, H⟩ := H
        replace H : (if (rd l1 x8_1) < t284 then (some false) else (if t279 > 0 then (if (rd l1 x8_1) ≥ t279 then (some false) else (if ((rd_T59 l0_1 x8_1).f2) > 0 then (if (wrap64 ((wrap64 ((rd l1 x8_1) - t281)) + t282)) > ((rd_T59 l0_1 x8_1).f2) then (some false) else (r11_Ready.l0 k1 l1 (wrap64 (x8_1 + 1)) a0_0 l0_1 l0_2 ((rd_T41 l0_2 a2).f0) ((rd_T41 l0_2 a2).f1) ((rd_T41 l0_2 a2).f2) ((rd_T41 l0_2 a2).f3) ((rd_T41 l0_2 a2).f4))) else (r11_Ready.l0 k1 l1 (wrap64 (x8_1 + 1)) a0_0 l0_1 l0_2 ((rd_T41 l0_2 a2).f0) ((rd_T41 l0_2 a2).f1) ((rd_T41 l0_2 a2).f2) ((rd_T41 l0_2 a2).f3) ((rd_T41 l0_2 a2).f4)))) else (if ((rd_T59 l0_1 x8_1).f2) > 0 then (if (wrap64 ((wrap64 ((rd l1 x8_1) - t281)) + t282)) > ((rd_T59 l0_1 x8_1).f2) then (some false) else (r11_Ready.l0 k1 l1 (wrap64 (x8_1 + 1)) a0_0 l0_1 l0_2 ((rd_T41 l0_2 a2).f0) ((rd_T41 l0_2 a2).f1) ((rd_T41 l0_2 a2).f2) ((rd_T41 l0_2 a2).f3) ((rd_T41 l0_2 a2).f4))) else (r11_Ready.l0 k1 l1 (wrap64 (x8_1 + 1)) a0_0 l0_1 l0_2 ((rd_T41 l0_2 a2).f0) ((rd_T41 l0_2 a2).f1) ((rd_T41 l0_2 a2).f2) ((rd_T41 l0_2 a2).f3) ((rd_T41 l0_2 a2).f4))))) = some r := H
        have A17 := aM A170
        clear A170
        have HH := aM H
        clear H
        obtain ⟨b1, c18b0⟩ : ∃ b, decide ((rd l1 x8_1) < t284) = b := ⟨_, rfl⟩
        obtain ⟨b2, c24b0⟩ : ∃ b, decide (0 < t279) = b := ⟨_, rfl⟩
        obtain ⟨b3, c25b0⟩ : ∃ b, decide (t279 ≤ (rd l1 x8_1)) = b := ⟨_, rfl⟩
        obtain ⟨b4, c31b0⟩ : ∃ b, decide (0 < ((rd_T59 l0_1 x8_1).f2)) = b := ⟨_, rfl⟩
        obtain ⟨b5, c32b0⟩ : ∃ b, decide (((rd_T59 l0_1 x8_1).f2) < (wrap64 ((wrap64 ((rd l1 x8_1) - t281)) + t282))) = b := ⟨_, rfl⟩
        have c32b6 := c32b0
        try simp only [← i64_w] at c32b6
        have hnb33 := NB276_278.out
        have hnc33 := NB278_276.out
        have hcz34_0 : wr.cell? ⟨gb276, 0, none⟩ = some (.string a0_0) := (blk_cell BK276.out 0).trans rfl
        have hcz34_1 : wr.cell? ⟨gb276, 1, none⟩ = some (.slice A0_1 l0_1.length c0_1) := (blk_cell BK276.out 1).trans rfl
        have hcz34_2 : wr.cell? ⟨gb276, 2, none⟩ = some (.slice (some ad277) l0_2.length c0_2) := (blk_cell BK276.out 2).trans rfl
        have hfz34_0 := blk_frozen BK276.out 0
        have hfz34_1 := blk_frozen BK276.out 1
        have hfz34_2 := blk_frozen BK276.out 2
        have hcz35_0 : wr.cell? ⟨gb278, 0, none⟩ = some (.string ((rd_T41 l0_2 a2).f0)) := (blk_cell BK278.out 0).trans rfl
        have hcz35_1 : wr.cell? ⟨gb278, 1, none⟩ = some (.slice A277_1 ((rd_T41 l0_2 a2).f1).length c277_1) := (blk_cell BK278.out 1).trans rfl
        have hcz35_2 : wr.cell? ⟨gb278, 2, none⟩ = some (.slice A277_2 ((rd_T41 l0_2 a2).f2).length c277_2) := (blk_cell BK278.out 2).trans rfl
        have hcz35_3 : wr.cell? ⟨gb278, 3, none⟩ = some (.slice A277_3 ((rd_T41 l0_2 a2).f3).length c277_3) := (blk_cell BK278.out 3).trans rfl
        have hcz35_4 : wr.cell? ⟨gb278, 4, none⟩ = some (.int .i64 ((rd_T41 l0_2 a2).f4)) := (blk_cell BK278.out 4).trans rfl
        have hfz35_0 := blk_frozen BK278.out 0
        have hfz35_1 := blk_frozen BK278.out 1
        have hfz35_2 := blk_frozen BK278.out 2
        have hfz35_3 := blk_frozen BK278.out 3
        have hfz35_4 := blk_frozen BK278.out 4
        try go_wp2_with (first | ((with_reducible refine gate_callee (f := 58) rfl ?_); refine gM (some 26) Tryd.func58 #[.slice A277_3 ((rd_T41 l0_2 a2).f3).length c277_3, .int .i64 x8_1] ?_; (with_reducible refine (r11_weight.calls k1 _ _ ((rd_T41 l0_2 a2).f3) x8_1 t279 _ ?side1 ?side2 A12.out).mono ?_); (case side1 => repeat (first | exact (Kd.C_below HR277_3.out HB.out) | (with_reducible refine Kd.C_alloc ?_ _) | (with_reducible refine Kd.C_drewN ?_ _) | (with_reducible refine Kd.C_drew ?_))); (case side2 => exact HC277_3.out); rintro e w' ⟨rfl, ⟨nd, rfl⟩⟩; refine ⟨_, rfl, ?_⟩))
        (try (rw [drewN_self wr]; generalize hq_ : World.drewN wr _ = wr; have n0_ : Aside0 (wr.heap[gb276]? = some (.cells #[.string a0_0, .slice A0_1 l0_1.length c0_1, .slice (some ad277) l0_2.length c0_2] 28 (0, 0))) := ⟨by rw [← hq_]; exact (kB BK276.out)⟩; have n1_ : Aside0 (wr.heap[gb278]? = some (.cells #[.string ((rd_T41 l0_2 a2).f0), .slice A277_1 ((rd_T41 l0_2 a2).f1).length c277_1, .slice A277_2 ((rd_T41 l0_2 a2).f2).length c277_2, .slice A277_3 ((rd_T41 l0_2 a2).f3).length c277_3, .int .i64 ((rd_T41 l0_2 a2).f4)] 41 (0, 0))) := ⟨by rw [← hq_]; exact (kB BK278.out)⟩; have n2_ : Aside0 (Below w.heap.size w wr) := ⟨by rw [← hq_]; exact (bB2 HB.out GE276.out GE278.out)⟩; clear BK276 BK278 HB hq_; have BK276 := n0_; have BK278 := n1_; have HB := n2_; clear n0_ n1_ n2_))
        have n0_ := aM (blk_drew BK276.out)
        have n1_ := aM (blk_drew BK278.out)
        have n2_ := aM (below_drew1 HB.out)
        clear BK276
        clear BK278
        clear HB
        have BK276 := n0_
        have BK278 := n1_
        have HB := n2_
        clear n0_ n1_ n2_
        have p280 : 0 ≤ (x8_1 : Int) := dT
        have q280 : x8_1 < (l1.length : Int) := dT
        obtain ⟨ad280, e280, hx280_0⟩ := Kd.at_int HR1.out x8_1 p280 q280
        have hw280_0 := hx280_0
        cases e280
        replace hx280_0 := (HB.out.cell (World.block_lt_of_cell? w _ hx280_0)).trans hx280_0
        replace p280 := eq_true p280
        replace q280 := eq_true q280
        refine start_ (n := 15) (S := fun w' => w'.cell? ⟨gb278, 0, none⟩ = some (.string ((rd_T41 l0_2 a2).f0)) ∧ w'.cell? ⟨gb278, 1, none⟩ = some (.slice A277_1 ((rd_T41 l0_2 a2).f1).length c277_1) ∧ w'.cell? ⟨gb278, 2, none⟩ = some (.slice A277_2 ((rd_T41 l0_2 a2).f2).length c277_2) ∧ w'.cell? ⟨gb278, 3, none⟩ = some (.slice A277_3 ((rd_T41 l0_2 a2).f3).length c277_3) ∧ w'.cell? ⟨gb278, 4, none⟩ = some (.int .i64 ((rd_T41 l0_2 a2).f4)) ∧ w'.cell? (ad280.add (x8_1).toNat) = some (.int .i64 (rd l1 x8_1))) (ds := []) (rFl 15 0) (by kernel_rfl) rfl rfl ⟨(blk_cell BK278.out 0).trans rfl, (blk_cell BK278.out 1).trans rfl, (blk_cell BK278.out 2).trans rfl, (blk_cell BK278.out 3).trans rfl, (blk_cell BK278.out 4).trans rfl, ((HB.out.cell (World.block_lt_of_cell? w _ hw280_0)).trans hw280_0)⟩ (fun hHeld => ?_); refine with_tabW r11_Ready.tab6 r11_Ready.bits6 (fun HT_ HW_ => ?_)
        generalize wr.drew = w36 at BK276 BK278 HB hx280_0 hHeld ⊢
        refine pure_ (i := 0) (N := some 27) (v := ?_) (a' := ?_) (rFl 15 1) rfl rfl (any_of HT_.out (by kernel_rfl)) (fun _ _ _ h => h) (Or.inl ⟨by rfl, ?_⟩) ?_ ?_; rotate_left; exact qT; rotate_left; exact pT
        refine pure_ (i := 1) (N := some 28) (v := ?_) (a' := ?_) (rFl 15 3) rfl rfl (any_of HT_.out (by kernel_rfl)) (fun _ _ _ h => h) (Or.inl ⟨by rfl, ?_⟩) ?_ ?_; rotate_left; exact qT; rotate_left; exact pT
        refine pure_ (i := 2) (N := some 29) (v := ?_) (a' := ?_) (rFl 15 7) rfl rfl (any_of HT_.out (by kernel_rfl)) (fun _ _ _ h => h) (Or.inl ⟨by rfl, ?_⟩) ?_ ?_; rotate_left; exact qT; rotate_left; exact pT
        refine pure_ (i := 4) (N := some 31) (v := ?_) (a' := ?_) (rFl 15 23) rfl rfl (any_of HT_.out (by kernel_rfl)) (fun _ _ _ h => h) (Or.inl ⟨by rfl, ?_⟩) ?_ ?_; rotate_left; exact qT; rotate_left; exact pT
        refine pure_ (i := 6) (N := some 33) (v := ?_) (a' := ?_) (rFl 15 87) rfl rfl (any_of HT_.out (by kernel_rfl)) (fun _ _ _ h => h) (Or.inl ⟨by rfl, ?_⟩) ?_ ?_; rotate_left; exact qT; rotate_left; exact pT
        refine pure_ (i := 9) (N := some 36) (v := ?_) (a' := ?_) (rFl 15 599) rfl rfl (any_of HT_.out (by kernel_rfl)) (fun _ _ _ h => h) (Or.inl ⟨by rfl, ?_⟩) ?_ ?_; rotate_left; exact qT; rotate_left; exact pT
        refine pure_ (i := 11) (N := some 38) (v := ?_) (a' := ?_) (rFl 15 2647) rfl rfl (any_of HT_.out (by kernel_rfl)) (fun _ _ _ h => h) (Or.inl ⟨by rfl, ?_⟩) ?_ ?_; rotate_left; exact qT; rotate_left; exact pT
        refine take_ (i := 3) (N := some 30) (v := ?_) (a' := ?_) (rFl 15 2655) rfl rfl (take_ofW HT_.out HW_.out (by kernel_rfl)) (fun _ _ _ h => h) (Or.inl ⟨by rfl, ?_⟩) hHeld ?_ ?_; rotate_left; rintro w' ⟨s0, s1, s2, s3, s4, s5⟩; go_simp; with_reducible rfl; rotate_left; exact pT
        refine take_ (i := 5) (N := some 32) (v := ?_) (a' := ?_) (rFl 15 2687) rfl rfl (take_ofW HT_.out HW_.out (by kernel_rfl)) (fun _ _ _ h => h) (Or.inl ⟨by rfl, ?_⟩) hHeld ?_ ?_; rotate_left; rintro w' ⟨s0, s1, s2, s3, s4, s5⟩; go_simp; with_reducible rfl; rotate_left; exact pT
        refine take_ (i := 10) (N := some 37) (v := ?_) (a' := ?_) (rFl 15 3711) rfl rfl (take_ofW HT_.out HW_.out (by kernel_rfl)) (fun _ _ _ h => h) (Or.inl ⟨by rfl, ?_⟩) hHeld ?_ ?_; rotate_left; rintro w' ⟨s0, s1, s2, s3, s4, s5⟩; go_simp; with_reducible rfl; rotate_left; exact pT
        refine one_ (i := 7) (N := some 34) (rFl 15 3839) rfl rfl (one_of HT_.out (by kernel_rfl)) (by decide) (fun K hK => ?_)
        refine goes_ Tryd.func58 (by kernel_rfl) rfl #[.slice A277_1 ((rd_T41 l0_2 a2).f1).length c277_1, .int .i64 x8_1] (by rfl) rfl rfl mT ?_
        with_reducible refine (r11_weight.calls k1 _ _ ((rd_T41 l0_2 a2).f1) x8_1 t281 _ ?side1 ?side2 A15.out).mono ?_
        (case side1 => repeat (first | exact (Kd.C_below HR277_1.out HB.out) | (with_reducible refine Kd.C_alloc ?_ _) | (with_reducible refine Kd.C_drewN ?_ _) | (with_reducible refine Kd.C_drew ?_)))
        (case side2 => exact HC277_1.out)
        rintro e w' ⟨rfl, ⟨nd, rfl⟩⟩
        refine ⟨_, rfl, ?_⟩
        refine hK.out _ _ ⟨(blk_cell BK278.out 0).trans rfl, (blk_cell BK278.out 1).trans rfl, (blk_cell BK278.out 2).trans rfl, (blk_cell BK278.out 3).trans rfl, (blk_cell BK278.out 4).trans rfl, ((HB.out.cell (World.block_lt_of_cell? w _ hw280_0)).trans hw280_0)⟩ (fun hHeld => ?_)
        clear hK K
        refine nU 34 ?_
        refine pure_ (i := 8) (N := some 35) (v := ?_) (a' := ?_) (rFl 15 4095) rfl rfl (any_of HT_.out (by kernel_rfl)) (fun _ _ _ h => h) (Or.inl ⟨by rfl, ?_⟩) ?_ ?_; rotate_left; exact qT; rotate_left; exact pT
        refine one_ (i := 12) (N := some 39) (rFl 15 8191) rfl rfl (one_of HT_.out (by kernel_rfl)) (by decide) (fun K hK => ?_)
        refine goes_ Tryd.func58 (by kernel_rfl) rfl #[.slice A277_2 ((rd_T41 l0_2 a2).f2).length c277_2, .int .i64 x8_1] (by rfl) rfl rfl mT ?_
        with_reducible refine (r11_weight.calls k1 _ _ ((rd_T41 l0_2 a2).f2) x8_1 t282 _ ?side1 ?side2 A16.out).mono ?_
        (case side1 => repeat (first | exact (Kd.C_below HR277_2.out (bB2 HB.out GE276.out GE278.out)) | (with_reducible refine Kd.C_alloc ?_ _) | (with_reducible refine Kd.C_drewN ?_ _) | (with_reducible refine Kd.C_drew ?_)))
        (case side2 => exact HC277_2.out)
        rintro e w' ⟨rfl, ⟨nd, rfl⟩⟩
        refine ⟨_, rfl, ?_⟩
        refine hK.out _ _ ⟨(blk_cell BK278.out 0).trans rfl, (blk_cell BK278.out 1).trans rfl, (blk_cell BK278.out 2).trans rfl, (blk_cell BK278.out 3).trans rfl, (blk_cell BK278.out 4).trans rfl, ((HB.out.cell (World.block_lt_of_cell? w _ hw280_0)).trans hw280_0)⟩ (fun hHeld => ?_)
        clear hK K
        refine nU 39 ?_
        refine pure_ (i := 13) (N := some 40) (v := ?_) (a' := ?_) (rFl 15 16383) rfl rfl (any_of HT_.out (by kernel_rfl)) (fun _ _ _ h => h) (Or.inl ⟨by rfl, ?_⟩) ?_ ?_; rotate_left; exact qT; rotate_left; exact pT
        refine pure_ (i := 14) (N := some 10) (v := ?_) (a' := ?_) (rFl 15 32767) rfl rfl (any_of HT_.out (by kernel_rfl)) (fun _ _ _ h => h) (Or.inl ⟨by rfl, ?_⟩) ?_ ?_; rotate_left; exact qT; rotate_left; exact pT
        refine done_ (done_of HT_.out (by kernel_rfl)) ?_
        try go_wp2
        try rw [World.drewN_drewN]
        (try (rw [drewN_self w36]; generalize hq_ : World.drewN w36 _ = w36; have n0_ : Aside0 (w36.heap[gb276]? = some (.cells #[.string a0_0, .slice A0_1 l0_1.length c0_1, .slice (some ad277) l0_2.length c0_2] 28 (0, 0))) := ⟨by rw [← hq_]; exact (kB BK276.out)⟩; have n1_ : Aside0 (w36.heap[gb278]? = some (.cells #[.string ((rd_T41 l0_2 a2).f0), .slice A277_1 ((rd_T41 l0_2 a2).f1).length c277_1, .slice A277_2 ((rd_T41 l0_2 a2).f2).length c277_2, .slice A277_3 ((rd_T41 l0_2 a2).f3).length c277_3, .int .i64 ((rd_T41 l0_2 a2).f4)] 41 (0, 0))) := ⟨by rw [← hq_]; exact (kB BK278.out)⟩; have n2_ : Aside0 (Below w.heap.size w w36) := ⟨by rw [← hq_]; exact (bB2 HB.out GE276.out GE278.out)⟩; clear BK276 BK278 HB hq_; have BK276 := n0_; have BK278 := n1_; have HB := n2_; clear n0_ n1_ n2_))
        have n0_ := aM (blk_drew BK276.out)
        have n1_ := aM (blk_drew BK278.out)
        have n2_ := aM (below_drew1 HB.out)
        clear BK276
        clear BK278
        clear HB
        have BK276 := n0_
        have BK278 := n1_
        have HB := n2_
        clear n0_ n1_ n2_
        have p283 : 0 ≤ (x8_1 : Int) := dT
        have q283 : x8_1 < (l1.length : Int) := dT
        obtain ⟨ad283, e283, hx283_0⟩ := Kd.at_int HR1.out x8_1 p283 q283
        have hw283_0 := hx283_0
        obtain rfl : ad280 = ad283 := (by injection e283)
        replace hx283_0 := (HB.out.cell (World.block_lt_of_cell? w _ hx283_0)).trans hx283_0
        replace p283 := eq_true p283
        replace q283 := eq_true q283
        have p285 : 0 ≤ (x8_1 : Int) := dT
        have q285 : x8_1 < (l1.length : Int) := dT
        obtain ⟨ad285, e285, hx285_0⟩ := Kd.at_int HR1.out x8_1 p285 q285
        have hw285_0 := hx285_0
        obtain rfl : ad280 = ad285 := (by injection e285)
        replace hx285_0 := (HB.out.cell (World.block_lt_of_cell? w _ hx285_0)).trans hx285_0
        replace p285 := eq_true p285
        replace q285 := eq_true q285
        have p286 : 0 ≤ (x8_1 : Int) := dT
        have q286 : x8_1 < (l0_1.length : Int) := dT
        obtain ⟨ad286, e286, hx286_0, hx286_1, hx286_2⟩ := at_T59 HR0_1.out x8_1 p286 q286
        have hw286_2 := hx286_2
        have hw286_1 := hx286_1
        have hw286_0 := hx286_0
        cases e286
        replace hx286_0 := (HB.out.cell (World.block_lt_of_cell? w _ hx286_0)).trans hx286_0
        replace hx286_1 := (HB.out.cell (World.block_lt_of_cell? w _ hx286_1)).trans hx286_1
        replace hx286_2 := (HB.out.cell (World.block_lt_of_cell? w _ hx286_2)).trans hx286_2
        replace p286 := eq_true p286
        replace q286 := eq_true q286
        have p287 : 0 ≤ (x8_1 : Int) := dT
        have q287 : x8_1 < (l0_1.length : Int) := dT
        obtain ⟨ad287, e287, hx287_0, hx287_1, hx287_2⟩ := at_T59 HR0_1.out x8_1 p287 q287
        have hw287_2 := hx287_2
        have hw287_1 := hx287_1
        have hw287_0 := hx287_0
        obtain rfl : ad286 = ad287 := (by injection e287)
        replace hx287_0 := (HB.out.cell (World.block_lt_of_cell? w _ hx287_0)).trans hx287_0
        replace hx287_1 := (HB.out.cell (World.block_lt_of_cell? w _ hx287_1)).trans hx287_1
        replace hx287_2 := (HB.out.cell (World.block_lt_of_cell? w _ hx287_2)).trans hx287_2
        replace p287 := eq_true p287
        replace q287 := eq_true q287
        refine start_ (n := 40) (S := fun w' => w'.cell? ⟨gb278, 0, none⟩ = some (.string ((rd_T41 l0_2 a2).f0)) ∧ w'.cell? ⟨gb278, 1, none⟩ = some (.slice A277_1 ((rd_T41 l0_2 a2).f1).length c277_1) ∧ w'.cell? ⟨gb278, 2, none⟩ = some (.slice A277_2 ((rd_T41 l0_2 a2).f2).length c277_2) ∧ w'.cell? ⟨gb278, 3, none⟩ = some (.slice A277_3 ((rd_T41 l0_2 a2).f3).length c277_3) ∧ w'.cell? ⟨gb278, 4, none⟩ = some (.int .i64 ((rd_T41 l0_2 a2).f4)) ∧ w'.cell? ⟨gb276, 0, none⟩ = some (.string a0_0) ∧ w'.cell? ⟨gb276, 1, none⟩ = some (.slice (some ad286) l0_1.length c0_1) ∧ w'.cell? ⟨gb276, 2, none⟩ = some (.slice (some ad277) l0_2.length c0_2) ∧ w'.cell? (ad280.add (x8_1).toNat) = some (.int .i64 (rd l1 x8_1)) ∧ w'.cell? (ad280.add (x8_1).toNat) = some (.int .i64 (rd l1 x8_1)) ∧ w'.cell? (ad286.add ((x8_1).toNat * 3)) = some (.string ((rd_T59 l0_1 x8_1).f0)) ∧ w'.cell? ⟨(ad286.add ((x8_1).toNat * 3)).block, (ad286.add ((x8_1).toNat * 3)).off + 1, none⟩ = some (.int .i64 ((rd_T59 l0_1 x8_1).f1)) ∧ w'.cell? ⟨(ad286.add ((x8_1).toNat * 3)).block, (ad286.add ((x8_1).toNat * 3)).off + 2, none⟩ = some (.int .i64 ((rd_T59 l0_1 x8_1).f2)) ∧ w'.cell? (ad286.add ((x8_1).toNat * 3)) = some (.string ((rd_T59 l0_1 x8_1).f0)) ∧ w'.cell? ⟨(ad286.add ((x8_1).toNat * 3)).block, (ad286.add ((x8_1).toNat * 3)).off + 1, none⟩ = some (.int .i64 ((rd_T59 l0_1 x8_1).f1)) ∧ w'.cell? ⟨(ad286.add ((x8_1).toNat * 3)).block, (ad286.add ((x8_1).toNat * 3)).off + 2, none⟩ = some (.int .i64 ((rd_T59 l0_1 x8_1).f2))) (ds := []) (rFl 40 0) (by kernel_rfl) rfl rfl ⟨(blk_cell BK278.out 0).trans rfl, (blk_cell BK278.out 1).trans rfl, (blk_cell BK278.out 2).trans rfl, (blk_cell BK278.out 3).trans rfl, (blk_cell BK278.out 4).trans rfl, (blk_cell BK276.out 0).trans rfl, (blk_cell BK276.out 1).trans rfl, (blk_cell BK276.out 2).trans rfl, ((HB.out.cell (World.block_lt_of_cell? w _ hw283_0)).trans hw283_0), ((HB.out.cell (World.block_lt_of_cell? w _ hw285_0)).trans hw285_0), ((HB.out.cell (World.block_lt_of_cell? w _ hw286_0)).trans hw286_0), ((HB.out.cell (World.block_lt_of_cell? w _ hw286_1)).trans hw286_1), ((HB.out.cell (World.block_lt_of_cell? w _ hw286_2)).trans hw286_2), ((HB.out.cell (World.block_lt_of_cell? w _ hw287_0)).trans hw287_0), ((HB.out.cell (World.block_lt_of_cell? w _ hw287_1)).trans hw287_1), ((HB.out.cell (World.block_lt_of_cell? w _ hw287_2)).trans hw287_2)⟩ (fun hHeld => ?_); refine with_tabW r11_Ready.tab7 r11_Ready.bits7 (fun HT_ HW_ => ?_)
        generalize w36.drew = w37 at BK276 BK278 HB hx283_0 hx285_0 hx286_0 hx286_1 hx286_2 hx287_0 hx287_1 hx287_2 hHeld ⊢
        refine pure_ (i := 0) (N := some 41) (v := ?_) (a' := ?_) (rFl 40 1) rfl rfl (any_of HT_.out (by kernel_rfl)) (fun _ _ _ h => h) (Or.inl ⟨by rfl, ?_⟩) ?_ ?_; rotate_left; exact qT; rotate_left; exact pT
        refine pure_ (i := 1) (N := some 42) (v := ?_) (a' := ?_) (rFl 40 3) rfl rfl (any_of HT_.out (by kernel_rfl)) (fun _ _ _ h => h) (Or.inl ⟨by rfl, ?_⟩) ?_ ?_; rotate_left; exact qT; rotate_left; exact pT
        refine pure_ (i := 2) (N := some 43) (v := ?_) (a' := ?_) (rFl 40 7) rfl rfl (any_of HT_.out (by kernel_rfl)) (fun _ _ _ h => h) (Or.inl ⟨by rfl, ?_⟩) ?_ ?_; rotate_left; exact qT; rotate_left; exact pT
        refine pure_ (i := 4) (N := some 45) (v := ?_) (a' := ?_) (rFl 40 23) rfl rfl (any_of HT_.out (by kernel_rfl)) (fun _ _ _ h => h) (Or.inl ⟨by rfl, ?_⟩) ?_ ?_; rotate_left; exact qT; rotate_left; exact pT
        refine pure_ (i := 6) (N := some 47) (v := ?_) (a' := ?_) (rFl 40 87) rfl rfl (any_of HT_.out (by kernel_rfl)) (fun _ _ _ h => h) (Or.inl ⟨by rfl, ?_⟩) ?_ ?_; rotate_left; exact qT; rotate_left; exact pT
        refine take_ (i := 3) (N := some 44) (v := ?_) (a' := ?_) (rFl 40 95) rfl rfl (take_ofW HT_.out HW_.out (by kernel_rfl)) (fun _ _ _ h => h) (Or.inl ⟨by rfl, ?_⟩) hHeld ?_ ?_; rotate_left; rintro w' ⟨s0, s1, s2, s3, s4, s5, s6, s7, s8, s9, s10, s11, s12, s13, s14, s15⟩; go_simp; with_reducible rfl; rotate_left; exact pT
        refine take_ (i := 5) (N := some 46) (v := ?_) (a' := ?_) (rFl 40 127) rfl rfl (take_ofW HT_.out HW_.out (by kernel_rfl)) (fun _ _ _ h => h) (Or.inl ⟨by rfl, ?_⟩) hHeld ?_ ?_; rotate_left; rintro w' ⟨s0, s1, s2, s3, s4, s5, s6, s7, s8, s9, s10, s11, s12, s13, s14, s15⟩; go_simp; with_reducible rfl; rotate_left; exact pT
        refine one_ (i := 7) (N := some 48) (rFl 40 255) rfl rfl (one_of HT_.out (by kernel_rfl)) (by decide) (fun K hK => ?_)
        refine goes_ Tryd.func58 (by kernel_rfl) rfl #[.slice A277_1 ((rd_T41 l0_2 a2).f1).length c277_1, .int .i64 x8_1] (by rfl) rfl rfl mT ?_
        with_reducible refine (r11_weight.calls k1 _ _ ((rd_T41 l0_2 a2).f1) x8_1 t284 _ ?side1 ?side2 A17.out).mono ?_
        (case side1 => repeat (first | exact (Kd.C_below HR277_1.out HB.out) | (with_reducible refine Kd.C_alloc ?_ _) | (with_reducible refine Kd.C_drewN ?_ _) | (with_reducible refine Kd.C_drew ?_)))
        (case side2 => exact HC277_1.out)
        rintro e w' ⟨rfl, ⟨nd, rfl⟩⟩
        refine ⟨_, rfl, ?_⟩
        refine hK.out _ _ ⟨(blk_cell BK278.out 0).trans rfl, (blk_cell BK278.out 1).trans rfl, (blk_cell BK278.out 2).trans rfl, (blk_cell BK278.out 3).trans rfl, (blk_cell BK278.out 4).trans rfl, (blk_cell BK276.out 0).trans rfl, (blk_cell BK276.out 1).trans rfl, (blk_cell BK276.out 2).trans rfl, ((HB.out.cell (World.block_lt_of_cell? w _ hw283_0)).trans hw283_0), ((HB.out.cell (World.block_lt_of_cell? w _ hw285_0)).trans hw285_0), ((HB.out.cell (World.block_lt_of_cell? w _ hw286_0)).trans hw286_0), ((HB.out.cell (World.block_lt_of_cell? w _ hw286_1)).trans hw286_1), ((HB.out.cell (World.block_lt_of_cell? w _ hw286_2)).trans hw286_2), ((HB.out.cell (World.block_lt_of_cell? w _ hw287_0)).trans hw287_0), ((HB.out.cell (World.block_lt_of_cell? w _ hw287_1)).trans hw287_1), ((HB.out.cell (World.block_lt_of_cell? w _ hw287_2)).trans hw287_2)⟩ (fun hHeld => ?_)
        clear hK K
        refine nU 48 ?_
        refine pure_ (i := 8) (N := some 49) (v := ?_) (a' := ?_) (rFl 40 511) rfl rfl (any_of HT_.out (by kernel_rfl)) (fun _ _ _ h => h) (Or.inl ⟨by rfl, ?_⟩) ?_ ?_; rotate_left; exact qT; rotate_left; exact pT
        refine pure_ (i := 9) (N := some 50) (v := ?_) (a' := ?_) (rFl 40 1023) rfl rfl (any_of HT_.out (by kernel_rfl)) (fun _ _ _ h => h) (Or.inl ⟨by rfl, ?_⟩) ?_ ?_; rotate_left; exact qT; rotate_left; exact pT
        have H := HH.out
        clear HH
        cases b1
        ·rw [if_neg (of_decide_eq_false c18b0)] at H
         refine pure_ (i := 10) (N := some 51) (v := ?_) (a' := ?_) (rFl 40 2047) rfl rfl (any_of HT_.out (by kernel_rfl)) (fun _ _ _ h => h) (Or.inl ⟨by rfl, ?_⟩) ?_ ?_
         rotate_left
         ·intro w'; go_simp; with_reducible rfl
         rotate_left
         ·simp only [Act.put, List.setIfInBounds_toArray, List.set_cons_zero, List.set_cons_succ, i64_w, i32_w]; rfl
         refine pure_ (i := 11) (N := some 52) (v := ?_) (a' := ?_) (rFl 40 4095) rfl rfl (any_of HT_.out (by kernel_rfl)) (fun _ _ _ h => h) (Or.inl ⟨by rfl, ?_⟩) ?_ ?_
         rotate_left
         ·intro w'; go_simp; with_reducible rfl
         rotate_left
         ·simp only [Act.put, List.setIfInBounds_toArray, List.set_cons_zero, List.set_cons_succ, i64_w, i32_w]; rfl
         refine pure_ (i := 12) (N := some 53) (v := ?_) (a' := ?_) (rFl 40 8191) rfl rfl (any_of HT_.out (by kernel_rfl)) (fun _ _ _ h => h) (Or.inl ⟨by rfl, ?_⟩) ?_ ?_
         rotate_left
         ·intro w'; go_simp; with_reducible rfl
         rotate_left
         ·simp only [Act.put, List.setIfInBounds_toArray, List.set_cons_zero, List.set_cons_succ, i64_w, i32_w]; rfl
         cases b2
         ·rw [if_neg (of_decide_eq_false c24b0)] at H
          refine pure_ (i := 13) (N := some 54) (v := undef) (a' := ?_) (rFl 40 16383) rfl rfl (any_of HT_.out (by kernel_rfl)) (fun _ _ _ h => h) (Or.inr ⟨by rfl, rfl⟩) ?_ ?_
          rotate_left
          ·simp only [Act.put, List.setIfInBounds_toArray, List.set_cons_zero, List.set_cons_succ, i64_w, i32_w]; rfl
          refine pure_ (i := 14) (N := some 55) (v := undef) (a' := ?_) (rFl 40 32767) rfl rfl (any_of HT_.out (by kernel_rfl)) (fun _ _ _ h => h) (Or.inr ⟨by rfl, rfl⟩) ?_ ?_
          rotate_left
          ·simp only [Act.put, List.setIfInBounds_toArray, List.set_cons_zero, List.set_cons_succ, i64_w, i32_w]; rfl
          refine pure_ (i := 15) (N := some 56) (v := undef) (a' := ?_) (rFl 40 65535) rfl rfl (any_of HT_.out (by kernel_rfl)) (fun _ _ _ h => h) (Or.inr ⟨by rfl, rfl⟩) ?_ ?_
          rotate_left
          ·simp only [Act.put, List.setIfInBounds_toArray, List.set_cons_zero, List.set_cons_succ, i64_w, i32_w]; rfl
          refine pure_ (i := 16) (N := some 57) (v := undef) (a' := ?_) (rFl 40 131071) rfl rfl (any_of HT_.out (by kernel_rfl)) (fun _ _ _ h => h) (Or.inr ⟨by rfl, rfl⟩) ?_ ?_
          rotate_left
          ·simp only [Act.put, List.setIfInBounds_toArray, List.set_cons_zero, List.set_cons_succ, i64_w, i32_w]; rfl
          refine pure_ (i := 17) (N := some 58) (v := undef) (a' := ?_) (rFl 40 262143) rfl rfl (any_of HT_.out (by kernel_rfl)) (fun _ _ _ h => h) (Or.inr ⟨by rfl, rfl⟩) ?_ ?_
          rotate_left
          ·simp only [Act.put, List.setIfInBounds_toArray, List.set_cons_zero, List.set_cons_succ, i64_w, i32_w]; rfl
          refine pure_ (i := 18) (N := some 59) (v := undef) (a' := ?_) (rFl 40 524287) rfl rfl (any_of HT_.out (by kernel_rfl)) (fun _ _ _ h => h) (Or.inr ⟨by rfl, rfl⟩) ?_ ?_
          rotate_left
          ·simp only [Act.put, List.setIfInBounds_toArray, List.set_cons_zero, List.set_cons_succ, i64_w, i32_w]; rfl
          refine pure_ (i := 19) (N := some 60) (v := ?_) (a' := ?_) (rFl 40 1048575) rfl rfl (any_of HT_.out (by kernel_rfl)) (fun _ _ _ h => h) (Or.inl ⟨by rfl, ?_⟩) ?_ ?_
          rotate_left
          ·intro w'; go_simp; with_reducible rfl
          rotate_left
          ·simp only [Act.put, List.setIfInBounds_toArray, List.set_cons_zero, List.set_cons_succ, i64_w, i32_w]; rfl
          refine pure_ (i := 20) (N := some 61) (v := ?_) (a' := ?_) (rFl 40 2097151) rfl rfl (any_of HT_.out (by kernel_rfl)) (fun _ _ _ h => h) (Or.inl ⟨by rfl, ?_⟩) ?_ ?_
          rotate_left
          ·intro w'; go_simp; with_reducible rfl
          rotate_left
          ·simp only [Act.put, List.setIfInBounds_toArray, List.set_cons_zero, List.set_cons_succ, i64_w, i32_w]; rfl
          refine pure_ (i := 21) (N := some 62) (v := ?_) (a' := ?_) (rFl 40 4194303) rfl rfl (any_of HT_.out (by kernel_rfl)) (fun _ _ _ h => h) (Or.inl ⟨by rfl, ?_⟩) ?_ ?_
          rotate_left
          ·intro w'; go_simp; with_reducible rfl
          rotate_left
          ·simp only [Act.put, List.setIfInBounds_toArray, List.set_cons_zero, List.set_cons_succ, i64_w, i32_w]; rfl
          refine pure_ (i := 22) (N := some 63) (v := ?_) (a' := ?_) (rFl 40 8388607) rfl rfl (any_of HT_.out (by kernel_rfl)) (fun _ _ _ h => h) (Or.inl ⟨by rfl, ?_⟩) ?_ ?_
          rotate_left
          ·intro w'; go_simp; with_reducible rfl
          rotate_left
          ·simp only [Act.put, List.setIfInBounds_toArray, List.set_cons_zero, List.set_cons_succ, i64_w, i32_w]; rfl
          refine pure_ (i := 24) (N := some 65) (v := ?_) (a' := ?_) (rFl 40 25165823) rfl rfl (any_of HT_.out (by kernel_rfl)) (fun _ _ _ h => h) (Or.inl ⟨by rfl, ?_⟩) ?_ ?_
          rotate_left
          ·intro w'; go_simp; with_reducible rfl
          rotate_left
          ·simp only [Act.put, List.setIfInBounds_toArray, List.set_cons_zero, List.set_cons_succ, i64_w, i32_w]; rfl
          refine take_ (i := 23) (N := some 64) (v := ?_) (a' := ?_) (rFl 40 33554431) rfl rfl (take_ofW HT_.out HW_.out (by kernel_rfl)) (fun _ _ _ h => h) (Or.inl ⟨by rfl, ?_⟩) hHeld ?_ ?_
          rotate_left
          ·rintro w' ⟨s0, s1, s2, s3, s4, s5, s6, s7, s8, s9, s10, s11, s12, s13, s14, s15⟩; go_simp; with_reducible rfl
          rotate_left
          ·simp only [Act.put, List.setIfInBounds_toArray, List.set_cons_zero, List.set_cons_succ, i64_w, i32_w]; rfl
          refine pure_ (i := 25) (N := some 66) (v := ?_) (a' := ?_) (rFl 40 67108863) rfl rfl (any_of HT_.out (by kernel_rfl)) (fun _ _ _ h => h) (Or.inl ⟨by rfl, ?_⟩) ?_ ?_
          rotate_left
          ·intro w'; go_simp; with_reducible rfl
          rotate_left
          ·simp only [Act.put, List.setIfInBounds_toArray, List.set_cons_zero, List.set_cons_succ, i64_w, i32_w]; rfl
          refine pure_ (i := 26) (N := some 67) (v := ?_) (a' := ?_) (rFl 40 134217727) rfl rfl (any_of HT_.out (by kernel_rfl)) (fun _ _ _ h => h) (Or.inl ⟨by rfl, ?_⟩) ?_ ?_
          rotate_left
          ·intro w'; go_simp; with_reducible rfl
          rotate_left
          ·simp only [Act.put, List.setIfInBounds_toArray, List.set_cons_zero, List.set_cons_succ, i64_w, i32_w]; rfl
          refine take_ (i := 27) (N := some 68) (v := ?_) (a' := ?_) (rFl 40 268435455) rfl rfl (take_ofW HT_.out HW_.out (by kernel_rfl)) (fun _ _ _ h => h) (Or.inl ⟨by rfl, ?_⟩) hHeld ?_ ?_
          rotate_left
          ·rintro w' ⟨s0, s1, s2, s3, s4, s5, s6, s7, s8, s9, s10, s11, s12, s13, s14, s15⟩; go_simp; with_reducible rfl
          rotate_left
          ·simp only [Act.put, List.setIfInBounds_toArray, List.set_cons_zero, List.set_cons_succ, i64_w, i32_w]; rfl
          refine pure_ (i := 28) (N := some 69) (v := ?_) (a' := ?_) (rFl 40 536870911) rfl rfl (any_of HT_.out (by kernel_rfl)) (fun _ _ _ h => h) (Or.inl ⟨by rfl, ?_⟩) ?_ ?_
          rotate_left
          ·intro w'; go_simp; with_reducible rfl
          rotate_left
          ·simp only [Act.put, List.setIfInBounds_toArray, List.set_cons_zero, List.set_cons_succ, i64_w, i32_w]; rfl
          refine pure_ (i := 29) (N := some 70) (v := ?_) (a' := ?_) (rFl 40 1073741823) rfl rfl (any_of HT_.out (by kernel_rfl)) (fun _ _ _ h => h) (Or.inl ⟨by rfl, ?_⟩) ?_ ?_
          rotate_left
          ·intro w'; go_simp; with_reducible rfl
          rotate_left
          ·simp only [Act.put, List.setIfInBounds_toArray, List.set_cons_zero, List.set_cons_succ, i64_w, i32_w]; rfl
          cases b4
          ·rw [if_neg (of_decide_eq_false c31b0)] at H
           refine pure_ (i := 30) (N := some 71) (v := undef) (a' := ?_) (rFl 40 2147483647) rfl rfl (any_of HT_.out (by kernel_rfl)) (fun _ _ _ h => h) (Or.inr ⟨by rfl, rfl⟩) ?_ ?_
           rotate_left
           ·simp only [Act.put, List.setIfInBounds_toArray, List.set_cons_zero, List.set_cons_succ, i64_w, i32_w]; rfl
           refine pure_ (i := 31) (N := some 72) (v := undef) (a' := ?_) (rFl 40 4294967295) rfl rfl (any_of HT_.out (by kernel_rfl)) (fun _ _ _ h => h) (Or.inr ⟨by rfl, rfl⟩) ?_ ?_
           rotate_left
           ·simp only [Act.put, List.setIfInBounds_toArray, List.set_cons_zero, List.set_cons_succ, i64_w, i32_w]; rfl
           refine pure_ (i := 32) (N := some 73) (v := undef) (a' := ?_) (rFl 40 8589934591) rfl rfl (any_of HT_.out (by kernel_rfl)) (fun _ _ _ h => h) (Or.inr ⟨by rfl, rfl⟩) ?_ ?_
           rotate_left
           ·simp only [Act.put, List.setIfInBounds_toArray, List.set_cons_zero, List.set_cons_succ, i64_w, i32_w]; rfl
           refine pure_ (i := 33) (N := some 74) (v := undef) (a' := ?_) (rFl 40 17179869183) rfl rfl (any_of HT_.out (by kernel_rfl)) (fun _ _ _ h => h) (Or.inr ⟨by rfl, rfl⟩) ?_ ?_
           rotate_left
           ·simp only [Act.put, List.setIfInBounds_toArray, List.set_cons_zero, List.set_cons_succ, i64_w, i32_w]; rfl
           refine pure_ (i := 34) (N := some 75) (v := undef) (a' := ?_) (rFl 40 34359738367) rfl rfl (any_of HT_.out (by kernel_rfl)) (fun _ _ _ h => h) (Or.inr ⟨by rfl, rfl⟩) ?_ ?_
           rotate_left
           ·simp only [Act.put, List.setIfInBounds_toArray, List.set_cons_zero, List.set_cons_succ, i64_w, i32_w]; rfl
           refine pure_ (i := 35) (N := some 76) (v := undef) (a' := ?_) (rFl 40 68719476735) rfl rfl (any_of HT_.out (by kernel_rfl)) (fun _ _ _ h => h) (Or.inr ⟨by rfl, rfl⟩) ?_ ?_
           rotate_left
           ·simp only [Act.put, List.setIfInBounds_toArray, List.set_cons_zero, List.set_cons_succ, i64_w, i32_w]; rfl
           refine pure_ (i := 36) (N := some 77) (v := undef) (a' := ?_) (rFl 40 137438953471) rfl rfl (any_of HT_.out (by kernel_rfl)) (fun _ _ _ h => h) (Or.inr ⟨by rfl, rfl⟩) ?_ ?_
           rotate_left
           ·simp only [Act.put, List.setIfInBounds_toArray, List.set_cons_zero, List.set_cons_succ, i64_w, i32_w]; rfl
           refine pure_ (i := 37) (N := some 78) (v := undef) (a' := ?_) (rFl 40 274877906943) rfl rfl (any_of HT_.out (by kernel_rfl)) (fun _ _ _ h => h) (Or.inr ⟨by rfl, rfl⟩) ?_ ?_
           rotate_left
           ·simp only [Act.put, List.setIfInBounds_toArray, List.set_cons_zero, List.set_cons_succ, i64_w, i32_w]; rfl
           refine pure_ (i := 38) (N := some 79) (v := ?_) (a' := ?_) (rFl 40 549755813887) rfl rfl (any_of HT_.out (by kernel_rfl)) (fun _ _ _ h => h) (Or.inl ⟨by rfl, ?_⟩) ?_ ?_
           rotate_left
           ·intro w'; go_simp; with_reducible rfl
           rotate_left
           ·simp only [Act.put, List.setIfInBounds_toArray, List.set_cons_zero, List.set_cons_succ, i64_w, i32_w]; rfl
           refine pure_ (i := 39) (N := some 80) (v := ?_) (a' := ?_) (rFl 40 1099511627775) rfl rfl (any_of HT_.out (by kernel_rfl)) (fun _ _ _ h => h) (Or.inl ⟨by rfl, ?_⟩) ?_ ?_
           rotate_left
           ·intro w'; go_simp; with_reducible rfl
           rotate_left
           ·simp only [Act.put, List.setIfInBounds_toArray, List.set_cons_zero, List.set_cons_succ, i64_w, i32_w]; rfl
           have H' := aM H
           clear H
           refine done_ (done_of HT_.out (by kernel_rfl)) ?_
           try go_wp2
           go_roundg k1
           case measure => have := HK1.out; omega
           case rel => exact ⟨(wrap64 (x8_1 + 1)), eT, H', ⟨by have := HK1.out; omega⟩, ⟨kB BK276.out⟩, ⟨kB BK278.out⟩, ⟨bB2 HB.out GE276.out GE278.out⟩⟩
          ·rw [if_pos (of_decide_eq_true c31b0)] at H
           refine pure_ (i := 30) (N := some 71) (v := ?_) (a' := ?_) (rFl 40 2147483647) rfl rfl (any_of HT_.out (by kernel_rfl)) (fun _ _ _ h => h) (Or.inl ⟨by rfl, ?_⟩) ?_ ?_
           rotate_left
           ·intro w'; go_simp; with_reducible rfl
           rotate_left
           ·simp only [Act.put, List.setIfInBounds_toArray, List.set_cons_zero, List.set_cons_succ, i64_w, i32_w]; rfl
           refine pure_ (i := 31) (N := some 72) (v := ?_) (a' := ?_) (rFl 40 4294967295) rfl rfl (any_of HT_.out (by kernel_rfl)) (fun _ _ _ h => h) (Or.inl ⟨by rfl, ?_⟩) ?_ ?_
           rotate_left
           ·intro w'; go_simp; with_reducible rfl
           rotate_left
           ·simp only [Act.put, List.setIfInBounds_toArray, List.set_cons_zero, List.set_cons_succ, i64_w, i32_w]; rfl
           refine pure_ (i := 33) (N := some 74) (v := ?_) (a' := ?_) (rFl 40 12884901887) rfl rfl (any_of HT_.out (by kernel_rfl)) (fun _ _ _ h => h) (Or.inl ⟨by rfl, ?_⟩) ?_ ?_
           rotate_left
           ·intro w'; go_simp; with_reducible rfl
           rotate_left
           ·simp only [Act.put, List.setIfInBounds_toArray, List.set_cons_zero, List.set_cons_succ, i64_w, i32_w]; rfl
           refine take_ (i := 32) (N := some 73) (v := ?_) (a' := ?_) (rFl 40 17179869183) rfl rfl (take_ofW HT_.out HW_.out (by kernel_rfl)) (fun _ _ _ h => h) (Or.inl ⟨by rfl, ?_⟩) hHeld ?_ ?_
           rotate_left
           ·rintro w' ⟨s0, s1, s2, s3, s4, s5, s6, s7, s8, s9, s10, s11, s12, s13, s14, s15⟩; go_simp; with_reducible rfl
           rotate_left
           ·simp only [Act.put, List.setIfInBounds_toArray, List.set_cons_zero, List.set_cons_succ, i64_w, i32_w]; rfl
           refine pure_ (i := 34) (N := some 75) (v := ?_) (a' := ?_) (rFl 40 34359738367) rfl rfl (any_of HT_.out (by kernel_rfl)) (fun _ _ _ h => h) (Or.inl ⟨by rfl, ?_⟩) ?_ ?_
           rotate_left
           ·intro w'; go_simp; with_reducible rfl
           rotate_left
           ·simp only [Act.put, List.setIfInBounds_toArray, List.set_cons_zero, List.set_cons_succ, i64_w, i32_w]; rfl
           refine pure_ (i := 35) (N := some 76) (v := ?_) (a' := ?_) (rFl 40 68719476735) rfl rfl (any_of HT_.out (by kernel_rfl)) (fun _ _ _ h => h) (Or.inl ⟨by rfl, ?_⟩) ?_ ?_
           rotate_left
           ·intro w'; go_simp; with_reducible rfl
           rotate_left
           ·simp only [Act.put, List.setIfInBounds_toArray, List.set_cons_zero, List.set_cons_succ, i64_w, i32_w]; rfl
           refine take_ (i := 36) (N := some 77) (v := ?_) (a' := ?_) (rFl 40 137438953471) rfl rfl (take_ofW HT_.out HW_.out (by kernel_rfl)) (fun _ _ _ h => h) (Or.inl ⟨by rfl, ?_⟩) hHeld ?_ ?_
           rotate_left
           ·rintro w' ⟨s0, s1, s2, s3, s4, s5, s6, s7, s8, s9, s10, s11, s12, s13, s14, s15⟩; go_simp; with_reducible rfl
           rotate_left
           ·simp only [Act.put, List.setIfInBounds_toArray, List.set_cons_zero, List.set_cons_succ, i64_w, i32_w]; rfl
           refine pure_ (i := 37) (N := some 78) (v := ?_) (a' := ?_) (rFl 40 274877906943) rfl rfl (any_of HT_.out (by kernel_rfl)) (fun _ _ _ h => h) (Or.inl ⟨by rfl, ?_⟩) ?_ ?_
           rotate_left
           ·intro w'; go_simp; with_reducible rfl
           rotate_left
           ·simp only [Act.put, List.setIfInBounds_toArray, List.set_cons_zero, List.set_cons_succ, i64_w, i32_w]; rfl
           refine pure_ (i := 38) (N := some 79) (v := ?_) (a' := ?_) (rFl 40 549755813887) rfl rfl (any_of HT_.out (by kernel_rfl)) (fun _ _ _ h => h) (Or.inl ⟨by rfl, ?_⟩) ?_ ?_
           rotate_left
           ·intro w'; go_simp; with_reducible rfl
           rotate_left
           ·simp only [Act.put, List.setIfInBounds_toArray, List.set_cons_zero, List.set_cons_succ, i64_w, i32_w]; rfl
           refine pure_ (i := 39) (N := some 80) (v := ?_) (a' := ?_) (rFl 40 1099511627775) rfl rfl (any_of HT_.out (by kernel_rfl)) (fun _ _ _ h => h) (Or.inl ⟨by rfl, ?_⟩) ?_ ?_
           rotate_left
           ·intro w'; go_simp; with_reducible rfl
           rotate_left
           ·simp only [Act.put, List.setIfInBounds_toArray, List.set_cons_zero, List.set_cons_succ, i64_w, i32_w]; rfl
           cases b5
           ·rw [if_neg (of_decide_eq_false c32b0)] at H
            have H' := aM H
            clear H
            refine done_ (done_of HT_.out (by kernel_rfl)) ?_
            try go_wp2
            go_roundg k1
            case measure => have := HK1.out; omega
            case rel => exact ⟨(wrap64 (x8_1 + 1)), eT, H', ⟨by have := HK1.out; omega⟩, ⟨kB BK276.out⟩, ⟨kB BK278.out⟩, ⟨bB2 HB.out GE276.out GE278.out⟩⟩
           ·rw [if_pos (of_decide_eq_true c32b0)] at H
            obtain rfl := Option.some.inj H
            refine done_ (done_of HT_.out (by kernel_rfl)) ?_
            try go_wp2
            go_ret
            exact ⟨by first | rfl | (simp [errW_none, errW_some] <;> rfl) | (simp [*, errW_none, errW_some] <;> rfl), bB2 HB.out GE276.out GE278.out⟩
         ·rw [if_pos (of_decide_eq_true c24b0)] at H
          refine pure_ (i := 13) (N := some 54) (v := ?_) (a' := ?_) (rFl 40 16383) rfl rfl (any_of HT_.out (by kernel_rfl)) (fun _ _ _ h => h) (Or.inl ⟨by rfl, ?_⟩) ?_ ?_
          rotate_left
          ·intro w'; go_simp; with_reducible rfl
          rotate_left
          ·simp only [Act.put, List.setIfInBounds_toArray, List.set_cons_zero, List.set_cons_succ, i64_w, i32_w]; rfl
          refine pure_ (i := 14) (N := some 55) (v := ?_) (a' := ?_) (rFl 40 32767) rfl rfl (any_of HT_.out (by kernel_rfl)) (fun _ _ _ h => h) (Or.inl ⟨by rfl, ?_⟩) ?_ ?_
          rotate_left
          ·intro w'; go_simp; with_reducible rfl
          rotate_left
          ·simp only [Act.put, List.setIfInBounds_toArray, List.set_cons_zero, List.set_cons_succ, i64_w, i32_w]; rfl
          refine pure_ (i := 15) (N := some 56) (v := ?_) (a' := ?_) (rFl 40 65535) rfl rfl (any_of HT_.out (by kernel_rfl)) (fun _ _ _ h => h) (Or.inl ⟨by rfl, ?_⟩) ?_ ?_
          rotate_left
          ·intro w'; go_simp; with_reducible rfl
          rotate_left
          ·simp only [Act.put, List.setIfInBounds_toArray, List.set_cons_zero, List.set_cons_succ, i64_w, i32_w]; rfl
          refine pure_ (i := 17) (N := some 58) (v := ?_) (a' := ?_) (rFl 40 196607) rfl rfl (any_of HT_.out (by kernel_rfl)) (fun _ _ _ h => h) (Or.inl ⟨by rfl, ?_⟩) ?_ ?_
          rotate_left
          ·intro w'; go_simp; with_reducible rfl
          rotate_left
          ·simp only [Act.put, List.setIfInBounds_toArray, List.set_cons_zero, List.set_cons_succ, i64_w, i32_w]; rfl
          refine take_ (i := 16) (N := some 57) (v := ?_) (a' := ?_) (rFl 40 262143) rfl rfl (take_ofW HT_.out HW_.out (by kernel_rfl)) (fun _ _ _ h => h) (Or.inl ⟨by rfl, ?_⟩) hHeld ?_ ?_
          rotate_left
          ·rintro w' ⟨s0, s1, s2, s3, s4, s5, s6, s7, s8, s9, s10, s11, s12, s13, s14, s15⟩; go_simp; with_reducible rfl
          rotate_left
          ·simp only [Act.put, List.setIfInBounds_toArray, List.set_cons_zero, List.set_cons_succ, i64_w, i32_w]; rfl
          cases b3
          ·rw [if_neg (of_decide_eq_false c25b0)] at H
           refine pure_ (i := 18) (N := some 59) (v := ?_) (a' := ?_) (rFl 40 524287) rfl rfl (any_of HT_.out (by kernel_rfl)) (fun _ _ _ h => h) (Or.inl ⟨by rfl, ?_⟩) ?_ ?_
           rotate_left
           ·intro w'; go_simp; with_reducible rfl
           rotate_left
           ·simp only [Act.put, List.setIfInBounds_toArray, List.set_cons_zero, List.set_cons_succ, i64_w, i32_w]; rfl
           refine pure_ (i := 19) (N := some 60) (v := ?_) (a' := ?_) (rFl 40 1048575) rfl rfl (any_of HT_.out (by kernel_rfl)) (fun _ _ _ h => h) (Or.inl ⟨by rfl, ?_⟩) ?_ ?_
           rotate_left
           ·intro w'; go_simp; with_reducible rfl
           rotate_left
           ·simp only [Act.put, List.setIfInBounds_toArray, List.set_cons_zero, List.set_cons_succ, i64_w, i32_w]; rfl
           refine pure_ (i := 20) (N := some 61) (v := ?_) (a' := ?_) (rFl 40 2097151) rfl rfl (any_of HT_.out (by kernel_rfl)) (fun _ _ _ h => h) (Or.inl ⟨by rfl, ?_⟩) ?_ ?_
           rotate_left
           ·intro w'; go_simp; with_reducible rfl
           rotate_left
           ·simp only [Act.put, List.setIfInBounds_toArray, List.set_cons_zero, List.set_cons_succ, i64_w, i32_w]; rfl
           refine pure_ (i := 21) (N := some 62) (v := ?_) (a' := ?_) (rFl 40 4194303) rfl rfl (any_of HT_.out (by kernel_rfl)) (fun _ _ _ h => h) (Or.inl ⟨by rfl, ?_⟩) ?_ ?_
           rotate_left
           ·intro w'; go_simp; with_reducible rfl
           rotate_left
           ·simp only [Act.put, List.setIfInBounds_toArray, List.set_cons_zero, List.set_cons_succ, i64_w, i32_w]; rfl
           refine pure_ (i := 22) (N := some 63) (v := ?_) (a' := ?_) (rFl 40 8388607) rfl rfl (any_of HT_.out (by kernel_rfl)) (fun _ _ _ h => h) (Or.inl ⟨by rfl, ?_⟩) ?_ ?_
           rotate_left
           ·intro w'; go_simp; with_reducible rfl
           rotate_left
           ·simp only [Act.put, List.setIfInBounds_toArray, List.set_cons_zero, List.set_cons_succ, i64_w, i32_w]; rfl
           refine pure_ (i := 24) (N := some 65) (v := ?_) (a' := ?_) (rFl 40 25165823) rfl rfl (any_of HT_.out (by kernel_rfl)) (fun _ _ _ h => h) (Or.inl ⟨by rfl, ?_⟩) ?_ ?_
           rotate_left
           ·intro w'; go_simp; with_reducible rfl
           rotate_left
           ·simp only [Act.put, List.setIfInBounds_toArray, List.set_cons_zero, List.set_cons_succ, i64_w, i32_w]; rfl
           refine take_ (i := 23) (N := some 64) (v := ?_) (a' := ?_) (rFl 40 33554431) rfl rfl (take_ofW HT_.out HW_.out (by kernel_rfl)) (fun _ _ _ h => h) (Or.inl ⟨by rfl, ?_⟩) hHeld ?_ ?_
           rotate_left
           ·rintro w' ⟨s0, s1, s2, s3, s4, s5, s6, s7, s8, s9, s10, s11, s12, s13, s14, s15⟩; go_simp; with_reducible rfl
           rotate_left
           ·simp only [Act.put, List.setIfInBounds_toArray, List.set_cons_zero, List.set_cons_succ, i64_w, i32_w]; rfl
           refine pure_ (i := 25) (N := some 66) (v := ?_) (a' := ?_) (rFl 40 67108863) rfl rfl (any_of HT_.out (by kernel_rfl)) (fun _ _ _ h => h) (Or.inl ⟨by rfl, ?_⟩) ?_ ?_
           rotate_left
           ·intro w'; go_simp; with_reducible rfl
           rotate_left
           ·simp only [Act.put, List.setIfInBounds_toArray, List.set_cons_zero, List.set_cons_succ, i64_w, i32_w]; rfl
           refine pure_ (i := 26) (N := some 67) (v := ?_) (a' := ?_) (rFl 40 134217727) rfl rfl (any_of HT_.out (by kernel_rfl)) (fun _ _ _ h => h) (Or.inl ⟨by rfl, ?_⟩) ?_ ?_
           rotate_left
           ·intro w'; go_simp; with_reducible rfl
           rotate_left
           ·simp only [Act.put, List.setIfInBounds_toArray, List.set_cons_zero, List.set_cons_succ, i64_w, i32_w]; rfl
           refine take_ (i := 27) (N := some 68) (v := ?_) (a' := ?_) (rFl 40 268435455) rfl rfl (take_ofW HT_.out HW_.out (by kernel_rfl)) (fun _ _ _ h => h) (Or.inl ⟨by rfl, ?_⟩) hHeld ?_ ?_
           rotate_left
           ·rintro w' ⟨s0, s1, s2, s3, s4, s5, s6, s7, s8, s9, s10, s11, s12, s13, s14, s15⟩; go_simp; with_reducible rfl
           rotate_left
           ·simp only [Act.put, List.setIfInBounds_toArray, List.set_cons_zero, List.set_cons_succ, i64_w, i32_w]; rfl
           refine pure_ (i := 28) (N := some 69) (v := ?_) (a' := ?_) (rFl 40 536870911) rfl rfl (any_of HT_.out (by kernel_rfl)) (fun _ _ _ h => h) (Or.inl ⟨by rfl, ?_⟩) ?_ ?_
           rotate_left
           ·intro w'; go_simp; with_reducible rfl
           rotate_left
           ·simp only [Act.put, List.setIfInBounds_toArray, List.set_cons_zero, List.set_cons_succ, i64_w, i32_w]; rfl
           refine pure_ (i := 29) (N := some 70) (v := ?_) (a' := ?_) (rFl 40 1073741823) rfl rfl (any_of HT_.out (by kernel_rfl)) (fun _ _ _ h => h) (Or.inl ⟨by rfl, ?_⟩) ?_ ?_
           rotate_left
           ·intro w'; go_simp; with_reducible rfl
           rotate_left
           ·simp only [Act.put, List.setIfInBounds_toArray, List.set_cons_zero, List.set_cons_succ, i64_w, i32_w]; rfl
           cases b4
           ·rw [if_neg (of_decide_eq_false c31b0)] at H
            refine pure_ (i := 30) (N := some 71) (v := undef) (a' := ?_) (rFl 40 2147483647) rfl rfl (any_of HT_.out (by kernel_rfl)) (fun _ _ _ h => h) (Or.inr ⟨by rfl, rfl⟩) ?_ ?_
            rotate_left
            ·simp only [Act.put, List.setIfInBounds_toArray, List.set_cons_zero, List.set_cons_succ, i64_w, i32_w]; rfl
            refine pure_ (i := 31) (N := some 72) (v := undef) (a' := ?_) (rFl 40 4294967295) rfl rfl (any_of HT_.out (by kernel_rfl)) (fun _ _ _ h => h) (Or.inr ⟨by rfl, rfl⟩) ?_ ?_
            rotate_left
            ·simp only [Act.put, List.setIfInBounds_toArray, List.set_cons_zero, List.set_cons_succ, i64_w, i32_w]; rfl
            refine pure_ (i := 32) (N := some 73) (v := undef) (a' := ?_) (rFl 40 8589934591) rfl rfl (any_of HT_.out (by kernel_rfl)) (fun _ _ _ h => h) (Or.inr ⟨by rfl, rfl⟩) ?_ ?_
            rotate_left
            ·simp only [Act.put, List.setIfInBounds_toArray, List.set_cons_zero, List.set_cons_succ, i64_w, i32_w]; rfl
            refine pure_ (i := 33) (N := some 74) (v := undef) (a' := ?_) (rFl 40 17179869183) rfl rfl (any_of HT_.out (by kernel_rfl)) (fun _ _ _ h => h) (Or.inr ⟨by rfl, rfl⟩) ?_ ?_
            rotate_left
            ·simp only [Act.put, List.setIfInBounds_toArray, List.set_cons_zero, List.set_cons_succ, i64_w, i32_w]; rfl
            refine pure_ (i := 34) (N := some 75) (v := undef) (a' := ?_) (rFl 40 34359738367) rfl rfl (any_of HT_.out (by kernel_rfl)) (fun _ _ _ h => h) (Or.inr ⟨by rfl, rfl⟩) ?_ ?_
            rotate_left
            ·simp only [Act.put, List.setIfInBounds_toArray, List.set_cons_zero, List.set_cons_succ, i64_w, i32_w]; rfl
            refine pure_ (i := 35) (N := some 76) (v := undef) (a' := ?_) (rFl 40 68719476735) rfl rfl (any_of HT_.out (by kernel_rfl)) (fun _ _ _ h => h) (Or.inr ⟨by rfl, rfl⟩) ?_ ?_
            rotate_left
            ·simp only [Act.put, List.setIfInBounds_toArray, List.set_cons_zero, List.set_cons_succ, i64_w, i32_w]; rfl
            refine pure_ (i := 36) (N := some 77) (v := undef) (a' := ?_) (rFl 40 137438953471) rfl rfl (any_of HT_.out (by kernel_rfl)) (fun _ _ _ h => h) (Or.inr ⟨by rfl, rfl⟩) ?_ ?_
            rotate_left
            ·simp only [Act.put, List.setIfInBounds_toArray, List.set_cons_zero, List.set_cons_succ, i64_w, i32_w]; rfl
            refine pure_ (i := 37) (N := some 78) (v := undef) (a' := ?_) (rFl 40 274877906943) rfl rfl (any_of HT_.out (by kernel_rfl)) (fun _ _ _ h => h) (Or.inr ⟨by rfl, rfl⟩) ?_ ?_
            rotate_left
            ·simp only [Act.put, List.setIfInBounds_toArray, List.set_cons_zero, List.set_cons_succ, i64_w, i32_w]; rfl
            refine pure_ (i := 38) (N := some 79) (v := ?_) (a' := ?_) (rFl 40 549755813887) rfl rfl (any_of HT_.out (by kernel_rfl)) (fun _ _ _ h => h) (Or.inl ⟨by rfl, ?_⟩) ?_ ?_
            rotate_left
            ·intro w'; go_simp; with_reducible rfl
            rotate_left
            ·simp only [Act.put, List.setIfInBounds_toArray, List.set_cons_zero, List.set_cons_succ, i64_w, i32_w]; rfl
            refine pure_ (i := 39) (N := some 80) (v := ?_) (a' := ?_) (rFl 40 1099511627775) rfl rfl (any_of HT_.out (by kernel_rfl)) (fun _ _ _ h => h) (Or.inl ⟨by rfl, ?_⟩) ?_ ?_
            rotate_left
            ·intro w'; go_simp; with_reducible rfl
            rotate_left
            ·simp only [Act.put, List.setIfInBounds_toArray, List.set_cons_zero, List.set_cons_succ, i64_w, i32_w]; rfl
            have H' := aM H
            clear H
            refine done_ (done_of HT_.out (by kernel_rfl)) ?_
            try go_wp2
            go_roundg k1
            case measure => have := HK1.out; omega
            case rel => exact ⟨(wrap64 (x8_1 + 1)), eT, H', ⟨by have := HK1.out; omega⟩, ⟨kB BK276.out⟩, ⟨kB BK278.out⟩, ⟨bB2 HB.out GE276.out GE278.out⟩⟩
           ·rw [if_pos (of_decide_eq_true c31b0)] at H
            refine pure_ (i := 30) (N := some 71) (v := ?_) (a' := ?_) (rFl 40 2147483647) rfl rfl (any_of HT_.out (by kernel_rfl)) (fun _ _ _ h => h) (Or.inl ⟨by rfl, ?_⟩) ?_ ?_
            rotate_left
            ·intro w'; go_simp; with_reducible rfl
            rotate_left
            ·simp only [Act.put, List.setIfInBounds_toArray, List.set_cons_zero, List.set_cons_succ, i64_w, i32_w]; rfl
            refine pure_ (i := 31) (N := some 72) (v := ?_) (a' := ?_) (rFl 40 4294967295) rfl rfl (any_of HT_.out (by kernel_rfl)) (fun _ _ _ h => h) (Or.inl ⟨by rfl, ?_⟩) ?_ ?_
            rotate_left
            ·intro w'; go_simp; with_reducible rfl
            rotate_left
            ·simp only [Act.put, List.setIfInBounds_toArray, List.set_cons_zero, List.set_cons_succ, i64_w, i32_w]; rfl
            refine pure_ (i := 33) (N := some 74) (v := ?_) (a' := ?_) (rFl 40 12884901887) rfl rfl (any_of HT_.out (by kernel_rfl)) (fun _ _ _ h => h) (Or.inl ⟨by rfl, ?_⟩) ?_ ?_
            rotate_left
            ·intro w'; go_simp; with_reducible rfl
            rotate_left
            ·simp only [Act.put, List.setIfInBounds_toArray, List.set_cons_zero, List.set_cons_succ, i64_w, i32_w]; rfl
            refine take_ (i := 32) (N := some 73) (v := ?_) (a' := ?_) (rFl 40 17179869183) rfl rfl (take_ofW HT_.out HW_.out (by kernel_rfl)) (fun _ _ _ h => h) (Or.inl ⟨by rfl, ?_⟩) hHeld ?_ ?_
            rotate_left
            ·rintro w' ⟨s0, s1, s2, s3, s4, s5, s6, s7, s8, s9, s10, s11, s12, s13, s14, s15⟩; go_simp; with_reducible rfl
            rotate_left
            ·simp only [Act.put, List.setIfInBounds_toArray, List.set_cons_zero, List.set_cons_succ, i64_w, i32_w]; rfl
            refine pure_ (i := 34) (N := some 75) (v := ?_) (a' := ?_) (rFl 40 34359738367) rfl rfl (any_of HT_.out (by kernel_rfl)) (fun _ _ _ h => h) (Or.inl ⟨by rfl, ?_⟩) ?_ ?_
            rotate_left
            ·intro w'; go_simp; with_reducible rfl
            rotate_left
            ·simp only [Act.put, List.setIfInBounds_toArray, List.set_cons_zero, List.set_cons_succ, i64_w, i32_w]; rfl
            refine pure_ (i := 35) (N := some 76) (v := ?_) (a' := ?_) (rFl 40 68719476735) rfl rfl (any_of HT_.out (by kernel_rfl)) (fun _ _ _ h => h) (Or.inl ⟨by rfl, ?_⟩) ?_ ?_
            rotate_left
            ·intro w'; go_simp; with_reducible rfl
            rotate_left
            ·simp only [Act.put, List.setIfInBounds_toArray, List.set_cons_zero, List.set_cons_succ, i64_w, i32_w]; rfl
            refine take_ (i := 36) (N := some 77) (v := ?_) (a' := ?_) (rFl 40 137438953471) rfl rfl (take_ofW HT_.out HW_.out (by kernel_rfl)) (fun _ _ _ h => h) (Or.inl ⟨by rfl, ?_⟩) hHeld ?_ ?_
            rotate_left
            ·rintro w' ⟨s0, s1, s2, s3, s4, s5, s6, s7, s8, s9, s10, s11, s12, s13, s14, s15⟩; go_simp; with_reducible rfl
            rotate_left
            ·simp only [Act.put, List.setIfInBounds_toArray, List.set_cons_zero, List.set_cons_succ, i64_w, i32_w]; rfl
            refine pure_ (i := 37) (N := some 78) (v := ?_) (a' := ?_) (rFl 40 274877906943) rfl rfl (any_of HT_.out (by kernel_rfl)) (fun _ _ _ h => h) (Or.inl ⟨by rfl, ?_⟩) ?_ ?_
            rotate_left
            ·intro w'; go_simp; with_reducible rfl
            rotate_left
            ·simp only [Act.put, List.setIfInBounds_toArray, List.set_cons_zero, List.set_cons_succ, i64_w, i32_w]; rfl
            refine pure_ (i := 38) (N := some 79) (v := ?_) (a' := ?_) (rFl 40 549755813887) rfl rfl (any_of HT_.out (by kernel_rfl)) (fun _ _ _ h => h) (Or.inl ⟨by rfl, ?_⟩) ?_ ?_
            rotate_left
            ·intro w'; go_simp; with_reducible rfl
            rotate_left
            ·simp only [Act.put, List.setIfInBounds_toArray, List.set_cons_zero, List.set_cons_succ, i64_w, i32_w]; rfl
            refine pure_ (i := 39) (N := some 80) (v := ?_) (a' := ?_) (rFl 40 1099511627775) rfl rfl (any_of HT_.out (by kernel_rfl)) (fun _ _ _ h => h) (Or.inl ⟨by rfl, ?_⟩) ?_ ?_
            rotate_left
            ·intro w'; go_simp; with_reducible rfl
            rotate_left
            ·simp only [Act.put, List.setIfInBounds_toArray, List.set_cons_zero, List.set_cons_succ, i64_w, i32_w]; rfl
            cases b5
            ·rw [if_neg (of_decide_eq_false c32b0)] at H
             have H' := aM H
             clear H
             refine done_ (done_of HT_.out (by kernel_rfl)) ?_
             try go_wp2
             go_roundg k1
             case measure => have := HK1.out; omega
             case rel => exact ⟨(wrap64 (x8_1 + 1)), eT, H', ⟨by have := HK1.out; omega⟩, ⟨kB BK276.out⟩, ⟨kB BK278.out⟩, ⟨bB2 HB.out GE276.out GE278.out⟩⟩
            ·rw [if_pos (of_decide_eq_true c32b0)] at H
             obtain rfl := Option.some.inj H
             refine done_ (done_of HT_.out (by kernel_rfl)) ?_
             try go_wp2
             go_ret
             exact ⟨by first | rfl | (simp [errW_none, errW_some] <;> rfl) | (simp [*, errW_none, errW_some] <;> rfl), bB2 HB.out GE276.out GE278.out⟩
          ·rw [if_pos (of_decide_eq_true c25b0)] at H
           obtain rfl := Option.some.inj H
           refine pure_ (i := 18) (N := some 59) (v := ?_) (a' := ?_) (rFl 40 524287) rfl rfl (any_of HT_.out (by kernel_rfl)) (fun _ _ _ h => h) (Or.inl ⟨by rfl, ?_⟩) ?_ ?_
           rotate_left
           ·intro w'; go_simp; with_reducible rfl
           rotate_left
           ·simp only [Act.put, List.setIfInBounds_toArray, List.set_cons_zero, List.set_cons_succ, i64_w, i32_w]; rfl
           refine pure_ (i := 19) (N := some 60) (v := ?_) (a' := ?_) (rFl 40 1048575) rfl rfl (any_of HT_.out (by kernel_rfl)) (fun _ _ _ h => h) (Or.inl ⟨by rfl, ?_⟩) ?_ ?_
           rotate_left
           ·intro w'; go_simp; with_reducible rfl
           rotate_left
           ·simp only [Act.put, List.setIfInBounds_toArray, List.set_cons_zero, List.set_cons_succ, i64_w, i32_w]; rfl
           refine pure_ (i := 20) (N := some 61) (v := ?_) (a' := ?_) (rFl 40 2097151) rfl rfl (any_of HT_.out (by kernel_rfl)) (fun _ _ _ h => h) (Or.inl ⟨by rfl, ?_⟩) ?_ ?_
           rotate_left
           ·intro w'; go_simp; with_reducible rfl
           rotate_left
           ·simp only [Act.put, List.setIfInBounds_toArray, List.set_cons_zero, List.set_cons_succ, i64_w, i32_w]; rfl
           refine pure_ (i := 21) (N := some 62) (v := ?_) (a' := ?_) (rFl 40 4194303) rfl rfl (any_of HT_.out (by kernel_rfl)) (fun _ _ _ h => h) (Or.inl ⟨by rfl, ?_⟩) ?_ ?_
           rotate_left
           ·intro w'; go_simp; with_reducible rfl
           rotate_left
           ·simp only [Act.put, List.setIfInBounds_toArray, List.set_cons_zero, List.set_cons_succ, i64_w, i32_w]; rfl
           refine pure_ (i := 22) (N := some 63) (v := undef) (a' := ?_) (rFl 40 8388607) rfl rfl (any_of HT_.out (by kernel_rfl)) (fun _ _ _ h => h) (Or.inr ⟨by rfl, rfl⟩) ?_ ?_
           rotate_left
           ·simp only [Act.put, List.setIfInBounds_toArray, List.set_cons_zero, List.set_cons_succ, i64_w, i32_w]; rfl
           refine pure_ (i := 23) (N := some 64) (v := undef) (a' := ?_) (rFl 40 16777215) rfl rfl (any_of HT_.out (by kernel_rfl)) (fun _ _ _ h => h) (Or.inr ⟨by rfl, rfl⟩) ?_ ?_
           rotate_left
           ·simp only [Act.put, List.setIfInBounds_toArray, List.set_cons_zero, List.set_cons_succ, i64_w, i32_w]; rfl
           refine pure_ (i := 24) (N := some 65) (v := undef) (a' := ?_) (rFl 40 33554431) rfl rfl (any_of HT_.out (by kernel_rfl)) (fun _ _ _ h => h) (Or.inr ⟨by rfl, rfl⟩) ?_ ?_
           rotate_left
           ·simp only [Act.put, List.setIfInBounds_toArray, List.set_cons_zero, List.set_cons_succ, i64_w, i32_w]; rfl
           refine pure_ (i := 25) (N := some 66) (v := undef) (a' := ?_) (rFl 40 67108863) rfl rfl (any_of HT_.out (by kernel_rfl)) (fun _ _ _ h => h) (Or.inr ⟨by rfl, rfl⟩) ?_ ?_
           rotate_left
           ·simp only [Act.put, List.setIfInBounds_toArray, List.set_cons_zero, List.set_cons_succ, i64_w, i32_w]; rfl
           refine pure_ (i := 26) (N := some 67) (v := undef) (a' := ?_) (rFl 40 134217727) rfl rfl (any_of HT_.out (by kernel_rfl)) (fun _ _ _ h => h) (Or.inr ⟨by rfl, rfl⟩) ?_ ?_
           rotate_left
           ·simp only [Act.put, List.setIfInBounds_toArray, List.set_cons_zero, List.set_cons_succ, i64_w, i32_w]; rfl
           refine pure_ (i := 27) (N := some 68) (v := undef) (a' := ?_) (rFl 40 268435455) rfl rfl (any_of HT_.out (by kernel_rfl)) (fun _ _ _ h => h) (Or.inr ⟨by rfl, rfl⟩) ?_ ?_
           rotate_left
           ·simp only [Act.put, List.setIfInBounds_toArray, List.set_cons_zero, List.set_cons_succ, i64_w, i32_w]; rfl
           refine pure_ (i := 28) (N := some 69) (v := undef) (a' := ?_) (rFl 40 536870911) rfl rfl (any_of HT_.out (by kernel_rfl)) (fun _ _ _ h => h) (Or.inr ⟨by rfl, rfl⟩) ?_ ?_
           rotate_left
           ·simp only [Act.put, List.setIfInBounds_toArray, List.set_cons_zero, List.set_cons_succ, i64_w, i32_w]; rfl
           refine pure_ (i := 29) (N := some 70) (v := undef) (a' := ?_) (rFl 40 1073741823) rfl rfl (any_of HT_.out (by kernel_rfl)) (fun _ _ _ h => h) (Or.inr ⟨by rfl, rfl⟩) ?_ ?_
           rotate_left
           ·simp only [Act.put, List.setIfInBounds_toArray, List.set_cons_zero, List.set_cons_succ, i64_w, i32_w]; rfl
           refine pure_ (i := 30) (N := some 71) (v := undef) (a' := ?_) (rFl 40 2147483647) rfl rfl (any_of HT_.out (by kernel_rfl)) (fun _ _ _ h => h) (Or.inr ⟨by rfl, rfl⟩) ?_ ?_
           rotate_left
           ·simp only [Act.put, List.setIfInBounds_toArray, List.set_cons_zero, List.set_cons_succ, i64_w, i32_w]; rfl
           refine pure_ (i := 31) (N := some 72) (v := undef) (a' := ?_) (rFl 40 4294967295) rfl rfl (any_of HT_.out (by kernel_rfl)) (fun _ _ _ h => h) (Or.inr ⟨by rfl, rfl⟩) ?_ ?_
           rotate_left
           ·simp only [Act.put, List.setIfInBounds_toArray, List.set_cons_zero, List.set_cons_succ, i64_w, i32_w]; rfl
           refine pure_ (i := 32) (N := some 73) (v := undef) (a' := ?_) (rFl 40 8589934591) rfl rfl (any_of HT_.out (by kernel_rfl)) (fun _ _ _ h => h) (Or.inr ⟨by rfl, rfl⟩) ?_ ?_
           rotate_left
           ·simp only [Act.put, List.setIfInBounds_toArray, List.set_cons_zero, List.set_cons_succ, i64_w, i32_w]; rfl
           refine pure_ (i := 33) (N := some 74) (v := undef) (a' := ?_) (rFl 40 17179869183) rfl rfl (any_of HT_.out (by kernel_rfl)) (fun _ _ _ h => h) (Or.inr ⟨by rfl, rfl⟩) ?_ ?_
           rotate_left
           ·simp only [Act.put, List.setIfInBounds_toArray, List.set_cons_zero, List.set_cons_succ, i64_w, i32_w]; rfl
           refine pure_ (i := 34) (N := some 75) (v := undef) (a' := ?_) (rFl 40 34359738367) rfl rfl (any_of HT_.out (by kernel_rfl)) (fun _ _ _ h => h) (Or.inr ⟨by rfl, rfl⟩) ?_ ?_
           rotate_left
           ·simp only [Act.put, List.setIfInBounds_toArray, List.set_cons_zero, List.set_cons_succ, i64_w, i32_w]; rfl
           refine pure_ (i := 35) (N := some 76) (v := undef) (a' := ?_) (rFl 40 68719476735) rfl rfl (any_of HT_.out (by kernel_rfl)) (fun _ _ _ h => h) (Or.inr ⟨by rfl, rfl⟩) ?_ ?_
           rotate_left
           ·simp only [Act.put, List.setIfInBounds_toArray, List.set_cons_zero, List.set_cons_succ, i64_w, i32_w]; rfl
           refine pure_ (i := 36) (N := some 77) (v := undef) (a' := ?_) (rFl 40 137438953471) rfl rfl (any_of HT_.out (by kernel_rfl)) (fun _ _ _ h => h) (Or.inr ⟨by rfl, rfl⟩) ?_ ?_
           rotate_left
           ·simp only [Act.put, List.setIfInBounds_toArray, List.set_cons_zero, List.set_cons_succ, i64_w, i32_w]; rfl
           refine pure_ (i := 37) (N := some 78) (v := undef) (a' := ?_) (rFl 40 274877906943) rfl rfl (any_of HT_.out (by kernel_rfl)) (fun _ _ _ h => h) (Or.inr ⟨by rfl, rfl⟩) ?_ ?_
           rotate_left
           ·simp only [Act.put, List.setIfInBounds_toArray, List.set_cons_zero, List.set_cons_succ, i64_w, i32_w]; rfl
           refine pure_ (i := 38) (N := some 79) (v := undef) (a' := ?_) (rFl 40 549755813887) rfl rfl (any_of HT_.out (by kernel_rfl)) (fun _ _ _ h => h) (Or.inr ⟨by rfl, rfl⟩) ?_ ?_
           rotate_left
           ·simp only [Act.put, List.setIfInBounds_toArray, List.set_cons_zero, List.set_cons_succ, i64_w, i32_w]; rfl
           refine pure_ (i := 39) (N := some 80) (v := ?_) (a' := ?_) (rFl 40 1099511627775) rfl rfl (any_of HT_.out (by kernel_rfl)) (fun _ _ _ h => h) (Or.inl ⟨by rfl, ?_⟩) ?_ ?_
           rotate_left
           ·intro w'; go_simp; with_reducible rfl
           rotate_left
           ·simp only [Act.put, List.setIfInBounds_toArray, List.set_cons_zero, List.set_cons_succ, i64_w, i32_w]; rfl
           refine done_ (done_of HT_.out (by kernel_rfl)) ?_
           try go_wp2
           go_ret
           exact ⟨by first | rfl | (simp [errW_none, errW_some] <;> rfl) | (simp [*, errW_none, errW_some] <;> rfl), bB2 HB.out GE276.out GE278.out⟩
        ·rw [if_pos (of_decide_eq_true c18b0)] at H
         obtain rfl := Option.some.inj H
         refine pure_ (i := 10) (N := some 51) (v := undef) (a' := ?_) (rFl 40 2047) rfl rfl (any_of HT_.out (by kernel_rfl)) (fun _ _ _ h => h) (Or.inr ⟨by rfl, rfl⟩) ?_ ?_
         rotate_left
         ·simp only [Act.put, List.setIfInBounds_toArray, List.set_cons_zero, List.set_cons_succ, i64_w, i32_w]; rfl
         refine pure_ (i := 11) (N := some 52) (v := undef) (a' := ?_) (rFl 40 4095) rfl rfl (any_of HT_.out (by kernel_rfl)) (fun _ _ _ h => h) (Or.inr ⟨by rfl, rfl⟩) ?_ ?_
         rotate_left
         ·simp only [Act.put, List.setIfInBounds_toArray, List.set_cons_zero, List.set_cons_succ, i64_w, i32_w]; rfl
         refine pure_ (i := 12) (N := some 53) (v := undef) (a' := ?_) (rFl 40 8191) rfl rfl (any_of HT_.out (by kernel_rfl)) (fun _ _ _ h => h) (Or.inr ⟨by rfl, rfl⟩) ?_ ?_
         rotate_left
         ·simp only [Act.put, List.setIfInBounds_toArray, List.set_cons_zero, List.set_cons_succ, i64_w, i32_w]; rfl
         refine pure_ (i := 13) (N := some 54) (v := undef) (a' := ?_) (rFl 40 16383) rfl rfl (any_of HT_.out (by kernel_rfl)) (fun _ _ _ h => h) (Or.inr ⟨by rfl, rfl⟩) ?_ ?_
         rotate_left
         ·simp only [Act.put, List.setIfInBounds_toArray, List.set_cons_zero, List.set_cons_succ, i64_w, i32_w]; rfl
         refine pure_ (i := 14) (N := some 55) (v := undef) (a' := ?_) (rFl 40 32767) rfl rfl (any_of HT_.out (by kernel_rfl)) (fun _ _ _ h => h) (Or.inr ⟨by rfl, rfl⟩) ?_ ?_
         rotate_left
         ·simp only [Act.put, List.setIfInBounds_toArray, List.set_cons_zero, List.set_cons_succ, i64_w, i32_w]; rfl
         refine pure_ (i := 15) (N := some 56) (v := undef) (a' := ?_) (rFl 40 65535) rfl rfl (any_of HT_.out (by kernel_rfl)) (fun _ _ _ h => h) (Or.inr ⟨by rfl, rfl⟩) ?_ ?_
         rotate_left
         ·simp only [Act.put, List.setIfInBounds_toArray, List.set_cons_zero, List.set_cons_succ, i64_w, i32_w]; rfl
         refine pure_ (i := 16) (N := some 57) (v := undef) (a' := ?_) (rFl 40 131071) rfl rfl (any_of HT_.out (by kernel_rfl)) (fun _ _ _ h => h) (Or.inr ⟨by rfl, rfl⟩) ?_ ?_
         rotate_left
         ·simp only [Act.put, List.setIfInBounds_toArray, List.set_cons_zero, List.set_cons_succ, i64_w, i32_w]; rfl
         refine pure_ (i := 17) (N := some 58) (v := undef) (a' := ?_) (rFl 40 262143) rfl rfl (any_of HT_.out (by kernel_rfl)) (fun _ _ _ h => h) (Or.inr ⟨by rfl, rfl⟩) ?_ ?_
         rotate_left
         ·simp only [Act.put, List.setIfInBounds_toArray, List.set_cons_zero, List.set_cons_succ, i64_w, i32_w]; rfl
         refine pure_ (i := 18) (N := some 59) (v := undef) (a' := ?_) (rFl 40 524287) rfl rfl (any_of HT_.out (by kernel_rfl)) (fun _ _ _ h => h) (Or.inr ⟨by rfl, rfl⟩) ?_ ?_
         rotate_left
         ·simp only [Act.put, List.setIfInBounds_toArray, List.set_cons_zero, List.set_cons_succ, i64_w, i32_w]; rfl
         refine pure_ (i := 19) (N := some 60) (v := undef) (a' := ?_) (rFl 40 1048575) rfl rfl (any_of HT_.out (by kernel_rfl)) (fun _ _ _ h => h) (Or.inr ⟨by rfl, rfl⟩) ?_ ?_
         rotate_left
         ·simp only [Act.put, List.setIfInBounds_toArray, List.set_cons_zero, List.set_cons_succ, i64_w, i32_w]; rfl
         refine pure_ (i := 20) (N := some 61) (v := ?_) (a' := ?_) (rFl 40 2097151) rfl rfl (any_of HT_.out (by kernel_rfl)) (fun _ _ _ h => h) (Or.inl ⟨by rfl, ?_⟩) ?_ ?_
         rotate_left
         ·intro w'; go_simp; with_reducible rfl
         rotate_left
         ·simp only [Act.put, List.setIfInBounds_toArray, List.set_cons_zero, List.set_cons_succ, i64_w, i32_w]; rfl
         refine pure_ (i := 21) (N := some 62) (v := ?_) (a' := ?_) (rFl 40 4194303) rfl rfl (any_of HT_.out (by kernel_rfl)) (fun _ _ _ h => h) (Or.inl ⟨by rfl, ?_⟩) ?_ ?_
         rotate_left
         ·intro w'; go_simp; with_reducible rfl
         rotate_left
         ·simp only [Act.put, List.setIfInBounds_toArray, List.set_cons_zero, List.set_cons_succ, i64_w, i32_w]; rfl
         refine pure_ (i := 22) (N := some 63) (v := undef) (a' := ?_) (rFl 40 8388607) rfl rfl (any_of HT_.out (by kernel_rfl)) (fun _ _ _ h => h) (Or.inr ⟨by rfl, rfl⟩) ?_ ?_
         rotate_left
         ·simp only [Act.put, List.setIfInBounds_toArray, List.set_cons_zero, List.set_cons_succ, i64_w, i32_w]; rfl
         refine pure_ (i := 23) (N := some 64) (v := undef) (a' := ?_) (rFl 40 16777215) rfl rfl (any_of HT_.out (by kernel_rfl)) (fun _ _ _ h => h) (Or.inr ⟨by rfl, rfl⟩) ?_ ?_
         rotate_left
         ·simp only [Act.put, List.setIfInBounds_toArray, List.set_cons_zero, List.set_cons_succ, i64_w, i32_w]; rfl
         refine pure_ (i := 24) (N := some 65) (v := undef) (a' := ?_) (rFl 40 33554431) rfl rfl (any_of HT_.out (by kernel_rfl)) (fun _ _ _ h => h) (Or.inr ⟨by rfl, rfl⟩) ?_ ?_
         rotate_left
         ·simp only [Act.put, List.setIfInBounds_toArray, List.set_cons_zero, List.set_cons_succ, i64_w, i32_w]; rfl
         refine pure_ (i := 25) (N := some 66) (v := undef) (a' := ?_) (rFl 40 67108863) rfl rfl (any_of HT_.out (by kernel_rfl)) (fun _ _ _ h => h) (Or.inr ⟨by rfl, rfl⟩) ?_ ?_
         rotate_left
         ·simp only [Act.put, List.setIfInBounds_toArray, List.set_cons_zero, List.set_cons_succ, i64_w, i32_w]; rfl
         refine pure_ (i := 26) (N := some 67) (v := undef) (a' := ?_) (rFl 40 134217727) rfl rfl (any_of HT_.out (by kernel_rfl)) (fun _ _ _ h => h) (Or.inr ⟨by rfl, rfl⟩) ?_ ?_
         rotate_left
         ·simp only [Act.put, List.setIfInBounds_toArray, List.set_cons_zero, List.set_cons_succ, i64_w, i32_w]; rfl
         refine pure_ (i := 27) (N := some 68) (v := undef) (a' := ?_) (rFl 40 268435455) rfl rfl (any_of HT_.out (by kernel_rfl)) (fun _ _ _ h => h) (Or.inr ⟨by rfl, rfl⟩) ?_ ?_
         rotate_left
         ·simp only [Act.put, List.setIfInBounds_toArray, List.set_cons_zero, List.set_cons_succ, i64_w, i32_w]; rfl
         refine pure_ (i := 28) (N := some 69) (v := undef) (a' := ?_) (rFl 40 536870911) rfl rfl (any_of HT_.out (by kernel_rfl)) (fun _ _ _ h => h) (Or.inr ⟨by rfl, rfl⟩) ?_ ?_
         rotate_left
         ·simp only [Act.put, List.setIfInBounds_toArray, List.set_cons_zero, List.set_cons_succ, i64_w, i32_w]; rfl
         refine pure_ (i := 29) (N := some 70) (v := undef) (a' := ?_) (rFl 40 1073741823) rfl rfl (any_of HT_.out (by kernel_rfl)) (fun _ _ _ h => h) (Or.inr ⟨by rfl, rfl⟩) ?_ ?_
         rotate_left
         ·simp only [Act.put, List.setIfInBounds_toArray, List.set_cons_zero, List.set_cons_succ, i64_w, i32_w]; rfl
         refine pure_ (i := 30) (N := some 71) (v := undef) (a' := ?_) (rFl 40 2147483647) rfl rfl (any_of HT_.out (by kernel_rfl)) (fun _ _ _ h => h) (Or.inr ⟨by rfl, rfl⟩) ?_ ?_
         rotate_left
         ·simp only [Act.put, List.setIfInBounds_toArray, List.set_cons_zero, List.set_cons_succ, i64_w, i32_w]; rfl
         refine pure_ (i := 31) (N := some 72) (v := undef) (a' := ?_) (rFl 40 4294967295) rfl rfl (any_of HT_.out (by kernel_rfl)) (fun _ _ _ h => h) (Or.inr ⟨by rfl, rfl⟩) ?_ ?_
         rotate_left
         ·simp only [Act.put, List.setIfInBounds_toArray, List.set_cons_zero, List.set_cons_succ, i64_w, i32_w]; rfl
         refine pure_ (i := 32) (N := some 73) (v := undef) (a' := ?_) (rFl 40 8589934591) rfl rfl (any_of HT_.out (by kernel_rfl)) (fun _ _ _ h => h) (Or.inr ⟨by rfl, rfl⟩) ?_ ?_
         rotate_left
         ·simp only [Act.put, List.setIfInBounds_toArray, List.set_cons_zero, List.set_cons_succ, i64_w, i32_w]; rfl
         refine pure_ (i := 33) (N := some 74) (v := undef) (a' := ?_) (rFl 40 17179869183) rfl rfl (any_of HT_.out (by kernel_rfl)) (fun _ _ _ h => h) (Or.inr ⟨by rfl, rfl⟩) ?_ ?_
         rotate_left
         ·simp only [Act.put, List.setIfInBounds_toArray, List.set_cons_zero, List.set_cons_succ, i64_w, i32_w]; rfl
         refine pure_ (i := 34) (N := some 75) (v := undef) (a' := ?_) (rFl 40 34359738367) rfl rfl (any_of HT_.out (by kernel_rfl)) (fun _ _ _ h => h) (Or.inr ⟨by rfl, rfl⟩) ?_ ?_
         rotate_left
         ·simp only [Act.put, List.setIfInBounds_toArray, List.set_cons_zero, List.set_cons_succ, i64_w, i32_w]; rfl
         refine pure_ (i := 35) (N := some 76) (v := undef) (a' := ?_) (rFl 40 68719476735) rfl rfl (any_of HT_.out (by kernel_rfl)) (fun _ _ _ h => h) (Or.inr ⟨by rfl, rfl⟩) ?_ ?_
         rotate_left
         ·simp only [Act.put, List.setIfInBounds_toArray, List.set_cons_zero, List.set_cons_succ, i64_w, i32_w]; rfl
         refine pure_ (i := 36) (N := some 77) (v := undef) (a' := ?_) (rFl 40 137438953471) rfl rfl (any_of HT_.out (by kernel_rfl)) (fun _ _ _ h => h) (Or.inr ⟨by rfl, rfl⟩) ?_ ?_
         rotate_left
         ·simp only [Act.put, List.setIfInBounds_toArray, List.set_cons_zero, List.set_cons_succ, i64_w, i32_w]; rfl
         refine pure_ (i := 37) (N := some 78) (v := undef) (a' := ?_) (rFl 40 274877906943) rfl rfl (any_of HT_.out (by kernel_rfl)) (fun _ _ _ h => h) (Or.inr ⟨by rfl, rfl⟩) ?_ ?_
         rotate_left
         ·simp only [Act.put, List.setIfInBounds_toArray, List.set_cons_zero, List.set_cons_succ, i64_w, i32_w]; rfl
         refine pure_ (i := 38) (N := some 79) (v := undef) (a' := ?_) (rFl 40 549755813887) rfl rfl (any_of HT_.out (by kernel_rfl)) (fun _ _ _ h => h) (Or.inr ⟨by rfl, rfl⟩) ?_ ?_
         rotate_left
         ·simp only [Act.put, List.setIfInBounds_toArray, List.set_cons_zero, List.set_cons_succ, i64_w, i32_w]; rfl
         refine pure_ (i := 39) (N := some 80) (v := ?_) (a' := ?_) (rFl 40 1099511627775) rfl rfl (any_of HT_.out (by kernel_rfl)) (fun _ _ _ h => h) (Or.inl ⟨by rfl, ?_⟩) ?_ ?_
         rotate_left
         ·intro w'; go_simp; with_reducible rfl
         rotate_left
         ·simp only [Act.put, List.setIfInBounds_toArray, List.set_cons_zero, List.set_cons_succ, i64_w, i32_w]; rfl
         refine done_ (done_of HT_.out (by kernel_rfl)) ?_
         try go_wp2
         go_ret
         exact ⟨by first | rfl | (simp [errW_none, errW_some] <;> rfl) | (simp [*, errW_none, errW_some] <;> rfl), bB2 HB.out GE276.out GE278.out⟩
       ·rw [if_neg c14] at H
        exact absurd H (by simp)
      ·rw [if_neg c13] at H
       exact absurd H (by simp)
     ·rw [if_neg c11] at H
      have c11b0 : decide (x8_1 < (l0_1.length : Int)) = false := decide_eq_false c11
      clear c11
      obtain rfl := Option.some.inj H
      have hnb65 := NB276_278.out
      have hnc65 := NB278_276.out
      have hcz66_0 : wr.cell? ⟨gb276, 0, none⟩ = some (.string a0_0) := (blk_cell BK276.out 0).trans rfl
      have hcz66_1 : wr.cell? ⟨gb276, 1, none⟩ = some (.slice A0_1 l0_1.length c0_1) := (blk_cell BK276.out 1).trans rfl
      have hcz66_2 : wr.cell? ⟨gb276, 2, none⟩ = some (.slice (some ad277) l0_2.length c0_2) := (blk_cell BK276.out 2).trans rfl
      have hfz66_0 := blk_frozen BK276.out 0
      have hfz66_1 := blk_frozen BK276.out 1
      have hfz66_2 := blk_frozen BK276.out 2
      go_wp2
      go_ret
      exact ⟨by first | rfl | (simp [errW_none, errW_some] <;> rfl) | (simp [*, errW_none, errW_some] <;> rfl), bB2 HB.out GE276.out GE278.out⟩
  ·rw [if_neg c5] at H
   exact absurd H (by simp)
 ·rw [if_neg c4] at H
  exact absurd H (by simp)




end



/-! ### r11_Fires: function 38 -/
mutual
def r11_Fires.l0 : Nat → List Int → List Int → Int → Int → ByteArray → List (S59) → List (S41) → Option (List Int)
 | 0, _, _, _, _, _, _, _ => none
 | k + 1, x1, x5, x6, x7, x510000, x510001, x510002 => if x7 < (x510002.length : Int) then ((r11_Ready.f k x510000 x510001 x510002 x1 x7).bind fun t510 => (if t510 = true then (if x5.length < 17592186044416 then (if 0 ≤ x7 then (r11_Fires.l0 k x1 (x5 ++ [x7]) (mx x6 ((rd_T41 x510002 x7).f4)) (wrap64 (x7 + 1)) x510000 x510001 x510002) else (none)) else (none)) else (r11_Fires.l0 k x1 x5 x6 (wrap64 (x7 + 1)) x510000 x510001 x510002))) else (r11_Fires.l1 k x5 x6 ([] : List Int) 0 x510000 x510001 x510002)
def r11_Fires.l1 : Nat → List Int → Int → List Int → Int → ByteArray → List (S59) → List (S41) → Option (List Int)
 | 0, _, _, _, _, _, _, _ => none
 | k + 1, x5, x6, x8, x9, x510000, x510001, x510002 => if x9 < (x5.length : Int) then (if 0 ≤ x9 then (if 0 ≤ (rd x5 x9) then (if (rd x5 x9) < (x510002.length : Int) then (if ((rd_T41 x510002 (rd x5 x9)).f4) = x6 then (if x8.length < 17592186044416 then (r11_Fires.l1 k x5 x6 (x8 ++ [rd x5 x9]) (wrap64 (x9 + 1)) x510000 x510001 x510002) else (none)) else (r11_Fires.l1 k x5 x6 x8 (wrap64 (x9 + 1)) x510000 x510001 x510002)) else (none)) else (none)) else (none)) else (some x8)
end
def r11_Fires.f (k : Nat) (a0_0 : ByteArray) (l0_1 : List (S59)) (l0_2 : List (S41)) (l1 : List Int) : Option (List Int) := r11_Fires.l0 k l1 ([] : List Int) 0 0 a0_0 l0_1 l0_2
theorem r11_Fires.mono_l : ∀ k, (∀ y0 y1 y2 y3 y4 y5 y6, LeO (r11_Fires.l0 k y0 y1 y2 y3 y4 y5 y6) (r11_Fires.l0 (k + 1) y0 y1 y2 y3 y4 y5 y6)) ∧ (∀ y0 y1 y2 y3 y4 y5 y6, LeO (r11_Fires.l1 k y0 y1 y2 y3 y4 y5 y6) (r11_Fires.l1 (k + 1) y0 y1 y2 y3 y4 y5 y6))
 | 0 => ⟨fun _ _ _ _ _ _ _ r h => by simp [r11_Fires.l0] at h, fun _ _ _ _ _ _ _ r h => by simp [r11_Fires.l1] at h⟩
 | k + 1 => by
  obtain ⟨ih0, ih1⟩ := r11_Fires.mono_l k
  refine ⟨?_, ?_⟩ <;> intros <;> (first | unfold r11_Fires.l0 | unfold r11_Fires.l1)
  all_goals repeat' first
   | (with_reducible first | apply ih0 | apply ih1 | apply r11_Ready.mono | exact LeO.refl _ | exact LeO.none _ | refine LeO.ite ?_ ?_ | refine LeO.bind ?_ (fun _ => ?_))
theorem r11_Fires.mono : ∀ a0 a1 a2 a3 k, LeO (r11_Fires.f k a0 a1 a2 a3) (r11_Fires.f (k + 1) a0 a1 a2 a3) := by
 intro a0 a1 a2 a3 k
 obtain ⟨ih0, ih1⟩ := r11_Fires.mono_l k
 unfold r11_Fires.f
 repeat' first
   | (with_reducible first | apply ih0 | apply ih1 | apply r11_Ready.mono | exact LeO.refl _ | exact LeO.none _ | refine LeO.ite ?_ ?_ | refine LeO.bind ?_ (fun _ => ?_))
set_option maxHeartbeats 8000000 in
set_option maxRecDepth 100000 in
theorem r11_Fires.calls (k : Nat) (a0_0 : ByteArray) (A0_1 : Option Addr) (c0_1 : Nat) (l0_1 : List (S59)) (A0_2 : Option Addr) (c0_2 : Nat) (l0_2 : List (S41)) (A1 : Option Addr) (c1 : Nat) (l1 : List Int) (r : List Int) (w : World) (hr0_1 : Kd.C k59 w A0_1 l0_1.length l0_1) (hc0_1 : l0_1.length ≤ c0_1) (hr0_2 : Kd.C k41 w A0_2 l0_2.length l0_2) (hc0_2 : l0_2.length ≤ c0_2) (hr1 : Kd.C (Kd.int .i64) w A1 l1.length l1) (hc1 : l1.length ≤ c1) (h : r11_Fires.f k a0_0 l0_1 l0_2 l1 = some r) :
  Calls Tryd.prog 38 #[.agg #[.string a0_0, .slice A0_1 l0_1.length c0_1, .slice A0_2 l0_2.length c0_2], .slice A1 l1.length c1] w fun e w' => ∃ v0_ : Value, e = .returned (v0_) ∧ Kd.R (Kd.int .i64) 3 w' w.heap.size (fun _ => True) v0_ r ∧ Below w.heap.size w w' := by
 have hu28 := Tryd.underlying28; have hu9 := Tryd.underlying9; have hu25 := Tryd.underlying25; have hu26 := Tryd.underlying26; have HR0_1 := aM hr0_1; have HC0_1 := aM hc0_1; clear hr0_1 hc0_1; have HR0_2 := aM hr0_2; have HC0_2 := aM hc0_2; clear hr0_2 hc0_2; have HR1 := aM hr1; have HC1 := aM hc1; clear hr1 hc1; have HB := aM (Below.refl w.heap.size w); have H : (r11_Fires.l0 k l1 ([] : List Int) 0 0 a0_0 l0_1 l0_2) = some r := h; clear h
 have H' := aM H
 clear H
 go_enter Tryd.func38, Tryd.ntmps38
 go_wp2_with (first | ((with_reducible refine gate_dst (N := 2) rfl ?_); refine bX 2 (cs := #[.string a0_0, .slice A0_1 l0_1.length c0_1, .slice A0_2 l0_2.length c0_2]) (t := 28) ?_; intro gb509 hg w3 hbox hb; have BK509 := aM (hbox); have GW509 := aM (gE hg (below_size (bB HB.out))); have GE509 := GW509; replace HB := aM (below_step (bB HB.out) hb); clear hb hbox hg))
 repeat (go_quiet (first | ((with_reducible refine gate_dst (N := 2) rfl ?_); refine bX 2 (cs := #[.string a0_0, .slice A0_1 l0_1.length c0_1, .slice A0_2 l0_2.length c0_2]) (t := 28) ?_; intro gb509 hg w3 hbox hb; have BK509 := aM (hbox); have GW509 := aM (gE hg (below_size (bB HB.out))); have GE509 := GW509; replace HB := aM (below_step (bB HB.out) hb); clear hb hbox hg)); try go_wp2_with (first | ((with_reducible refine gate_dst (N := 2) rfl ?_); refine bX 2 (cs := #[.string a0_0, .slice A0_1 l0_1.length c0_1, .slice A0_2 l0_2.length c0_2]) (t := 28) ?_; intro gb509 hg w3 hbox hb; have BK509 := aM (hbox); have GW509 := aM (gE hg (below_size (bB HB.out))); have GE509 := GW509; replace HB := aM (below_step (bB HB.out) hb); clear hb hbox hg)))
 go_loopg [5, 6, 7] k (fun kq v5 v6 v7 w' => ∃ (x5_1 : List Int) (x6_1 : Int) (x7_1 : Int), v6 = .int .i64 x6_1 ∧ v7 = .int .i64 x7_1 ∧ Aside0 (r11_Fires.l0 kq l1 x5_1 x6_1 x7_1 a0_0 l0_1 l0_2 = some r) ∧ Aside0 (kq ≤ k) ∧ Aside0 (Kd.R (Kd.int .i64) 3 w' w.heap.size (fun _ => True) v5 x5_1) ∧ Aside0 (w'.heap[gb509]? = some (.cells #[.string a0_0, (.slice A0_1 l0_1.length c0_1), (.slice A0_2 l0_2.length c0_2)] 28 (0, 0))) ∧ Aside0 (Below w.heap.size w w'))
 case atStart => exact ⟨(([] : List Int)), (0), (0), eT, eT, H', ⟨Nat.le_refl _⟩, ⟨nT⟩, ⟨kB BK509.out⟩, ⟨bB1 HB.out GE509.out⟩⟩
 clear H'; obtain ⟨x5_1, x6_1, x7_1, rfl, rfl, HA, HK1, HO_5, BK509, HB⟩ := hrel
 cases gk with
 | zero => exact absurd HA.out (by simp [r11_Fires.l0])
 | succ k1 =>
  have H := HA.out; clear HA
  simp only [r11_Fires.l0] at H
  by_cases c4 : x7_1 < (l0_2.length : Int)
  rotate_left
  ·
   rw [if_neg c4] at H
   have c4b0 := decide_eq_false c4; clear c4
   have H' := aM H
   clear H
   have hcz16_0 : wr.cell? ⟨gb509, 0, none⟩ = some (.string a0_0) := (blk_cell BK509.out 0).trans rfl
   have hcz16_1 : wr.cell? ⟨gb509, 1, none⟩ = some (.slice A0_1 l0_1.length c0_1) := (blk_cell BK509.out 1).trans rfl
   have hcz16_2 : wr.cell? ⟨gb509, 2, none⟩ = some (.slice A0_2 l0_2.length c0_2) := (blk_cell BK509.out 2).trans rfl
   have hfz16_0 := blk_frozen BK509.out 0; have hfz16_1 := blk_frozen BK509.out 1; have hfz16_2 := blk_frozen BK509.out 2
   go_wp2
   repeat (go_quiet (fail); try go_wp2)
   go_loopg [8, 9] k1 (fun kq v8 v9 w' => ∃ (x8_2 : List Int) (x9_2 : Int), v9 = .int .i64 x9_2 ∧ Aside0 (r11_Fires.l1 kq x5_1 x6_1 x8_2 x9_2 a0_0 l0_1 l0_2 = some r) ∧ Aside0 (kq ≤ k1) ∧ Aside0 (Kd.R (Kd.int .i64) 3 w' w.heap.size (fun k_ => some k_ ≠ (v8 : Value).ownBlock) u5 x5_1) ∧ Aside0 (Kd.R (Kd.int .i64) 3 w' w.heap.size (fun k_ => some k_ ≠ (u5 : Value).ownBlock) v8 x8_2) ∧ Aside0 (w'.heap[gb509]? = some (.cells #[.string a0_0, (.slice A0_1 l0_1.length c0_1), (.slice A0_2 l0_2.length c0_2)] 28 (0, 0))) ∧ Aside0 (Below w.heap.size w w'))
   case atStart => exact ⟨(([] : List Int)), (0), eT, H', ⟨Nat.le_refl _⟩, ⟨by refine oR ?_; exact Kd.R_mono HO_5.out (fun _ hk => (by simp [Value.ownBlock]))⟩, ⟨nT⟩, ⟨kB BK509.out⟩, ⟨bB1 HB.out GE509.out⟩⟩
   clear H'
   try clear hx5
   try clear hx514_0
   try clear hx514_1
   try clear hx514_2
   try clear hx514_3
   try clear hx514_4
   obtain ⟨x8_2, x9_2, rfl, HA, HK2, HO_5, HO_8, BK509, HB⟩ := hrel
   cases gk with
   | zero => exact absurd HA.out (by simp [r11_Fires.l1])
   | succ k2 =>
    have H := HA.out; clear HA
    simp only [r11_Fires.l1] at H
    by_cases c17 : x9_2 < (x5_1.length : Int)
    rotate_left
    ·
     rw [if_neg c17] at H
     have c17b0 := decide_eq_false c17; clear c17
     obtain rfl := Option.some.inj H
     obtain ⟨Ao28, co28, eo28⟩ := Kd.R_slice HO_5.out; subst eo28
     go_wp2
     repeat (go_quiet (fail); try go_wp2)
     go_ret
     exact ⟨_, rT, by refine oR ?_; exact Kd.R_mono HO_8.out (fun _ hk => trivial), bB1 HB.out GE509.out⟩


    rw [if_pos c17] at H; have c17b0 := decide_eq_true c17; clear c17
    obtain ⟨c18, H⟩ := iP H; have c18b0 := decide_eq_true c18; clear c18
    obtain ⟨c19, H⟩ := iP H; have c19b0 := decide_eq_true c19; clear c19
    obtain ⟨c20, H⟩ := iP H; have c20b0 := decide_eq_true c20; clear c20
    by_cases c21 : ((rd_T41 l0_2 (rd x5_1 x9_2)).f4) = x6_1
    rotate_left
    ·
     rw [if_neg c21] at H
     have c21b0 : (((rd_T41 l0_2 (rd x5_1 x9_2)).f4) == x6_1) = false := beq_eq_false_iff_ne.mpr c21; have c21b1 : (((rd_T41 l0_2 (rd x5_1 x9_2)).f4) != x6_1) = true := bne_iff_ne.mpr c21
     have H' := aM H
     clear H; obtain ⟨Ao26, co26, eo26⟩ := Kd.R_slice HO_5.out; subst eo26
     have hcz27_0 : wr.cell? ⟨gb509, 0, none⟩ = some (.string a0_0) := (blk_cell BK509.out 0).trans rfl
     have hcz27_1 : wr.cell? ⟨gb509, 1, none⟩ = some (.slice A0_1 l0_1.length c0_1) := (blk_cell BK509.out 1).trans rfl
     have hcz27_2 : wr.cell? ⟨gb509, 2, none⟩ = some (.slice A0_2 l0_2.length c0_2) := (blk_cell BK509.out 2).trans rfl
     have hfz27_0 := blk_frozen BK509.out 0; have hfz27_1 := blk_frozen BK509.out 1; have hfz27_2 := blk_frozen BK509.out 2; have p515 : 0 ≤ (x9_2 : Int) := dT; have q515 : x9_2 < (x5_1.length : Int) := dT
     try (obtain ⟨Aoz515, coz515, eoz515⟩ := Kd.R_slice HO_5.out; subst eoz515)
     obtain ⟨ad515, e515, hx515_0⟩ := Kd.at_int (Kd.R_reads' HO_5.out).2.2 x9_2 p515 q515; cases e515; replace p515 := eq_true p515; replace q515 := eq_true q515; have p516 : 0 ≤ ((rd x5_1 x9_2) : Int) := dT; have q516 : (rd x5_1 x9_2) < (l0_2.length : Int) := dT; obtain ⟨ad516, A516_1, c516_1, A516_2, c516_2, A516_3, c516_3, e516, hx516_0, hx516_1, hx516_2, hx516_3, hx516_4, hl516_1, hi516_1, hl516_2, hi516_2, hl516_3, hi516_3⟩ := at_T41 HR0_2.out (rd x5_1 x9_2) p516 q516; cases e516
     try replace hx516_0 := kX HB.out hx516_0
     try replace hx516_1 := kX HB.out hx516_1
     try replace hx516_2 := kX HB.out hx516_2
     try replace hx516_3 := kX HB.out hx516_3
     try replace hx516_4 := kX HB.out hx516_4
     have HR516_1 := aM hi516_1; have HC516_1 := aM hl516_1; clear hi516_1 hl516_1; have HR516_2 := aM hi516_2; have HC516_2 := aM hl516_2; clear hi516_2 hl516_2; have HR516_3 := aM hi516_3; have HC516_3 := aM hl516_3; clear hi516_3 hl516_3; replace p516 := eq_true p516; replace q516 := eq_true q516
     go_wp2
     repeat (go_quiet (fail); try go_wp2)
     go_roundg k2
     case measure => have := HK1.out; have := HK2.out; omega
     case rel => exact ⟨(x8_2), (wrap64 (x9_2 + 1)), eT, H', ⟨by have := HK1.out; have := HK2.out; omega⟩, ⟨oR HO_5.out⟩, ⟨oR HO_8.out⟩, ⟨kB BK509.out⟩, ⟨bB1 HB.out GE509.out⟩⟩
    rw [if_pos c21] at H; have c21b0 : (((rd_T41 l0_2 (rd x5_1 x9_2)).f4) == x6_1) = true := beq_iff_eq.mpr c21; have c21b1 : (((rd_T41 l0_2 (rd x5_1 x9_2)).f4) != x6_1) = false := bne_eq_false_iff_eq.mpr c21; clear c21
    obtain ⟨c22, H⟩ := iP H; have LMc22 := aM c22; clear c22
    obtain ⟨y518, hy518⟩ : ∃ y_ : List Int, y_ = (x8_2 ++ [rd x5_1 x9_2]) := ⟨_, rfl⟩
    replace H : (r11_Fires.l1 k2 x5_1 x6_1 y518 (wrap64 (x9_2 + 1)) a0_0 l0_1 l0_2) = some r := yT hy518 H
    have Ny518 := aM hy518; clear hy518
    have H' := aM H
    clear H; obtain ⟨Ao23, co23, eo23⟩ := Kd.R_slice HO_5.out; subst eo23
    have hcz24_0 : wr.cell? ⟨gb509, 0, none⟩ = some (.string a0_0) := (blk_cell BK509.out 0).trans rfl
    have hcz24_1 : wr.cell? ⟨gb509, 1, none⟩ = some (.slice A0_1 l0_1.length c0_1) := (blk_cell BK509.out 1).trans rfl
    have hcz24_2 : wr.cell? ⟨gb509, 2, none⟩ = some (.slice A0_2 l0_2.length c0_2) := (blk_cell BK509.out 2).trans rfl
    have hfz24_0 := blk_frozen BK509.out 0; have hfz24_1 := blk_frozen BK509.out 1; have hfz24_2 := blk_frozen BK509.out 2; have p515 : 0 ≤ (x9_2 : Int) := dT; have q515 : x9_2 < (x5_1.length : Int) := dT
    try (obtain ⟨Aoz515, coz515, eoz515⟩ := Kd.R_slice HO_5.out; subst eoz515)
    obtain ⟨ad515, e515, hx515_0⟩ := Kd.at_int (Kd.R_reads' HO_5.out).2.2 x9_2 p515 q515; cases e515; replace p515 := eq_true p515; replace q515 := eq_true q515; have p516 : 0 ≤ ((rd x5_1 x9_2) : Int) := dT; have q516 : (rd x5_1 x9_2) < (l0_2.length : Int) := dT; obtain ⟨ad516, A516_1, c516_1, A516_2, c516_2, A516_3, c516_3, e516, hx516_0, hx516_1, hx516_2, hx516_3, hx516_4, hl516_1, hi516_1, hl516_2, hi516_2, hl516_3, hi516_3⟩ := at_T41 HR0_2.out (rd x5_1 x9_2) p516 q516; cases e516
    try replace hx516_0 := kX HB.out hx516_0
    try replace hx516_1 := kX HB.out hx516_1
    try replace hx516_2 := kX HB.out hx516_2
    try replace hx516_3 := kX HB.out hx516_3
    try replace hx516_4 := kX HB.out hx516_4
    have HR516_1 := aM hi516_1; have HC516_1 := aM hl516_1; clear hi516_1 hl516_1; have HR516_2 := aM hi516_2; have HC516_2 := aM hl516_2; clear hi516_2 hl516_2; have HR516_3 := aM hi516_3; have HC516_3 := aM hl516_3; clear hi516_3 hl516_3; replace p516 := eq_true p516; replace q516 := eq_true q516; have p517 : 0 ≤ (x9_2 : Int) := dT; have q517 : x9_2 < (x5_1.length : Int) := dT
    try (obtain ⟨Aoz517, coz517, eoz517⟩ := Kd.R_slice HO_5.out; subst eoz517)
    obtain ⟨ad517, e517, hx517_0⟩ := Kd.at_int (Kd.R_reads' HO_5.out).2.2 x9_2 p517 q517; obtain rfl : ad515 = ad517 := (by injection e517); replace p517 := eq_true p517; replace q517 := eq_true q517
    go_wp2_with (first | ((with_reducible refine gate_builtin (b := .append) (xs := #[.tmp 50, .tmp 55]) rfl ?_); at_builtin; refine Kd.R_append (Kd.int .i64) (w0 := w) w.heap.size rfl (.tmp 50) (.tmp 55) 36 3 (.int .i64 0) 8 rfl Tryd.underlying36 info3 rfl (by decide) (by omega) u8 x8_2 (rd x5_1 x9_2) [.int .i64 (rd x5_1 x9_2)] (fun k_ => some k_ ≠ (.slice (some ad515) x5_1.length co23 : Value).ownBlock) (fun _ => False) rfl rfl ?aP (fun _ hk => hk.elim) ?aF ?aO ?aB ?aS ?aL ?_; (case aP => exact rfl); (case aB => exact (bB1 HB.out GE509.out)); (case aF => exact (fun k_ hk => Kd.fresh' (Kd.R_lt (oR HO_5.out)) k_ hk)); (case aO => exact (oR HO_8.out)); (case aS => exact (below_size (bB1 HB.out GE509.out))); (case aL => have := LMc22.out; omega); intro v519 w25 ho hb hg hat; rw [← Ny518.out] at ho; replace HO_5 := aM (Kd.R_after (ok := (fun _ => True)) (by refine oR ?_; exact Kd.R_mono HO_5.out (fun _ hk => ⟨trivial, hk⟩)) hg hat); replace BK509 := aM (blk_grown (g := gb509) (o := .cells #[.string a0_0, .slice A0_1 l0_1.length c0_1, .slice (some ad516) l0_2.length c0_2] 28 (0, 0)) (kB BK509.out) hg (Kd.R_ne HO_8.out BK509.out (by decide))); replace HB := aM (hb); have HO520 := aM (ho); clear HO_8; clear ho hb hg hat))
    repeat (go_quiet (first | ((with_reducible refine gate_builtin (b := .append) (xs := #[.tmp 50, .tmp 55]) rfl ?_); at_builtin; refine Kd.R_append (Kd.int .i64) (w0 := w) w.heap.size rfl (.tmp 50) (.tmp 55) 36 3 (.int .i64 0) 8 rfl Tryd.underlying36 info3 rfl (by decide) (by omega) u8 x8_2 (rd x5_1 x9_2) [.int .i64 (rd x5_1 x9_2)] (fun k_ => some k_ ≠ (.slice (some ad515) x5_1.length co23 : Value).ownBlock) (fun _ => False) rfl rfl ?aP (fun _ hk => hk.elim) ?aF ?aO ?aB ?aS ?aL ?_; (case aP => exact rfl); (case aB => exact (bB1 HB.out GE509.out)); (case aF => exact (fun k_ hk => Kd.fresh' (Kd.R_lt (oR HO_5.out)) k_ hk)); (case aO => exact (oR HO_8.out)); (case aS => exact (below_size (bB1 HB.out GE509.out))); (case aL => have := LMc22.out; omega); intro v519 w25 ho hb hg hat; rw [← Ny518.out] at ho; replace HO_5 := aM (Kd.R_after (ok := (fun _ => True)) (by refine oR ?_; exact Kd.R_mono HO_5.out (fun _ hk => ⟨trivial, hk⟩)) hg hat); replace BK509 := aM (blk_grown (g := gb509) (o := .cells #[.string a0_0, .slice A0_1 l0_1.length c0_1, .slice (some ad516) l0_2.length c0_2] 28 (0, 0)) (kB BK509.out) hg (Kd.R_ne HO_8.out BK509.out (by decide))); replace HB := aM (hb); have HO520 := aM (ho); clear HO_8; clear ho hb hg hat)); try go_wp2_with (first | ((with_reducible refine gate_builtin (b := .append) (xs := #[.tmp 50, .tmp 55]) rfl ?_); at_builtin; refine Kd.R_append (Kd.int .i64) (w0 := w) w.heap.size rfl (.tmp 50) (.tmp 55) 36 3 (.int .i64 0) 8 rfl Tryd.underlying36 info3 rfl (by decide) (by omega) u8 x8_2 (rd x5_1 x9_2) [.int .i64 (rd x5_1 x9_2)] (fun k_ => some k_ ≠ (.slice (some ad515) x5_1.length co23 : Value).ownBlock) (fun _ => False) rfl rfl ?aP (fun _ hk => hk.elim) ?aF ?aO ?aB ?aS ?aL ?_; (case aP => exact rfl); (case aB => exact (bB1 HB.out GE509.out)); (case aF => exact (fun k_ hk => Kd.fresh' (Kd.R_lt (oR HO_5.out)) k_ hk)); (case aO => exact (oR HO_8.out)); (case aS => exact (below_size (bB1 HB.out GE509.out))); (case aL => have := LMc22.out; omega); intro v519 w25 ho hb hg hat; rw [← Ny518.out] at ho; replace HO_5 := aM (Kd.R_after (ok := (fun _ => True)) (by refine oR ?_; exact Kd.R_mono HO_5.out (fun _ hk => ⟨trivial, hk⟩)) hg hat); replace BK509 := aM (blk_grown (g := gb509) (o := .cells #[.string a0_0, .slice A0_1 l0_1.length c0_1, .slice (some ad516) l0_2.length c0_2] 28 (0, 0)) (kB BK509.out) hg (Kd.R_ne HO_8.out BK509.out (by decide))); replace HB := aM (hb); have HO520 := aM (ho); clear HO_8; clear ho hb hg hat)))
    go_roundg k2
    case measure => have := HK1.out; have := HK2.out; omega
    case rel => exact ⟨(y518), (wrap64 (x9_2 + 1)), eT, H', ⟨by have := HK1.out; have := HK2.out; omega⟩, ⟨by refine oR ?_; exact Kd.R_mono HO_5.out (fun _ hk => hk.2)⟩, ⟨oR HO520.out⟩, ⟨kB BK509.out⟩, ⟨bB1 HB.out GE509.out⟩⟩
  rw [if_pos c4] at H; have c4b0 := decide_eq_true c4; clear c4; obtain ⟨t510, A5, H⟩ := iB H; (try dsimp only at H)
  by_cases c6 : t510 = true
  rotate_left
  ·
   replace c6 := Bool.eq_false_iff.mpr c6
   subst c6
   have H1 : (r11_Fires.l0 k1 l1 x5_1 x6_1 (wrap64 (x7_1 + 1)) a0_0 l0_1 l0_2) = some r := by rw [if_neg (show ¬ (false = true) by decide)] at H; exact H
   clear H; have H := H1; clear H1
   have H' := aM H
   clear H
   have hcz14_0 : wr.cell? ⟨gb509, 0, none⟩ = some (.string a0_0) := (blk_cell BK509.out 0).trans rfl
   have hcz14_1 : wr.cell? ⟨gb509, 1, none⟩ = some (.slice A0_1 l0_1.length c0_1) := (blk_cell BK509.out 1).trans rfl
   have hcz14_2 : wr.cell? ⟨gb509, 2, none⟩ = some (.slice A0_2 l0_2.length c0_2) := (blk_cell BK509.out 2).trans rfl
   have hfz14_0 := blk_frozen BK509.out 0; have hfz14_1 := blk_frozen BK509.out 1; have hfz14_2 := blk_frozen BK509.out 2
   go_wp2_with (first | (go_at_call 57; (with_reducible refine (r11_Ready.calls k1 a0_0 _ _ l0_1 _ _ l0_2 _ _ l1 x7_1 false _ ?side1 ?side2 ?side3 ?side4 ?side5 ?side6 A5.out).mono ?_); (case side1 => exact cB HR0_1.out HB.out); (case side2 => exact HC0_1.out); (case side3 => exact cB HR0_2.out HB.out); (case side4 => exact HC0_2.out); (case side5 => exact cB HR1.out HB.out); (case side6 => exact HC1.out); rintro e w15 ⟨rfl, hb⟩; replace HO_5 := aM (Kd.R_below (oR HO_5.out) hb); replace BK509 := aM (kW BK509.out hb); replace HB := aM (below_step (bB1 HB.out GE509.out) hb); clear hb))
   repeat (go_quiet (first | (go_at_call 57; (with_reducible refine (r11_Ready.calls k1 a0_0 _ _ l0_1 _ _ l0_2 _ _ l1 x7_1 false _ ?side1 ?side2 ?side3 ?side4 ?side5 ?side6 A5.out).mono ?_); (case side1 => exact cB HR0_1.out HB.out); (case side2 => exact HC0_1.out); (case side3 => exact cB HR0_2.out HB.out); (case side4 => exact HC0_2.out); (case side5 => exact cB HR1.out HB.out); (case side6 => exact HC1.out); rintro e w15 ⟨rfl, hb⟩; replace HO_5 := aM (Kd.R_below (oR HO_5.out) hb); replace BK509 := aM (kW BK509.out hb); replace HB := aM (below_step (bB1 HB.out GE509.out) hb); clear hb)); try go_wp2_with (first | (go_at_call 57; (with_reducible refine (r11_Ready.calls k1 a0_0 _ _ l0_1 _ _ l0_2 _ _ l1 x7_1 false _ ?side1 ?side2 ?side3 ?side4 ?side5 ?side6 A5.out).mono ?_); (case side1 => exact cB HR0_1.out HB.out); (case side2 => exact HC0_1.out); (case side3 => exact cB HR0_2.out HB.out); (case side4 => exact HC0_2.out); (case side5 => exact cB HR1.out HB.out); (case side6 => exact HC1.out); rintro e w15 ⟨rfl, hb⟩; replace HO_5 := aM (Kd.R_below (oR HO_5.out) hb); replace BK509 := aM (kW BK509.out hb); replace HB := aM (below_step (bB1 HB.out GE509.out) hb); clear hb)))
   go_roundg k1
   case measure => have := HK1.out; omega
   case rel => exact ⟨(x5_1), (x6_1), (wrap64 (x7_1 + 1)), eT, eT, H', ⟨by have := HK1.out; omega⟩, ⟨oR HO_5.out⟩, ⟨kB BK509.out⟩, ⟨bB1 HB.out GE509.out⟩⟩
  subst c6
  have H1 : (if x5_1.length < 17592186044416 then (if 0 ≤ x7_1 then (r11_Fires.l0 k1 l1 (x5_1 ++ [x7_1]) (mx x6_1 ((rd_T41 l0_2 x7_1).f4)) (wrap64 (x7_1 + 1)) a0_0 l0_1 l0_2) else (none)) else (none)) = some r := by rw [if_pos rfl] at H; exact H
  clear H; have H := H1; clear H1
  obtain ⟨c7, H⟩ := iP H; have LMc7 := aM c7; clear c7
  obtain ⟨y511, hy511⟩ : ∃ y_ : List Int, y_ = (x5_1 ++ [x7_1]) := ⟨_, rfl⟩
  replace H : (if 0 ≤ x7_1 then (r11_Fires.l0 k1 l1 y511 (mx x6_1 ((rd_T41 l0_2 x7_1).f4)) (wrap64 (x7_1 + 1)) a0_0 l0_1 l0_2) else (none)) = some r := yT hy511 H
  have Ny511 := aM hy511; clear hy511
  obtain ⟨c8, H⟩ := iP H; have c8b0 := decide_eq_true c8; clear c8
  obtain ⟨ji9, hji9⟩ : ∃ j_ : Int, (mx x6_1 ((rd_T41 l0_2 x7_1).f4)) = j_ := ⟨_, rfl⟩
  replace H : (r11_Fires.l0 k1 l1 y511 ji9 (wrap64 (x7_1 + 1)) a0_0 l0_1 l0_2) = some r := by first | (rw [hji9] at H; exact H) | (simp only [hji9] at H ⊢; exact H)
  (try rw [hji9] at A5)
  have hji9_ : (if x6_1 < ((rd_T41 l0_2 x7_1).f4) then ((rd_T41 l0_2 x7_1).f4) else x6_1) = ji9 := hji9
  have H' := aM H
  clear H
  have hcz10_0 : wr.cell? ⟨gb509, 0, none⟩ = some (.string a0_0) := (blk_cell BK509.out 0).trans rfl
  have hcz10_1 : wr.cell? ⟨gb509, 1, none⟩ = some (.slice A0_1 l0_1.length c0_1) := (blk_cell BK509.out 1).trans rfl
  have hcz10_2 : wr.cell? ⟨gb509, 2, none⟩ = some (.slice A0_2 l0_2.length c0_2) := (blk_cell BK509.out 2).trans rfl
  have hfz10_0 := blk_frozen BK509.out 0; have hfz10_1 := blk_frozen BK509.out 1; have hfz10_2 := blk_frozen BK509.out 2
  go_wp2_with (first | (go_at_call 57; (with_reducible refine (r11_Ready.calls k1 a0_0 _ _ l0_1 _ _ l0_2 _ _ l1 x7_1 true _ ?side1 ?side2 ?side3 ?side4 ?side5 ?side6 A5.out).mono ?_); (case side1 => exact cB HR0_1.out HB.out); (case side2 => exact HC0_1.out); (case side3 => exact cB HR0_2.out HB.out); (case side4 => exact HC0_2.out); (case side5 => exact cB HR1.out HB.out); (case side6 => exact HC1.out); rintro e w11 ⟨rfl, hb⟩; replace HO_5 := aM (Kd.R_below (oR HO_5.out) hb); replace BK509 := aM (kW BK509.out hb); replace HB := aM (below_step (bB1 HB.out GE509.out) hb); clear hb) | ((with_reducible refine gate_builtin (b := .append) (xs := #[.tmp 21, .tmp 23]) rfl ?_); at_builtin; refine Kd.R_append (Kd.int .i64) (w0 := w) w.heap.size rfl (.tmp 21) (.tmp 23) 36 3 (.int .i64 0) 8 rfl Tryd.underlying36 info3 rfl (by decide) (by omega) u5 x5_1 x7_1 [.int .i64 x7_1] (fun _ => True) (fun _ => False) rfl rfl ?aP (fun _ hk => hk.elim) ?aF ?aO ?aB ?aS ?aL ?_; (case aP => exact rfl); (case aB => exact (bB1 HB.out GE509.out)); (case aF => exact (fun _ _ => trivial)); (case aO => exact (oR HO_5.out)); (case aS => exact (below_size (bB1 HB.out GE509.out))); (case aL => have := LMc7.out; omega); intro v512 w12 ho hb hg hat; rw [← Ny511.out] at ho; replace BK509 := aM (blk_grown (g := gb509) (o := .cells #[.string a0_0, .slice A0_1 l0_1.length c0_1, .slice A0_2 l0_2.length c0_2] 28 (0, 0)) (kB BK509.out) hg (Kd.R_ne HO_5.out BK509.out (by decide))); replace HB := aM (hb); have HO513 := aM (ho); clear HO_5; clear ho hb hg hat; obtain ⟨hcz13_0, hcz13_1, hcz13_2, hfz13_0, hfz13_1, hfz13_2⟩ := cd3 BK509.out; have p514 : 0 ≤ (x7_1 : Int) := dT; have q514 : x7_1 < (l0_2.length : Int) := dT; obtain ⟨ad514, A514_1, c514_1, A514_2, c514_2, A514_3, c514_3, e514, hx514_0, hx514_1, hx514_2, hx514_3, hx514_4, hl514_1, hi514_1, hl514_2, hi514_2, hl514_3, hi514_3⟩ := at_T41 HR0_2.out x7_1 p514 q514; cases e514; try replace hx514_0 := kX HB.out hx514_0; try replace hx514_1 := kX HB.out hx514_1; try replace hx514_2 := kX HB.out hx514_2; try replace hx514_3 := kX HB.out hx514_3; try replace hx514_4 := kX HB.out hx514_4; have HR514_1 := aM hi514_1; have HC514_1 := aM hl514_1; clear hi514_1 hl514_1; have HR514_2 := aM hi514_2; have HC514_2 := aM hl514_2; clear hi514_2 hl514_2; have HR514_3 := aM hi514_3; have HC514_3 := aM hl514_3; clear hi514_3 hl514_3; replace p514 := eq_true p514; replace q514 := eq_true q514))
  repeat (go_quiet (first | (go_at_call 57; (with_reducible refine (r11_Ready.calls k1 a0_0 _ _ l0_1 _ _ l0_2 _ _ l1 x7_1 true _ ?side1 ?side2 ?side3 ?side4 ?side5 ?side6 A5.out).mono ?_); (case side1 => exact cB HR0_1.out HB.out); (case side2 => exact HC0_1.out); (case side3 => exact cB HR0_2.out HB.out); (case side4 => exact HC0_2.out); (case side5 => exact cB HR1.out HB.out); (case side6 => exact HC1.out); rintro e w11 ⟨rfl, hb⟩; replace HO_5 := aM (Kd.R_below (oR HO_5.out) hb); replace BK509 := aM (kW BK509.out hb); replace HB := aM (below_step (bB1 HB.out GE509.out) hb); clear hb) | ((with_reducible refine gate_builtin (b := .append) (xs := #[.tmp 21, .tmp 23]) rfl ?_); at_builtin; refine Kd.R_append (Kd.int .i64) (w0 := w) w.heap.size rfl (.tmp 21) (.tmp 23) 36 3 (.int .i64 0) 8 rfl Tryd.underlying36 info3 rfl (by decide) (by omega) u5 x5_1 x7_1 [.int .i64 x7_1] (fun _ => True) (fun _ => False) rfl rfl ?aP (fun _ hk => hk.elim) ?aF ?aO ?aB ?aS ?aL ?_; (case aP => exact rfl); (case aB => exact (bB1 HB.out GE509.out)); (case aF => exact (fun _ _ => trivial)); (case aO => exact (oR HO_5.out)); (case aS => exact (below_size (bB1 HB.out GE509.out))); (case aL => have := LMc7.out; omega); intro v512 w12 ho hb hg hat; rw [← Ny511.out] at ho; replace BK509 := aM (blk_grown (g := gb509) (o := .cells #[.string a0_0, .slice A0_1 l0_1.length c0_1, .slice A0_2 l0_2.length c0_2] 28 (0, 0)) (kB BK509.out) hg (Kd.R_ne HO_5.out BK509.out (by decide))); replace HB := aM (hb); have HO513 := aM (ho); clear HO_5; clear ho hb hg hat; obtain ⟨hcz13_0, hcz13_1, hcz13_2, hfz13_0, hfz13_1, hfz13_2⟩ := cd3 BK509.out; have p514 : 0 ≤ (x7_1 : Int) := dT; have q514 : x7_1 < (l0_2.length : Int) := dT; obtain ⟨ad514, A514_1, c514_1, A514_2, c514_2, A514_3, c514_3, e514, hx514_0, hx514_1, hx514_2, hx514_3, hx514_4, hl514_1, hi514_1, hl514_2, hi514_2, hl514_3, hi514_3⟩ := at_T41 HR0_2.out x7_1 p514 q514; cases e514; try replace hx514_0 := kX HB.out hx514_0; try replace hx514_1 := kX HB.out hx514_1; try replace hx514_2 := kX HB.out hx514_2; try replace hx514_3 := kX HB.out hx514_3; try replace hx514_4 := kX HB.out hx514_4; have HR514_1 := aM hi514_1; have HC514_1 := aM hl514_1; clear hi514_1 hl514_1; have HR514_2 := aM hi514_2; have HC514_2 := aM hl514_2; clear hi514_2 hl514_2; have HR514_3 := aM hi514_3; have HC514_3 := aM hl514_3; clear hi514_3 hl514_3; replace p514 := eq_true p514; replace q514 := eq_true q514)); try go_wp2_with (first | (go_at_call 57; (with_reducible refine (r11_Ready.calls k1 a0_0 _ _ l0_1 _ _ l0_2 _ _ l1 x7_1 true _ ?side1 ?side2 ?side3 ?side4 ?side5 ?side6 A5.out).mono ?_); (case side1 => exact cB HR0_1.out HB.out); (case side2 => exact HC0_1.out); (case side3 => exact cB HR0_2.out HB.out); (case side4 => exact HC0_2.out); (case side5 => exact cB HR1.out HB.out); (case side6 => exact HC1.out); rintro e w11 ⟨rfl, hb⟩; replace HO_5 := aM (Kd.R_below (oR HO_5.out) hb); replace BK509 := aM (kW BK509.out hb); replace HB := aM (below_step (bB1 HB.out GE509.out) hb); clear hb) | ((with_reducible refine gate_builtin (b := .append) (xs := #[.tmp 21, .tmp 23]) rfl ?_); at_builtin; refine Kd.R_append (Kd.int .i64) (w0 := w) w.heap.size rfl (.tmp 21) (.tmp 23) 36 3 (.int .i64 0) 8 rfl Tryd.underlying36 info3 rfl (by decide) (by omega) u5 x5_1 x7_1 [.int .i64 x7_1] (fun _ => True) (fun _ => False) rfl rfl ?aP (fun _ hk => hk.elim) ?aF ?aO ?aB ?aS ?aL ?_; (case aP => exact rfl); (case aB => exact (bB1 HB.out GE509.out)); (case aF => exact (fun _ _ => trivial)); (case aO => exact (oR HO_5.out)); (case aS => exact (below_size (bB1 HB.out GE509.out))); (case aL => have := LMc7.out; omega); intro v512 w12 ho hb hg hat; rw [← Ny511.out] at ho; replace BK509 := aM (blk_grown (g := gb509) (o := .cells #[.string a0_0, .slice A0_1 l0_1.length c0_1, .slice A0_2 l0_2.length c0_2] 28 (0, 0)) (kB BK509.out) hg (Kd.R_ne HO_5.out BK509.out (by decide))); replace HB := aM (hb); have HO513 := aM (ho); clear HO_5; clear ho hb hg hat; obtain ⟨hcz13_0, hcz13_1, hcz13_2, hfz13_0, hfz13_1, hfz13_2⟩ := cd3 BK509.out; have p514 : 0 ≤ (x7_1 : Int) := dT; have q514 : x7_1 < (l0_2.length : Int) := dT; obtain ⟨ad514, A514_1, c514_1, A514_2, c514_2, A514_3, c514_3, e514, hx514_0, hx514_1, hx514_2, hx514_3, hx514_4, hl514_1, hi514_1, hl514_2, hi514_2, hl514_3, hi514_3⟩ := at_T41 HR0_2.out x7_1 p514 q514; cases e514; try replace hx514_0 := kX HB.out hx514_0; try replace hx514_1 := kX HB.out hx514_1; try replace hx514_2 := kX HB.out hx514_2; try replace hx514_3 := kX HB.out hx514_3; try replace hx514_4 := kX HB.out hx514_4; have HR514_1 := aM hi514_1; have HC514_1 := aM hl514_1; clear hi514_1 hl514_1; have HR514_2 := aM hi514_2; have HC514_2 := aM hl514_2; clear hi514_2 hl514_2; have HR514_3 := aM hi514_3; have HC514_3 := aM hl514_3; clear hi514_3 hl514_3; replace p514 := eq_true p514; replace q514 := eq_true q514)))
  go_roundg k1
  case measure => have := HK1.out; omega
  case rel => exact ⟨(y511), (ji9), (wrap64 (x7_1 + 1)), (by first | rfl | (simp; done) | (simp only [← hji9] <;> (first | rfl | simp)) | (simp [*]; done)), eT, H', ⟨by have := HK1.out; omega⟩, ⟨oR HO513.out⟩, ⟨kB BK509.out⟩, ⟨bB1 HB.out GE509.out⟩⟩
/-! ### r11_List: function 15 -/
def r11_List.f (k : Nat) (a0_0 : ByteArray) (l0_1 : List (S59)) (l0_2 : List (S41)) (l1 : List Int) : Option (List Int) := (r11_Good.f k a0_0 l0_1 l0_2 l1).bind fun t522 => (if t522 = true then ((r11_Fires.f k a0_0 l0_1 l0_2 l1).bind fun t523 => (some t523)) else (some ([] : List Int)))
theorem r11_List.mono : ∀ a0 a1 a2 a3 k, LeO (r11_List.f k a0 a1 a2 a3) (r11_List.f (k + 1) a0 a1 a2 a3) := by
 intro a0 a1 a2 a3 k
 unfold r11_List.f
 repeat' first
   | (with_reducible first | apply r11_Fires.mono | apply r11_Good.mono | exact LeO.refl _ | exact LeO.none _ | refine LeO.ite ?_ ?_ | refine LeO.bind ?_ (fun _ => ?_))
set_option maxHeartbeats 8000000 in
set_option maxRecDepth 100000 in
theorem r11_List.calls (k : Nat) (a0_0 : ByteArray) (A0_1 : Option Addr) (c0_1 : Nat) (l0_1 : List (S59)) (A0_2 : Option Addr) (c0_2 : Nat) (l0_2 : List (S41)) (A1 : Option Addr) (c1 : Nat) (l1 : List Int) (r : List Int) (w : World) (hr0_1 : Kd.C k59 w A0_1 l0_1.length l0_1) (hc0_1 : l0_1.length ≤ c0_1) (hr0_2 : Kd.C k41 w A0_2 l0_2.length l0_2) (hc0_2 : l0_2.length ≤ c0_2) (hr1 : Kd.C (Kd.int .i64) w A1 l1.length l1) (hc1 : l1.length ≤ c1) (h : r11_List.f k a0_0 l0_1 l0_2 l1 = some r) :
  Calls Tryd.prog 15 #[.agg #[.string a0_0, .slice A0_1 l0_1.length c0_1, .slice A0_2 l0_2.length c0_2], .slice A1 l1.length c1] w fun e w' => ∃ v0_ : Value, e = .returned (v0_) ∧ Kd.R (Kd.int .i64) 3 w' w.heap.size (fun _ => True) v0_ r ∧ Below w.heap.size w w' := by
 have hu28 := Tryd.underlying28; have hu9 := Tryd.underlying9; have hu25 := Tryd.underlying25; have hu26 := Tryd.underlying26; have HR0_1 := aM hr0_1; have HC0_1 := aM hc0_1; clear hr0_1 hc0_1; have HR0_2 := aM hr0_2; have HC0_2 := aM hc0_2; clear hr0_2 hc0_2; have HR1 := aM hr1; have HC1 := aM hc1; clear hr1 hc1; have HB := aM (Below.refl w.heap.size w); have H : ((r11_Good.f k a0_0 l0_1 l0_2 l1).bind fun t522 => (if t522 = true then ((r11_Fires.f k a0_0 l0_1 l0_2 l1).bind fun t523 => (some t523)) else (some ([] : List Int)))) = some r := h; clear h; obtain ⟨t522, A3, H⟩ := iB H; (try dsimp only at H)
 by_cases c4 : t522 = true
 rotate_left
 ·
  replace c4 := Bool.eq_false_iff.mpr c4
  subst c4
  have H1 : (some ([] : List Int)) = some r := by rw [if_neg (show ¬ (false = true) by decide)] at H; exact H
  clear H; have H := H1; clear H1
  obtain rfl := Option.some.inj H
  go_enter Tryd.func15, Tryd.ntmps15
  go_wp2_with (first | ((with_reducible refine gate_dst (N := 2) rfl ?_); refine bX 2 (cs := #[.string a0_0, .slice A0_1 l0_1.length c0_1, .slice A0_2 l0_2.length c0_2]) (t := 28) ?_; intro gb521 hg w11 hbox hb; have BK521 := aM (hbox); have GW521 := aM (gE hg (below_size (bB HB.out))); have GE521 := GW521; replace HB := aM (below_step (bB HB.out) hb); clear hb hbox hg; obtain ⟨hcz12_0, hcz12_1, hcz12_2, hfz12_0, hfz12_1, hfz12_2⟩ := cd3 BK521.out) | ((with_reducible refine gate_callee (f := 37) rfl ?_); refine gM (some 7) Tryd.func37 #[.agg #[.string a0_0, .slice A0_1 l0_1.length c0_1, .slice A0_2 l0_2.length c0_2], .slice A1 l1.length c1] ?_; (with_reducible refine (r11_Good.calls k a0_0 _ _ l0_1 _ _ l0_2 _ _ l1 false _ ?side1 ?side2 ?side3 ?side4 ?side5 ?side6 A3.out).mono ?_); (case side1 => exact cB HR0_1.out HB.out); (case side2 => exact HC0_1.out); (case side3 => exact cB HR0_2.out HB.out); (case side4 => exact HC0_2.out); (case side5 => exact cB HR1.out HB.out); (case side6 => exact HC1.out); rintro e w13 ⟨rfl, hb⟩; refine ⟨_, rfl, ?_⟩; replace BK521 := aM (kW BK521.out hb); replace HB := aM (below_step (bB1 HB.out GE521.out) hb); clear hb))
  go_ret
  exact ⟨_, rT, nT, bB1 HB.out GE521.out⟩


 subst c4
 have H1 : ((r11_Fires.f k a0_0 l0_1 l0_2 l1).bind fun t523 => (some t523)) = some r := by rw [if_pos rfl] at H; exact H
 clear H; have H := H1; clear H1; replace H := Option.bind_eq_some_iff.mp H; obtain ⟨t523, A50, H⟩ := H
 replace H : (some t523) = some r := H
 have A5 := aM A50; clear A50
 obtain rfl := Option.some.inj H
 go_enter Tryd.func15, Tryd.ntmps15
 go_wp2_with (first | ((with_reducible refine gate_dst (N := 2) rfl ?_); refine bX 2 (cs := #[.string a0_0, .slice A0_1 l0_1.length c0_1, .slice A0_2 l0_2.length c0_2]) (t := 28) ?_; intro gb521 hg w6 hbox hb; have BK521 := aM (hbox); have GW521 := aM (gE hg (below_size (bB HB.out))); have GE521 := GW521; replace HB := aM (below_step (bB HB.out) hb); clear hb hbox hg; obtain ⟨hcz7_0, hcz7_1, hcz7_2, hfz7_0, hfz7_1, hfz7_2⟩ := cd3 BK521.out) | ((with_reducible refine gate_callee (f := 37) rfl ?_); refine gM (some 7) Tryd.func37 #[.agg #[.string a0_0, .slice A0_1 l0_1.length c0_1, .slice A0_2 l0_2.length c0_2], .slice A1 l1.length c1] ?_; (with_reducible refine (r11_Good.calls k a0_0 _ _ l0_1 _ _ l0_2 _ _ l1 true _ ?side1 ?side2 ?side3 ?side4 ?side5 ?side6 A3.out).mono ?_); (case side1 => exact cB HR0_1.out HB.out); (case side2 => exact HC0_1.out); (case side3 => exact cB HR0_2.out HB.out); (case side4 => exact HC0_2.out); (case side5 => exact cB HR1.out HB.out); (case side6 => exact HC1.out); rintro e w8 ⟨rfl, hb⟩; refine ⟨_, rfl, ?_⟩; replace BK521 := aM (kW BK521.out hb); replace HB := aM (below_step (bB1 HB.out GE521.out) hb); clear hb; obtain ⟨hcz9_0, hcz9_1, hcz9_2, hfz9_0, hfz9_1, hfz9_2⟩ := cd3 BK521.out) | ((with_reducible refine gate_callee (f := 38) rfl ?_); refine gM (some 11) Tryd.func38 #[.agg #[.string a0_0, .slice A0_1 l0_1.length c0_1, .slice A0_2 l0_2.length c0_2], .slice A1 l1.length c1] ?_; (with_reducible refine (r11_Fires.calls k a0_0 _ _ l0_1 _ _ l0_2 _ _ l1 t523 _ ?side1 ?side2 ?side3 ?side4 ?side5 ?side6 A5.out).mono ?_); (case side1 => exact cB HR0_1.out HB.out); (case side2 => exact HC0_1.out); (case side3 => exact cB HR0_2.out HB.out); (case side4 => exact HC0_2.out); (case side5 => exact cB HR1.out HB.out); (case side6 => exact HC1.out); rintro e w10 ⟨v524, rfl, ho0, hb⟩; refine ⟨_, rfl, ?_⟩; have HO525 := aM (Kd.R_lower ho0 (below_size (bB1 HB.out GE521.out))); replace BK521 := aM (kW BK521.out hb); replace HB := aM (below_step (bB1 HB.out GE521.out) hb); clear hb ho0))
 go_ret
 exact ⟨_, rT, oR HO525.out, bB1 HB.out GE521.out⟩
/-! ### r11_has: function 40 -/
def r11_has.l0 : Nat → List Int → Int → Int → Option (Bool)
 | 0, _, _, _ => none
 | k + 1, x0, x1, x5 => if x5 < (x0.length : Int) then (if 0 ≤ x5 then (if (rd x0 x5) = x1 then (some true) else (r11_has.l0 k x0 x1 (wrap64 (x5 + 1)))) else (none)) else (some false)
def r11_has.f (k : Nat) (l0 : List Int) (a1 : Int) : Option (Bool) := r11_has.l0 k l0 a1 0
theorem r11_has.mono_l : ∀ k, (∀ y0 y1 y2, LeO (r11_has.l0 k y0 y1 y2) (r11_has.l0 (k + 1) y0 y1 y2))
 | 0 => fun _ _ _ r h => by simp [r11_has.l0] at h
 | k + 1 => by
  have ih0 := r11_has.mono_l k
  ·
   intro y0 y1 y2
   unfold r11_has.l0
   repeat' first
   | (with_reducible first | apply ih0 | exact LeO.refl _ | exact LeO.none _ | refine LeO.ite ?_ ?_ | refine LeO.bind ?_ (fun _ => ?_))
theorem r11_has.mono : ∀ a0 a1 k, LeO (r11_has.f k a0 a1) (r11_has.f (k + 1) a0 a1) := by
 intro a0 a1 k
 have ih0 := r11_has.mono_l k
 unfold r11_has.f
 repeat' first
   | (with_reducible first | apply ih0 | exact LeO.refl _ | exact LeO.none _ | refine LeO.ite ?_ ?_ | refine LeO.bind ?_ (fun _ => ?_))
set_option maxHeartbeats 8000000 in
set_option maxRecDepth 100000 in
theorem r11_has.calls (k : Nat) (A0 : Option Addr) (c0 : Nat) (l0 : List Int) (a1 : Int) (r : Bool) (w : World) (hr0 : Kd.C (Kd.int .i64) w A0 l0.length l0) (hc0 : l0.length ≤ c0) (h : r11_has.f k l0 a1 = some r) :
  Calls Tryd.prog 40 #[.slice A0 l0.length c0, .int .i64 a1] w fun e w' => e = .returned (.bool r) ∧ Drawn0 w w' := by
 have HR0 := aM hr0; have HC0 := aM hc0; clear hr0 hc0; have H : (r11_has.l0 k l0 a1 0) = some r := h; clear h
 have H' := aM H
 clear H
 go_enter Tryd.func40, Tryd.ntmps40
 go_wp2
 go_loopg [5] k (fun kq v5 w' => ∃ (x5_1 : Int), v5 = .int .i64 x5_1 ∧ Aside0 (r11_has.l0 kq l0 a1 x5_1 = some r) ∧ Aside0 (kq ≤ k) ∧ Drawn0 w w')
 case atStart => exact ⟨(0), eT, H', ⟨Nat.le_refl _⟩, by repeat (first | exact Drawn0.refl _ | apply Drawn0.step)⟩
 clear H'
 obtain ⟨x5_1, rfl, HA, HK1, ⟨m1, rfl⟩⟩ := hrel
 cases gk with
 | zero => exact absurd HA.out (by simp [r11_has.l0])
 | succ k1 =>
  have H := HA.out; clear HA
  simp only [r11_has.l0] at H
  by_cases c3 : x5_1 < (l0.length : Int)
  rotate_left
  ·
   rw [if_neg c3] at H
   have c3b0 := decide_eq_false c3; clear c3
   obtain rfl := Option.some.inj H
   go_wp2
   go_ret
   exact ⟨by first | rfl | (simp; done) | (simp [*]; done), by repeat (first | exact Drawn0.refl _ | apply Drawn0.step)⟩


  rw [if_pos c3] at H; have c3b0 := decide_eq_true c3; clear c3
  obtain ⟨c4, H⟩ := iP H; have c4b0 := decide_eq_true c4; clear c4
  by_cases c5 : (rd l0 x5_1) = a1
  ·
   rw [if_pos c5] at H
   have c5b0 : ((rd l0 x5_1) == a1) = true := beq_iff_eq.mpr c5; have c5b1 : ((rd l0 x5_1) != a1) = false := bne_eq_false_iff_eq.mpr c5; clear c5
   obtain rfl := Option.some.inj H
   obtain ⟨p526, q526, ad526, e526, hx526_0⟩ := aT (Kd.at_int HR0.out x5_1); cases e526
   go_wp2
   go_ret
   exact ⟨by first | rfl | (simp; done) | (simp [*]; done), by repeat (first | exact Drawn0.refl _ | apply Drawn0.step)⟩
  rw [if_neg c5] at H; have c5b0 : ((rd l0 x5_1) == a1) = false := beq_eq_false_iff_ne.mpr c5; have c5b1 : ((rd l0 x5_1) != a1) = true := bne_iff_ne.mpr c5
  have H' := aM H
  clear H; obtain ⟨p526, q526, ad526, e526, hx526_0⟩ := aT (Kd.at_int HR0.out x5_1); cases e526
  go_wp2
  go_roundg k1
  case measure => have := HK1.out; omega
  case rel => exact ⟨(wrap64 (x5_1 + 1)), eT, H', ⟨by have := HK1.out; omega⟩, by repeat (first | exact Drawn0.refl _ | apply Drawn0.step)⟩
/-! ### r11_After: function 41 -/
def r11_After.l0 : Nat → List Int → Int → List Int → Int → ByteArray → List (S59) → List (S41) → Option (List Int × Bool)
 | 0, _, _, _, _, _, _, _ => none
 | k + 1, x1, x2, x8, x9, x528000, x528001, x528002 => if x9 < (x528001.length : Int) then (if 0 ≤ x9 then (if x9 < (x1.length : Int) then (if 0 ≤ x2 then (if x2 < (x528002.length : Int) then ((r11_weight.f k ((rd_T41 x528002 x2).f1) x9).bind fun t530 => ((r11_weight.f k ((rd_T41 x528002 x2).f2) x9).bind fun t532 => (if (wrap64 ((wrap64 ((rd x1 x9) - t530)) + t532)) > 1048576 then (some (([] : List Int), false)) else (if x8.length < 17592186044416 then (r11_After.l0 k x1 x2 (x8 ++ [wrap64 ((wrap64 ((rd x1 x9) - t530)) + t532)]) (wrap64 (x9 + 1)) x528000 x528001 x528002) else (none))))) else (none)) else (none)) else (none)) else (none)) else (some (x8, true))
def r11_After.f (k : Nat) (a0_0 : ByteArray) (l0_1 : List (S59)) (l0_2 : List (S41)) (l1 : List Int) (a2 : Int) : Option (List Int × Bool) := r11_After.l0 k l1 a2 ([] : List Int) 0 a0_0 l0_1 l0_2
theorem r11_After.mono_l : ∀ k, (∀ y0 y1 y2 y3 y4 y5 y6, LeO (r11_After.l0 k y0 y1 y2 y3 y4 y5 y6) (r11_After.l0 (k + 1) y0 y1 y2 y3 y4 y5 y6))
 | 0 => fun _ _ _ _ _ _ _ r h => by simp [r11_After.l0] at h
 | k + 1 => by
  have ih0 := r11_After.mono_l k
  ·
   intro y0 y1 y2 y3 y4 y5 y6
   unfold r11_After.l0
   repeat' first
   | (with_reducible first | apply ih0 | apply r11_weight.mono | exact LeO.refl _ | exact LeO.none _ | refine LeO.ite ?_ ?_ | refine LeO.bind ?_ (fun _ => ?_))
theorem r11_After.mono : ∀ a0 a1 a2 a3 a4 k, LeO (r11_After.f k a0 a1 a2 a3 a4) (r11_After.f (k + 1) a0 a1 a2 a3 a4) := by
 intro a0 a1 a2 a3 a4 k
 have ih0 := r11_After.mono_l k
 unfold r11_After.f
 repeat' first
   | (with_reducible first | apply ih0 | apply r11_weight.mono | exact LeO.refl _ | exact LeO.none _ | refine LeO.ite ?_ ?_ | refine LeO.bind ?_ (fun _ => ?_))
set_option maxHeartbeats 8000000 in
set_option maxRecDepth 100000 in
theorem r11_After.calls (k : Nat) (a0_0 : ByteArray) (A0_1 : Option Addr) (c0_1 : Nat) (l0_1 : List (S59)) (A0_2 : Option Addr) (c0_2 : Nat) (l0_2 : List (S41)) (A1 : Option Addr) (c1 : Nat) (l1 : List Int) (a2 : Int) (r1 : List Int) (r2 : Bool) (w : World) (hr0_1 : Kd.C k59 w A0_1 l0_1.length l0_1) (hc0_1 : l0_1.length ≤ c0_1) (hr0_2 : Kd.C k41 w A0_2 l0_2.length l0_2) (hc0_2 : l0_2.length ≤ c0_2) (hr1 : Kd.C (Kd.int .i64) w A1 l1.length l1) (hc1 : l1.length ≤ c1) (h : r11_After.f k a0_0 l0_1 l0_2 l1 a2 = some (r1, r2)) :
  Calls Tryd.prog 41 #[.agg #[.string a0_0, .slice A0_1 l0_1.length c0_1, .slice A0_2 l0_2.length c0_2], .slice A1 l1.length c1, .int .i64 a2] w fun e w' => ∃ v0_ : Value, e = .returned (.tuple #[v0_, .bool r2]) ∧ Kd.R (Kd.int .i64) 3 w' w.heap.size (fun _ => True) v0_ r1 ∧ Below w.heap.size w w' := by
 have hu28 := Tryd.underlying28; have hu9 := Tryd.underlying9; have hu25 := Tryd.underlying25; have hu26 := Tryd.underlying26; have HR0_1 := aM hr0_1; have HC0_1 := aM hc0_1; clear hr0_1 hc0_1; have HR0_2 := aM hr0_2; have HC0_2 := aM hc0_2; clear hr0_2 hc0_2; have HR1 := aM hr1; have HC1 := aM hc1; clear hr1 hc1; have HB := aM (Below.refl w.heap.size w); have H : (r11_After.l0 k l1 a2 ([] : List Int) 0 a0_0 l0_1 l0_2) = some (r1, r2) := h; clear h
 have H' := aM H
 clear H
 go_enter Tryd.func41, Tryd.ntmps41
 go_wp2_with (first | ((with_reducible refine gate_dst (N := 3) rfl ?_); refine bX 3 (cs := #[.string a0_0, .slice A0_1 l0_1.length c0_1, .slice A0_2 l0_2.length c0_2]) (t := 28) ?_; intro gb527 hg w4 hbox hb; have BK527 := aM (hbox); have GW527 := aM (gE hg (below_size (bB HB.out))); have GE527 := GW527; replace HB := aM (below_step (bB HB.out) hb); clear hb hbox hg))
 repeat (go_quiet (first | ((with_reducible refine gate_dst (N := 3) rfl ?_); refine bX 3 (cs := #[.string a0_0, .slice A0_1 l0_1.length c0_1, .slice A0_2 l0_2.length c0_2]) (t := 28) ?_; intro gb527 hg w4 hbox hb; have BK527 := aM (hbox); have GW527 := aM (gE hg (below_size (bB HB.out))); have GE527 := GW527; replace HB := aM (below_step (bB HB.out) hb); clear hb hbox hg)); try go_wp2_with (first | ((with_reducible refine gate_dst (N := 3) rfl ?_); refine bX 3 (cs := #[.string a0_0, .slice A0_1 l0_1.length c0_1, .slice A0_2 l0_2.length c0_2]) (t := 28) ?_; intro gb527 hg w4 hbox hb; have BK527 := aM (hbox); have GW527 := aM (gE hg (below_size (bB HB.out))); have GE527 := GW527; replace HB := aM (below_step (bB HB.out) hb); clear hb hbox hg)))
 go_loopg [8, 9] k (fun kq v8 v9 w' => ∃ (x8_1 : List Int) (x9_1 : Int), v9 = .int .i64 x9_1 ∧ Aside0 (r11_After.l0 kq l1 a2 x8_1 x9_1 a0_0 l0_1 l0_2 = some (r1, r2)) ∧ Aside0 (kq ≤ k) ∧ Aside0 (Kd.R (Kd.int .i64) 3 w' w.heap.size (fun _ => True) v8 x8_1) ∧ Aside0 (w'.heap[gb527]? = some (.cells #[.string a0_0, (.slice A0_1 l0_1.length c0_1), (.slice A0_2 l0_2.length c0_2)] 28 (0, 0))) ∧ Aside0 (Below w.heap.size w w'))
 case atStart => exact ⟨(([] : List Int)), (0), eT, H', ⟨Nat.le_refl _⟩, ⟨nT⟩, ⟨kB BK527.out⟩, ⟨bB1 HB.out GE527.out⟩⟩
 clear H'; obtain ⟨x8_1, x9_1, rfl, HA, HK1, HO_8, BK527, HB⟩ := hrel
 cases gk with
 | zero => exact absurd HA.out (by simp [r11_After.l0])
 | succ k1 =>
  have H := HA.out; clear HA
  simp only [r11_After.l0] at H
  by_cases c5 : x9_1 < (l0_1.length : Int)
  rotate_left
  ·
   rw [if_neg c5] at H
   have c5b0 := decide_eq_false c5; clear c5
   simp only [Option.some.injEq, Prod.mk.injEq] at H
   obtain ⟨rfl, rfl⟩ := H
   have hcz17_0 : wr.cell? ⟨gb527, 0, none⟩ = some (.string a0_0) := (blk_cell BK527.out 0).trans rfl
   have hcz17_1 : wr.cell? ⟨gb527, 1, none⟩ = some (.slice A0_1 l0_1.length c0_1) := (blk_cell BK527.out 1).trans rfl
   have hcz17_2 : wr.cell? ⟨gb527, 2, none⟩ = some (.slice A0_2 l0_2.length c0_2) := (blk_cell BK527.out 2).trans rfl
   have hfz17_0 := blk_frozen BK527.out 0; have hfz17_1 := blk_frozen BK527.out 1; have hfz17_2 := blk_frozen BK527.out 2
   go_wp2
   repeat (go_quiet (fail); try go_wp2)
   go_ret2
   exact ⟨_, rT, oR HO_8.out, bB1 HB.out GE527.out⟩


  rw [if_pos c5] at H; have c5b0 := decide_eq_true c5; clear c5
  obtain ⟨c6, H⟩ := iP H; have c6b0 := decide_eq_true c6; clear c6
  obtain ⟨c7, H⟩ := iP H; have c7b0 := decide_eq_true c7; clear c7
  obtain ⟨c8, H⟩ := iP H; have c8b0 := decide_eq_true c8; clear c8
  obtain ⟨c9, H⟩ := iP H; have c9b0 := decide_eq_true c9; clear c9; obtain ⟨t530, A10, H⟩ := iB H; (try dsimp only at H); obtain ⟨t532, A11, H⟩ := iB H; (try dsimp only at H)
  by_cases c12 : (wrap64 ((wrap64 ((rd l1 x9_1) - t530)) + t532)) > 1048576
  ·
   rw [if_pos c12] at H
   have c12b0 : decide (1048576 < (wrap64 ((wrap64 ((rd l1 x9_1) - t530)) + t532))) = true := decide_eq_true c12
   try have c12b6 := c12b0
   try simp only [← i64_w] at c12b6
   clear c12
   simp only [Option.some.injEq, Prod.mk.injEq] at H
   obtain ⟨rfl, rfl⟩ := H
   have hcz13_0 : wr.cell? ⟨gb527, 0, none⟩ = some (.string a0_0) := (blk_cell BK527.out 0).trans rfl
   have hcz13_1 : wr.cell? ⟨gb527, 1, none⟩ = some (.slice A0_1 l0_1.length c0_1) := (blk_cell BK527.out 1).trans rfl
   have hcz13_2 : wr.cell? ⟨gb527, 2, none⟩ = some (.slice A0_2 l0_2.length c0_2) := (blk_cell BK527.out 2).trans rfl
   have hfz13_0 := blk_frozen BK527.out 0; have hfz13_1 := blk_frozen BK527.out 1; have hfz13_2 := blk_frozen BK527.out 2; obtain ⟨p528, q528, ad528, e528, hx528_0⟩ := aT (Kd.at_int HR1.out x9_1); cases e528
   try replace hx528_0 := kX HB.out hx528_0; obtain ⟨p529, q529, ad529, A529_1, c529_1, A529_2, c529_2, A529_3, c529_3, e529, hx529_0, hx529_1, hx529_2, hx529_3, hx529_4, hl529_1, hi529_1, hl529_2, hi529_2, hl529_3, hi529_3⟩ := aT (at_T41 HR0_2.out a2); cases e529
   try replace hx529_0 := kX HB.out hx529_0
   try replace hx529_1 := kX HB.out hx529_1
   try replace hx529_2 := kX HB.out hx529_2
   try replace hx529_3 := kX HB.out hx529_3
   try replace hx529_4 := kX HB.out hx529_4
   have HR529_1 := aM hi529_1; have HC529_1 := aM hl529_1; clear hi529_1 hl529_1; have HR529_2 := aM hi529_2; have HC529_2 := aM hl529_2; clear hi529_2 hl529_2; have HR529_3 := aM hi529_3; have HC529_3 := aM hl529_3; clear hi529_3 hl529_3
   go_wp2_with (first | (go_at_call 58; (with_reducible refine (r11_weight.calls k1 _ _ ((rd_T41 l0_2 a2).f1) x9_1 t530 _ ?side1 ?side2 A10.out).mono ?_); (case side1 => exact cB HR529_1.out HB.out); (case side2 => exact HC529_1.out); rintro e w' ⟨rfl, ⟨nd, rfl⟩⟩; (try first | exact ⟨rfl, _, World.drewN_drewN _ _ _⟩ | exact ⟨rfl, _, Eq.trans (World.drewN_drewN _ _ _) (congrArg (World.drewN _) (Nat.add_assoc _ _ _))⟩); obtain ⟨p531, q531, ad531, A531_1, c531_1, A531_2, c531_2, A531_3, c531_3, e531, hx531_0, hx531_1, hx531_2, hx531_3, hx531_4, hl531_1, hi531_1, hl531_2, hi531_2, hl531_3, hi531_3⟩ := aT (at_T41 HR0_2.out a2); obtain rfl : ad529 = ad531 := (by injection e531); try replace hx531_0 := kX HB.out hx531_0; try replace hx531_1 := kX HB.out hx531_1; try replace hx531_2 := kX HB.out hx531_2; try replace hx531_3 := kX HB.out hx531_3; try replace hx531_4 := kX HB.out hx531_4; have HR531_1 := aM hi531_1; have HC531_1 := aM hl531_1; clear hi531_1 hl531_1; have HR531_2 := aM hi531_2; have HC531_2 := aM hl531_2; clear hi531_2 hl531_2; have HR531_3 := aM hi531_3; have HC531_3 := aM hl531_3; clear hi531_3 hl531_3; have ea_ := Option.some.inj (hx529_1.symm.trans hx531_1); injection ea_ with ea_ en_ ec_; subst ea_; subst ec_; clear en_; have ea_ := Option.some.inj (hx529_2.symm.trans hx531_2); injection ea_ with ea_ en_ ec_; subst ea_; subst ec_; clear en_; have ea_ := Option.some.inj (hx529_3.symm.trans hx531_3); injection ea_ with ea_ en_ ec_; subst ea_; subst ec_; clear en_) | (go_at_call 58; (with_reducible refine (r11_weight.calls k1 _ _ ((rd_T41 l0_2 a2).f2) x9_1 t532 _ ?side1 ?side2 A11.out).mono ?_); (case side1 => repeat (first | exact (Kd.C_below HR531_2.out (bB1 HB.out GE527.out)) | (with_reducible refine Kd.C_alloc ?_ _) | (with_reducible refine Kd.C_drewN ?_ _) | (with_reducible refine Kd.C_drew ?_))); (case side2 => exact HC531_2.out); rintro e w' ⟨rfl, ⟨nd, rfl⟩⟩; (try first | exact ⟨rfl, _, World.drewN_drewN _ _ _⟩ | exact ⟨rfl, _, Eq.trans (World.drewN_drewN _ _ _) (congrArg (World.drewN _) (Nat.add_assoc _ _ _))⟩)))
   repeat (go_quiet (first | (go_at_call 58; (with_reducible refine (r11_weight.calls k1 _ _ ((rd_T41 l0_2 a2).f1) x9_1 t530 _ ?side1 ?side2 A10.out).mono ?_); (case side1 => exact cB HR529_1.out HB.out); (case side2 => exact HC529_1.out); rintro e w' ⟨rfl, ⟨nd, rfl⟩⟩; (try first | exact ⟨rfl, _, World.drewN_drewN _ _ _⟩ | exact ⟨rfl, _, Eq.trans (World.drewN_drewN _ _ _) (congrArg (World.drewN _) (Nat.add_assoc _ _ _))⟩); obtain ⟨p531, q531, ad531, A531_1, c531_1, A531_2, c531_2, A531_3, c531_3, e531, hx531_0, hx531_1, hx531_2, hx531_3, hx531_4, hl531_1, hi531_1, hl531_2, hi531_2, hl531_3, hi531_3⟩ := aT (at_T41 HR0_2.out a2); obtain rfl : ad529 = ad531 := (by injection e531); try replace hx531_0 := kX HB.out hx531_0; try replace hx531_1 := kX HB.out hx531_1; try replace hx531_2 := kX HB.out hx531_2; try replace hx531_3 := kX HB.out hx531_3; try replace hx531_4 := kX HB.out hx531_4; have HR531_1 := aM hi531_1; have HC531_1 := aM hl531_1; clear hi531_1 hl531_1; have HR531_2 := aM hi531_2; have HC531_2 := aM hl531_2; clear hi531_2 hl531_2; have HR531_3 := aM hi531_3; have HC531_3 := aM hl531_3; clear hi531_3 hl531_3; have ea_ := Option.some.inj (hx529_1.symm.trans hx531_1); injection ea_ with ea_ en_ ec_; subst ea_; subst ec_; clear en_; have ea_ := Option.some.inj (hx529_2.symm.trans hx531_2); injection ea_ with ea_ en_ ec_; subst ea_; subst ec_; clear en_; have ea_ := Option.some.inj (hx529_3.symm.trans hx531_3); injection ea_ with ea_ en_ ec_; subst ea_; subst ec_; clear en_) | (go_at_call 58; (with_reducible refine (r11_weight.calls k1 _ _ ((rd_T41 l0_2 a2).f2) x9_1 t532 _ ?side1 ?side2 A11.out).mono ?_); (case side1 => repeat (first | exact (Kd.C_below HR531_2.out (bB1 HB.out GE527.out)) | (with_reducible refine Kd.C_alloc ?_ _) | (with_reducible refine Kd.C_drewN ?_ _) | (with_reducible refine Kd.C_drew ?_))); (case side2 => exact HC531_2.out); rintro e w' ⟨rfl, ⟨nd, rfl⟩⟩; (try first | exact ⟨rfl, _, World.drewN_drewN _ _ _⟩ | exact ⟨rfl, _, Eq.trans (World.drewN_drewN _ _ _) (congrArg (World.drewN _) (Nat.add_assoc _ _ _))⟩))); try go_wp2_with (first | (go_at_call 58; (with_reducible refine (r11_weight.calls k1 _ _ ((rd_T41 l0_2 a2).f1) x9_1 t530 _ ?side1 ?side2 A10.out).mono ?_); (case side1 => exact cB HR529_1.out HB.out); (case side2 => exact HC529_1.out); rintro e w' ⟨rfl, ⟨nd, rfl⟩⟩; (try first | exact ⟨rfl, _, World.drewN_drewN _ _ _⟩ | exact ⟨rfl, _, Eq.trans (World.drewN_drewN _ _ _) (congrArg (World.drewN _) (Nat.add_assoc _ _ _))⟩); obtain ⟨p531, q531, ad531, A531_1, c531_1, A531_2, c531_2, A531_3, c531_3, e531, hx531_0, hx531_1, hx531_2, hx531_3, hx531_4, hl531_1, hi531_1, hl531_2, hi531_2, hl531_3, hi531_3⟩ := aT (at_T41 HR0_2.out a2); obtain rfl : ad529 = ad531 := (by injection e531); try replace hx531_0 := kX HB.out hx531_0; try replace hx531_1 := kX HB.out hx531_1; try replace hx531_2 := kX HB.out hx531_2; try replace hx531_3 := kX HB.out hx531_3; try replace hx531_4 := kX HB.out hx531_4; have HR531_1 := aM hi531_1; have HC531_1 := aM hl531_1; clear hi531_1 hl531_1; have HR531_2 := aM hi531_2; have HC531_2 := aM hl531_2; clear hi531_2 hl531_2; have HR531_3 := aM hi531_3; have HC531_3 := aM hl531_3; clear hi531_3 hl531_3; have ea_ := Option.some.inj (hx529_1.symm.trans hx531_1); injection ea_ with ea_ en_ ec_; subst ea_; subst ec_; clear en_; have ea_ := Option.some.inj (hx529_2.symm.trans hx531_2); injection ea_ with ea_ en_ ec_; subst ea_; subst ec_; clear en_; have ea_ := Option.some.inj (hx529_3.symm.trans hx531_3); injection ea_ with ea_ en_ ec_; subst ea_; subst ec_; clear en_) | (go_at_call 58; (with_reducible refine (r11_weight.calls k1 _ _ ((rd_T41 l0_2 a2).f2) x9_1 t532 _ ?side1 ?side2 A11.out).mono ?_); (case side1 => repeat (first | exact (Kd.C_below HR531_2.out (bB1 HB.out GE527.out)) | (with_reducible refine Kd.C_alloc ?_ _) | (with_reducible refine Kd.C_drewN ?_ _) | (with_reducible refine Kd.C_drew ?_))); (case side2 => exact HC531_2.out); rintro e w' ⟨rfl, ⟨nd, rfl⟩⟩; (try first | exact ⟨rfl, _, World.drewN_drewN _ _ _⟩ | exact ⟨rfl, _, Eq.trans (World.drewN_drewN _ _ _) (congrArg (World.drewN _) (Nat.add_assoc _ _ _))⟩))))
   go_ret2
   exact ⟨_, rT, nT, bB1 HB.out GE527.out⟩
  rw [if_neg c12] at H; have c12b0 : decide (1048576 < (wrap64 ((wrap64 ((rd l1 x9_1) - t530)) + t532))) = false := decide_eq_false c12
  try have c12b6 := c12b0
  try simp only [← i64_w] at c12b6
  clear c12
  obtain ⟨c14, H⟩ := iP H; have LMc14 := aM c14; clear c14
  obtain ⟨y533, hy533⟩ : ∃ y_ : List Int, y_ = (x8_1 ++ [wrap64 ((wrap64 ((rd l1 x9_1) - t530)) + t532)]) := ⟨_, rfl⟩
  replace H : (r11_After.l0 k1 l1 a2 y533 (wrap64 (x9_1 + 1)) a0_0 l0_1 l0_2) = some (r1, r2) := yT hy533 H
  have Ny533 := aM hy533; clear hy533
  have H' := aM H
  clear H
  have hcz15_0 : wr.cell? ⟨gb527, 0, none⟩ = some (.string a0_0) := (blk_cell BK527.out 0).trans rfl
  have hcz15_1 : wr.cell? ⟨gb527, 1, none⟩ = some (.slice A0_1 l0_1.length c0_1) := (blk_cell BK527.out 1).trans rfl
  have hcz15_2 : wr.cell? ⟨gb527, 2, none⟩ = some (.slice A0_2 l0_2.length c0_2) := (blk_cell BK527.out 2).trans rfl
  have hfz15_0 := blk_frozen BK527.out 0; have hfz15_1 := blk_frozen BK527.out 1; have hfz15_2 := blk_frozen BK527.out 2; obtain ⟨p528, q528, ad528, e528, hx528_0⟩ := aT (Kd.at_int HR1.out x9_1); cases e528
  try replace hx528_0 := kX HB.out hx528_0; obtain ⟨p529, q529, ad529, A529_1, c529_1, A529_2, c529_2, A529_3, c529_3, e529, hx529_0, hx529_1, hx529_2, hx529_3, hx529_4, hl529_1, hi529_1, hl529_2, hi529_2, hl529_3, hi529_3⟩ := aT (at_T41 HR0_2.out a2); cases e529
  try replace hx529_0 := kX HB.out hx529_0
  try replace hx529_1 := kX HB.out hx529_1
  try replace hx529_2 := kX HB.out hx529_2
  try replace hx529_3 := kX HB.out hx529_3
  try replace hx529_4 := kX HB.out hx529_4
  have HR529_1 := aM hi529_1; have HC529_1 := aM hl529_1; clear hi529_1 hl529_1; have HR529_2 := aM hi529_2; have HC529_2 := aM hl529_2; clear hi529_2 hl529_2; have HR529_3 := aM hi529_3; have HC529_3 := aM hl529_3; clear hi529_3 hl529_3
  go_wp2_with (first | (go_at_call 58; (with_reducible refine (r11_weight.calls k1 _ _ ((rd_T41 l0_2 a2).f1) x9_1 t530 _ ?side1 ?side2 A10.out).mono ?_); (case side1 => exact cB HR529_1.out HB.out); (case side2 => exact HC529_1.out); rintro e w' ⟨rfl, ⟨nd, rfl⟩⟩; (try first | exact ⟨rfl, _, World.drewN_drewN _ _ _⟩ | exact ⟨rfl, _, Eq.trans (World.drewN_drewN _ _ _) (congrArg (World.drewN _) (Nat.add_assoc _ _ _))⟩); obtain ⟨p531, q531, ad531, A531_1, c531_1, A531_2, c531_2, A531_3, c531_3, e531, hx531_0, hx531_1, hx531_2, hx531_3, hx531_4, hl531_1, hi531_1, hl531_2, hi531_2, hl531_3, hi531_3⟩ := aT (at_T41 HR0_2.out a2); obtain rfl : ad529 = ad531 := (by injection e531); try replace hx531_0 := kX HB.out hx531_0; try replace hx531_1 := kX HB.out hx531_1; try replace hx531_2 := kX HB.out hx531_2; try replace hx531_3 := kX HB.out hx531_3; try replace hx531_4 := kX HB.out hx531_4; have HR531_1 := aM hi531_1; have HC531_1 := aM hl531_1; clear hi531_1 hl531_1; have HR531_2 := aM hi531_2; have HC531_2 := aM hl531_2; clear hi531_2 hl531_2; have HR531_3 := aM hi531_3; have HC531_3 := aM hl531_3; clear hi531_3 hl531_3; have ea_ := Option.some.inj (hx529_1.symm.trans hx531_1); injection ea_ with ea_ en_ ec_; subst ea_; subst ec_; clear en_; have ea_ := Option.some.inj (hx529_2.symm.trans hx531_2); injection ea_ with ea_ en_ ec_; subst ea_; subst ec_; clear en_; have ea_ := Option.some.inj (hx529_3.symm.trans hx531_3); injection ea_ with ea_ en_ ec_; subst ea_; subst ec_; clear en_) | (go_at_call 58; (with_reducible refine (r11_weight.calls k1 _ _ ((rd_T41 l0_2 a2).f2) x9_1 t532 _ ?side1 ?side2 A11.out).mono ?_); (case side1 => repeat (first | exact (Kd.C_below HR531_2.out (bB1 HB.out GE527.out)) | (with_reducible refine Kd.C_alloc ?_ _) | (with_reducible refine Kd.C_drewN ?_ _) | (with_reducible refine Kd.C_drew ?_))); (case side2 => exact HC531_2.out); rintro e w' ⟨rfl, ⟨nd, rfl⟩⟩; (try first | exact ⟨rfl, _, World.drewN_drewN _ _ _⟩ | exact ⟨rfl, _, Eq.trans (World.drewN_drewN _ _ _) (congrArg (World.drewN _) (Nat.add_assoc _ _ _))⟩)) | ((with_reducible refine gate_builtin (b := .append) (xs := #[.tmp 42, .tmp 44]) rfl ?_); at_builtin; refine Kd.R_append (Kd.int .i64) (w0 := w) w.heap.size rfl (.tmp 42) (.tmp 44) 36 3 (.int .i64 0) 8 rfl Tryd.underlying36 info3 rfl (by decide) (by omega) u8 x8_1 (wrap64 ((wrap64 ((rd l1 x9_1) - t530)) + t532)) [.int .i64 (wrap64 ((wrap64 ((rd l1 x9_1) - t530)) + t532))] (fun _ => True) (fun _ => False) rfl rfl ?aP (fun _ hk => hk.elim) ?aF ?aO ?aB ?aS ?aL ?_; (case aP => exact rfl); (case aB => exact (bB1 HB.out GE527.out)); (case aF => exact (fun _ _ => trivial)); (case aO => exact (oR HO_8.out)); (case aS => exact (below_size (bB1 HB.out GE527.out))); (case aL => have := LMc14.out; omega); intro v534 w16 ho hb hg hat; rw [← Ny533.out] at ho; replace BK527 := aM (blk_grown (g := gb527) (o := .cells #[.string a0_0, .slice A0_1 l0_1.length c0_1, .slice (some ad529) l0_2.length c0_2] 28 (0, 0)) (kB BK527.out) hg (Kd.R_ne HO_8.out BK527.out (by decide))); replace HB := aM (hb); have HO535 := aM (ho); clear HO_8; clear ho hb hg hat))
  repeat (go_quiet (first | (go_at_call 58; (with_reducible refine (r11_weight.calls k1 _ _ ((rd_T41 l0_2 a2).f1) x9_1 t530 _ ?side1 ?side2 A10.out).mono ?_); (case side1 => exact cB HR529_1.out HB.out); (case side2 => exact HC529_1.out); rintro e w' ⟨rfl, ⟨nd, rfl⟩⟩; (try first | exact ⟨rfl, _, World.drewN_drewN _ _ _⟩ | exact ⟨rfl, _, Eq.trans (World.drewN_drewN _ _ _) (congrArg (World.drewN _) (Nat.add_assoc _ _ _))⟩); obtain ⟨p531, q531, ad531, A531_1, c531_1, A531_2, c531_2, A531_3, c531_3, e531, hx531_0, hx531_1, hx531_2, hx531_3, hx531_4, hl531_1, hi531_1, hl531_2, hi531_2, hl531_3, hi531_3⟩ := aT (at_T41 HR0_2.out a2); obtain rfl : ad529 = ad531 := (by injection e531); try replace hx531_0 := kX HB.out hx531_0; try replace hx531_1 := kX HB.out hx531_1; try replace hx531_2 := kX HB.out hx531_2; try replace hx531_3 := kX HB.out hx531_3; try replace hx531_4 := kX HB.out hx531_4; have HR531_1 := aM hi531_1; have HC531_1 := aM hl531_1; clear hi531_1 hl531_1; have HR531_2 := aM hi531_2; have HC531_2 := aM hl531_2; clear hi531_2 hl531_2; have HR531_3 := aM hi531_3; have HC531_3 := aM hl531_3; clear hi531_3 hl531_3; have ea_ := Option.some.inj (hx529_1.symm.trans hx531_1); injection ea_ with ea_ en_ ec_; subst ea_; subst ec_; clear en_; have ea_ := Option.some.inj (hx529_2.symm.trans hx531_2); injection ea_ with ea_ en_ ec_; subst ea_; subst ec_; clear en_; have ea_ := Option.some.inj (hx529_3.symm.trans hx531_3); injection ea_ with ea_ en_ ec_; subst ea_; subst ec_; clear en_) | (go_at_call 58; (with_reducible refine (r11_weight.calls k1 _ _ ((rd_T41 l0_2 a2).f2) x9_1 t532 _ ?side1 ?side2 A11.out).mono ?_); (case side1 => repeat (first | exact (Kd.C_below HR531_2.out (bB1 HB.out GE527.out)) | (with_reducible refine Kd.C_alloc ?_ _) | (with_reducible refine Kd.C_drewN ?_ _) | (with_reducible refine Kd.C_drew ?_))); (case side2 => exact HC531_2.out); rintro e w' ⟨rfl, ⟨nd, rfl⟩⟩; (try first | exact ⟨rfl, _, World.drewN_drewN _ _ _⟩ | exact ⟨rfl, _, Eq.trans (World.drewN_drewN _ _ _) (congrArg (World.drewN _) (Nat.add_assoc _ _ _))⟩)) | ((with_reducible refine gate_builtin (b := .append) (xs := #[.tmp 42, .tmp 44]) rfl ?_); at_builtin; refine Kd.R_append (Kd.int .i64) (w0 := w) w.heap.size rfl (.tmp 42) (.tmp 44) 36 3 (.int .i64 0) 8 rfl Tryd.underlying36 info3 rfl (by decide) (by omega) u8 x8_1 (wrap64 ((wrap64 ((rd l1 x9_1) - t530)) + t532)) [.int .i64 (wrap64 ((wrap64 ((rd l1 x9_1) - t530)) + t532))] (fun _ => True) (fun _ => False) rfl rfl ?aP (fun _ hk => hk.elim) ?aF ?aO ?aB ?aS ?aL ?_; (case aP => exact rfl); (case aB => exact (bB1 HB.out GE527.out)); (case aF => exact (fun _ _ => trivial)); (case aO => exact (oR HO_8.out)); (case aS => exact (below_size (bB1 HB.out GE527.out))); (case aL => have := LMc14.out; omega); intro v534 w16 ho hb hg hat; rw [← Ny533.out] at ho; replace BK527 := aM (blk_grown (g := gb527) (o := .cells #[.string a0_0, .slice A0_1 l0_1.length c0_1, .slice (some ad529) l0_2.length c0_2] 28 (0, 0)) (kB BK527.out) hg (Kd.R_ne HO_8.out BK527.out (by decide))); replace HB := aM (hb); have HO535 := aM (ho); clear HO_8; clear ho hb hg hat)); try go_wp2_with (first | (go_at_call 58; (with_reducible refine (r11_weight.calls k1 _ _ ((rd_T41 l0_2 a2).f1) x9_1 t530 _ ?side1 ?side2 A10.out).mono ?_); (case side1 => exact cB HR529_1.out HB.out); (case side2 => exact HC529_1.out); rintro e w' ⟨rfl, ⟨nd, rfl⟩⟩; (try first | exact ⟨rfl, _, World.drewN_drewN _ _ _⟩ | exact ⟨rfl, _, Eq.trans (World.drewN_drewN _ _ _) (congrArg (World.drewN _) (Nat.add_assoc _ _ _))⟩); obtain ⟨p531, q531, ad531, A531_1, c531_1, A531_2, c531_2, A531_3, c531_3, e531, hx531_0, hx531_1, hx531_2, hx531_3, hx531_4, hl531_1, hi531_1, hl531_2, hi531_2, hl531_3, hi531_3⟩ := aT (at_T41 HR0_2.out a2); obtain rfl : ad529 = ad531 := (by injection e531); try replace hx531_0 := kX HB.out hx531_0; try replace hx531_1 := kX HB.out hx531_1; try replace hx531_2 := kX HB.out hx531_2; try replace hx531_3 := kX HB.out hx531_3; try replace hx531_4 := kX HB.out hx531_4; have HR531_1 := aM hi531_1; have HC531_1 := aM hl531_1; clear hi531_1 hl531_1; have HR531_2 := aM hi531_2; have HC531_2 := aM hl531_2; clear hi531_2 hl531_2; have HR531_3 := aM hi531_3; have HC531_3 := aM hl531_3; clear hi531_3 hl531_3; have ea_ := Option.some.inj (hx529_1.symm.trans hx531_1); injection ea_ with ea_ en_ ec_; subst ea_; subst ec_; clear en_; have ea_ := Option.some.inj (hx529_2.symm.trans hx531_2); injection ea_ with ea_ en_ ec_; subst ea_; subst ec_; clear en_; have ea_ := Option.some.inj (hx529_3.symm.trans hx531_3); injection ea_ with ea_ en_ ec_; subst ea_; subst ec_; clear en_) | (go_at_call 58; (with_reducible refine (r11_weight.calls k1 _ _ ((rd_T41 l0_2 a2).f2) x9_1 t532 _ ?side1 ?side2 A11.out).mono ?_); (case side1 => repeat (first | exact (Kd.C_below HR531_2.out (bB1 HB.out GE527.out)) | (with_reducible refine Kd.C_alloc ?_ _) | (with_reducible refine Kd.C_drewN ?_ _) | (with_reducible refine Kd.C_drew ?_))); (case side2 => exact HC531_2.out); rintro e w' ⟨rfl, ⟨nd, rfl⟩⟩; (try first | exact ⟨rfl, _, World.drewN_drewN _ _ _⟩ | exact ⟨rfl, _, Eq.trans (World.drewN_drewN _ _ _) (congrArg (World.drewN _) (Nat.add_assoc _ _ _))⟩)) | ((with_reducible refine gate_builtin (b := .append) (xs := #[.tmp 42, .tmp 44]) rfl ?_); at_builtin; refine Kd.R_append (Kd.int .i64) (w0 := w) w.heap.size rfl (.tmp 42) (.tmp 44) 36 3 (.int .i64 0) 8 rfl Tryd.underlying36 info3 rfl (by decide) (by omega) u8 x8_1 (wrap64 ((wrap64 ((rd l1 x9_1) - t530)) + t532)) [.int .i64 (wrap64 ((wrap64 ((rd l1 x9_1) - t530)) + t532))] (fun _ => True) (fun _ => False) rfl rfl ?aP (fun _ hk => hk.elim) ?aF ?aO ?aB ?aS ?aL ?_; (case aP => exact rfl); (case aB => exact (bB1 HB.out GE527.out)); (case aF => exact (fun _ _ => trivial)); (case aO => exact (oR HO_8.out)); (case aS => exact (below_size (bB1 HB.out GE527.out))); (case aL => have := LMc14.out; omega); intro v534 w16 ho hb hg hat; rw [← Ny533.out] at ho; replace BK527 := aM (blk_grown (g := gb527) (o := .cells #[.string a0_0, .slice A0_1 l0_1.length c0_1, .slice (some ad529) l0_2.length c0_2] 28 (0, 0)) (kB BK527.out) hg (Kd.R_ne HO_8.out BK527.out (by decide))); replace HB := aM (hb); have HO535 := aM (ho); clear HO_8; clear ho hb hg hat)))
  go_roundg k1
  case measure => have := HK1.out; omega
  case rel => exact ⟨(y533), (wrap64 (x9_1 + 1)), eT, H', ⟨by have := HK1.out; omega⟩, ⟨oR HO535.out⟩, ⟨kB BK527.out⟩, ⟨bB1 HB.out GE527.out⟩⟩


section
-- STUBBED 16
/-! ### r11_Fire: function 16: by hand -/
open Go.Proofs.YtejchnmhlcbfcaaDoor.Iter
attribute [local go_sem] Instr.field asAgg
def r11_Fire.f (k : Nat) (a0_0 : ByteArray) (l0_1 : List S59) (l0_2 : List S41) (l1 : List Int) (a2 : Int) : Option (List Int × Int) := (r09_Check.f k a0_0 l0_1 l0_2).bind fun e => if e.1 = 0 then (r04_Valid.f k l1 (l0_1.length : Int)).bind fun v => if v = true then (if a2 < 0 then some ([], 1) else if (l0_2.length : Int) ≤ a2 then some ([], 1) else (r11_Fires.f k a0_0 l0_1 l0_2 l1).bind fun fs => (r11_has.f k fs a2).bind fun b => if b = true then (r11_After.f k a0_0 l0_1 l0_2 l1 a2).bind fun x => (if x.2 = true then some (x.1, 0) else some ([], 3)) else some ([], 13)) else some ([], 2) else some ([], e.1)
theorem r11_Fire.mono (a0 : ByteArray) (a1 : List S59) (a2 : List S41) (a3 : List Int) (a4 : Int) (k : Nat) : LeO (r11_Fire.f k a0 a1 a2 a3 a4) (r11_Fire.f (k + 1) a0 a1 a2 a3 a4) := by
 unfold r11_Fire.f
 refine LeO.bind (r09_Check.mono _ _ _ _) fun e => LeO.ite (LeO.bind (r04_Valid.mono _ _ _) fun v => LeO.ite (LeO.ite (LeO.refl _) (LeO.ite (LeO.refl _) (LeO.bind (r11_Fires.mono _ _ _ _ _) fun fs => LeO.bind (r11_has.mono _ _ _) fun b => LeO.ite (LeO.bind (r11_After.mono _ _ _ _ _ _) fun x => LeO.refl _) (LeO.refl _)))) (LeO.refl _)) (LeO.refl _)
theorem rf3 {W : World} {g : Nat} {t : TypeId} {x y z : Value} (h : Blk W g t [x, y, z]) : W.cell? ⟨g, 0, none⟩ = some x ∧ W.cell? ⟨g, 1, none⟩ = some y ∧ W.cell? ⟨g, 2, none⟩ = some z := by
 refine ⟨?_, ?_, ?_⟩ <;> simp [World.cell?, show W.heap[g]? = _ from h]
set_option maxHeartbeats 16000000 in
set_option maxRecDepth 100000 in
theorem r11_Fire.calls (k : Nat) (a0_0 : ByteArray) (A0_1 : Option Addr) (c0_1 : Nat) (l0_1 : List S59) (A0_2 : Option Addr) (c0_2 : Nat) (l0_2 : List S41) (A1 : Option Addr) (c1 : Nat) (l1 : List Int) (a2 : Int) (r1 : List Int) (r2 : Int) (w : World) (hr0_1 : Kd.C k59 w A0_1 l0_1.length l0_1) (hc0_1 : l0_1.length ≤ c0_1) (hr0_2 : Kd.C k41 w A0_2 l0_2.length l0_2) (hc0_2 : l0_2.length ≤ c0_2) (hr1 : Kd.C (Kd.int .i64) w A1 l1.length l1) (hc1 : l1.length ≤ c1) (h : r11_Fire.f k a0_0 l0_1 l0_2 l1 a2 = some (r1, r2)) :
  Calls Tryd.prog 16 #[.agg #[.string a0_0, .slice A0_1 l0_1.length c0_1, .slice A0_2 l0_2.length c0_2], .slice A1 l1.length c1, .int .i64 a2] w fun e w' => ∃ v0_ : Value, e = .returned (.tuple #[v0_, .int .i64 r2]) ∧ Kd.R (Kd.int .i64) 3 w' w.heap.size (fun _ => True) v0_ r1 ∧ Below w.heap.size w w' := by
 have HR1 := aM hr0_1
 have HC1 := aM hc0_1
 have HR2 := aM hr0_2
 have HC2 := aM hc0_2
 have HR3 := aM hr1
 have HC3 := aM hc1
 clear hr0_1 hc0_1 hr0_2 hc0_2 hr1 hc1
 unfold r11_Fire.f at h
 obtain ⟨⟨er, at_⟩, hk, h⟩ := Option.bind_eq_some_iff.mp h
 have HK := aM hk
 clear hk
 dsimp only at h
 by_cases her : er = 0
 ·subst her
  rw [if_pos rfl] at h
  obtain ⟨v, hv, h⟩ := Option.bind_eq_some_iff.mp h
  have HV := aM hv
  clear hv
  cases v with
  | false =>
   rw [if_neg (by simp)] at h
   simp only [Option.some.injEq, Prod.mk.injEq] at h
   obtain ⟨rfl, rfl⟩ := h
   go_enter Tryd.func16, Tryd.ntmps16
   go_wp2_with (first | (go_at_call 36; (with_reducible refine (r09_Check.calls k _ A0_1 c0_1 l0_1 A0_2 c0_2 l0_2 0 at_ _ (Kd.C_alloc HR1.out _) HC1.out (Kd.C_alloc HR2.out _) HC2.out HK.out).mono ?_); rintro e w1 ⟨rfl, hb1⟩; have HS1 := aM (show Blk w1 w.heap.size 28 [.string a0_0, .slice A0_1 l0_1.length c0_1, .slice A0_2 l0_2.length c0_2] from blk_later (World.alloc_heap_new w (.cells #[.string a0_0, .slice A0_1 l0_1.length c0_1, .slice A0_2 l0_2.length c0_2] 28)) hb1); have HB1 := aM (show Below w.heap.size w w1 from ((Below.refl _ w).alloc (Nat.le_refl _) _).trans (hb1.mono (by simp))); have hs1 := HB1.out.size; have hS0 := (fun o => (rf3 (blk_alloc HS1.out o)).1); have hS1 := (fun o => (rf3 (blk_alloc HS1.out o)).2.1); have hS2 := (fun o => (rf3 (blk_alloc HS1.out o)).2.2); clear hb1) | (go_at_call 39; (with_reducible refine (r04_Valid.calls k A1 c1 l1 _ false _ ?c3 HC3.out HV.out).mono ?_); (case c3 => repeat (first | exact (Kd.C_below HR3.out HB1.out) | (with_reducible refine Kd.C_alloc ?_ _) | (with_reducible refine Kd.C_drewN ?_ _) | (with_reducible refine Kd.C_drew ?_))); rintro e w' ⟨rfl, ⟨nd, rfl⟩⟩))
   refine bodyPost_ret (results_tmp2 rfl _ _ _) rfl ?_
   exact ⟨_, rfl, Kd.R_nil _ _ _ _ _, by repeat (first | exact HB1.out | apply below_alloc | apply pw_below_drewN | apply below_drew1)⟩
  | true =>
   rw [if_pos rfl] at h
   by_cases t0 : a2 < 0
   ·rw [if_pos t0] at h
    simp only [Option.some.injEq, Prod.mk.injEq] at h
    obtain ⟨rfl, rfl⟩ := h
    have q0 : decide (a2 < 0) = true := decide_eq_true t0
    clear t0
    go_enter Tryd.func16, Tryd.ntmps16
    go_wp2_with (first | (go_at_call 36; (with_reducible refine (r09_Check.calls k _ A0_1 c0_1 l0_1 A0_2 c0_2 l0_2 0 at_ _ (Kd.C_alloc HR1.out _) HC1.out (Kd.C_alloc HR2.out _) HC2.out HK.out).mono ?_); rintro e w1 ⟨rfl, hb1⟩; have HS1 := aM (show Blk w1 w.heap.size 28 [.string a0_0, .slice A0_1 l0_1.length c0_1, .slice A0_2 l0_2.length c0_2] from blk_later (World.alloc_heap_new w (.cells #[.string a0_0, .slice A0_1 l0_1.length c0_1, .slice A0_2 l0_2.length c0_2] 28)) hb1); have HB1 := aM (show Below w.heap.size w w1 from ((Below.refl _ w).alloc (Nat.le_refl _) _).trans (hb1.mono (by simp))); have hs1 := HB1.out.size; have hS0 := (fun o => (rf3 (blk_alloc HS1.out o)).1); have hS1 := (fun o => (rf3 (blk_alloc HS1.out o)).2.1); have hS2 := (fun o => (rf3 (blk_alloc HS1.out o)).2.2); clear hb1) | (go_at_call 39; (with_reducible refine (r04_Valid.calls k A1 c1 l1 _ true _ ?c3 HC3.out HV.out).mono ?_); (case c3 => repeat (first | exact (Kd.C_below HR3.out HB1.out) | (with_reducible refine Kd.C_alloc ?_ _) | (with_reducible refine Kd.C_drewN ?_ _) | (with_reducible refine Kd.C_drew ?_))); rintro e w' ⟨rfl, ⟨nd, rfl⟩⟩))
    refine bodyPost_ret (results_tmp2 rfl _ _ _) rfl ?_
    exact ⟨_, rfl, Kd.R_nil _ _ _ _ _, by repeat (first | exact HB1.out | apply below_alloc | apply pw_below_drewN | apply below_drew1)⟩
   ·rw [if_neg t0] at h
    have q0 : decide (a2 < 0) = false := decide_eq_false t0
    clear t0
    by_cases t1 : (l0_2.length : Int) ≤ a2
    ·rw [if_pos t1] at h
     simp only [Option.some.injEq, Prod.mk.injEq] at h
     obtain ⟨rfl, rfl⟩ := h
     have q1 : decide ((l0_2.length : Int) ≤ a2) = true := decide_eq_true t1
     clear t1
     go_enter Tryd.func16, Tryd.ntmps16
     go_wp2_with (first | (go_at_call 36; (with_reducible refine (r09_Check.calls k _ A0_1 c0_1 l0_1 A0_2 c0_2 l0_2 0 at_ _ (Kd.C_alloc HR1.out _) HC1.out (Kd.C_alloc HR2.out _) HC2.out HK.out).mono ?_); rintro e w1 ⟨rfl, hb1⟩; have HS1 := aM (show Blk w1 w.heap.size 28 [.string a0_0, .slice A0_1 l0_1.length c0_1, .slice A0_2 l0_2.length c0_2] from blk_later (World.alloc_heap_new w (.cells #[.string a0_0, .slice A0_1 l0_1.length c0_1, .slice A0_2 l0_2.length c0_2] 28)) hb1); have HB1 := aM (show Below w.heap.size w w1 from ((Below.refl _ w).alloc (Nat.le_refl _) _).trans (hb1.mono (by simp))); have hs1 := HB1.out.size; have hS0 := (fun o => (rf3 (blk_alloc HS1.out o)).1); have hS1 := (fun o => (rf3 (blk_alloc HS1.out o)).2.1); have hS2 := (fun o => (rf3 (blk_alloc HS1.out o)).2.2); clear hb1) | (go_at_call 39; (with_reducible refine (r04_Valid.calls k A1 c1 l1 _ true _ ?c3 HC3.out HV.out).mono ?_); (case c3 => repeat (first | exact (Kd.C_below HR3.out HB1.out) | (with_reducible refine Kd.C_alloc ?_ _) | (with_reducible refine Kd.C_drewN ?_ _) | (with_reducible refine Kd.C_drew ?_))); rintro e w' ⟨rfl, ⟨nd, rfl⟩⟩))
     refine bodyPost_ret (results_tmp2 rfl _ _ _) rfl ?_
     exact ⟨_, rfl, Kd.R_nil _ _ _ _ _, by repeat (first | exact HB1.out | apply below_alloc | apply pw_below_drewN | apply below_drew1)⟩
    ·rw [if_neg t1] at h
     have q1 : decide ((l0_2.length : Int) ≤ a2) = false := decide_eq_false t1
     clear t1
     obtain ⟨fs, hf, h⟩ := Option.bind_eq_some_iff.mp h
     obtain ⟨b, hb, h⟩ := Option.bind_eq_some_iff.mp h
     have HF := aM hf
     have HH := aM hb
     clear hf hb
     cases b with
     | false =>
      rw [if_neg (by simp)] at h
      simp only [Option.some.injEq, Prod.mk.injEq] at h
      obtain ⟨rfl, rfl⟩ := h
      go_enter Tryd.func16, Tryd.ntmps16
      go_wp2_with (first | (go_at_call 36; (with_reducible refine (r09_Check.calls k _ A0_1 c0_1 l0_1 A0_2 c0_2 l0_2 0 at_ _ (Kd.C_alloc HR1.out _) HC1.out (Kd.C_alloc HR2.out _) HC2.out HK.out).mono ?_); rintro e w1 ⟨rfl, hb1⟩; have HS1 := aM (show Blk w1 w.heap.size 28 [.string a0_0, .slice A0_1 l0_1.length c0_1, .slice A0_2 l0_2.length c0_2] from blk_later (World.alloc_heap_new w (.cells #[.string a0_0, .slice A0_1 l0_1.length c0_1, .slice A0_2 l0_2.length c0_2] 28)) hb1); have HB1 := aM (show Below w.heap.size w w1 from ((Below.refl _ w).alloc (Nat.le_refl _) _).trans (hb1.mono (by simp))); have hs1 := HB1.out.size; have hS0 := (fun o => (rf3 (blk_alloc HS1.out o)).1); have hS1 := (fun o => (rf3 (blk_alloc HS1.out o)).2.1); have hS2 := (fun o => (rf3 (blk_alloc HS1.out o)).2.2); clear hb1) | (go_at_call 39; (with_reducible refine (r04_Valid.calls k A1 c1 l1 _ true _ ?c3 HC3.out HV.out).mono ?_); (case c3 => repeat (first | exact (Kd.C_below HR3.out HB1.out) | (with_reducible refine Kd.C_alloc ?_ _) | (with_reducible refine Kd.C_drewN ?_ _) | (with_reducible refine Kd.C_drew ?_))); rintro e w' ⟨rfl, ⟨nd, rfl⟩⟩) | (go_at_call 38; (with_reducible refine (r11_Fires.calls k _ A0_1 c0_1 l0_1 A0_2 c0_2 l0_2 A1 c1 l1 fs _ ?c1 HC1.out ?c2 HC2.out ?c3 HC3.out HF.out).mono ?_); (case c1 => repeat (first | exact (Kd.C_below HR1.out HB1.out) | (with_reducible refine Kd.C_alloc ?_ _) | (with_reducible refine Kd.C_drewN ?_ _) | (with_reducible refine Kd.C_drew ?_))); (case c2 => repeat (first | exact (Kd.C_below HR2.out HB1.out) | (with_reducible refine Kd.C_alloc ?_ _) | (with_reducible refine Kd.C_drewN ?_ _) | (with_reducible refine Kd.C_drew ?_))); (case c3 => repeat (first | exact (Kd.C_below HR3.out HB1.out) | (with_reducible refine Kd.C_alloc ?_ _) | (with_reducible refine Kd.C_drewN ?_ _) | (with_reducible refine Kd.C_drew ?_))); rintro e w5 ⟨v5, rfl, hO5, hb5⟩; have HB5 := aM (below_step (show Below w.heap.size w _ from (by repeat (first | exact HB1.out | apply below_alloc | apply pw_below_drewN | apply below_drew1))) hb5); have HS5 := aM (blk_later (show Blk _ w.heap.size 28 [.string a0_0, .slice A0_1 l0_1.length c0_1, .slice A0_2 l0_2.length c0_2] from (by unfold Blk; refine kR ?_; exact HS1.out)) hb5); have HO5 := aM hO5; obtain ⟨Ao, co, hv5, hle5, _⟩ := Kd.R_reads hO5; have hs5 := HB5.out.size; obtain ⟨u0, u1, u2⟩ := rf3 HS5.out; clear hb5 hO5; subst hv5) | (go_at_call 40; (with_reducible refine (r11_has.calls k Ao co fs a2 false _ ?c4 hle5 HH.out).mono ?_); (case c4 => repeat (first | exact (Kd.R_reads' HO5.out).2.2 | (with_reducible refine Kd.C_drewN ?_ _) | (with_reducible refine Kd.C_drew ?_))); rintro e w' ⟨rfl, ⟨nd2, rfl⟩⟩))
      refine bodyPost_ret (results_tmp2 rfl _ _ _) rfl ?_
      exact ⟨_, rfl, Kd.R_nil _ _ _ _ _, by repeat (first | exact HB5.out | apply below_alloc | apply pw_below_drewN | apply below_drew1)⟩
     | true =>
      rw [if_pos rfl] at h
      obtain ⟨⟨x, y⟩, ha, h⟩ := Option.bind_eq_some_iff.mp h
      have HA := aM ha
      clear ha
      dsimp only at h
      cases y with
      | false =>
       rw [if_neg (by simp)] at h
       simp only [Option.some.injEq, Prod.mk.injEq] at h
       obtain ⟨rfl, rfl⟩ := h
       go_enter Tryd.func16, Tryd.ntmps16
       go_wp2_with (first | (go_at_call 36; (with_reducible refine (r09_Check.calls k _ A0_1 c0_1 l0_1 A0_2 c0_2 l0_2 0 at_ _ (Kd.C_alloc HR1.out _) HC1.out (Kd.C_alloc HR2.out _) HC2.out HK.out).mono ?_); rintro e w1 ⟨rfl, hb1⟩; have HS1 := aM (show Blk w1 w.heap.size 28 [.string a0_0, .slice A0_1 l0_1.length c0_1, .slice A0_2 l0_2.length c0_2] from blk_later (World.alloc_heap_new w (.cells #[.string a0_0, .slice A0_1 l0_1.length c0_1, .slice A0_2 l0_2.length c0_2] 28)) hb1); have HB1 := aM (show Below w.heap.size w w1 from ((Below.refl _ w).alloc (Nat.le_refl _) _).trans (hb1.mono (by simp))); have hs1 := HB1.out.size; have hS0 := (fun o => (rf3 (blk_alloc HS1.out o)).1); have hS1 := (fun o => (rf3 (blk_alloc HS1.out o)).2.1); have hS2 := (fun o => (rf3 (blk_alloc HS1.out o)).2.2); clear hb1) | (go_at_call 39; (with_reducible refine (r04_Valid.calls k A1 c1 l1 _ true _ ?c3 HC3.out HV.out).mono ?_); (case c3 => repeat (first | exact (Kd.C_below HR3.out HB1.out) | (with_reducible refine Kd.C_alloc ?_ _) | (with_reducible refine Kd.C_drewN ?_ _) | (with_reducible refine Kd.C_drew ?_))); rintro e w' ⟨rfl, ⟨nd, rfl⟩⟩) | (go_at_call 38; (with_reducible refine (r11_Fires.calls k _ A0_1 c0_1 l0_1 A0_2 c0_2 l0_2 A1 c1 l1 fs _ ?c1 HC1.out ?c2 HC2.out ?c3 HC3.out HF.out).mono ?_); (case c1 => repeat (first | exact (Kd.C_below HR1.out HB1.out) | (with_reducible refine Kd.C_alloc ?_ _) | (with_reducible refine Kd.C_drewN ?_ _) | (with_reducible refine Kd.C_drew ?_))); (case c2 => repeat (first | exact (Kd.C_below HR2.out HB1.out) | (with_reducible refine Kd.C_alloc ?_ _) | (with_reducible refine Kd.C_drewN ?_ _) | (with_reducible refine Kd.C_drew ?_))); (case c3 => repeat (first | exact (Kd.C_below HR3.out HB1.out) | (with_reducible refine Kd.C_alloc ?_ _) | (with_reducible refine Kd.C_drewN ?_ _) | (with_reducible refine Kd.C_drew ?_))); rintro e w5 ⟨v5, rfl, hO5, hb5⟩; have HB5 := aM (below_step (show Below w.heap.size w _ from (by repeat (first | exact HB1.out | apply below_alloc | apply pw_below_drewN | apply below_drew1))) hb5); have HS5 := aM (blk_later (show Blk _ w.heap.size 28 [.string a0_0, .slice A0_1 l0_1.length c0_1, .slice A0_2 l0_2.length c0_2] from (by unfold Blk; refine kR ?_; exact HS1.out)) hb5); have HO5 := aM hO5; obtain ⟨Ao, co, hv5, hle5, _⟩ := Kd.R_reads hO5; have hs5 := HB5.out.size; obtain ⟨u0, u1, u2⟩ := rf3 HS5.out; clear hb5 hO5; subst hv5) | (go_at_call 40; (with_reducible refine (r11_has.calls k Ao co fs a2 true _ ?c4 hle5 HH.out).mono ?_); (case c4 => repeat (first | exact (Kd.R_reads' HO5.out).2.2 | (with_reducible refine Kd.C_drewN ?_ _) | (with_reducible refine Kd.C_drew ?_))); rintro e w' ⟨rfl, ⟨nd2, rfl⟩⟩) | (go_at_call 41; (with_reducible refine (r11_After.calls k _ A0_1 c0_1 l0_1 A0_2 c0_2 l0_2 A1 c1 l1 a2 x false _ ?c1 HC1.out ?c2 HC2.out ?c3 HC3.out HA.out).mono ?_); (case c1 => repeat (first | exact (Kd.C_below HR1.out HB5.out) | (with_reducible refine Kd.C_alloc ?_ _) | (with_reducible refine Kd.C_drewN ?_ _) | (with_reducible refine Kd.C_drew ?_))); (case c2 => repeat (first | exact (Kd.C_below HR2.out HB5.out) | (with_reducible refine Kd.C_alloc ?_ _) | (with_reducible refine Kd.C_drewN ?_ _) | (with_reducible refine Kd.C_drew ?_))); (case c3 => repeat (first | exact (Kd.C_below HR3.out HB5.out) | (with_reducible refine Kd.C_alloc ?_ _) | (with_reducible refine Kd.C_drewN ?_ _) | (with_reducible refine Kd.C_drew ?_))); rintro e w7 ⟨v7, rfl, hO7, hb7⟩; have HB7 := aM (below_step (show Below w.heap.size w _ from (by repeat (first | exact HB5.out | apply below_alloc | apply pw_below_drewN | apply below_drew1))) hb7); have HO7 := aM hO7; clear hb7 hO7))
       refine bodyPost_ret (results_tmp2 rfl _ _ _) rfl ?_
       exact ⟨_, rfl, Kd.R_nil _ _ _ _ _, by repeat (first | exact HB7.out | apply below_alloc | apply pw_below_drewN | apply below_drew1)⟩
      | true =>
       rw [if_pos rfl] at h
       simp only [Option.some.injEq, Prod.mk.injEq] at h
       obtain ⟨rfl, rfl⟩ := h
       go_enter Tryd.func16, Tryd.ntmps16
       go_wp2_with (first | (go_at_call 36; (with_reducible refine (r09_Check.calls k _ A0_1 c0_1 l0_1 A0_2 c0_2 l0_2 0 at_ _ (Kd.C_alloc HR1.out _) HC1.out (Kd.C_alloc HR2.out _) HC2.out HK.out).mono ?_); rintro e w1 ⟨rfl, hb1⟩; have HS1 := aM (show Blk w1 w.heap.size 28 [.string a0_0, .slice A0_1 l0_1.length c0_1, .slice A0_2 l0_2.length c0_2] from blk_later (World.alloc_heap_new w (.cells #[.string a0_0, .slice A0_1 l0_1.length c0_1, .slice A0_2 l0_2.length c0_2] 28)) hb1); have HB1 := aM (show Below w.heap.size w w1 from ((Below.refl _ w).alloc (Nat.le_refl _) _).trans (hb1.mono (by simp))); have hs1 := HB1.out.size; have hS0 := (fun o => (rf3 (blk_alloc HS1.out o)).1); have hS1 := (fun o => (rf3 (blk_alloc HS1.out o)).2.1); have hS2 := (fun o => (rf3 (blk_alloc HS1.out o)).2.2); clear hb1) | (go_at_call 39; (with_reducible refine (r04_Valid.calls k A1 c1 l1 _ true _ ?c3 HC3.out HV.out).mono ?_); (case c3 => repeat (first | exact (Kd.C_below HR3.out HB1.out) | (with_reducible refine Kd.C_alloc ?_ _) | (with_reducible refine Kd.C_drewN ?_ _) | (with_reducible refine Kd.C_drew ?_))); rintro e w' ⟨rfl, ⟨nd, rfl⟩⟩) | (go_at_call 38; (with_reducible refine (r11_Fires.calls k _ A0_1 c0_1 l0_1 A0_2 c0_2 l0_2 A1 c1 l1 fs _ ?c1 HC1.out ?c2 HC2.out ?c3 HC3.out HF.out).mono ?_); (case c1 => repeat (first | exact (Kd.C_below HR1.out HB1.out) | (with_reducible refine Kd.C_alloc ?_ _) | (with_reducible refine Kd.C_drewN ?_ _) | (with_reducible refine Kd.C_drew ?_))); (case c2 => repeat (first | exact (Kd.C_below HR2.out HB1.out) | (with_reducible refine Kd.C_alloc ?_ _) | (with_reducible refine Kd.C_drewN ?_ _) | (with_reducible refine Kd.C_drew ?_))); (case c3 => repeat (first | exact (Kd.C_below HR3.out HB1.out) | (with_reducible refine Kd.C_alloc ?_ _) | (with_reducible refine Kd.C_drewN ?_ _) | (with_reducible refine Kd.C_drew ?_))); rintro e w5 ⟨v5, rfl, hO5, hb5⟩; have HB5 := aM (below_step (show Below w.heap.size w _ from (by repeat (first | exact HB1.out | apply below_alloc | apply pw_below_drewN | apply below_drew1))) hb5); have HS5 := aM (blk_later (show Blk _ w.heap.size 28 [.string a0_0, .slice A0_1 l0_1.length c0_1, .slice A0_2 l0_2.length c0_2] from (by unfold Blk; refine kR ?_; exact HS1.out)) hb5); have HO5 := aM hO5; obtain ⟨Ao, co, hv5, hle5, _⟩ := Kd.R_reads hO5; have hs5 := HB5.out.size; obtain ⟨u0, u1, u2⟩ := rf3 HS5.out; clear hb5 hO5; subst hv5) | (go_at_call 40; (with_reducible refine (r11_has.calls k Ao co fs a2 true _ ?c4 hle5 HH.out).mono ?_); (case c4 => repeat (first | exact (Kd.R_reads' HO5.out).2.2 | (with_reducible refine Kd.C_drewN ?_ _) | (with_reducible refine Kd.C_drew ?_))); rintro e w' ⟨rfl, ⟨nd2, rfl⟩⟩) | (go_at_call 41; (with_reducible refine (r11_After.calls k _ A0_1 c0_1 l0_1 A0_2 c0_2 l0_2 A1 c1 l1 a2 x true _ ?c1 HC1.out ?c2 HC2.out ?c3 HC3.out HA.out).mono ?_); (case c1 => repeat (first | exact (Kd.C_below HR1.out HB5.out) | (with_reducible refine Kd.C_alloc ?_ _) | (with_reducible refine Kd.C_drewN ?_ _) | (with_reducible refine Kd.C_drew ?_))); (case c2 => repeat (first | exact (Kd.C_below HR2.out HB5.out) | (with_reducible refine Kd.C_alloc ?_ _) | (with_reducible refine Kd.C_drewN ?_ _) | (with_reducible refine Kd.C_drew ?_))); (case c3 => repeat (first | exact (Kd.C_below HR3.out HB5.out) | (with_reducible refine Kd.C_alloc ?_ _) | (with_reducible refine Kd.C_drewN ?_ _) | (with_reducible refine Kd.C_drew ?_))); rintro e w7 ⟨v7, rfl, hO7, hb7⟩; have HB7 := aM (below_step (show Below w.heap.size w _ from (by repeat (first | exact HB5.out | apply below_alloc | apply pw_below_drewN | apply below_drew1))) hb7); have HO7 := aM hO7; clear hb7 hO7))
       refine bodyPost_ret (results_tmp2 rfl _ _ _) rfl ?_
       exact ⟨_, rfl, Kd.R_lower HO7.out (by first | exact HB5.out.size | (simp; omega)), HB7.out⟩
 ·rw [if_neg her] at h
  simp only [Option.some.injEq, Prod.mk.injEq] at h
  obtain ⟨rfl, rfl⟩ := h
  have q1 : (er != 0) = true := bne_iff_ne.2 her
  clear her
  go_enter Tryd.func16, Tryd.ntmps16
  go_wp2_with (first | (go_at_call 36; (with_reducible refine (r09_Check.calls k _ A0_1 c0_1 l0_1 A0_2 c0_2 l0_2 er at_ _ (Kd.C_alloc HR1.out _) HC1.out (Kd.C_alloc HR2.out _) HC2.out HK.out).mono ?_); rintro e w1 ⟨rfl, hb1⟩; have HS1 := aM (show Blk w1 w.heap.size 28 [.string a0_0, .slice A0_1 l0_1.length c0_1, .slice A0_2 l0_2.length c0_2] from blk_later (World.alloc_heap_new w (.cells #[.string a0_0, .slice A0_1 l0_1.length c0_1, .slice A0_2 l0_2.length c0_2] 28)) hb1); have HB1 := aM (show Below w.heap.size w w1 from ((Below.refl _ w).alloc (Nat.le_refl _) _).trans (hb1.mono (by simp))); have hs1 := HB1.out.size; have hS0 := (fun o => (rf3 (blk_alloc HS1.out o)).1); have hS1 := (fun o => (rf3 (blk_alloc HS1.out o)).2.1); have hS2 := (fun o => (rf3 (blk_alloc HS1.out o)).2.2); clear hb1))
  go_region
  all_goals go_wp2
  all_goals refine bodyPost_ret (results_tmp2 rfl _ _ _) rfl ?_
  all_goals exact ⟨_, rfl, Kd.R_nil _ _ _ _ _, by (with_reducible repeat (first | apply pw_below_drewN | apply below_drew1)); exact HB1.out.alloc (by omega) _⟩


end



/-! ### r04_Total: function 17 -/
mutual
def r04_Total.j0 : Nat → List Int → Bool → Option (Int)
 | 0, _, _ => none
 | k + 1, x0, x14 => if x14 = true then (some (-1)) else (r04_Total.l0 k x0 0 0)
def r04_Total.l0 : Nat → List Int → Int → Int → Option (Int)
 | 0, _, _, _ => none
 | k + 1, x0, x3, x4 => if x4 < (x0.length : Int) then (if 0 ≤ x4 then (r04_Total.l0 k x0 (wrap64 (x3 + (rd x0 x4))) (wrap64 (x4 + 1))) else (none)) else (some x3)
end
def r04_Total.f (k : Nat) (l0 : List Int) : Option (Int) := (r04_Valid.f k l0 (l0.length : Int)).bind fun t536 => (if t536 = true then (r04_Total.j0 k l0 (decide ((l0.length : Int) > 24))) else (r04_Total.j0 k l0 true))
theorem r04_Total.mono_l : ∀ k, (∀ y0 y1, LeO (r04_Total.j0 k y0 y1) (r04_Total.j0 (k + 1) y0 y1)) ∧ (∀ y0 y1 y2, LeO (r04_Total.l0 k y0 y1 y2) (r04_Total.l0 (k + 1) y0 y1 y2))
 | 0 => ⟨fun _ _ r h => by simp [r04_Total.j0] at h, fun _ _ _ r h => by simp [r04_Total.l0] at h⟩
 | k + 1 => by
  obtain ⟨ih0, ih1⟩ := r04_Total.mono_l k
  refine ⟨?_, ?_⟩ <;> intros <;> (first | unfold r04_Total.j0 | unfold r04_Total.l0)
  all_goals repeat' first
   | (with_reducible first | apply ih0 | apply ih1 | apply r04_Valid.mono | exact LeO.refl _ | exact LeO.none _ | refine LeO.ite ?_ ?_ | refine LeO.bind ?_ (fun _ => ?_))
theorem r04_Total.mono : ∀ a0 k, LeO (r04_Total.f k a0) (r04_Total.f (k + 1) a0) := by
 intro a0 k
 obtain ⟨ih0, ih1⟩ := r04_Total.mono_l k
 unfold r04_Total.f
 repeat' first
   | (with_reducible first | apply ih0 | apply ih1 | apply r04_Valid.mono | exact LeO.refl _ | exact LeO.none _ | refine LeO.ite ?_ ?_ | refine LeO.bind ?_ (fun _ => ?_))
set_option maxHeartbeats 8000000 in
set_option maxRecDepth 100000 in
theorem r04_Total.calls (k : Nat) (A0 : Option Addr) (c0 : Nat) (l0 : List Int) (r : Int) (w : World) (hr0 : Kd.C (Kd.int .i64) w A0 l0.length l0) (hc0 : l0.length ≤ c0) (h : r04_Total.f k l0 = some r) :
  Calls Tryd.prog 17 #[.slice A0 l0.length c0] w fun e w' => e = .returned (.int .i64 r) ∧ Drawn0 w w' := by
 have HR0 := aM hr0; have HC0 := aM hc0; clear hr0 hc0
 have H : ((r04_Valid.f k l0 (l0.length : Int)).bind fun t536 => (if t536 = true then (r04_Total.j0 k l0 (decide ((l0.length : Int) > 24))) else (r04_Total.j0 k l0 true))) = some r := h
 clear h; have HC2 := aM H; clear H
 go_enter Tryd.func17, Tryd.ntmps17
 go_upto_region 1 with (fail)
 go_cut [14] (fun v14 wc => ∃ (kq : Nat) (x14_1 : Bool), v14 = .bool x14_1 ∧ Aside0 (r04_Total.j0 kq l0 x14_1 = some r) ∧ Aside0 (kq ≤ k) ∧ Drawn0 w wc)
 case first =>
  have H := HC2.out; clear HC2; obtain ⟨t536, A3, H⟩ := iB H; (try dsimp only at H)
  by_cases c4 : t536 = true
  ·
   subst c4
   have H1 : (r04_Total.j0 k l0 (decide ((l0.length : Int) > 24))) = some r := by rw [if_pos rfl] at H; exact H
   clear H; have H := H1; clear H1
   have H' := aM H
   clear H
   go_wp2_with (first | ((with_reducible refine gate_callee (f := 39) rfl ?_); refine gM (some 8) Tryd.func39 #[.slice A0 l0.length c0, .int .i64 (l0.length : Int)] ?_; (with_reducible refine (r04_Valid.calls k _ _ l0 (l0.length : Int) true _ ?side1 ?side2 A3.out).mono ?_); (case side1 => repeat (first | exact HR0.out | (with_reducible refine Kd.C_alloc ?_ _) | (with_reducible refine Kd.C_drewN ?_ _) | (with_reducible refine Kd.C_drew ?_))); (case side2 => exact HC0.out); rintro e w' ⟨rfl, ⟨nd, rfl⟩⟩; refine ⟨_, rfl, ?_⟩))
   go_meet
   case rel => exact ⟨_, (decide ((l0.length : Int) > 24)), eT, H', ⟨by first | omega | exact Nat.le_refl _⟩, by repeat (first | exact Drawn0.refl _ | apply Drawn0.step)⟩
  replace c4 := Bool.eq_false_iff.mpr c4; subst c4
  have H1 : (r04_Total.j0 k l0 true) = some r := by rw [if_neg (show ¬ (false = true) by decide)] at H; exact H
  clear H; have H := H1; clear H1
  have H' := aM H
  clear H
  go_wp2_with (first | ((with_reducible refine gate_callee (f := 39) rfl ?_); refine gM (some 8) Tryd.func39 #[.slice A0 l0.length c0, .int .i64 (l0.length : Int)] ?_; (with_reducible refine (r04_Valid.calls k _ _ l0 (l0.length : Int) false _ ?side1 ?side2 A3.out).mono ?_); (case side1 => repeat (first | exact HR0.out | (with_reducible refine Kd.C_alloc ?_ _) | (with_reducible refine Kd.C_drewN ?_ _) | (with_reducible refine Kd.C_drew ?_))); (case side2 => exact HC0.out); rintro e w' ⟨rfl, ⟨nd, rfl⟩⟩; refine ⟨_, rfl, ?_⟩))
  go_meet
  case rel => exact ⟨_, (true), eT, H', ⟨by first | omega | exact Nat.le_refl _⟩, by repeat (first | exact Drawn0.refl _ | apply Drawn0.step)⟩
 clear HC2
 obtain ⟨kq, x14_1, rfl, HA, HJ1, ⟨mc1, rfl⟩⟩ := hcut
 cases kq with
 | zero => exact absurd HA.out (by simp [r04_Total.j0])
 | succ kj1 =>
  have H := HA.out; clear HA
  simp only [r04_Total.j0] at H
  by_cases c5 : x14_1 = true
  ·
   subst c5
   have H1 : (some (-1)) = some r := by rw [if_pos rfl] at H; exact H
   clear H; have H := H1; clear H1
   obtain rfl := Option.some.inj H
   go_wp2
   go_ret
   exact ⟨by first | rfl | (simp; done) | (simp [*]; done), by repeat (first | exact Drawn0.refl _ | apply Drawn0.step)⟩
  replace c5 := Bool.eq_false_iff.mpr c5; subst c5
  have H1 : (r04_Total.l0 kj1 l0 0 0) = some r := by rw [if_neg (show ¬ (false = true) by decide)] at H; exact H
  clear H; have H := H1; clear H1
  have H' := aM H
  clear H
  go_wp2
  go_loopg [3, 4] kj1 (fun kq v3 v4 w' => ∃ (x3_2 : Int) (x4_2 : Int), v3 = .int .i64 x3_2 ∧ v4 = .int .i64 x4_2 ∧ Aside0 (r04_Total.l0 kq l0 x3_2 x4_2 = some r) ∧ Aside0 (kq ≤ kj1) ∧ Drawn0 w w')
  case atStart => exact ⟨(0), (0), eT, eT, H', ⟨Nat.le_refl _⟩, by repeat (first | exact Drawn0.refl _ | apply Drawn0.step)⟩
  clear H'
  obtain ⟨x3_2, x4_2, rfl, rfl, HA, HK2, ⟨m2, rfl⟩⟩ := hrel
  cases gk with
  | zero => exact absurd HA.out (by simp [r04_Total.l0])
  | succ k2 =>
   have H := HA.out; clear HA
   simp only [r04_Total.l0] at H
   by_cases c6 : x4_2 < (l0.length : Int)
   rotate_left
   ·
    rw [if_neg c6] at H
    have c6b0 := decide_eq_false c6; clear c6
    obtain rfl := Option.some.inj H
    go_wp2
    go_ret
    exact ⟨by first | rfl | (simp; done) | (simp [*]; done), by repeat (first | exact Drawn0.refl _ | apply Drawn0.step)⟩


   rw [if_pos c6] at H; have c6b0 := decide_eq_true c6; clear c6
   obtain ⟨c7, H⟩ := iP H; have c7b0 := decide_eq_true c7; clear c7
   have H' := aM H
   clear H; obtain ⟨p537, q537, ad537, e537, hx537_0⟩ := aT (Kd.at_int HR0.out x4_2); cases e537
   go_wp2
   go_roundg k2
   case measure => have := HJ1.out; have := HK2.out; omega
   case rel => exact ⟨(wrap64 (x3_2 + (rd l0 x4_2))), (wrap64 (x4_2 + 1)), eT, eT, H', ⟨by have := HJ1.out; have := HK2.out; omega⟩, by repeat (first | exact Drawn0.refl _ | apply Drawn0.step)⟩
/-! ### r11_Dead: function 18 -/
def r11_Dead.f (k : Nat) (a0_0 : ByteArray) (l0_1 : List (S59)) (l0_2 : List (S41)) (l1 : List Int) : Option (Bool) := (r11_Good.f k a0_0 l0_1 l0_2 l1).bind fun t539 => (if t539 = true then ((r11_Fires.f k a0_0 l0_1 l0_2 l1).bind fun t540 => (some ((t540.length : Int) == 0))) else (some false))
theorem r11_Dead.mono : ∀ a0 a1 a2 a3 k, LeO (r11_Dead.f k a0 a1 a2 a3) (r11_Dead.f (k + 1) a0 a1 a2 a3) := by
 intro a0 a1 a2 a3 k
 unfold r11_Dead.f
 repeat' first
   | (with_reducible first | apply r11_Fires.mono | apply r11_Good.mono | exact LeO.refl _ | exact LeO.none _ | refine LeO.ite ?_ ?_ | refine LeO.bind ?_ (fun _ => ?_))
set_option maxHeartbeats 8000000 in
set_option maxRecDepth 100000 in
theorem r11_Dead.calls (k : Nat) (a0_0 : ByteArray) (A0_1 : Option Addr) (c0_1 : Nat) (l0_1 : List (S59)) (A0_2 : Option Addr) (c0_2 : Nat) (l0_2 : List (S41)) (A1 : Option Addr) (c1 : Nat) (l1 : List Int) (r : Bool) (w : World) (hr0_1 : Kd.C k59 w A0_1 l0_1.length l0_1) (hc0_1 : l0_1.length ≤ c0_1) (hr0_2 : Kd.C k41 w A0_2 l0_2.length l0_2) (hc0_2 : l0_2.length ≤ c0_2) (hr1 : Kd.C (Kd.int .i64) w A1 l1.length l1) (hc1 : l1.length ≤ c1) (h : r11_Dead.f k a0_0 l0_1 l0_2 l1 = some r) :
  Calls Tryd.prog 18 #[.agg #[.string a0_0, .slice A0_1 l0_1.length c0_1, .slice A0_2 l0_2.length c0_2], .slice A1 l1.length c1] w fun e w' => e = .returned (.bool r) ∧ Below w.heap.size w w' := by
 have hu28 := Tryd.underlying28; have hu9 := Tryd.underlying9; have hu25 := Tryd.underlying25; have hu26 := Tryd.underlying26; have HR0_1 := aM hr0_1; have HC0_1 := aM hc0_1; clear hr0_1 hc0_1; have HR0_2 := aM hr0_2; have HC0_2 := aM hc0_2; clear hr0_2 hc0_2; have HR1 := aM hr1; have HC1 := aM hc1; clear hr1 hc1; have HB := aM (Below.refl w.heap.size w)
 have H : ((r11_Good.f k a0_0 l0_1 l0_2 l1).bind fun t539 => (if t539 = true then ((r11_Fires.f k a0_0 l0_1 l0_2 l1).bind fun t540 => (some ((t540.length : Int) == 0))) else (some false))) = some r := h
 clear h; obtain ⟨t539, A3, H⟩ := iB H; (try dsimp only at H)
 by_cases c4 : t539 = true
 rotate_left
 ·
  replace c4 := Bool.eq_false_iff.mpr c4
  subst c4
  have H1 : (some false) = some r := by rw [if_neg (show ¬ (false = true) by decide)] at H; exact H
  clear H; have H := H1; clear H1
  obtain rfl := Option.some.inj H
  go_enter Tryd.func18, Tryd.ntmps18
  go_wp2_with (first | ((with_reducible refine gate_dst (N := 2) rfl ?_); (try (refine gate_guard (by rfl) ?_; dsimp only)); refine bX 2 (cs := #[.string a0_0, .slice A0_1 l0_1.length c0_1, .slice A0_2 l0_2.length c0_2]) (t := 28) ?_; intro gb538 hg w12 hbox hb; have BK538 := aM (hbox); have GW538 := aM (gE hg (below_size (bB HB.out))); have GE538 := GW538; replace HB := aM (below_step (bB HB.out) hb); clear hb hbox hg; obtain ⟨hcz13_0, hcz13_1, hcz13_2, hfz13_0, hfz13_1, hfz13_2⟩ := cd3 BK538.out) | ((with_reducible refine gate_callee (f := 37) rfl ?_); refine gM (some 7) Tryd.func37 #[.agg #[.string a0_0, .slice A0_1 l0_1.length c0_1, .slice A0_2 l0_2.length c0_2], .slice A1 l1.length c1] ?_; (with_reducible refine (r11_Good.calls k a0_0 _ _ l0_1 _ _ l0_2 _ _ l1 false _ ?side1 ?side2 ?side3 ?side4 ?side5 ?side6 A3.out).mono ?_); (case side1 => exact cB HR0_1.out HB.out); (case side2 => exact HC0_1.out); (case side3 => exact cB HR0_2.out HB.out); (case side4 => exact HC0_2.out); (case side5 => exact cB HR1.out HB.out); (case side6 => exact HC1.out); rintro e w14 ⟨rfl, hb⟩; refine ⟨_, rfl, ?_⟩; replace BK538 := aM (kW BK538.out hb); replace HB := aM (below_step (bB1 HB.out GE538.out) hb); clear hb))
  go_ret
  exact ⟨rT, bB1 HB.out GE538.out⟩


 subst c4
 have H1 : ((r11_Fires.f k a0_0 l0_1 l0_2 l1).bind fun t540 => (some ((t540.length : Int) == 0))) = some r := by rw [if_pos rfl] at H; exact H
 clear H; have H := H1; clear H1; replace H := Option.bind_eq_some_iff.mp H; obtain ⟨t540, A50, H⟩ := H
 replace H : (some ((t540.length : Int) == 0)) = some r := H
 have A5 := aM A50; clear A50
 obtain rfl := Option.some.inj H
 go_enter Tryd.func18, Tryd.ntmps18
 go_wp2_with (first | ((with_reducible refine gate_dst (N := 2) rfl ?_); (try (refine gate_guard (by rfl) ?_; dsimp only)); refine bX 2 (cs := #[.string a0_0, .slice A0_1 l0_1.length c0_1, .slice A0_2 l0_2.length c0_2]) (t := 28) ?_; intro gb538 hg w6 hbox hb; have BK538 := aM (hbox); have GW538 := aM (gE hg (below_size (bB HB.out))); have GE538 := GW538; replace HB := aM (below_step (bB HB.out) hb); clear hb hbox hg; obtain ⟨hcz7_0, hcz7_1, hcz7_2, hfz7_0, hfz7_1, hfz7_2⟩ := cd3 BK538.out) | ((with_reducible refine gate_callee (f := 37) rfl ?_); refine gM (some 7) Tryd.func37 #[.agg #[.string a0_0, .slice A0_1 l0_1.length c0_1, .slice A0_2 l0_2.length c0_2], .slice A1 l1.length c1] ?_; (with_reducible refine (r11_Good.calls k a0_0 _ _ l0_1 _ _ l0_2 _ _ l1 true _ ?side1 ?side2 ?side3 ?side4 ?side5 ?side6 A3.out).mono ?_); (case side1 => exact cB HR0_1.out HB.out); (case side2 => exact HC0_1.out); (case side3 => exact cB HR0_2.out HB.out); (case side4 => exact HC0_2.out); (case side5 => exact cB HR1.out HB.out); (case side6 => exact HC1.out); rintro e w8 ⟨rfl, hb⟩; refine ⟨_, rfl, ?_⟩; replace BK538 := aM (kW BK538.out hb); replace HB := aM (below_step (bB1 HB.out GE538.out) hb); clear hb; obtain ⟨hcz9_0, hcz9_1, hcz9_2, hfz9_0, hfz9_1, hfz9_2⟩ := cd3 BK538.out) | (go_at_call 38; (with_reducible refine (r11_Fires.calls k a0_0 _ _ l0_1 _ _ l0_2 _ _ l1 t540 _ ?side1 ?side2 ?side3 ?side4 ?side5 ?side6 A5.out).mono ?_); (case side1 => exact cB HR0_1.out HB.out); (case side2 => exact HC0_1.out); (case side3 => exact cB HR0_2.out HB.out); (case side4 => exact HC0_2.out); (case side5 => exact cB HR1.out HB.out); (case side6 => exact HC1.out); rintro e w10 ⟨v541, rfl, ho0, hb⟩; have HO542 := aM (Kd.R_lower ho0 (below_size (bB1 HB.out GE538.out))); replace BK538 := aM (kW BK538.out hb); replace HB := aM (below_step (bB1 HB.out GE538.out) hb); clear hb ho0; obtain ⟨Ao11, co11, eo11⟩ := Kd.R_slice HO542.out; subst eo11))
 go_ret
 exact ⟨rT, bB1 HB.out GE538.out⟩


end Go.Proofs.YtejchnmhlcbfcaaDoor.Pr
