/- Functions that the statement reaches: what each answers, and that the program answers it (written by a program of this work). -/
import Derived.Test.YtejchnmhlcbfcaaDoorProg
import Derived.Below
import Derived.Deep.Draws
import Derived.Deep.AppendLies
import Derived.Maps.AppendAt
import Derived.OwnWalk
import Derived.Laws.BytesArg
import Derived.Laws.MakeOwn
import Derived.Laws.OwnMore
import Derived.Deep.OwnRows
import Derived.Tactics
import Derived.Lib.ConvBytes
import Derived.Laws.Slices
import Derived.WalkKit
import Derived.KernelRfl
import Derived.RowKit3
import Derived.Deep.LoopGhost
import Derived.Deep.QuietTactic
import Derived.BigQuiet
import Derived.WideLaws
import Derived.Deep.DeepCutAuto
import Derived.Deep.CutBlock
import Derived.Deep.RegionHeld3
import Derived.Laws.Rows
import Derived.Lib.AppendStr
import Derived.ArgAppend
import Derived.Laws.IdiomCopy
import Derived.OrdersHeld
import Derived.Laws.BitsLemmas
import Derived.RowKit
import Derived.WalkMore
import Derived.ChangeKeysEq
import Derived.Test.YtejchnmhlcbfcaaDoorVDiscoverNets
import Derived.Test.YtejchnmhlcbfcaaDoorBDiscoverNets
import Derived.Test.YtejchnmhlcbfcaaDoorQDiscoverNets0
import Derived.Test.YtejchnmhlcbfcaaDoorQDiscoverNets1
import Derived.Test.YtejchnmhlcbfcaaDoorQDiscoverNets2
import Derived.Test.YtejchnmhlcbfcaaDoorQDiscoverNets4
namespace Go.Proofs.YtejchnmhlcbfcaaDoor.Pr
open Go.RowKit Go.Proofs.YtejchnmhlcbfcaaDoorW.PrintWords Go.Proofs.YtejchnmhlcbfcaaDoorW.PrintLast Go.Proofs.YtejchnmhlcbfcaaDoorW.PrintMore
attribute [local go_sem] Instr.field asAgg
attribute [local go_sem] max2_int min2_int max_two min_two max_three min_three max_four min_four   -- for this text's walks alone
set_option linter.unusedVariables false
set_option linter.unusedSimpArgs false
/-! ### r09_arcs: function 67 -/
mutual
def r09_arcs.l0 : Nat → List (S62) → Int → ByteArray → List (S59) → List (S41) → Option (Int)
 | 0, _, _, _, _, _ => none
 | k + 1, x1, x5, x402000, x402001, x402002 => if x5 < (x1.length : Int) then (if 0 ≤ x5 then (if ((rd_T62 x1 x5).f0) < 0 then (r09_arcs.j1 k x1 x5 true x402000 x402001 x402002) else (r09_arcs.j1 k x1 x5 (decide (((rd_T62 x1 x5).f0) ≥ (x402001.length : Int))) x402000 x402001 x402002)) else (none)) else (some 0)
def r09_arcs.j1 : Nat → List (S62) → Int → Bool → ByteArray → List (S59) → List (S41) → Option (Int)
 | 0, _, _, _, _, _, _ => none
 | k + 1, x1, x5, x28, x402000, x402001, x402002 => if x28 = true then (some 7) else (if x5 > 0 then (if 0 ≤ x5 then (if x5 < (x1.length : Int) then (if 0 ≤ (wrap64 (x5 - 1)) then (if (wrap64 (x5 - 1)) < (x1.length : Int) then (r09_arcs.j2 k x1 x5 (decide (((rd_T62 x1 x5).f0) ≤ ((rd_T62 x1 (wrap64 (x5 - 1))).f0))) x402000 x402001 x402002) else (none)) else (none)) else (none)) else (none)) else (r09_arcs.j2 k x1 x5 false x402000 x402001 x402002))
def r09_arcs.j2 : Nat → List (S62) → Int → Bool → ByteArray → List (S59) → List (S41) → Option (Int)
 | 0, _, _, _, _, _, _ => none
 | k + 1, x1, x5, x44, x402000, x402001, x402002 => if x44 = true then (some 8) else (if 0 ≤ x5 then (if x5 < (x1.length : Int) then (if ((rd_T62 x1 x5).f1) < 1 then (some 9) else (if ((rd_T62 x1 x5).f1) > 99 then (some 9) else (r09_arcs.l0 k x1 (wrap64 (x5 + 1)) x402000 x402001 x402002))) else (none)) else (none))
end
def r09_arcs.f (k : Nat) (a0_0 : ByteArray) (l0_1 : List (S59)) (l0_2 : List (S41)) (l1 : List (S62)) : Option (Int) := r09_arcs.l0 k l1 0 a0_0 l0_1 l0_2
theorem r09_arcs.mono_l : ∀ k, (∀ y0 y1 y2 y3 y4, LeO (r09_arcs.l0 k y0 y1 y2 y3 y4) (r09_arcs.l0 (k + 1) y0 y1 y2 y3 y4)) ∧ (∀ y0 y1 y2 y3 y4 y5, LeO (r09_arcs.j1 k y0 y1 y2 y3 y4 y5) (r09_arcs.j1 (k + 1) y0 y1 y2 y3 y4 y5)) ∧ (∀ y0 y1 y2 y3 y4 y5, LeO (r09_arcs.j2 k y0 y1 y2 y3 y4 y5) (r09_arcs.j2 (k + 1) y0 y1 y2 y3 y4 y5))
 | 0 => ⟨fun _ _ _ _ _ r h => by simp [r09_arcs.l0] at h, fun _ _ _ _ _ _ r h => by simp [r09_arcs.j1] at h, fun _ _ _ _ _ _ r h => by simp [r09_arcs.j2] at h⟩
 | k + 1 => by
  obtain ⟨ih0, ih1, ih2⟩ := r09_arcs.mono_l k
  refine ⟨?_, ?_, ?_⟩ <;> intros <;> (first | unfold r09_arcs.l0 | unfold r09_arcs.j1 | unfold r09_arcs.j2)
  all_goals repeat' first
   | (with_reducible first | apply ih0 | apply ih1 | apply ih2 | exact LeO.refl _ | exact LeO.none _ | refine LeO.ite ?_ ?_ | refine LeO.bind ?_ (fun _ => ?_))
theorem r09_arcs.mono : ∀ a0 a1 a2 a3 k, LeO (r09_arcs.f k a0 a1 a2 a3) (r09_arcs.f (k + 1) a0 a1 a2 a3) := by
 intro a0 a1 a2 a3 k
 obtain ⟨ih0, ih1, ih2⟩ := r09_arcs.mono_l k
 unfold r09_arcs.f
 repeat' first
   | (with_reducible first | apply ih0 | apply ih1 | apply ih2 | exact LeO.refl _ | exact LeO.none _ | refine LeO.ite ?_ ?_ | refine LeO.bind ?_ (fun _ => ?_))
set_option maxHeartbeats 8000000 in
set_option maxRecDepth 100000 in
theorem r09_arcs.calls (k : Nat) (a0_0 : ByteArray) (A0_1 : Option Addr) (c0_1 : Nat) (l0_1 : List (S59)) (A0_2 : Option Addr) (c0_2 : Nat) (l0_2 : List (S41)) (A1 : Option Addr) (c1 : Nat) (l1 : List (S62)) (r : Int) (w : World) (hr0_1 : Kd.C k59 w A0_1 l0_1.length l0_1) (hc0_1 : l0_1.length ≤ c0_1) (hr0_2 : Kd.C k41 w A0_2 l0_2.length l0_2) (hc0_2 : l0_2.length ≤ c0_2) (hr1 : Kd.C k62 w A1 l1.length l1) (hc1 : l1.length ≤ c1) (h : r09_arcs.f k a0_0 l0_1 l0_2 l1 = some r) :
  Calls Tryd.prog 67 #[.agg #[.string a0_0, .slice A0_1 l0_1.length c0_1, .slice A0_2 l0_2.length c0_2], .slice A1 l1.length c1] w fun e w' => e = .returned (.int .i64 r) ∧ Below w.heap.size w w' := by
 have hu28 := Tryd.underlying28; have hu9 := Tryd.underlying9; have hu25 := Tryd.underlying25; have hu26 := Tryd.underlying26; have HR0_1 := aM hr0_1; have HC0_1 := aM hc0_1; clear hr0_1 hc0_1; have HR0_2 := aM hr0_2; have HC0_2 := aM hc0_2; clear hr0_2 hc0_2; have HR1 := aM hr1; have HC1 := aM hc1; clear hr1 hc1; have HB := aM (Below.refl w.heap.size w); have H : (r09_arcs.l0 k l1 0 a0_0 l0_1 l0_2) = some r := h; clear h
 have H' := aM H
 clear H
 go_enter Tryd.func67, Tryd.ntmps67
 go_wp2_with (first | ((with_reducible refine gate_dst (N := 2) rfl ?_); (try (refine gate_guard (by rfl) ?_; dsimp only)); refine bX 2 (cs := #[.string a0_0, .slice A0_1 l0_1.length c0_1, .slice A0_2 l0_2.length c0_2]) (t := 28) ?_; intro gb401 hg w3 hbox hb; have BK401 := aM (hbox); have GW401 := aM (gE hg (below_size (bB HB.out))); have GE401 := GW401; replace HB := aM (below_step (bB HB.out) hb); clear hb hbox hg))
 repeat (go_quiet (first | ((with_reducible refine gate_dst (N := 2) rfl ?_); (try (refine gate_guard (by rfl) ?_; dsimp only)); refine bX 2 (cs := #[.string a0_0, .slice A0_1 l0_1.length c0_1, .slice A0_2 l0_2.length c0_2]) (t := 28) ?_; intro gb401 hg w3 hbox hb; have BK401 := aM (hbox); have GW401 := aM (gE hg (below_size (bB HB.out))); have GE401 := GW401; replace HB := aM (below_step (bB HB.out) hb); clear hb hbox hg)); try go_wp2_with (first | ((with_reducible refine gate_dst (N := 2) rfl ?_); (try (refine gate_guard (by rfl) ?_; dsimp only)); refine bX 2 (cs := #[.string a0_0, .slice A0_1 l0_1.length c0_1, .slice A0_2 l0_2.length c0_2]) (t := 28) ?_; intro gb401 hg w3 hbox hb; have BK401 := aM (hbox); have GW401 := aM (gE hg (below_size (bB HB.out))); have GE401 := GW401; replace HB := aM (below_step (bB HB.out) hb); clear hb hbox hg)))
 go_loopg [5] k (fun kq v5 w' => ∃ (x5_1 : Int), v5 = .int .i64 x5_1 ∧ Aside0 (r09_arcs.l0 kq l1 x5_1 a0_0 l0_1 l0_2 = some r) ∧ Aside0 (kq ≤ k) ∧ Aside0 (w'.heap[gb401]? = some (.cells #[.string a0_0, (.slice A0_1 l0_1.length c0_1), (.slice A0_2 l0_2.length c0_2)] 28 (0, 0))) ∧ Aside0 (Below w.heap.size w w'))
 case atStart => exact ⟨(0), eT, H', ⟨Nat.le_refl _⟩, ⟨kB BK401.out⟩, ⟨bB1 HB.out GE401.out⟩⟩
 clear H'; obtain ⟨x5_1, rfl, HA, HK1, BK401, HB⟩ := hrel
 cases gk with
 | zero => exact absurd HA.out (by simp [r09_arcs.l0])
 | succ k1 =>
  have H := HA.out; clear HA
  simp only [r09_arcs.l0] at H
  by_cases c4 : x5_1 < (l1.length : Int)
  rotate_left
  ·
   rw [if_neg c4] at H
   have c4b0 := decide_eq_false c4; clear c4
   obtain rfl := Option.some.inj H
   go_wp2
   repeat (go_quiet (fail); try go_wp2)
   go_ret
   exact ⟨rT, bB1 HB.out GE401.out⟩


  rw [if_pos c4] at H; have c4b0 := decide_eq_true c4; clear c4; have HC5 := aM H; clear H
  go_upto_region 4 with (fail)
  repeat (go_quiet (fail); go_upto_region 4 with (fail))
  go_cut [28] (fun v28 wc => ∃ (kq : Nat) (x28_4 : Bool), v28 = .bool x28_4 ∧ Aside0 (r09_arcs.j1 kq l1 x5_1 x28_4 a0_0 l0_1 l0_2 = some r) ∧ Aside0 (kq ≤ k1) ∧ Aside0 (wc.heap[gb401]? = some (.cells #[.string a0_0, (.slice A0_1 l0_1.length c0_1), (.slice A0_2 l0_2.length c0_2)] 28 (0, 0))) ∧ Aside0 (Below w.heap.size w wc))
  case first =>
   have H := HC5.out; clear HC5
   obtain ⟨c6, H⟩ := iP H; have c6b0 := decide_eq_true c6; clear c6
   (first | rw [c6b0] | (simp only [i64_w, i32_w]; rw [c6b0]) | skip)
   by_cases c7 : ((rd_T62 l1 x5_1).f0) < 0
   ·
    rw [if_pos c7] at H
    have c7b0 := decide_eq_true c7; clear c7
    have H' := aM H
    clear H; obtain ⟨p402, q402, ad402, e402, hx402_0, hx402_1⟩ := aT (at_T62 HR1.out x5_1); cases e402
    try replace hx402_0 := kX HB.out hx402_0
    try replace hx402_1 := kX HB.out hx402_1
    go_wp2
    repeat (go_quiet (fail); try go_wp2)
    go_meet
    case rel => exact ⟨_, (true), eT, H', ⟨by have := HK1.out; first | omega | exact Nat.le_refl _⟩, ⟨kB BK401.out⟩, ⟨bB1 HB.out GE401.out⟩⟩
   rw [if_neg c7] at H; have c7b0 := decide_eq_false c7; clear c7
   have H' := aM H
   clear H; obtain ⟨p402, q402, ad402, e402, hx402_0, hx402_1⟩ := aT (at_T62 HR1.out x5_1); cases e402
   try replace hx402_0 := kX HB.out hx402_0
   try replace hx402_1 := kX HB.out hx402_1; obtain ⟨p403, q403, ad403, e403, hx403_0, hx403_1⟩ := aT (at_T62 HR1.out x5_1); obtain rfl : ad402 = ad403 := (by injection e403)
   try replace hx403_0 := kX HB.out hx403_0
   try replace hx403_1 := kX HB.out hx403_1
   have hcz8_0 : wr.cell? ⟨gb401, 0, none⟩ = some (.string a0_0) := (blk_cell BK401.out 0).trans rfl
   have hcz8_1 : wr.cell? ⟨gb401, 1, none⟩ = some (.slice A0_1 l0_1.length c0_1) := (blk_cell BK401.out 1).trans rfl
   have hcz8_2 : wr.cell? ⟨gb401, 2, none⟩ = some (.slice A0_2 l0_2.length c0_2) := (blk_cell BK401.out 2).trans rfl
   have hfz8_0 := blk_frozen BK401.out 0; have hfz8_1 := blk_frozen BK401.out 1; have hfz8_2 := blk_frozen BK401.out 2
   go_wp2
   repeat (go_quiet (fail); try go_wp2)
   go_meet
   case rel => exact ⟨_, (decide (((rd_T62 l1 x5_1).f0) ≥ (l0_1.length : Int))), eT, H', ⟨by have := HK1.out; first | omega | exact Nat.le_refl _⟩, ⟨kB BK401.out⟩, ⟨bB1 HB.out GE401.out⟩⟩
  clear HC5
  try clear hx4
  try clear hx402_0
  try clear hx402_1
  try clear hx403_0
  try clear hx403_1
  obtain ⟨kq, x28_4, rfl, HA, HJ4, BK401, HB⟩ := hcut
  cases kq with
  | zero => exact absurd HA.out (by simp [r09_arcs.j1])
  | succ kj4 =>
   have H := HA.out; clear HA
   simp only [r09_arcs.j1] at H
   by_cases c9 : x28_4 = true
   ·
    subst c9
    have H1 : (some 7) = some r := by rw [if_pos rfl] at H; exact H
    clear H; have H := H1; clear H1
    obtain rfl := Option.some.inj H
    go_wp2
    repeat (go_quiet (fail); try go_wp2)
    go_ret
    exact ⟨rT, bB1 HB.out GE401.out⟩
   replace c9 := Bool.eq_false_iff.mpr c9; subst c9
   have H1 : (if x5_1 > 0 then (if 0 ≤ x5_1 then (if x5_1 < (l1.length : Int) then (if 0 ≤ (wrap64 (x5_1 - 1)) then (if (wrap64 (x5_1 - 1)) < (l1.length : Int) then (r09_arcs.j2 kj4 l1 x5_1 (decide (((rd_T62 l1 x5_1).f0) ≤ ((rd_T62 l1 (wrap64 (x5_1 - 1))).f0))) a0_0 l0_1 l0_2) else (none)) else (none)) else (none)) else (none)) else (r09_arcs.j2 kj4 l1 x5_1 false a0_0 l0_1 l0_2)) = some r := by rw [if_neg (show ¬ (false = true) by decide)] at H; exact H
   clear H; have H := H1; clear H1; have HC10 := aM H; clear H
   go_upto_region 6 with (fail)
   repeat (go_quiet (fail); go_upto_region 6 with (fail))
   go_cut [44] (fun v44 wc => ∃ (kq : Nat) (x44_9 : Bool), v44 = .bool x44_9 ∧ Aside0 (r09_arcs.j2 kq l1 x5_1 x44_9 a0_0 l0_1 l0_2 = some r) ∧ Aside0 (kq ≤ kj4) ∧ Aside0 (wc.heap[gb401]? = some (.cells #[.string a0_0, (.slice A0_1 l0_1.length c0_1), (.slice A0_2 l0_2.length c0_2)] 28 (0, 0))) ∧ Aside0 (Below w.heap.size w wc))
   case first =>
    have H := HC10.out; clear HC10
    by_cases c11 : x5_1 > 0
    rotate_left
    ·
     rw [if_neg c11] at H
     have c11b0 : decide (0 < x5_1) = false := decide_eq_false c11; clear c11
     (first | rw [c11b0] | (simp only [i64_w, i32_w]; rw [c11b0]) | skip)
     have H' := aM H
     clear H
     go_wp2
     repeat (go_quiet (fail); try go_wp2)
     go_meet
     case rel => exact ⟨_, (false), eT, H', ⟨by have := HK1.out; have := HJ4.out; first | omega | exact Nat.le_refl _⟩, ⟨kB BK401.out⟩, ⟨bB1 HB.out GE401.out⟩⟩
    rw [if_pos c11] at H; have c11b0 : decide (0 < x5_1) = true := decide_eq_true c11; clear c11
    (first | rw [c11b0] | (simp only [i64_w, i32_w]; rw [c11b0]) | skip)
    obtain ⟨c12, H⟩ := iP H; have c12b0 := decide_eq_true c12; clear c12
    obtain ⟨c13, H⟩ := iP H; have c13b0 := decide_eq_true c13; clear c13
    obtain ⟨ji14, hji14⟩ : ∃ j_ : Int, (wrap64 (x5_1 - 1)) = j_ := ⟨_, rfl⟩
    replace H : (if 0 ≤ (ji14) then (if (ji14) < (l1.length : Int) then (r09_arcs.j2 kj4 l1 x5_1 (decide (((rd_T62 l1 x5_1).f0) ≤ ((rd_T62 l1 (ji14)).f0))) a0_0 l0_1 l0_2) else (none)) else (none)) = some r := by first | (rw [hji14] at H; exact H) | (simp only [hji14] at H ⊢; exact H)
    have hji14w : (IntKind.i64.wrap (x5_1 - 1)) = ji14 := (i64_w _).trans hji14
    obtain ⟨c15, H⟩ := iP H; have c15b0 := decide_eq_true c15; clear c15
    obtain ⟨c16, H⟩ := iP H; have c16b0 := decide_eq_true c16; clear c16
    have H' := aM H
    clear H; obtain ⟨p404, q404, ad404, e404, hx404_0, hx404_1⟩ := aT (at_T62 HR1.out x5_1); cases e404
    try replace hx404_0 := kX HB.out hx404_0
    try replace hx404_1 := kX HB.out hx404_1; obtain ⟨p405, q405, ad405, e405, hx405_0, hx405_1⟩ := aT (at_T62 HR1.out (ji14)); obtain rfl : ad404 = ad405 := (by injection e405)
    try replace hx405_0 := kX HB.out hx405_0
    try replace hx405_1 := kX HB.out hx405_1
    go_wp2
    repeat (go_quiet (fail); try go_wp2)
    go_meet
    case rel => exact ⟨_, (decide (((rd_T62 l1 x5_1).f0) ≤ ((rd_T62 l1 (ji14)).f0))), (by first | rfl | (simp; done) | (simp only [← hji14] <;> (first | rfl | simp)) | (simp [*]; done)), H', ⟨by have := HK1.out; have := HJ4.out; first | omega | exact Nat.le_refl _⟩, ⟨kB BK401.out⟩, ⟨bB1 HB.out GE401.out⟩⟩
   clear HC10
   try clear hx4
   try clear hx402_0
   try clear hx402_1
   try clear hx403_0
   try clear hx403_1
   try clear hx404_0
   try clear hx404_1
   try clear hx405_0
   try clear hx405_1
   obtain ⟨kq, x44_9, rfl, HA, HJ9, BK401, HB⟩ := hcut
   cases kq with
   | zero => exact absurd HA.out (by simp [r09_arcs.j2])
   | succ kj9 =>
    have H := HA.out; clear HA
    simp only [r09_arcs.j2] at H
    by_cases c17 : x44_9 = true
    ·
     subst c17
     have H1 : (some 8) = some r := by rw [if_pos rfl] at H; exact H
     clear H; have H := H1; clear H1
     obtain rfl := Option.some.inj H
     go_wp2
     repeat (go_quiet (fail); try go_wp2)
     go_ret
     exact ⟨rT, bB1 HB.out GE401.out⟩
    replace c17 := Bool.eq_false_iff.mpr c17; subst c17
    have H1 : (if 0 ≤ x5_1 then (if x5_1 < (l1.length : Int) then (if ((rd_T62 l1 x5_1).f1) < 1 then (some 9) else (if ((rd_T62 l1 x5_1).f1) > 99 then (some 9) else (r09_arcs.l0 kj9 l1 (wrap64 (x5_1 + 1)) a0_0 l0_1 l0_2))) else (none)) else (none)) = some r := by rw [if_neg (show ¬ (false = true) by decide)] at H; exact H
    clear H; have H := H1; clear H1
    obtain ⟨c18, H⟩ := iP H; have c18b0 := decide_eq_true c18; clear c18
    obtain ⟨c19, H⟩ := iP H; have c19b0 := decide_eq_true c19; clear c19
    by_cases c20 : ((rd_T62 l1 x5_1).f1) < 1
    ·
     rw [if_pos c20] at H
     have c20b0 := decide_eq_true c20; clear c20
     obtain rfl := Option.some.inj H
     obtain ⟨p406, q406, ad406, e406, hx406_0, hx406_1⟩ := aT (at_T62 HR1.out x5_1); cases e406
     try replace hx406_0 := kX HB.out hx406_0
     try replace hx406_1 := kX HB.out hx406_1
     go_wp2
     repeat (go_quiet (fail); try go_wp2)
     go_ret
     exact ⟨rT, bB1 HB.out GE401.out⟩
    rw [if_neg c20] at H; have c20b0 := decide_eq_false c20; clear c20
    by_cases c21 : ((rd_T62 l1 x5_1).f1) > 99
    ·
     rw [if_pos c21] at H
     have c21b0 : decide (99 < ((rd_T62 l1 x5_1).f1)) = true := decide_eq_true c21; clear c21
     obtain rfl := Option.some.inj H
     obtain ⟨p406, q406, ad406, e406, hx406_0, hx406_1⟩ := aT (at_T62 HR1.out x5_1); cases e406
     try replace hx406_0 := kX HB.out hx406_0
     try replace hx406_1 := kX HB.out hx406_1; obtain ⟨p407, q407, ad407, e407, hx407_0, hx407_1⟩ := aT (at_T62 HR1.out x5_1); obtain rfl : ad406 = ad407 := (by injection e407)
     try replace hx407_0 := kX HB.out hx407_0
     try replace hx407_1 := kX HB.out hx407_1
     go_wp2
     repeat (go_quiet (fail); try go_wp2)
     go_ret
     exact ⟨rT, bB1 HB.out GE401.out⟩
    rw [if_neg c21] at H; have c21b0 : decide (99 < ((rd_T62 l1 x5_1).f1)) = false := decide_eq_false c21; clear c21
    have H' := aM H
    clear H; obtain ⟨p406, q406, ad406, e406, hx406_0, hx406_1⟩ := aT (at_T62 HR1.out x5_1); cases e406
    try replace hx406_0 := kX HB.out hx406_0
    try replace hx406_1 := kX HB.out hx406_1; obtain ⟨p407, q407, ad407, e407, hx407_0, hx407_1⟩ := aT (at_T62 HR1.out x5_1); obtain rfl : ad406 = ad407 := (by injection e407)
    try replace hx407_0 := kX HB.out hx407_0
    try replace hx407_1 := kX HB.out hx407_1
    go_wp2
    repeat (go_quiet (fail); try go_wp2)
    go_roundg kj9
    case measure => have := HK1.out; have := HJ4.out; have := HJ9.out; omega
    case rel => exact ⟨(wrap64 (x5_1 + 1)), eT, H', ⟨by have := HK1.out; have := HJ4.out; have := HJ9.out; omega⟩, ⟨kB BK401.out⟩, ⟨bB1 HB.out GE401.out⟩⟩


section
-- STUBBED 56
/-! ### r09_trans: function 56: by hand -/
open Go.Proofs.YtejchnmhlcbfcaaDoor.Iter
attribute [local go_sem] Instr.field asAgg

/-- The first error of transition i, behind its name. -/
def transF (k : Nat) (a0 : ByteArray) (l1 : List S59) (l2 : List S41) (t : S41) (i : Nat) : Option Int :=
 if ((l1.any fun y => y.f0.toList == t.f0.toList) || ((l2.take i).any fun y => y.f0.toList == t.f0.toList)) = true then some 6 else if t.f4 < 0 ∨ 9 < t.f4 then some 1 else (r09_arcs.f k a0 l1 l2 t.f1).bind fun e => if e = 0 then (r09_arcs.f k a0 l1 l2 t.f2).bind fun e => if e = 0 then r09_arcs.f k a0 l1 l2 t.f3 else some e else some e
def r09_trans.f (k : Nat) (a0_0 : ByteArray) (l0_1 : List S59) (l0_2 : List S41) (a1 : Int) : Option Int := if 0 ≤ a1 ∧ a1 < (l0_2.length : Int) ∧ l0_1.length ≤ 1000 ∧ l0_2.length ≤ 1000 then (r09_Name.f k (rd_T41 l0_2 a1).f0).bind fun b => if b = true then transF k a0_0 l0_1 l0_2 (rd_T41 l0_2 a1) a1.toNat else some 5 else none
theorem r09_trans.mono (a0 : ByteArray) (a1 : List S59) (a2 : List S41) (a3 : Int) (k : Nat) : LeO (r09_trans.f k a0 a1 a2 a3) (r09_trans.f (k + 1) a0 a1 a2 a3) := by
 unfold r09_trans.f transF
 split
 ·refine LeO.bind (r09_Name.mono _ _) fun b => ?_
  split
  ·split
   ·exact LeO.refl _
   ·split
    ·exact LeO.refl _
    ·refine LeO.bind (r09_arcs.mono _ _ _ _ _) fun e => ?_
     split
     ·refine LeO.bind (r09_arcs.mono _ _ _ _ _) fun e => ?_
      split
      ·apply r09_arcs.mono
      ·exact LeO.refl _
     ·exact LeO.refl _
  ·exact LeO.refl _
 ·exact LeO.refl _
theorem nt3 {W : World} {g : Nat} {t : TypeId} {x y z : Value} (h : Blk W g t [x, y, z]) : W.cell? ⟨g, 0, none⟩ = some x ∧ W.cell? ⟨g, 1, none⟩ = some y ∧ W.cell? ⟨g, 2, none⟩ = some z := by
 refine ⟨?_, ?_, ?_⟩ <;> simp [World.cell?, show W.heap[g]? = _ from h]
theorem nt5 {W : World} {g : Nat} {t : TypeId} {x y z u v : Value} (h : Blk W g t [x, y, z, u, v]) : W.cell? ⟨g, 0, none⟩ = some x ∧ W.cell? ⟨g, 1, none⟩ = some y ∧ W.cell? ⟨g, 2, none⟩ = some z ∧ W.cell? ⟨g, 3, none⟩ = some u ∧ W.cell? ⟨g, 4, none⟩ = some v := by
 refine ⟨?_, ?_, ?_, ?_, ?_⟩ <;> simp [World.cell?, show W.heap[g]? = _ from h]

set_option maxHeartbeats 16000000 in
set_option maxRecDepth 100000 in
theorem r09_trans.calls (k : Nat) (a0_0 : ByteArray) (A0_1 : Option Addr) (c0_1 : Nat) (l0_1 : List S59) (A0_2 : Option Addr) (c0_2 : Nat) (l0_2 : List S41) (a1 : Int) (r : Int) (w : World) (hr0_1 : Kd.C k59 w A0_1 l0_1.length l0_1) (hc0_1 : l0_1.length ≤ c0_1) (hr0_2 : Kd.C k41 w A0_2 l0_2.length l0_2) (hc0_2 : l0_2.length ≤ c0_2) (h : r09_trans.f k a0_0 l0_1 l0_2 a1 = some r) :
  Calls Tryd.prog 56 #[.agg #[.string a0_0, .slice A0_1 l0_1.length c0_1, .slice A0_2 l0_2.length c0_2], .int .i64 a1] w fun e w' => e = .returned (.int .i64 r) ∧ Below w.heap.size w w' := by
 have HR1 := aM hr0_1
 have HC1 := aM hc0_1
 have HR2 := aM hr0_2
 have HC2 := aM hc0_2
 clear hr0_1 hc0_1 hr0_2 hc0_2
 unfold r09_trans.f at h
 by_cases hin : 0 ≤ a1 ∧ a1 < (l0_2.length : Int) ∧ l0_1.length ≤ 1000 ∧ l0_2.length ≤ 1000
 ·rw [if_pos hin] at h
  obtain ⟨h0, hlt0, hn1, hn2⟩ := hin
  obtain ⟨i, rfl⟩ : ∃ i : Nat, a1 = (i : Int) := ⟨a1.toNat, by omega⟩
  have hil : i < l0_2.length := by omega
  obtain ⟨b, hb, h⟩ := Option.bind_eq_some_iff.mp h
  obtain ⟨ad, B1, d1, B2, d2, B3, d3, e1, hx0, hx1, hx2, hx3, hx4, le1, ge1, le2, ge2, le3, ge3⟩ := at_T41 HR2.out (i : Int) (by omega) (by omega)
  cases e1
  rw [Int.toNat_natCast] at hx0 hx1 hx2 hx3 hx4 h
  generalize rd_T41 l0_2 (i : Int) = p at h hb hx0 hx1 hx2 hx3 hx4 le1 ge1 le2 ge2 le3 ge3
  have HN := aM hb
  have HG1 := aM (And.intro le1 ge1)
  have HG2 := aM (And.intro le2 ge2)
  have HG3 := aM (And.intro le3 ge3)
  have HH0 := aM h
  clear h hb le1 ge1 le2 ge2 le3 ge3 h0
  go_enter Tryd.func56, Tryd.ntmps56
  go_upto_region 2 with (first | ((with_reducible refine gate_dst (N := 2) rfl ?_); refine bX 2 (cs := #[.string a0_0, .slice A0_1 l0_1.length c0_1, .slice (some ad) l0_2.length c0_2]) (t := 28) ?_; intro g1 hg1 w1 hbox1 hb1; have HS1 := aM (show Blk w1 g1 28 [.string a0_0, .slice A0_1 l0_1.length c0_1, .slice (some ad) l0_2.length c0_2] from hbox1); obtain ⟨s0, s1, s2⟩ := nt3 HS1.out; have HB1 := aM hb1; have HGA := aM hg1; replace hx0 := (hb1.cell (World.block_lt_of_cell? w _ hx0)).trans hx0; replace hx1 := (hb1.cell (World.block_lt_of_cell? w _ hx1)).trans hx1; replace hx2 := (hb1.cell (World.block_lt_of_cell? w _ hx2)).trans hx2; replace hx3 := (hb1.cell (World.block_lt_of_cell? w _ hx3)).trans hx3; replace hx4 := (hb1.cell (World.block_lt_of_cell? w _ hx4)).trans hx4; clear hbox1 hb1 hg1) | ((with_reducible refine gate_dst (N := 5) rfl ?_); refine bX 5 (cs := #[.string ⟨#[]⟩, .slice none 0 0, .slice none 0 0, .slice none 0 0, .int .i64 0]) (t := 41) ?_; intro g2 hg2 w4 hbox hb4; have HG4 := aM (show Blk w4 g2 41 [.string ⟨#[]⟩, .slice none 0 0, .slice none 0 0, .slice none 0 0, .int .i64 0] from hbox); have hz0 := blk_cell hbox 0; have hz1 := blk_cell hbox 1; have hz2 := blk_cell hbox 2; have hz3 := blk_cell hbox 3; have hz4 := blk_cell hbox 4; have hq0 := blk_frozen hbox 0; have hq1 := blk_frozen hbox 1; have hq2 := blk_frozen hbox 2; have hq3 := blk_frozen hbox 3; have hq4 := blk_frozen hbox 4; have HB4 := aM hb4; have HGB := aM hg2; clear hbox hb4 hg2))
  obtain ⟨wr, hW5⟩ : ∃ W5, ((((w4.setCell ⟨g2, 0, none⟩ (.string p.f0)).setCell ⟨g2, 1, none⟩ (.slice B1 p.f1.length d1)).setCell ⟨g2, 2, none⟩ (.slice B2 p.f2.length d2)).setCell ⟨g2, 3, none⟩ (.slice B3 p.f3.length d3)).setCell ⟨g2, 4, none⟩ (.int .i64 p.f4) = W5 := ⟨_, rfl⟩
  have HG := aM (show Blk wr g2 41 [.string p.f0, .slice B1 p.f1.length d1, .slice B2 p.f2.length d2, .slice B3 p.f3.length d3, .int .i64 p.f4] from hW5 ▸ blk_set 4 _ (blk_set 3 _ (blk_set 2 _ (blk_set 1 _ (blk_set 0 _ HG4.out)))))
  have hb5 : Below w1.heap.size w1 wr := by rw [← hW5]; exact ((((HB4.out.setCell (p := ⟨g2, 0, none⟩) (by rw [HGB.out]; exact Nat.le_refl _) _).setCell (p := ⟨g2, 1, none⟩) (by rw [HGB.out]; exact Nat.le_refl _) _).setCell (p := ⟨g2, 2, none⟩) (by rw [HGB.out]; exact Nat.le_refl _) _).setCell (p := ⟨g2, 3, none⟩) (by rw [HGB.out]; exact Nat.le_refl _) _).setCell (p := ⟨g2, 4, none⟩) (by rw [HGB.out]; exact Nat.le_refl _) _
  rw [hW5]
  have HS := aM (blk_later HS1.out hb5)
  have HB := aM (below_step HB1.out hb5)
  clear hW5 HG4 HB4 HGB hb5 HS1 HB1 HGA hz0 hz1 hz2 hz3 hz4 hq0 hq1 hq2 hq3 hq4 hx0 hx1 hx2 hx3 hx4 s0 s1 s2
  obtain ⟨s0, s1, s2⟩ := nt3 HS.out
  obtain ⟨t0, t1, t2, t3, t4⟩ := nt5 HG.out
  cases b with
  | false =>
   have h := HH0.out
   have h : some (5 : Int) = some r := h
   obtain rfl := Option.some.inj h
   clear h
   go_wp2_with (go_at_call 54; (with_reducible refine (r09_Name.calls k p.f0 false _ HN.out).mono ?_); rintro e w' ⟨rfl, ⟨nd, rfl⟩⟩)
   go_ret
   exact ⟨rfl, by (with_reducible repeat (first | apply pw_below_drewN | apply below_drew1)); exact HB.out⟩
  | true =>
   have h := HH0.out
   rw [if_pos rfl] at h
   have HH := aM h
   clear h HH0
   go_wp2_with (go_at_call 54; (with_reducible refine (r09_Name.calls k p.f0 true _ HN.out).mono ?_); rintro e w' ⟨rfl, ⟨nd, rfl⟩⟩)
   clear s0 s1 s2 t0 t1 t2 t3 t4
   go_loopw [6] (fun v6 wr => ∃ j : Nat, v6 = .int .i64 j ∧ j ≤ l0_1.length ∧ Aside0 (((l0_1.take j).any fun y => y.f0.toList == p.f0.toList) = false) ∧ Aside0 (Blk wr g1 28 [.string a0_0, .slice A0_1 l0_1.length c0_1, .slice (some ad) l0_2.length c0_2]) ∧ Aside0 (Blk wr g2 41 [.string p.f0, .slice B1 p.f1.length d1, .slice B2 p.f2.length d2, .slice B3 p.f3.length d3, .int .i64 p.f4]) ∧ Aside0 (Below w.heap.size w wr)) (fun v6 _ => l0_1.length - (intOf v6).toNat)
   case atStart => exact ⟨0, rfl, Nat.zero_le _, ⟨rfl⟩, ⟨HS.out⟩, ⟨HG.out⟩, ⟨by (with_reducible repeat (first | apply pw_below_drewN | apply below_drew1)); exact HB.out⟩⟩
   case round =>
    clear HS HG HB
    obtain ⟨j, rfl, hj, HQ, HS, HG, HB⟩ := hrel
    obtain ⟨s0, s1, s2⟩ := nt3 HS.out
    obtain ⟨t0, t1, t2, t3, t4⟩ := nt5 HG.out
    by_cases hjl : j < l0_1.length
    ·have hjm : j < l0_1.length := by omega
     obtain ⟨ad2, e2, hy0, _, _⟩ := at_T59 HR1.out (j : Int) (by omega) (by omega)
     cases e2
     rw [Int.toNat_natCast] at hy0
     replace hy0 := (HB.out.cell (World.block_lt_of_cell? w _ hy0)).trans hy0
     have hrd : rd_T59 l0_1 (j : Int) = l0_1[j] := by simp [rd_T59, hjm]
     rw [hrd] at hy0
     clear hrd
     obtain ⟨x, hx⟩ : ∃ x, x = l0_1[j] := ⟨_, rfl⟩
     rw [← hx] at hy0
     by_cases hxs : x.f0.toList = p.f0.toList
     ·have hbeq : (x.f0.toList == p.f0.toList) = true := beq_iff_eq.mpr hxs
      have hr : r = 6 := by
       have e : transF k a0_0 l0_1 l0_2 p i = some 6 := by unfold transF; rw [if_pos]; rw [Bool.or_eq_true]; exact .inl (List.any_eq_true.2 ⟨x, hx ▸ List.getElem_mem hjm, hbeq⟩)
       have H := HH.out
       rw [e] at H
       exact (Option.some.inj H).symm
      subst hr
      clear hx hxs
      go_wp2
      go_region
      go_wp2
      go_ret
      exact ⟨rfl, by (with_reducible repeat (first | apply pw_below_drewN | apply below_drew1)); exact HB.out⟩
     ·have hbeq : (x.f0.toList == p.f0.toList) = false := beq_eq_false_iff_ne.mpr hxs
      have HQ2 := aM (show ((l0_1.take (j + 1)).any fun y => y.f0.toList == p.f0.toList) = false by rw [List.take_succ_eq_append_getElem hjm, List.any_append, HQ.out, ← hx]; simp [hbeq])
      clear hx hxs
      go_wp2
      go_region
      go_wp2
      go_roundw
      case rel => exact ⟨j + 1, by go_num, by omega, HQ2, ⟨HS.out⟩, ⟨HG.out⟩, ⟨by (with_reducible repeat (first | apply pw_below_drewN | apply below_drew1)); exact HB.out⟩⟩
      case measure => simp [intOf]; omega
    ·obtain rfl : j = l0_1.length := by omega
     have HNP := aM (show (l0_1.any fun y => y.f0.toList == p.f0.toList) = false by have e := HQ.out; rwa [List.take_length] at e)
     clear HQ hj hjl
     go_wp2
     clear s0 s1 s2 t0 t1 t2 t3 t4
     go_loopw [7] (fun v7 wr => ∃ j : Nat, v7 = .int .i64 j ∧ j ≤ i ∧ Aside0 (((l0_2.take j).any fun y => y.f0.toList == p.f0.toList) = false) ∧ Aside0 (Blk wr g1 28 [.string a0_0, .slice A0_1 l0_1.length c0_1, .slice (some ad) l0_2.length c0_2]) ∧ Aside0 (Blk wr g2 41 [.string p.f0, .slice B1 p.f1.length d1, .slice B2 p.f2.length d2, .slice B3 p.f3.length d3, .int .i64 p.f4]) ∧ Aside0 (Below w.heap.size w wr)) (fun v7 _ => i - (intOf v7).toNat)
     case atStart => exact ⟨0, rfl, Nat.zero_le _, ⟨rfl⟩, ⟨HS.out⟩, ⟨HG.out⟩, ⟨by (with_reducible repeat (first | apply pw_below_drewN | apply below_drew1)); exact HB.out⟩⟩
     case round =>
      clear HS HG HB
      obtain ⟨j, rfl, hj, HQ, HS, HG, HB⟩ := hrel
      obtain ⟨s0, s1, s2⟩ := nt3 HS.out
      obtain ⟨t0, t1, t2, t3, t4⟩ := nt5 HG.out
      by_cases hjl : j < i
      ·have hjm : j < l0_2.length := by omega
       obtain ⟨ad2, B1', d1', B2', d2', B3', d3', e2, hy0, _, _, _, _, _, _, _, _, _, _⟩ := at_T41 HR2.out (j : Int) (by omega) (by omega)
       cases e2
       rw [Int.toNat_natCast] at hy0
       replace hy0 := (HB.out.cell (World.block_lt_of_cell? w _ hy0)).trans hy0
       have hrd : rd_T41 l0_2 (j : Int) = l0_2[j] := by simp [rd_T41, hjm]
       rw [hrd] at hy0
       clear hrd
       obtain ⟨x, hx⟩ : ∃ x, x = l0_2[j] := ⟨_, rfl⟩
       rw [← hx] at hy0
       by_cases hxs : x.f0.toList = p.f0.toList
       ·have hbeq : (x.f0.toList == p.f0.toList) = true := beq_iff_eq.mpr hxs
        have hr : r = 6 := by
         have e : transF k a0_0 l0_1 l0_2 p i = some 6 := by unfold transF; rw [if_pos]; rw [Bool.or_eq_true]; exact .inr (List.any_eq_true.2 ⟨x, (by rw [hx]; exact List.mem_iff_getElem.2 ⟨j, by rw [List.length_take]; omega, List.getElem_take⟩), hbeq⟩)
         have H := HH.out
         rw [e] at H
         exact (Option.some.inj H).symm
        subst hr
        clear hx hxs
        go_wp2
        go_region
        go_wp2
        go_ret
        exact ⟨rfl, by (with_reducible repeat (first | apply pw_below_drewN | apply below_drew1)); exact HB.out⟩
       ·have hbeq : (x.f0.toList == p.f0.toList) = false := beq_eq_false_iff_ne.mpr hxs
        have HQ2 := aM (show ((l0_2.take (j + 1)).any fun y => y.f0.toList == p.f0.toList) = false by rw [List.take_succ_eq_append_getElem hjm, List.any_append, HQ.out, ← hx]; simp [hbeq])
        clear hx hxs
        go_wp2
        go_region
        go_wp2
        go_roundw
        case rel => exact ⟨j + 1, by go_num, by omega, HQ2, ⟨HS.out⟩, ⟨HG.out⟩, ⟨by (with_reducible repeat (first | apply pw_below_drewN | apply below_drew1)); exact HB.out⟩⟩
        case measure => simp [intOf]; omega
      ·obtain rfl : j = i := by omega
       have HH2 := aM (show (if p.f4 < 0 ∨ 9 < p.f4 then some 1 else (r09_arcs.f k a0_0 l0_1 l0_2 p.f1).bind fun e => if e = 0 then (r09_arcs.f k a0_0 l0_1 l0_2 p.f2).bind fun e => if e = 0 then r09_arcs.f k a0_0 l0_1 l0_2 p.f3 else some e else some e) = some r by
        have H := HH.out
        unfold transF at H
        rw [HNP.out, HQ.out, if_neg (by decide)] at H
        exact H)
       clear HH HNP HQ hj hjl
       by_cases hp4 : p.f4 < 0 ∨ 9 < p.f4
       ·have h := HH2.out
        rw [if_pos hp4] at h
        obtain rfl := Option.some.inj h
        clear h HH2
        have hc4 : p.f4 < 0 ∨ (¬ p.f4 < 0 ∧ 9 < p.f4) := by omega
        clear hp4
        rcases hc4 with b1 | ⟨b1, b2⟩
        all_goals
         go_wp2
         go_ret
         exact ⟨rfl, HB.out⟩
       ·have b1 : ¬ p.f4 < 0 := by omega
        have b2 : ¬ 9 < p.f4 := by omega
        have h := HH2.out
        rw [if_neg hp4] at h
        clear hp4 HH2
        obtain ⟨ea, ha, h⟩ := Option.bind_eq_some_iff.mp h
        have HA1 := aM ha
        clear ha
        by_cases hea : ea = 0
        ·subst hea
         rw [if_pos rfl] at h
         obtain ⟨eb, hb, h⟩ := Option.bind_eq_some_iff.mp h
         have HA2 := aM hb
         clear hb
         by_cases heb : eb = 0
         ·subst heb
          rw [if_pos rfl] at h
          have HA3 := aM h
          clear h
          go_wp2_with (first | (go_at_call 67; with_reducible refine (r09_arcs.calls k _ A0_1 c0_1 l0_1 (some ad) c0_2 l0_2 B1 d1 p.f1 0 _ (Kd.C_below HR1.out HB.out) HC1.out (Kd.C_below HR2.out HB.out) HC2.out (Kd.C_below HG1.out.2 HB.out) HG1.out.1 HA1.out).mono ?_; rintro e wx6 ⟨rfl, hbx6⟩; have HSx6 := aM (blk_later HS.out hbx6); have HGx6 := aM (blk_later HG.out hbx6); have HBx6 := aM (below_step HB.out hbx6); clear hbx6 s0 s1 s2 t0 t1 t2 t3 t4; obtain ⟨s0, s1, s2⟩ := nt3 HSx6.out; obtain ⟨t0, t1, t2, t3, t4⟩ := nt5 HGx6.out) | (go_at_call 67; with_reducible refine (r09_arcs.calls k _ A0_1 c0_1 l0_1 (some ad) c0_2 l0_2 B2 d2 p.f2 0 _ (Kd.C_below HR1.out HBx6.out) HC1.out (Kd.C_below HR2.out HBx6.out) HC2.out (Kd.C_below HG2.out.2 HBx6.out) HG2.out.1 HA2.out).mono ?_; rintro e wx7 ⟨rfl, hbx7⟩; have HSx7 := aM (blk_later HSx6.out hbx7); have HGx7 := aM (blk_later HGx6.out hbx7); have HBx7 := aM (below_step HBx6.out hbx7); clear hbx7 s0 s1 s2 t0 t1 t2 t3 t4; obtain ⟨s0, s1, s2⟩ := nt3 HSx7.out; obtain ⟨t0, t1, t2, t3, t4⟩ := nt5 HGx7.out) | (go_at_call 67; with_reducible refine (r09_arcs.calls k _ A0_1 c0_1 l0_1 (some ad) c0_2 l0_2 B3 d3 p.f3 r _ (Kd.C_below HR1.out HBx7.out) HC1.out (Kd.C_below HR2.out HBx7.out) HC2.out (Kd.C_below HG3.out.2 HBx7.out) HG3.out.1 HA3.out).mono ?_; rintro e wx8 ⟨rfl, hbx8⟩; have HSx8 := aM (blk_later HSx7.out hbx8); have HGx8 := aM (blk_later HGx7.out hbx8); have HBx8 := aM (below_step HBx7.out hbx8); clear hbx8 s0 s1 s2 t0 t1 t2 t3 t4; obtain ⟨s0, s1, s2⟩ := nt3 HSx8.out; obtain ⟨t0, t1, t2, t3, t4⟩ := nt5 HGx8.out))
          go_ret
          exact ⟨rfl, HBx8.out⟩
         ·rw [if_neg heb] at h
          obtain rfl := Option.some.inj h
          have q1 : (eb != 0) = true := bne_iff_ne.2 heb
          clear h heb
          go_wp2_with (first | (go_at_call 67; with_reducible refine (r09_arcs.calls k _ A0_1 c0_1 l0_1 (some ad) c0_2 l0_2 B1 d1 p.f1 0 _ (Kd.C_below HR1.out HB.out) HC1.out (Kd.C_below HR2.out HB.out) HC2.out (Kd.C_below HG1.out.2 HB.out) HG1.out.1 HA1.out).mono ?_; rintro e wx6 ⟨rfl, hbx6⟩; have HSx6 := aM (blk_later HS.out hbx6); have HGx6 := aM (blk_later HG.out hbx6); have HBx6 := aM (below_step HB.out hbx6); clear hbx6 s0 s1 s2 t0 t1 t2 t3 t4; obtain ⟨s0, s1, s2⟩ := nt3 HSx6.out; obtain ⟨t0, t1, t2, t3, t4⟩ := nt5 HGx6.out) | (go_at_call 67; with_reducible refine (r09_arcs.calls k _ A0_1 c0_1 l0_1 (some ad) c0_2 l0_2 B2 d2 p.f2 eb _ (Kd.C_below HR1.out HBx6.out) HC1.out (Kd.C_below HR2.out HBx6.out) HC2.out (Kd.C_below HG2.out.2 HBx6.out) HG2.out.1 HA2.out).mono ?_; rintro e wx7 ⟨rfl, hbx7⟩; have HSx7 := aM (blk_later HSx6.out hbx7); have HGx7 := aM (blk_later HGx6.out hbx7); have HBx7 := aM (below_step HBx6.out hbx7); clear hbx7 s0 s1 s2 t0 t1 t2 t3 t4; obtain ⟨s0, s1, s2⟩ := nt3 HSx7.out; obtain ⟨t0, t1, t2, t3, t4⟩ := nt5 HGx7.out))
          go_ret
          exact ⟨rfl, HBx7.out⟩
        ·rw [if_neg hea] at h
         obtain rfl := Option.some.inj h
         have q1 : (ea != 0) = true := bne_iff_ne.2 hea
         clear h hea
         go_wp2_with (go_at_call 67; with_reducible refine (r09_arcs.calls k _ A0_1 c0_1 l0_1 (some ad) c0_2 l0_2 B1 d1 p.f1 ea _ (Kd.C_below HR1.out HB.out) HC1.out (Kd.C_below HR2.out HB.out) HC2.out (Kd.C_below HG1.out.2 HB.out) HG1.out.1 HA1.out).mono ?_; rintro e wx6 ⟨rfl, hbx6⟩; have HSx6 := aM (blk_later HS.out hbx6); have HGx6 := aM (blk_later HG.out hbx6); have HBx6 := aM (below_step HB.out hbx6); clear hbx6 s0 s1 s2 t0 t1 t2 t3 t4; obtain ⟨s0, s1, s2⟩ := nt3 HSx6.out; obtain ⟨t0, t1, t2, t3, t4⟩ := nt5 HGx6.out)
         go_ret
         exact ⟨rfl, HBx6.out⟩
 ·rw [if_neg hin] at h
  cases h


end



/-! ### r09_Check: function 36 -/
mutual
def r09_Check.j0 : Nat → Bool → ByteArray → List (S59) → List (S41) → Option (Int × Int)
 | 0, _, _, _, _ => none
 | k + 1, x27, x409000, x409001, x409002 => if x27 = true then (some (2, 0)) else (r09_Check.l0 k 0 x409000 x409001 x409002)
def r09_Check.l0 : Nat → Int → ByteArray → List (S59) → List (S41) → Option (Int × Int)
 | 0, _, _, _, _ => none
 | k + 1, x3, x409000, x409001, x409002 => if x3 < (x409001.length : Int) then ((r09_place.f k x409000 x409001 x409002 x3).bind fun t411 => (if t411 = 0 then (r09_Check.l0 k (wrap64 (x3 + 1)) x409000 x409001 x409002) else (some (t411, x3)))) else (r09_Check.l1 k 0 x409000 x409001 x409002)
def r09_Check.l1 : Nat → Int → ByteArray → List (S59) → List (S41) → Option (Int × Int)
 | 0, _, _, _, _ => none
 | k + 1, x5, x409000, x409001, x409002 => if x5 < (x409002.length : Int) then ((r09_trans.f k x409000 x409001 x409002 x5).bind fun t412 => (if t412 = 0 then (r09_Check.l1 k (wrap64 (x5 + 1)) x409000 x409001 x409002) else (some (t412, wrap64 ((x409001.length : Int) + x5))))) else (some (0, 0))
end
def r09_Check.f (k : Nat) (a0_0 : ByteArray) (l0_1 : List (S59)) (l0_2 : List (S41)) : Option (Int × Int) := (r09_Name.f k a0_0).bind fun t410 => (if t410 = true then (if (l0_1.length : Int) < 1 then (r09_Check.j0 k true a0_0 l0_1 l0_2) else (if (l0_1.length : Int) > 24 then (r09_Check.j0 k true a0_0 l0_1 l0_2) else (r09_Check.j0 k (decide ((l0_2.length : Int) > 24)) a0_0 l0_1 l0_2))) else (some (5, 0)))
theorem r09_Check.mono_l : ∀ k, (∀ y0 y1 y2 y3, LeO (r09_Check.j0 k y0 y1 y2 y3) (r09_Check.j0 (k + 1) y0 y1 y2 y3)) ∧ (∀ y0 y1 y2 y3, LeO (r09_Check.l0 k y0 y1 y2 y3) (r09_Check.l0 (k + 1) y0 y1 y2 y3)) ∧ (∀ y0 y1 y2 y3, LeO (r09_Check.l1 k y0 y1 y2 y3) (r09_Check.l1 (k + 1) y0 y1 y2 y3))
 | 0 => ⟨fun _ _ _ _ r h => by simp [r09_Check.j0] at h, fun _ _ _ _ r h => by simp [r09_Check.l0] at h, fun _ _ _ _ r h => by simp [r09_Check.l1] at h⟩
 | k + 1 => by
  obtain ⟨ih0, ih1, ih2⟩ := r09_Check.mono_l k
  refine ⟨?_, ?_, ?_⟩ <;> intros <;> (first | unfold r09_Check.j0 | unfold r09_Check.l0 | unfold r09_Check.l1)
  all_goals repeat' first
   | (with_reducible first | apply ih0 | apply ih1 | apply ih2 | apply r09_Name.mono | apply r09_place.mono | apply r09_trans.mono | exact LeO.refl _ | exact LeO.none _ | refine LeO.ite ?_ ?_ | refine LeO.bind ?_ (fun _ => ?_))
theorem r09_Check.mono : ∀ a0 a1 a2 k, LeO (r09_Check.f k a0 a1 a2) (r09_Check.f (k + 1) a0 a1 a2) := by
 intro a0 a1 a2 k
 obtain ⟨ih0, ih1, ih2⟩ := r09_Check.mono_l k
 unfold r09_Check.f
 repeat' first
   | (with_reducible first | apply ih0 | apply ih1 | apply ih2 | apply r09_Name.mono | apply r09_place.mono | apply r09_trans.mono | exact LeO.refl _ | exact LeO.none _ | refine LeO.ite ?_ ?_ | refine LeO.bind ?_ (fun _ => ?_))
set_option maxHeartbeats 8000000 in
set_option maxRecDepth 100000 in
theorem r09_Check.calls (k : Nat) (a0_0 : ByteArray) (A0_1 : Option Addr) (c0_1 : Nat) (l0_1 : List (S59)) (A0_2 : Option Addr) (c0_2 : Nat) (l0_2 : List (S41)) (r1 : Int) (r2 : Int) (w : World) (hr0_1 : Kd.C k59 w A0_1 l0_1.length l0_1) (hc0_1 : l0_1.length ≤ c0_1) (hr0_2 : Kd.C k41 w A0_2 l0_2.length l0_2) (hc0_2 : l0_2.length ≤ c0_2) (h : r09_Check.f k a0_0 l0_1 l0_2 = some (r1, r2)) :
  Calls Tryd.prog 36 #[.agg #[.string a0_0, .slice A0_1 l0_1.length c0_1, .slice A0_2 l0_2.length c0_2]] w fun e w' => e = .returned (.agg #[.int .i64 r1, .int .i64 r2]) ∧ Below w.heap.size w w' := by
 have hu28 := Tryd.underlying28; have hu9 := Tryd.underlying9; have hu25 := Tryd.underlying25; have hu26 := Tryd.underlying26; have hu66 := Tryd.underlying66; have hu3 := Tryd.underlying3; have hu29 := Tryd.underlying29; have HR0_1 := aM hr0_1; have HC0_1 := aM hc0_1; clear hr0_1 hc0_1; have HR0_2 := aM hr0_2; have HC0_2 := aM hc0_2; clear hr0_2 hc0_2; have HB := aM (Below.refl w.heap.size w)
 have H : ((r09_Name.f k a0_0).bind fun t410 => (if t410 = true then (if (l0_1.length : Int) < 1 then (r09_Check.j0 k true a0_0 l0_1 l0_2) else (if (l0_1.length : Int) > 24 then (r09_Check.j0 k true a0_0 l0_1 l0_2) else (r09_Check.j0 k (decide ((l0_2.length : Int) > 24)) a0_0 l0_1 l0_2))) else (some (5, 0)))) = some (r1, r2) := h
 clear h; obtain ⟨t410, A2, H⟩ := iB H; (try dsimp only at H)
 by_cases c3 : t410 = true
 rotate_left
 ·
  replace c3 := Bool.eq_false_iff.mpr c3
  subst c3
  have H1 : (some (5, 0)) = some (r1, r2) := by rw [if_neg (show ¬ (false = true) by decide)] at H; exact H
  clear H; have H := H1; clear H1
  simp only [Option.some.injEq, Prod.mk.injEq] at H
  obtain ⟨rfl, rfl⟩ := H
  go_enter Tryd.func36, Tryd.ntmps36
  go_wp2_with (first | ((with_reducible refine gate_dst (N := 1) rfl ?_); (try (refine gate_guard (by rfl) ?_; dsimp only)); refine bX 1 (cs := #[.string a0_0, .slice A0_1 l0_1.length c0_1, .slice A0_2 l0_2.length c0_2]) (t := 28) ?_; intro gb408 hg w46 hbox hb; have BK408 := aM (hbox); have GW408 := aM (gE hg (below_size (bB HB.out))); have GE408 := GW408; replace HB := aM (below_step (bB HB.out) hb); clear hb hbox hg) | ((with_reducible refine gate_dst (N := 2) rfl ?_); (try (refine gate_guard (by rfl) ?_; dsimp only)); refine bX 2 (cs := #[.int .i64 0, .int .i64 0]) (t := 66) ?_; intro gb409 hg w47 hbox hb; have BK409 := aM (hbox); have GW409 := aM (gE hg (below_size (bB1 HB.out GE408.out))); have GE409 := GW409; replace HB := aM (below_step (bB1 HB.out GE408.out) hb); have NB408_409 := aM (gL hg (kL BK408.out)); have NB409_408 := aM (gG hg (kL BK408.out)); replace BK408 := aM (kW BK408.out hb); clear hb hbox hg; have hnb48 := NB408_409.out; have hnc48 := NB409_408.out; obtain ⟨hcz49_0, hcz49_1, hcz49_2, hfz49_0, hfz49_1, hfz49_2⟩ := cd3 BK408.out) | ((with_reducible refine gate_callee (f := 54) rfl ?_); refine gM (some 9) Tryd.func54 #[.string a0_0] ?_; (with_reducible refine (r09_Name.calls k a0_0 false _ A2.out).mono ?_); rintro e w' ⟨rfl, ⟨nd, rfl⟩⟩; refine ⟨_, rfl, ?_⟩; (try (rw [drewN_self w47]; generalize hq_ : World.drewN w47 _ = w47; have n0_ : Aside0 (w47.heap[gb408]? = some (.cells #[.string a0_0, .slice A0_1 l0_1.length c0_1, .slice A0_2 l0_2.length c0_2] 28 (0, 0))) := ⟨by rw [← hq_]; exact (kB BK408.out)⟩; have n1_ : Aside0 (w47.heap[gb409]? = some (.cells #[.int .i64 0, .int .i64 0] 66 (0, 0))) := ⟨by rw [← hq_]; exact (kB BK409.out)⟩; have n2_ : Aside0 (Below w.heap.size w w47) := ⟨by rw [← hq_]; exact (bB2 HB.out GE408.out GE409.out)⟩; clear BK408 BK409 HB hq_; have BK408 := n0_; have BK409 := n1_; have HB := n2_; clear n0_ n1_ n2_)); obtain ⟨hcz50_0, hcz50_1, hfz50_0, hfz50_1⟩ := cd2 BK409.out))
  refine bodyPost_ret (results_cell_row rfl _ _ gb409 66 #[.int .i64 5, .int .i64 0] (0, 0) _ rfl (bP BK409.out) Tryd.underlying66 rfl (by kernel_rfl)) rfl ?_
  exact ⟨rT, bB2 HB.out GE408.out GE409.out⟩


 subst c3
 have H1 : (if (l0_1.length : Int) < 1 then (r09_Check.j0 k true a0_0 l0_1 l0_2) else (if (l0_1.length : Int) > 24 then (r09_Check.j0 k true a0_0 l0_1 l0_2) else (r09_Check.j0 k (decide ((l0_2.length : Int) > 24)) a0_0 l0_1 l0_2))) = some (r1, r2) := by rw [if_pos rfl] at H; exact H
 clear H; have H := H1; clear H1; have HC4 := aM H; clear H
 go_enter Tryd.func36, Tryd.ntmps36
 go_upto_region 3 with (first | ((with_reducible refine gate_dst (N := 1) rfl ?_); (try (refine gate_guard (by rfl) ?_; dsimp only)); refine bX 1 (cs := #[.string a0_0, .slice A0_1 l0_1.length c0_1, .slice A0_2 l0_2.length c0_2]) (t := 28) ?_; intro gb408 hg w5 hbox hb; have BK408 := aM (hbox); have GW408 := aM (gE hg (below_size (bB HB.out))); have GE408 := GW408; replace HB := aM (below_step (bB HB.out) hb); clear hb hbox hg) | ((with_reducible refine gate_dst (N := 2) rfl ?_); (try (refine gate_guard (by rfl) ?_; dsimp only)); refine bX 2 (cs := #[.int .i64 0, .int .i64 0]) (t := 66) ?_; intro gb409 hg w6 hbox hb; have BK409 := aM (hbox); have GW409 := aM (gE hg (below_size (bB1 HB.out GE408.out))); have GE409 := GW409; replace HB := aM (below_step (bB1 HB.out GE408.out) hb); have NB408_409 := aM (gL hg (kL BK408.out)); have NB409_408 := aM (gG hg (kL BK408.out)); replace BK408 := aM (kW BK408.out hb); clear hb hbox hg; have hnb7 := NB408_409.out; have hnc7 := NB409_408.out; obtain ⟨hcz8_0, hcz8_1, hcz8_2, hfz8_0, hfz8_1, hfz8_2⟩ := cd3 BK408.out) | ((with_reducible refine gate_callee (f := 54) rfl ?_); refine gM (some 9) Tryd.func54 #[.string a0_0] ?_; (with_reducible refine (r09_Name.calls k a0_0 true _ A2.out).mono ?_); rintro e w' ⟨rfl, ⟨nd, rfl⟩⟩; refine ⟨_, rfl, ?_⟩))
 (try simp only [Act.put, List.setIfInBounds_toArray, List.set_cons_zero, List.set_cons_succ])
 go_cut [27] (fun v27 wc => ∃ (kq : Nat) (x27_3 : Bool), v27 = .bool x27_3 ∧ Aside0 (r09_Check.j0 kq x27_3 a0_0 l0_1 l0_2 = some (r1, r2)) ∧ Aside0 (kq ≤ k) ∧ Aside0 (wc.heap[gb408]? = some (.cells #[.string a0_0, (.slice A0_1 l0_1.length c0_1), (.slice A0_2 l0_2.length c0_2)] 28 (0, 0))) ∧ Aside0 (wc.heap[gb409]? = some (.cells #[.int .i64 0, .int .i64 0] 66 (0, 0))) ∧ Aside0 (Below w.heap.size w wc))
 case first =>
  have H := HC4.out; clear HC4
  by_cases c9 : (l0_1.length : Int) < 1
  ·
   rw [if_pos c9] at H
   have c9b0 := decide_eq_true c9; have c9b1 : decide (l0_1.length < 1) = true := decide_eq_true (by omega); clear c9
   (first | rw [c9b0] | (simp only [i64_w, i32_w]; rw [c9b0]) | skip)
   have H' := aM H
   clear H; have hnb10 := NB408_409.out; have hnc10 := NB409_408.out
   have hcz11_0 := cz0 BK408.out
   have hcz11_1 := cz1 BK408.out
   have hcz11_2 := cz2 BK408.out
   have hfz11_0 := blk_frozen BK408.out 0; have hfz11_1 := blk_frozen BK408.out 1; have hfz11_2 := blk_frozen BK408.out 2
   go_wp2
   go_meet
   case rel => exact ⟨_, (true), eT, H', ⟨by first | omega | exact Nat.le_refl _⟩, ⟨kB BK408.out⟩, ⟨kB BK409.out⟩, ⟨bB2 HB.out GE408.out GE409.out⟩⟩
  rw [if_neg c9] at H; have c9b0 := decide_eq_false c9; have c9b1 : decide (l0_1.length < 1) = false := decide_eq_false (by omega); clear c9
  (first | rw [c9b0] | (simp only [i64_w, i32_w]; rw [c9b0]) | skip)
  by_cases c12 : (l0_1.length : Int) > 24
  ·
   rw [if_pos c12] at H
   have c12b0 : decide (24 < (l0_1.length : Int)) = true := decide_eq_true c12; have c12b1 : decide (24 < l0_1.length) = true := decide_eq_true (by omega); clear c12
   have H' := aM H
   clear H; have hnb13 := NB408_409.out; have hnc13 := NB409_408.out
   have hcz14_0 := cz0 BK408.out
   have hcz14_1 := cz1 BK408.out
   have hcz14_2 := cz2 BK408.out
   have hfz14_0 := blk_frozen BK408.out 0; have hfz14_1 := blk_frozen BK408.out 1; have hfz14_2 := blk_frozen BK408.out 2
   go_wp2
   go_meet
   case rel => exact ⟨_, (true), eT, H', ⟨by first | omega | exact Nat.le_refl _⟩, ⟨kB BK408.out⟩, ⟨kB BK409.out⟩, ⟨bB2 HB.out GE408.out GE409.out⟩⟩
  rw [if_neg c12] at H; have c12b0 : decide (24 < (l0_1.length : Int)) = false := decide_eq_false c12; have c12b1 : decide (24 < l0_1.length) = false := decide_eq_false (by omega); clear c12
  have H' := aM H
  clear H; have hnb15 := NB408_409.out; have hnc15 := NB409_408.out
  have hcz16_0 := cz0 BK408.out
  have hcz16_1 := cz1 BK408.out
  have hcz16_2 := cz2 BK408.out
  have hfz16_0 := blk_frozen BK408.out 0; have hfz16_1 := blk_frozen BK408.out 1; have hfz16_2 := blk_frozen BK408.out 2
  go_wp2
  go_meet
  case rel => exact ⟨_, (decide ((l0_2.length : Int) > 24)), eT, H', ⟨by first | omega | exact Nat.le_refl _⟩, ⟨kB BK408.out⟩, ⟨kB BK409.out⟩, ⟨bB2 HB.out GE408.out GE409.out⟩⟩
 clear HC4; obtain ⟨kq, x27_3, rfl, HA, HJ3, BK408, BK409, HB⟩ := hcut
 cases kq with
 | zero => exact absurd HA.out (by simp [r09_Check.j0])
 | succ kj3 =>
  have H := HA.out; clear HA
  simp only [r09_Check.j0] at H
  by_cases c17 : x27_3 = true
  ·
   subst c17
   have H1 : (some (2, 0)) = some (r1, r2) := by rw [if_pos rfl] at H; exact H
   clear H; have H := H1; clear H1
   simp only [Option.some.injEq, Prod.mk.injEq] at H
   obtain ⟨rfl, rfl⟩ := H; have hnb18 := NB409_408.out; have hnc18 := NB408_409.out
   have hcz19_0 : wc.cell? ⟨gb409, 0, none⟩ = some (.int .i64 0) := (blk_cell BK409.out 0).trans rfl
   have hcz19_1 : wc.cell? ⟨gb409, 1, none⟩ = some (.int .i64 0) := (blk_cell BK409.out 1).trans rfl
   have hfz19_0 := blk_frozen BK409.out 0; have hfz19_1 := blk_frozen BK409.out 1
   go_wp2
   refine bodyPost_ret (results_cell_row rfl _ _ gb409 66 #[.int .i64 2, .int .i64 0] (0, 0) _ rfl (bP BK409.out) Tryd.underlying66 rfl (by kernel_rfl)) rfl ?_
   exact ⟨rT, bB2 HB.out GE408.out GE409.out⟩
  replace c17 := Bool.eq_false_iff.mpr c17; subst c17
  have H1 : (r09_Check.l0 kj3 0 a0_0 l0_1 l0_2) = some (r1, r2) := by rw [if_neg (show ¬ (false = true) by decide)] at H; exact H
  clear H; have H := H1; clear H1
  have H' := aM H
  clear H
  go_wp2
  go_loopg [3] kj3 (fun kq v3 w' => ∃ (x3_2 : Int) (x410000_2 : Int) (x410001_2 : Int), v3 = .int .i64 x3_2 ∧ Aside0 (r09_Check.l0 kq x3_2 a0_0 l0_1 l0_2 = some (r1, r2)) ∧ Aside0 (kq ≤ kj3) ∧ Aside0 (w'.heap[gb408]? = some (.cells #[.string a0_0, (.slice A0_1 l0_1.length c0_1), (.slice A0_2 l0_2.length c0_2)] 28 (0, 0))) ∧ Aside0 (w'.heap[gb409]? = some (.cells #[.int .i64 x410000_2, .int .i64 x410001_2] 66 (0, 0))) ∧ Aside0 (Below w.heap.size w w'))
  case atStart => exact ⟨(0), (0), (0), eT, H', ⟨Nat.le_refl _⟩, ⟨kB BK408.out⟩, ⟨kB BK409.out⟩, ⟨bB2 HB.out GE408.out GE409.out⟩⟩
  clear H'; obtain ⟨x3_2, x410000_2, x410001_2, rfl, HA, HK2, BK408, BK409, HB⟩ := hrel
  cases gk with
  | zero => exact absurd HA.out (by simp [r09_Check.l0])
  | succ k2 =>
   have H := HA.out; clear HA
   simp only [r09_Check.l0] at H
   by_cases c20 : x3_2 < (l0_1.length : Int)
   ·
    rw [if_pos c20] at H
    have c20b0 := decide_eq_true c20; clear c20; obtain ⟨t411, A21, H⟩ := iB H; (try dsimp only at H)
    by_cases c22 : t411 = 0
    ·
     rw [if_pos c22] at H
     have c22b0 : (t411 == 0) = true := beq_iff_eq.mpr c22; have c22b1 : (t411 != 0) = false := bne_eq_false_iff_eq.mpr c22; clear c22
     have H' := aM H
     clear H; have hnb23 := NB408_409.out; have hnc23 := NB409_408.out
     have hcz24_0 : wr.cell? ⟨gb408, 0, none⟩ = some (.string a0_0) := (blk_cell BK408.out 0).trans rfl
     have hcz24_1 : wr.cell? ⟨gb408, 1, none⟩ = some (.slice A0_1 l0_1.length c0_1) := (blk_cell BK408.out 1).trans rfl
     have hcz24_2 : wr.cell? ⟨gb408, 2, none⟩ = some (.slice A0_2 l0_2.length c0_2) := (blk_cell BK408.out 2).trans rfl
     have hfz24_0 := blk_frozen BK408.out 0; have hfz24_1 := blk_frozen BK408.out 1; have hfz24_2 := blk_frozen BK408.out 2
     go_wp2_with (first | ((with_reducible refine gate_callee (f := 55) rfl ?_); refine gM (some 38) Tryd.func55 #[.agg #[.string a0_0, .slice A0_1 l0_1.length c0_1, .slice A0_2 l0_2.length c0_2], .int .i64 x3_2] ?_; (with_reducible refine (r09_place.calls k2 a0_0 _ _ l0_1 _ _ l0_2 x3_2 t411 _ ?side1 ?side2 ?side3 ?side4 A21.out).mono ?_); (case side1 => exact cB HR0_1.out HB.out); (case side2 => exact HC0_1.out); (case side3 => exact cB HR0_2.out HB.out); (case side4 => exact HC0_2.out); rintro e w25 ⟨rfl, hb⟩; refine ⟨_, rfl, ?_⟩; replace BK408 := aM (kW BK408.out hb); replace BK409 := aM (kW BK409.out hb); replace HB := aM (below_step (bB2 HB.out GE408.out GE409.out) hb); clear hb))
     go_roundg k2
     case measure => have := HJ3.out; have := HK2.out; omega
     case rel => exact ⟨(wrap64 (x3_2 + 1)), (x410000_2), (x410001_2), eT, H', ⟨by have := HJ3.out; have := HK2.out; omega⟩, ⟨kB BK408.out⟩, ⟨kB BK409.out⟩, ⟨bB2 HB.out GE408.out GE409.out⟩⟩
    rw [if_neg c22] at H; have c22b0 : (t411 == 0) = false := beq_eq_false_iff_ne.mpr c22; have c22b1 : (t411 != 0) = true := bne_iff_ne.mpr c22
    simp only [Option.some.injEq, Prod.mk.injEq] at H
    obtain ⟨rfl, rfl⟩ := H; have hnb26 := NB408_409.out; have hnc26 := NB409_408.out
    have hcz27_0 : wr.cell? ⟨gb408, 0, none⟩ = some (.string a0_0) := (blk_cell BK408.out 0).trans rfl
    have hcz27_1 : wr.cell? ⟨gb408, 1, none⟩ = some (.slice A0_1 l0_1.length c0_1) := (blk_cell BK408.out 1).trans rfl
    have hcz27_2 : wr.cell? ⟨gb408, 2, none⟩ = some (.slice A0_2 l0_2.length c0_2) := (blk_cell BK408.out 2).trans rfl
    have hfz27_0 := blk_frozen BK408.out 0; have hfz27_1 := blk_frozen BK408.out 1; have hfz27_2 := blk_frozen BK408.out 2
    go_wp2_with (first | ((with_reducible refine gate_callee (f := 55) rfl ?_); refine gM (some 38) Tryd.func55 #[.agg #[.string a0_0, .slice A0_1 l0_1.length c0_1, .slice A0_2 l0_2.length c0_2], .int .i64 x3_2] ?_; (with_reducible refine (r09_place.calls k2 a0_0 _ _ l0_1 _ _ l0_2 x3_2 t411 _ ?side1 ?side2 ?side3 ?side4 A21.out).mono ?_); (case side1 => exact cB HR0_1.out HB.out); (case side2 => exact HC0_1.out); (case side3 => exact cB HR0_2.out HB.out); (case side4 => exact HC0_2.out); rintro e w28 ⟨rfl, hb⟩; refine ⟨_, rfl, ?_⟩; replace BK408 := aM (kW BK408.out hb); replace BK409 := aM (kW BK409.out hb); replace HB := aM (below_step (bB2 HB.out GE408.out GE409.out) hb); clear hb; obtain ⟨hcz29_0, hcz29_1, hfz29_0, hfz29_1⟩ := cd2 BK409.out))
    refine bodyPost_ret (results_cell_row rfl _ _ gb409 66 #[.int .i64 t411, .int .i64 x3_2] (0, 0) _ rfl (bP BK409.out) Tryd.underlying66 rfl (by kernel_rfl)) rfl ?_
    exact ⟨rT, bB2 HB.out GE408.out GE409.out⟩
   rw [if_neg c20] at H; have c20b0 := decide_eq_false c20; clear c20
   have H' := aM H
   clear H; have hnb30 := NB408_409.out; have hnc30 := NB409_408.out
   have hcz31_0 : wr.cell? ⟨gb408, 0, none⟩ = some (.string a0_0) := (blk_cell BK408.out 0).trans rfl
   have hcz31_1 : wr.cell? ⟨gb408, 1, none⟩ = some (.slice A0_1 l0_1.length c0_1) := (blk_cell BK408.out 1).trans rfl
   have hcz31_2 : wr.cell? ⟨gb408, 2, none⟩ = some (.slice A0_2 l0_2.length c0_2) := (blk_cell BK408.out 2).trans rfl
   have hfz31_0 := blk_frozen BK408.out 0; have hfz31_1 := blk_frozen BK408.out 1; have hfz31_2 := blk_frozen BK408.out 2
   go_wp2
   go_loopg [5] k2 (fun kq v5 w' => ∃ (x5_3 : Int) (x410000_3 : Int) (x410001_3 : Int), v5 = .int .i64 x5_3 ∧ Aside0 (r09_Check.l1 kq x5_3 a0_0 l0_1 l0_2 = some (r1, r2)) ∧ Aside0 (kq ≤ k2) ∧ Aside0 (w'.heap[gb408]? = some (.cells #[.string a0_0, (.slice A0_1 l0_1.length c0_1), (.slice A0_2 l0_2.length c0_2)] 28 (0, 0))) ∧ Aside0 (w'.heap[gb409]? = some (.cells #[.int .i64 x410000_3, .int .i64 x410001_3] 66 (0, 0))) ∧ Aside0 (Below w.heap.size w w'))
   case atStart => exact ⟨(0), (x410000_2), (x410001_2), eT, H', ⟨Nat.le_refl _⟩, ⟨kB BK408.out⟩, ⟨kB BK409.out⟩, ⟨bB2 HB.out GE408.out GE409.out⟩⟩
   clear H'; obtain ⟨x5_3, x410000_3, x410001_3, rfl, HA, HK3, BK408, BK409, HB⟩ := hrel
   cases gk with
   | zero => exact absurd HA.out (by simp [r09_Check.l1])
   | succ k3 =>
    have H := HA.out; clear HA
    simp only [r09_Check.l1] at H
    by_cases c32 : x5_3 < (l0_2.length : Int)
    rotate_left
    ·
     rw [if_neg c32] at H
     have c32b0 := decide_eq_false c32; clear c32
     simp only [Option.some.injEq, Prod.mk.injEq] at H
     obtain ⟨rfl, rfl⟩ := H; have hnb43 := NB408_409.out; have hnc43 := NB409_408.out
     have hcz44_0 : wr.cell? ⟨gb408, 0, none⟩ = some (.string a0_0) := (blk_cell BK408.out 0).trans rfl
     have hcz44_1 : wr.cell? ⟨gb408, 1, none⟩ = some (.slice A0_1 l0_1.length c0_1) := (blk_cell BK408.out 1).trans rfl
     have hcz44_2 : wr.cell? ⟨gb408, 2, none⟩ = some (.slice A0_2 l0_2.length c0_2) := (blk_cell BK408.out 2).trans rfl
     have hfz44_0 := blk_frozen BK408.out 0; have hfz44_1 := blk_frozen BK408.out 1; have hfz44_2 := blk_frozen BK408.out 2
     have hcz45_0 : wr.cell? ⟨gb409, 0, none⟩ = some (.int .i64 x410000_3) := (blk_cell BK409.out 0).trans rfl
     have hcz45_1 : wr.cell? ⟨gb409, 1, none⟩ = some (.int .i64 x410001_3) := (blk_cell BK409.out 1).trans rfl
     have hfz45_0 := blk_frozen BK409.out 0; have hfz45_1 := blk_frozen BK409.out 1
     go_wp2
     refine bodyPost_ret (results_cell_row rfl _ _ gb409 66 #[.int .i64 0, .int .i64 0] (0, 0) _ rfl (bP BK409.out) Tryd.underlying66 rfl (by kernel_rfl)) rfl ?_
     exact ⟨rT, bB2 HB.out GE408.out GE409.out⟩
    rw [if_pos c32] at H; have c32b0 := decide_eq_true c32; clear c32; obtain ⟨t412, A33, H⟩ := iB H; (try dsimp only at H)
    by_cases c34 : t412 = 0
    ·
     rw [if_pos c34] at H
     have c34b0 : (t412 == 0) = true := beq_iff_eq.mpr c34; have c34b1 : (t412 != 0) = false := bne_eq_false_iff_eq.mpr c34; clear c34
     have H' := aM H
     clear H; have hnb35 := NB408_409.out; have hnc35 := NB409_408.out
     have hcz36_0 : wr.cell? ⟨gb408, 0, none⟩ = some (.string a0_0) := (blk_cell BK408.out 0).trans rfl
     have hcz36_1 : wr.cell? ⟨gb408, 1, none⟩ = some (.slice A0_1 l0_1.length c0_1) := (blk_cell BK408.out 1).trans rfl
     have hcz36_2 : wr.cell? ⟨gb408, 2, none⟩ = some (.slice A0_2 l0_2.length c0_2) := (blk_cell BK408.out 2).trans rfl
     have hfz36_0 := blk_frozen BK408.out 0; have hfz36_1 := blk_frozen BK408.out 1; have hfz36_2 := blk_frozen BK408.out 2
     go_wp2_with (first | ((with_reducible refine gate_callee (f := 56) rfl ?_); refine gM (some 53) Tryd.func56 #[.agg #[.string a0_0, .slice A0_1 l0_1.length c0_1, .slice A0_2 l0_2.length c0_2], .int .i64 x5_3] ?_; (with_reducible refine (r09_trans.calls k3 a0_0 _ _ l0_1 _ _ l0_2 x5_3 t412 _ ?side1 ?side2 ?side3 ?side4 A33.out).mono ?_); (case side1 => exact cB HR0_1.out HB.out); (case side2 => exact HC0_1.out); (case side3 => exact cB HR0_2.out HB.out); (case side4 => exact HC0_2.out); rintro e w37 ⟨rfl, hb⟩; refine ⟨_, rfl, ?_⟩; replace BK408 := aM (kW BK408.out hb); replace BK409 := aM (kW BK409.out hb); replace HB := aM (below_step (bB2 HB.out GE408.out GE409.out) hb); clear hb))
     go_roundg k3
     case measure => have := HJ3.out; have := HK2.out; have := HK3.out; omega
     case rel => exact ⟨(wrap64 (x5_3 + 1)), (x410000_3), (x410001_3), eT, H', ⟨by have := HJ3.out; have := HK2.out; have := HK3.out; omega⟩, ⟨kB BK408.out⟩, ⟨kB BK409.out⟩, ⟨bB2 HB.out GE408.out GE409.out⟩⟩
    rw [if_neg c34] at H; have c34b0 : (t412 == 0) = false := beq_eq_false_iff_ne.mpr c34; have c34b1 : (t412 != 0) = true := bne_iff_ne.mpr c34
    simp only [Option.some.injEq, Prod.mk.injEq] at H
    obtain ⟨rfl, rfl⟩ := H; have hnb38 := NB408_409.out; have hnc38 := NB409_408.out
    have hcz39_0 : wr.cell? ⟨gb408, 0, none⟩ = some (.string a0_0) := (blk_cell BK408.out 0).trans rfl
    have hcz39_1 : wr.cell? ⟨gb408, 1, none⟩ = some (.slice A0_1 l0_1.length c0_1) := (blk_cell BK408.out 1).trans rfl
    have hcz39_2 : wr.cell? ⟨gb408, 2, none⟩ = some (.slice A0_2 l0_2.length c0_2) := (blk_cell BK408.out 2).trans rfl
    have hfz39_0 := blk_frozen BK408.out 0; have hfz39_1 := blk_frozen BK408.out 1; have hfz39_2 := blk_frozen BK408.out 2
    go_wp2_with (first | ((with_reducible refine gate_callee (f := 56) rfl ?_); refine gM (some 53) Tryd.func56 #[.agg #[.string a0_0, .slice A0_1 l0_1.length c0_1, .slice A0_2 l0_2.length c0_2], .int .i64 x5_3] ?_; (with_reducible refine (r09_trans.calls k3 a0_0 _ _ l0_1 _ _ l0_2 x5_3 t412 _ ?side1 ?side2 ?side3 ?side4 A33.out).mono ?_); (case side1 => exact cB HR0_1.out HB.out); (case side2 => exact HC0_1.out); (case side3 => exact cB HR0_2.out HB.out); (case side4 => exact HC0_2.out); rintro e w40 ⟨rfl, hb⟩; refine ⟨_, rfl, ?_⟩; replace BK408 := aM (kW BK408.out hb); replace BK409 := aM (kW BK409.out hb); replace HB := aM (below_step (bB2 HB.out GE408.out GE409.out) hb); clear hb; obtain ⟨hcz41_0, hcz41_1, hcz41_2, hfz41_0, hfz41_1, hfz41_2⟩ := cd3 BK408.out; obtain ⟨hcz42_0, hcz42_1, hfz42_0, hfz42_1⟩ := cd2 BK409.out))
    refine bodyPost_ret (results_cell_row rfl _ _ gb409 66 #[.int .i64 t412, .int .i64 (wrap64 ((l0_1.length : Int) + x5_3))] (0, 0) _ rfl (bP BK409.out) Tryd.underlying66 rfl (by kernel_rfl)) rfl ?_
    exact ⟨rT, bB2 HB.out GE408.out GE409.out⟩
/-! ### r09_Valid: function 12 -/
def r09_Valid.f (k : Nat) (a0_0 : ByteArray) (l0_1 : List (S59)) (l0_2 : List (S41)) : Option (Bool) := (r09_Check.f k a0_0 l0_1 l0_2).bind fun bt414 => (some (bt414.1 == 0))
theorem r09_Valid.mono : ∀ a0 a1 a2 k, LeO (r09_Valid.f k a0 a1 a2) (r09_Valid.f (k + 1) a0 a1 a2) := by
 intro a0 a1 a2 k
 unfold r09_Valid.f
 repeat' first
   | (with_reducible first | apply r09_Check.mono | exact LeO.refl _ | exact LeO.none _ | refine LeO.ite ?_ ?_ | refine LeO.bind ?_ (fun _ => ?_))
set_option maxHeartbeats 8000000 in
set_option maxRecDepth 100000 in
theorem r09_Valid.calls (k : Nat) (a0_0 : ByteArray) (A0_1 : Option Addr) (c0_1 : Nat) (l0_1 : List (S59)) (A0_2 : Option Addr) (c0_2 : Nat) (l0_2 : List (S41)) (r : Bool) (w : World) (hr0_1 : Kd.C k59 w A0_1 l0_1.length l0_1) (hc0_1 : l0_1.length ≤ c0_1) (hr0_2 : Kd.C k41 w A0_2 l0_2.length l0_2) (hc0_2 : l0_2.length ≤ c0_2) (h : r09_Valid.f k a0_0 l0_1 l0_2 = some r) :
  Calls Tryd.prog 12 #[.agg #[.string a0_0, .slice A0_1 l0_1.length c0_1, .slice A0_2 l0_2.length c0_2]] w fun e w' => e = .returned (.bool r) ∧ Below w.heap.size w w' := by
 have hu28 := Tryd.underlying28; have hu9 := Tryd.underlying9; have hu25 := Tryd.underlying25; have hu26 := Tryd.underlying26; have HR0_1 := aM hr0_1; have HC0_1 := aM hc0_1; clear hr0_1 hc0_1; have HR0_2 := aM hr0_2; have HC0_2 := aM hc0_2; clear hr0_2 hc0_2; have HB := aM (Below.refl w.heap.size w); have H : ((r09_Check.f k a0_0 l0_1 l0_2).bind fun bt414 => (some (bt414.1 == 0))) = some r := h; clear h; replace H := Option.bind_eq_some_iff.mp H
 obtain ⟨⟨t414, t415⟩, A20, H⟩ := H
 replace H : (some (t414 == 0)) = some r := H
 have A2 := aM A20; clear A20
 obtain rfl := Option.some.inj H
 go_enter Tryd.func12, Tryd.ntmps12
 go_wp2_with (first | ((with_reducible refine gate_dst (N := 1) rfl ?_); refine bX 1 (cs := #[.string a0_0, .slice A0_1 l0_1.length c0_1, .slice A0_2 l0_2.length c0_2]) (t := 28) ?_; intro gb413 hg w3 hbox hb; have BK413 := aM (hbox); have GW413 := aM (gE hg (below_size (bB HB.out))); have GE413 := GW413; replace HB := aM (below_step (bB HB.out) hb); clear hb hbox hg; obtain ⟨hcz4_0, hcz4_1, hcz4_2, hfz4_0, hfz4_1, hfz4_2⟩ := cd3 BK413.out) | ((with_reducible refine gate_callee (f := 36) rfl ?_); refine gM (some 4) Tryd.func36 #[.agg #[.string a0_0, .slice A0_1 l0_1.length c0_1, .slice A0_2 l0_2.length c0_2]] ?_; (with_reducible refine (r09_Check.calls k a0_0 _ _ l0_1 _ _ l0_2 t414 t415 _ ?side1 ?side2 ?side3 ?side4 A2.out).mono ?_); (case side1 => exact cB HR0_1.out HB.out); (case side2 => exact HC0_1.out); (case side3 => exact cB HR0_2.out HB.out); (case side4 => exact HC0_2.out); rintro e w5 ⟨rfl, hb⟩; refine ⟨_, rfl, ?_⟩; replace BK413 := aM (kW BK413.out hb); replace HB := aM (below_step (bB1 HB.out GE413.out) hb); clear hb))
 go_ret
 exact ⟨rT, bB1 HB.out GE413.out⟩


/-! ### l49_DiscoverNets: function 3 -/
def l49_DiscoverNets.j0 : Nat → List (List ByteArray) → Bool → Option (Bool)
 | 0, _, _ => none
 | k + 1, x0, x12 => if x12 = true then ((l49_exampleHolds.f k).bind fun t418 => (some t418)) else ((d_Alpha.f k x0).bind fun bt419 => ((r49_Alpha.f k x0).bind fun bt428 => ((r09_Equal.f k bt419.1 bt419.2.1 bt419.2.2.1 bt428.1 bt428.2.1 bt428.2.2.1).bind fun t437 => (if t437 = true then (if bt419.2.2.2 = bt428.2.2.2 then (if bt419.2.2.2 = 0 then ((r09_Valid.f k bt419.1 bt419.2.1 bt419.2.2.1).bind fun t438 => (if t438 = true then ((l49_exampleHolds.f k).bind fun t439 => (some t439)) else (some false))) else ((l49_exampleHolds.f k).bind fun t440 => (some t440))) else (some false)) else (some false)))))
def l49_DiscoverNets.f (k : Nat) (l0 : List (List ByteArray)) : Option (Bool) := (r49_Large.f k l0).bind fun t416 => (if t416 = true then (l49_DiscoverNets.j0 k l0 true) else ((l49_many.f k l0).bind fun t417 => (l49_DiscoverNets.j0 k l0 t417)))
theorem l49_DiscoverNets.mono_l : ∀ k, (∀ y0 y1, LeO (l49_DiscoverNets.j0 k y0 y1) (l49_DiscoverNets.j0 (k + 1) y0 y1))
 | 0 => fun _ _ r h => by simp [l49_DiscoverNets.j0] at h
 | k + 1 => by
  have ih0 := l49_DiscoverNets.mono_l k
  ·
   intro y0 y1
   unfold l49_DiscoverNets.j0
   repeat' first
   | (with_reducible first | apply ih0 | apply d_Alpha.mono | apply l49_exampleHolds.mono | apply l49_many.mono | apply r09_Equal.mono | apply r09_Valid.mono | apply r49_Alpha.mono | apply r49_Large.mono | exact LeO.refl _ | exact LeO.none _ | refine LeO.ite ?_ ?_ | refine LeO.bind ?_ (fun _ => ?_))
theorem l49_DiscoverNets.mono : ∀ a0 k, LeO (l49_DiscoverNets.f k a0) (l49_DiscoverNets.f (k + 1) a0) := by
 intro a0 k
 have ih0 := l49_DiscoverNets.mono_l k
 unfold l49_DiscoverNets.f
 repeat' first
   | (with_reducible first | apply ih0 | apply d_Alpha.mono | apply l49_exampleHolds.mono | apply l49_many.mono | apply r09_Equal.mono | apply r09_Valid.mono | apply r49_Alpha.mono | apply r49_Large.mono | exact LeO.refl _ | exact LeO.none _ | refine LeO.ite ?_ ?_ | refine LeO.bind ?_ (fun _ => ?_))
set_option maxHeartbeats 8000000 in
set_option maxRecDepth 100000 in
theorem l49_DiscoverNets.calls (k : Nat) (A0 : Option Addr) (c0 : Nat) (l0 : List (List ByteArray)) (r : Bool) (w : World) (hr0 : Kd.C (Kd.slice 9 Kd.string) w A0 l0.length l0) (hc0 : l0.length ≤ c0) (h : l49_DiscoverNets.f k l0 = some r) (hrT_ : Aside0 (r = true)) :
  Calls Tryd.prog 3 #[.slice A0 l0.length c0] w fun e w' => e = .returned (.bool r) ∧ Below w.heap.size w w' := by
 have hu28 := Tryd.underlying28; have hu9 := Tryd.underlying9; have hu25 := Tryd.underlying25; have hu26 := Tryd.underlying26; have HR0 := aM hr0; have HC0 := aM hc0; clear hr0 hc0; have HB := aM (Below.refl w.heap.size w); have H : ((r49_Large.f k l0).bind fun t416 => (if t416 = true then (l49_DiscoverNets.j0 k l0 true) else ((l49_many.f k l0).bind fun t417 => (l49_DiscoverNets.j0 k l0 t417)))) = some r := h; clear h; have HC2 := aM H; clear H
 go_enter Tryd.func3, Tryd.ntmps3
 go_upto_region 1 with (fail)
 go_cut [12] (fun v12 wc => ∃ (kq : Nat) (x12_1 : Bool), v12 = .bool x12_1 ∧ Aside0 (l49_DiscoverNets.j0 kq l0 x12_1 = some r) ∧ Aside0 (kq ≤ k) ∧ Aside0 (Below w.heap.size w wc))
 case first =>
  have H := HC2.out; clear HC2; obtain ⟨t416, A3, H⟩ := iB H; (try dsimp only at H)
  by_cases c4 : t416 = true
  ·
   subst c4
   have H1 : (l49_DiscoverNets.j0 k l0 true) = some r := by rw [if_pos rfl] at H; exact H
   clear H; have H := H1; clear H1
   have H' := aM H
   clear H
   go_wp2_with (first | ((with_reducible refine gate_callee (f := 6) rfl ?_); refine gM (some 8) Tryd.func6 #[.slice A0 l0.length c0] ?_; (with_reducible refine (r49_Large.calls k _ _ l0 true _ ?side1 ?side2 A3.out).mono ?_); (case side1 => exact cB HR0.out HB.out); (case side2 => exact HC0.out); rintro e w' ⟨rfl, ⟨nd, rfl⟩⟩; refine ⟨_, rfl, ?_⟩))
   go_meet
   case rel => exact ⟨_, (true), eT, H', ⟨by first | omega | exact Nat.le_refl _⟩, ⟨bB HB.out⟩⟩
  replace c4 := Bool.eq_false_iff.mpr c4; subst c4
  have H1 : ((l49_many.f k l0).bind fun t417 => (l49_DiscoverNets.j0 k l0 t417)) = some r := by rw [if_neg (show ¬ (false = true) by decide)] at H; exact H
  clear H; have H := H1; clear H1; replace H := Option.bind_eq_some_iff.mp H; obtain ⟨t417, A50, H⟩ := H
  replace H : (l49_DiscoverNets.j0 k l0 t417) = some r := H
  have A5 := aM A50; clear A50
  have H' := aM H
  clear H
  go_wp2_with (first | ((with_reducible refine gate_callee (f := 6) rfl ?_); refine gM (some 8) Tryd.func6 #[.slice A0 l0.length c0] ?_; (with_reducible refine (r49_Large.calls k _ _ l0 false _ ?side1 ?side2 A3.out).mono ?_); (case side1 => exact cB HR0.out HB.out); (case side2 => exact HC0.out); rintro e w' ⟨rfl, ⟨nd, rfl⟩⟩; refine ⟨_, rfl, ?_⟩) | (go_at_call 7; (with_reducible refine (l49_many.calls k _ _ l0 t417 _ ?side1 ?side2 A5.out).mono ?_); (case side1 => repeat (first | exact (Kd.C_below HR0.out (bB HB.out)) | (with_reducible refine Kd.C_alloc ?_ _) | (with_reducible refine Kd.C_drewN ?_ _) | (with_reducible refine Kd.C_drew ?_))); (case side2 => exact HC0.out); rintro e w6 ⟨rfl, hb⟩; replace HB := aM (below_step (bB HB.out) hb); clear hb))
  go_meet
  case rel => exact ⟨_, (t417), eT, H', ⟨by first | omega | exact Nat.le_refl _⟩, ⟨bB HB.out⟩⟩
 clear HC2; obtain ⟨kq, x12_1, rfl, HA, HJ1, HB⟩ := hcut
 cases kq with
 | zero => exact absurd HA.out (by simp [l49_DiscoverNets.j0])
 | succ kj1 =>
  have H := HA.out; clear HA
  simp only [l49_DiscoverNets.j0] at H
  by_cases c7 : x12_1 = true
  ·
   subst c7
   have H1 : ((l49_exampleHolds.f kj1).bind fun t418 => (some t418)) = some r := by rw [if_pos rfl] at H; exact H
   clear H; have H := H1; clear H1; replace H := Option.bind_eq_some_iff.mp H; obtain ⟨t418, A80, H⟩ := H
   replace H : (some t418) = some r := H
   have A8 := aM A80; clear A80
   obtain rfl := Option.some.inj H
   go_wp2_with (first | ((with_reducible refine gate_callee (f := 8) rfl ?_); refine gM (some 13) Tryd.func8 #[] ?_; (with_reducible refine (l49_exampleHolds.calls kj1  t418 _ A8.out (by first | exact hrT_ | exact ⟨rfl⟩)).mono ?_); rintro e w9 ⟨rfl, hb⟩; refine ⟨_, rfl, ?_⟩; replace HB := aM (below_step (bB HB.out) hb); clear hb))
   go_ret
   exact ⟨rT, bB HB.out⟩
  replace c7 := Bool.eq_false_iff.mpr c7; subst c7
  have H1 : ((d_Alpha.f kj1 l0).bind fun bt419 => ((r49_Alpha.f kj1 l0).bind fun bt428 => ((r09_Equal.f kj1 bt419.1 bt419.2.1 bt419.2.2.1 bt428.1 bt428.2.1 bt428.2.2.1).bind fun t437 => (if t437 = true then (if bt419.2.2.2 = bt428.2.2.2 then (if bt419.2.2.2 = 0 then ((r09_Valid.f kj1 bt419.1 bt419.2.1 bt419.2.2.1).bind fun t438 => (if t438 = true then ((l49_exampleHolds.f kj1).bind fun t439 => (some t439)) else (some false))) else ((l49_exampleHolds.f kj1).bind fun t440 => (some t440))) else (some false)) else (some false))))) = some r := by rw [if_neg (show ¬ (false = true) by decide)] at H; exact H
  clear H; have H := H1; clear H1; obtain ⟨⟨t419, t420, t423, t426⟩, A10, H⟩ := iB H; (try dsimp only at H); obtain ⟨⟨t428, t429, t432, t435⟩, A11, H⟩ := iB H; (try dsimp only at H); obtain ⟨t437, A12, H⟩ := iB H; (try dsimp only at H)
  by_cases c13 : t437 = true
  rotate_left
  ·
   replace c13 := Bool.eq_false_iff.mpr c13
   subst c13
   have H1 : (some false) = some r := by rw [if_neg (show ¬ (false = true) by decide)] at H; exact H
   clear H; have H := H1; clear H1
   exact absurd ((Option.some.inj H).trans hrT_.out) Bool.false_ne_true


  subst c13
  have H1 : (if t426 = t435 then (if t426 = 0 then ((r09_Valid.f kj1 t419 t420 t423).bind fun t438 => (if t438 = true then ((l49_exampleHolds.f kj1).bind fun t439 => (some t439)) else (some false))) else ((l49_exampleHolds.f kj1).bind fun t440 => (some t440))) else (some false)) = some r := by rw [if_pos rfl] at H; exact H
  clear H; have H := H1; clear H1
  by_cases c14 : t426 = t435
  rotate_left
  ·
   rw [if_neg c14] at H
   have c14b0 : (t426 == t435) = false := beq_eq_false_iff_ne.mpr c14; have c14b1 : (t426 != t435) = true := bne_iff_ne.mpr c14
   exact absurd ((Option.some.inj H).trans hrT_.out) Bool.false_ne_true
  rw [if_pos c14] at H; have c14b0 : (t426 == t435) = true := beq_iff_eq.mpr c14; have c14b1 : (t426 != t435) = false := bne_eq_false_iff_eq.mpr c14; clear c14
  by_cases c15 : t426 = 0
  rotate_left
  ·
   rw [if_neg c15] at H
   have c15b0 : (t426 == 0) = false := beq_eq_false_iff_ne.mpr c15; have c15b1 : (t426 != 0) = true := bne_iff_ne.mpr c15; replace H := Option.bind_eq_some_iff.mp H; obtain ⟨t440, A350, H⟩ := H
   replace H : (some t440) = some r := H
   have A35 := aM A350; clear A350
   obtain rfl := Option.some.inj H
   go_wp2_with (first | ((with_reducible refine gate_callee (f := 9) rfl ?_); refine gM (some 16) Tryd.func9 #[.slice A0 l0.length c0] ?_; (with_reducible refine (d_Alpha.calls kj1 _ _ l0 t419 t420 t423 t426 _ ?side1 ?side2 A10.out).mono ?_); (case side1 => exact cB HR0.out HB.out); (case side2 => exact HC0.out); rintro e w36 ⟨v421, v424, rfl, ho0, ho1, hb⟩; refine ⟨_, rfl, ?_⟩; have HO422 := aM (Kd.R_lower ho0 (below_size (bB HB.out))); have HO425 := aM (Kd.S_lower ho1 (below_size (bB HB.out))); replace HB := aM (below_step (bB HB.out) hb); clear hb ho0 ho1) | ((with_reducible refine gate_dst (N := 3) rfl ?_); refine bX 3 (cs := #[.string (⟨#[]⟩ : ByteArray), .slice none 0 0, .slice none 0 0]) (t := 28) ?_; intro gb427 hg w37 hbox hb; replace HO422 := aM (Kd.R_below (oR HO422.out) hb); replace HO425 := aM (Kd.S_below (oS HO425.out) hb); have BK427 := aM (hbox); have GW427 := aM (gE hg (below_size (bB HB.out))); have GE427 := GW427; replace HB := aM (below_step (bB HB.out) hb); clear hb hbox hg; obtain ⟨hcz38_0, hcz38_1, hcz38_2, hfz38_0, hfz38_1, hfz38_2⟩ := cd3 BK427.out; obtain ⟨Ao39, co39, eo39⟩ := Kd.R_slice HO422.out; subst eo39; obtain ⟨Ao40, co40, eo40⟩ := Kd.S_slice HO425.out; subst eo40) | ((with_reducible refine gate_callee (f := 10) rfl ?_); refine gM (some 21) Tryd.func10 #[.slice A0 l0.length c0] ?_; (with_reducible refine (r49_Alpha.calls kj1 _ _ l0 t428 t429 t432 t435 _ ?side1 ?side2 A11.out).mono ?_); (case side1 => exact Kd.C_below HR0.out (bB1 HB.out GE427.out)); (case side2 => exact HC0.out); rintro e w41 ⟨v430, v433, rfl, ho0, ho1, hb⟩; refine ⟨_, rfl, ?_⟩; have HO431 := aM (Kd.R_lower (Kd.R_new' ho0 (Kd.R_lt (by refine oR ?_; exact (tR HO422.out BK427.out)))) (below_size (bB1 HB.out GE427.out))); replace HO422 := aM (Kd.R_elder' (by refine oR ?_; exact (tR HO422.out BK427.out)) (Kd.R_base ho0) hb); have HO434 := aM (Kd.S_lower (Kd.S_new' ho1 (Kd.S_lt (by refine oS ?_; exact (sR HO425.out BK427.out)))) (below_size (bB1 HB.out GE427.out))); replace HO425 := aM (Kd.S_elder' (by refine oS ?_; exact (sR HO425.out BK427.out)) (Kd.S_base ho1) hb); replace BK427 := aM (blk_below (g := gb427) (o := .cells #[.string t419, .slice Ao39 t420.length co39, .slice Ao40 t423.length co40] 28 (0, 0)) (bP BK427.out) hb); replace HB := aM (below_step (bB1 HB.out GE427.out) hb); clear hb ho0 ho1) | ((with_reducible refine gate_dst (N := 5) rfl ?_); refine bX 5 (cs := #[.string (⟨#[]⟩ : ByteArray), .slice none 0 0, .slice none 0 0]) (t := 28) ?_; intro gb436 hg w42 hbox hb; replace HO422 := aM (Kd.R_below (oR HO422.out) hb); replace HO425 := aM (Kd.S_below (oS HO425.out) hb); replace HO431 := aM (Kd.R_below (oR HO431.out) hb); replace HO434 := aM (Kd.S_below (oS HO434.out) hb); have BK436 := aM (hbox); have GW436 := aM (gE hg (below_size (bB1 HB.out GE427.out))); have GE436 := GW436; replace HB := aM (below_step (bB1 HB.out GE427.out) hb); have NB427_436 := aM (gL hg (kL BK427.out)); have NB436_427 := aM (gG hg (kL BK427.out)); replace BK427 := aM (kW BK427.out hb); clear hb hbox hg; have hnb43 := NB436_427.out; have hnc43 := NB427_436.out; obtain ⟨hcz44_0, hcz44_1, hcz44_2, hfz44_0, hfz44_1, hfz44_2⟩ := cd3 BK436.out; obtain ⟨Ao45, co45, eo45⟩ := Kd.R_slice HO431.out; subst eo45; obtain ⟨Ao46, co46, eo46⟩ := Kd.S_slice HO434.out; subst eo46; obtain ⟨hcz47_0, hcz47_1, hcz47_2, hfz47_0, hfz47_1, hfz47_2⟩ := cd3 BK427.out) | ((with_reducible refine gate_callee (f := 11) rfl ?_); refine gM (some 26) Tryd.func11 #[.agg #[.string t419, .slice Ao39 t420.length co39, .slice Ao40 t423.length co40], .agg #[.string t428, .slice Ao45 t429.length co45, .slice Ao46 t432.length co46]] ?_; (with_reducible refine (r09_Equal.calls kj1 t419 _ _ t420 _ _ t423 t428 _ _ t429 _ _ t432 true _ ?side1 ?side2 ?side3 ?side4 ?side5 ?side6 ?side7 ?side8 A12.out).mono ?_); (case side1 => refine (Kd.R_reads' (e := 59) (base := w.heap.size) (ok := fun k_ => (True ∧ some k_ ≠ (.slice Ao45 t429.length co45 : Value).ownBlock)) (n := t420.length) (c := co39) ?_).2.2; exact (by refine oR ?_; exact (tR HO422.out BK436.out))); (case side2 => exact (Kd.R_reads' HO422.out).2.1); (case side3 => refine (Kd.S_reads' (e := 41) (base := w.heap.size) (ok := fun k_ => (True ∧ some k_ ≠ (.slice Ao46 t432.length co46 : Value).ownBlock)) (n := t423.length) (c := co40) ?_).2.2; exact (by refine oS ?_; exact (sR HO425.out BK436.out))); (case side4 => exact (Kd.S_reads' HO425.out).2.1); (case side5 => refine (Kd.R_reads' (e := 59) (base := w.heap.size) (ok := fun k_ => (True ∧ some k_ ≠ (.slice Ao39 t420.length co39 : Value).ownBlock)) (n := t429.length) (c := co45) ?_).2.2; exact (by refine oR ?_; exact (tR HO431.out BK436.out))); (case side6 => exact (Kd.R_reads' HO431.out).2.1); (case side7 => refine (Kd.S_reads' (e := 41) (base := w.heap.size) (ok := fun k_ => (True ∧ some k_ ≠ (.slice Ao40 t423.length co40 : Value).ownBlock)) (n := t432.length) (c := co46) ?_).2.2; exact (by refine oS ?_; exact (sR HO434.out BK436.out))); (case side8 => exact (Kd.S_reads' HO434.out).2.1); rintro e w48 ⟨rfl, hb⟩; refine ⟨_, rfl, ?_⟩; replace HO422 := aM (Kd.R_below (by refine oR ?_; exact (tR HO422.out BK436.out)) hb); replace HO425 := aM (Kd.S_below (by refine oS ?_; exact (sR HO425.out BK436.out)) hb); replace HO431 := aM (Kd.R_below (by refine oR ?_; exact (tR HO431.out BK436.out)) hb); replace HO434 := aM (Kd.S_below (by refine oS ?_; exact (sR HO434.out BK436.out)) hb); replace BK427 := aM (blk_below (g := gb427) (o := .cells #[.string t419, .slice Ao39 t420.length co39, .slice Ao40 t423.length co40] 28 (0, 0)) (bF BK427.out NB427_436.out) hb); replace BK436 := aM (blk_below (g := gb436) (o := .cells #[.string t428, .slice Ao45 t429.length co45, .slice Ao46 t432.length co46] 28 (0, 0)) (bP BK436.out) hb); replace HB := aM (below_step (bB2 HB.out GE427.out GE436.out) hb); clear hb) | (go_at_call 8; (with_reducible refine (l49_exampleHolds.calls kj1  t440 _ A35.out (by first | exact hrT_ | exact ⟨rfl⟩)).mono ?_); rintro e w49 ⟨rfl, hb⟩; replace HO422 := aM (Kd.R_below (oR HO422.out) hb); replace HO425 := aM (Kd.S_below (oS HO425.out) hb); replace HO431 := aM (Kd.R_below (oR HO431.out) hb); replace HO434 := aM (Kd.S_below (oS HO434.out) hb); replace BK427 := aM (kW BK427.out hb); replace BK436 := aM (kW BK436.out hb); replace HB := aM (below_step (bB2 HB.out GE427.out GE436.out) hb); clear hb))
   go_ret
   exact ⟨rT, bB2 HB.out GE427.out GE436.out⟩
  rw [if_pos c15] at H; have c15b0 : (t426 == 0) = true := beq_iff_eq.mpr c15; have c15b1 : (t426 != 0) = false := bne_eq_false_iff_eq.mpr c15; clear c15; obtain ⟨t438, A16, H⟩ := iB H; (try dsimp only at H)
  by_cases c17 : t438 = true
  rotate_left
  ·
   replace c17 := Bool.eq_false_iff.mpr c17
   subst c17
   have H1 : (some false) = some r := by rw [if_neg (show ¬ (false = true) by decide)] at H; exact H
   clear H; have H := H1; clear H1
   exact absurd ((Option.some.inj H).trans hrT_.out) Bool.false_ne_true
  subst c17
  have H1 : ((l49_exampleHolds.f kj1).bind fun t439 => (some t439)) = some r := by rw [if_pos rfl] at H; exact H
  clear H; have H := H1; clear H1; replace H := Option.bind_eq_some_iff.mp H; obtain ⟨t439, A180, H⟩ := H
  replace H : (some t439) = some r := H
  have A18 := aM A180; clear A180
  obtain rfl := Option.some.inj H
  go_wp2_with (first | ((with_reducible refine gate_callee (f := 9) rfl ?_); refine gM (some 16) Tryd.func9 #[.slice A0 l0.length c0] ?_; (with_reducible refine (d_Alpha.calls kj1 _ _ l0 t419 t420 t423 t426 _ ?side1 ?side2 A10.out).mono ?_); (case side1 => exact cB HR0.out HB.out); (case side2 => exact HC0.out); rintro e w19 ⟨v421, v424, rfl, ho0, ho1, hb⟩; refine ⟨_, rfl, ?_⟩; have HO422 := aM (Kd.R_lower ho0 (below_size (bB HB.out))); have HO425 := aM (Kd.S_lower ho1 (below_size (bB HB.out))); replace HB := aM (below_step (bB HB.out) hb); clear hb ho0 ho1) | ((with_reducible refine gate_dst (N := 3) rfl ?_); refine bX 3 (cs := #[.string (⟨#[]⟩ : ByteArray), .slice none 0 0, .slice none 0 0]) (t := 28) ?_; intro gb427 hg w20 hbox hb; replace HO422 := aM (Kd.R_below (oR HO422.out) hb); replace HO425 := aM (Kd.S_below (oS HO425.out) hb); have BK427 := aM (hbox); have GW427 := aM (gE hg (below_size (bB HB.out))); have GE427 := GW427; replace HB := aM (below_step (bB HB.out) hb); clear hb hbox hg; obtain ⟨hcz21_0, hcz21_1, hcz21_2, hfz21_0, hfz21_1, hfz21_2⟩ := cd3 BK427.out; obtain ⟨Ao22, co22, eo22⟩ := Kd.R_slice HO422.out; subst eo22; obtain ⟨Ao23, co23, eo23⟩ := Kd.S_slice HO425.out; subst eo23) | ((with_reducible refine gate_callee (f := 10) rfl ?_); refine gM (some 21) Tryd.func10 #[.slice A0 l0.length c0] ?_; (with_reducible refine (r49_Alpha.calls kj1 _ _ l0 t428 t429 t432 t435 _ ?side1 ?side2 A11.out).mono ?_); (case side1 => exact Kd.C_below HR0.out (bB1 HB.out GE427.out)); (case side2 => exact HC0.out); rintro e w24 ⟨v430, v433, rfl, ho0, ho1, hb⟩; refine ⟨_, rfl, ?_⟩; have HO431 := aM (Kd.R_lower (Kd.R_new' ho0 (Kd.R_lt (by refine oR ?_; exact (tR HO422.out BK427.out)))) (below_size (bB1 HB.out GE427.out))); replace HO422 := aM (Kd.R_elder' (by refine oR ?_; exact (tR HO422.out BK427.out)) (Kd.R_base ho0) hb); have HO434 := aM (Kd.S_lower (Kd.S_new' ho1 (Kd.S_lt (by refine oS ?_; exact (sR HO425.out BK427.out)))) (below_size (bB1 HB.out GE427.out))); replace HO425 := aM (Kd.S_elder' (by refine oS ?_; exact (sR HO425.out BK427.out)) (Kd.S_base ho1) hb); replace BK427 := aM (blk_below (g := gb427) (o := .cells #[.string t419, .slice Ao22 t420.length co22, .slice Ao23 t423.length co23] 28 (0, 0)) (bP BK427.out) hb); replace HB := aM (below_step (bB1 HB.out GE427.out) hb); clear hb ho0 ho1) | ((with_reducible refine gate_dst (N := 5) rfl ?_); refine bX 5 (cs := #[.string (⟨#[]⟩ : ByteArray), .slice none 0 0, .slice none 0 0]) (t := 28) ?_; intro gb436 hg w25 hbox hb; replace HO422 := aM (Kd.R_below (oR HO422.out) hb); replace HO425 := aM (Kd.S_below (oS HO425.out) hb); replace HO431 := aM (Kd.R_below (oR HO431.out) hb); replace HO434 := aM (Kd.S_below (oS HO434.out) hb); have BK436 := aM (hbox); have GW436 := aM (gE hg (below_size (bB1 HB.out GE427.out))); have GE436 := GW436; replace HB := aM (below_step (bB1 HB.out GE427.out) hb); have NB427_436 := aM (gL hg (kL BK427.out)); have NB436_427 := aM (gG hg (kL BK427.out)); replace BK427 := aM (kW BK427.out hb); clear hb hbox hg; have hnb26 := NB436_427.out; have hnc26 := NB427_436.out; obtain ⟨hcz27_0, hcz27_1, hcz27_2, hfz27_0, hfz27_1, hfz27_2⟩ := cd3 BK436.out; obtain ⟨Ao28, co28, eo28⟩ := Kd.R_slice HO431.out; subst eo28; obtain ⟨Ao29, co29, eo29⟩ := Kd.S_slice HO434.out; subst eo29; obtain ⟨hcz30_0, hcz30_1, hcz30_2, hfz30_0, hfz30_1, hfz30_2⟩ := cd3 BK427.out) | ((with_reducible refine gate_callee (f := 11) rfl ?_); refine gM (some 26) Tryd.func11 #[.agg #[.string t419, .slice Ao22 t420.length co22, .slice Ao23 t423.length co23], .agg #[.string t428, .slice Ao28 t429.length co28, .slice Ao29 t432.length co29]] ?_; (with_reducible refine (r09_Equal.calls kj1 t419 _ _ t420 _ _ t423 t428 _ _ t429 _ _ t432 true _ ?side1 ?side2 ?side3 ?side4 ?side5 ?side6 ?side7 ?side8 A12.out).mono ?_); (case side1 => refine (Kd.R_reads' (e := 59) (base := w.heap.size) (ok := fun k_ => (True ∧ some k_ ≠ (.slice Ao28 t429.length co28 : Value).ownBlock)) (n := t420.length) (c := co22) ?_).2.2; exact (by refine oR ?_; exact (tR HO422.out BK436.out))); (case side2 => exact (Kd.R_reads' HO422.out).2.1); (case side3 => refine (Kd.S_reads' (e := 41) (base := w.heap.size) (ok := fun k_ => (True ∧ some k_ ≠ (.slice Ao29 t432.length co29 : Value).ownBlock)) (n := t423.length) (c := co23) ?_).2.2; exact (by refine oS ?_; exact (sR HO425.out BK436.out))); (case side4 => exact (Kd.S_reads' HO425.out).2.1); (case side5 => refine (Kd.R_reads' (e := 59) (base := w.heap.size) (ok := fun k_ => (True ∧ some k_ ≠ (.slice Ao22 t420.length co22 : Value).ownBlock)) (n := t429.length) (c := co28) ?_).2.2; exact (by refine oR ?_; exact (tR HO431.out BK436.out))); (case side6 => exact (Kd.R_reads' HO431.out).2.1); (case side7 => refine (Kd.S_reads' (e := 41) (base := w.heap.size) (ok := fun k_ => (True ∧ some k_ ≠ (.slice Ao23 t423.length co23 : Value).ownBlock)) (n := t432.length) (c := co29) ?_).2.2; exact (by refine oS ?_; exact (sR HO434.out BK436.out))); (case side8 => exact (Kd.S_reads' HO434.out).2.1); rintro e w31 ⟨rfl, hb⟩; refine ⟨_, rfl, ?_⟩; replace HO422 := aM (Kd.R_below (by refine oR ?_; exact (tR HO422.out BK436.out)) hb); replace HO425 := aM (Kd.S_below (by refine oS ?_; exact (sR HO425.out BK436.out)) hb); replace HO431 := aM (Kd.R_below (by refine oR ?_; exact (tR HO431.out BK436.out)) hb); replace HO434 := aM (Kd.S_below (by refine oS ?_; exact (sR HO434.out BK436.out)) hb); replace BK427 := aM (blk_below (g := gb427) (o := .cells #[.string t419, .slice Ao22 t420.length co22, .slice Ao23 t423.length co23] 28 (0, 0)) (bF BK427.out NB427_436.out) hb); replace BK436 := aM (blk_below (g := gb436) (o := .cells #[.string t428, .slice Ao28 t429.length co28, .slice Ao29 t432.length co29] 28 (0, 0)) (bP BK436.out) hb); replace HB := aM (below_step (bB2 HB.out GE427.out GE436.out) hb); clear hb; obtain ⟨hcz32_0, hcz32_1, hcz32_2, hfz32_0, hfz32_1, hfz32_2⟩ := cd3 BK427.out) | (go_at_call 12; (with_reducible refine (r09_Valid.calls kj1 t419 _ _ t420 _ _ t423 true _ ?side1 ?side2 ?side3 ?side4 A16.out).mono ?_); (case side1 => repeat (first | exact (Kd.R_reads' HO422.out).2.2 | (with_reducible refine Kd.C_alloc ?_ _) | (with_reducible refine Kd.C_drewN ?_ _) | (with_reducible refine Kd.C_drew ?_))); (case side2 => exact (Kd.R_reads' HO422.out).2.1); (case side3 => repeat (first | exact (Kd.S_reads' HO425.out).2.2 | (with_reducible refine Kd.C_alloc ?_ _) | (with_reducible refine Kd.C_drewN ?_ _) | (with_reducible refine Kd.C_drew ?_))); (case side4 => exact (Kd.S_reads' HO425.out).2.1); rintro e w33 ⟨rfl, hb⟩; replace HO422 := aM (Kd.R_below (oR HO422.out) hb); replace HO425 := aM (Kd.S_below (oS HO425.out) hb); replace HO431 := aM (Kd.R_below (oR HO431.out) hb); replace HO434 := aM (Kd.S_below (oS HO434.out) hb); replace BK427 := aM (kW BK427.out hb); replace BK436 := aM (kW BK436.out hb); replace HB := aM (below_step (bB2 HB.out GE427.out GE436.out) hb); clear hb) | (go_at_call 8; (with_reducible refine (l49_exampleHolds.calls kj1  t439 _ A18.out (by first | exact hrT_ | exact ⟨rfl⟩)).mono ?_); rintro e w34 ⟨rfl, hb⟩; replace HO422 := aM (Kd.R_below (oR HO422.out) hb); replace HO425 := aM (Kd.S_below (oS HO425.out) hb); replace HO431 := aM (Kd.R_below (oR HO431.out) hb); replace HO434 := aM (Kd.S_below (oS HO434.out) hb); replace BK427 := aM (kW BK427.out hb); replace BK436 := aM (kW BK436.out hb); replace HB := aM (below_step (bB2 HB.out GE427.out GE436.out) hb); clear hb))
  go_ret
  exact ⟨rT, bB2 HB.out GE427.out GE436.out⟩














end Go.Proofs.YtejchnmhlcbfcaaDoor.Pr
