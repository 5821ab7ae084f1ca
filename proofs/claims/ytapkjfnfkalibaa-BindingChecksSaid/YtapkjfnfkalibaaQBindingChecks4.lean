/- Functions that the statement reaches: what each answers, and that the program answers it (written by a program of this work). -/
import Derived.Test.YtapkjfnfkalibaaProg
import Derived.Below
import Derived.Deep.Draws
import Derived.Deep.AppendLies
import Derived.Maps.AppendAt
import Derived.OwnWalk
import Derived.Laws.BytesArg
import Derived.Laws.MakeOwn
import Derived.Laws.OwnMore
import Derived.Deep.OwnRows
import Derived.Tactics
import Derived.Lib.ConvBytes
import Derived.Laws.Slices
import Derived.WalkKit
import Derived.KernelRfl
import Derived.RowKit3
import Derived.Deep.LoopGhost
import Derived.Deep.QuietTactic
import Derived.BigQuiet
import Derived.WideLaws
import Derived.Deep.DeepCutAuto
import Derived.Deep.CutBlock
import Derived.Deep.RegionHeld3
import Derived.Laws.Rows
import Derived.Lib.AppendStr
import Derived.ArgAppend
import Derived.Laws.IdiomCopy
import Derived.OrdersHeld
import Derived.Laws.BitsLemmas
import Derived.RowKit
import Derived.WalkMore
import Derived.Test.YtapkjfnfkalibaaVBindingChecks
import Derived.Test.YtapkjfnfkalibaaBBindingChecks
import Derived.Test.YtapkjfnfkalibaaQBindingChecks0
import Derived.Test.YtapkjfnfkalibaaQBindingChecks2
import Derived.Test.YtapkjfnfkalibaaQBindingChecks3
namespace Go.Proofs.Ytapkjfnfkalibaa.Pr
open Go.RowKit Go.Proofs.YtapkjfnfkalibaaW.PrintWords Go.Proofs.YtapkjfnfkalibaaW.PrintLast Go.Proofs.YtapkjfnfkalibaaW.PrintMore
attribute [local go_sem] Instr.field asAgg
attribute [local go_sem] max2_int min2_int max_two min_two max_three min_three max_four min_four   -- for this text's walks alone
set_option linter.unusedVariables false
set_option linter.unusedSimpArgs false
/-! ### r40_term: function 36 -/
mutual
def r40_term.j0 : Nat → List (S51) → Int → Bool → ByteArray → List (S48) → List (S62) → List (S111) → List (S111) → Int → Int → Int → Option (Int)
 | 0, _, _, _, _, _, _, _, _, _, _, _ => none
 | k + 1, x0, x2, x16, x275000, x275001, x275002, x275003, x275004, x276000, x276001, x276002 => if x16 = true then (some 9) else (if x276001 < 1 then (r40_term.j1 k x0 x2 true x275000 x275001 x275002 x275003 x275004 x276000 x276001 x276002) else (r40_term.j1 k x0 x2 (decide (x276001 > 5)) x275000 x275001 x275002 x275003 x275004 x276000 x276001 x276002))
def r40_term.j1 : Nat → List (S51) → Int → Bool → ByteArray → List (S48) → List (S62) → List (S111) → List (S111) → Int → Int → Int → Option (Int)
 | 0, _, _, _, _, _, _, _, _, _, _, _ => none
 | k + 1, x0, x2, x24, x275000, x275001, x275002, x275003, x275004, x276000, x276001, x276002 => if x24 = true then (some 12) else (if x276001 = 1 then (if x276002 < 0 then (some 1) else (if 0 ≤ x2 then (if x2 < (x0.length : Int) then (if x276002 ≥ (((rd_T51 x0 x2).f1).length : Int) then (some 1) else (some 0)) else (none)) else (none))) else (if x276001 = 5 then (if x276002 = 0 then (some 0) else (some 1)) else (if x276002 < 0 then (r40_term.j2 k x2 true x275000 x275001 x275002 x275003 x275004 x276000 x276001 x276002) else (r40_term.j2 k x2 (decide (x276002 ≥ (x275001.length : Int))) x275000 x275001 x275002 x275003 x275004 x276000 x276001 x276002))))
def r40_term.j2 : Nat → Int → Bool → ByteArray → List (S48) → List (S62) → List (S111) → List (S111) → Int → Int → Int → Option (Int)
 | 0, _, _, _, _, _, _, _, _, _, _ => none
 | k + 1, x2, x58, x275000, x275001, x275002, x275003, x275004, x276000, x276001, x276002 => if x58 = true then (some 1) else (if 0 ≤ x276002 then (if x276002 < (x275001.length : Int) then (if ((rd_T48 x275001 x276002).f1) = x2 then (some 0) else (some 17)) else (none)) else (none))
end
def r40_term.f (k : Nat) (l0 : List (S51)) (a1_0 : ByteArray) (l1_1 : List (S48)) (l1_2 : List (S62)) (l1_3 : List (S111)) (l1_4 : List (S111)) (a2 : Int) (a3_0 : Int) (a3_1 : Int) (a3_2 : Int) : Option (Int) := if a3_0 < 1 then (r40_term.j0 k l0 a2 true a1_0 l1_1 l1_2 l1_3 l1_4 a3_0 a3_1 a3_2) else (r40_term.j0 k l0 a2 (decide (a3_0 > 99)) a1_0 l1_1 l1_2 l1_3 l1_4 a3_0 a3_1 a3_2)
theorem r40_term.mono_l : ∀ k, (∀ y0 y1 y2 y3 y4 y5 y6 y7 y8 y9 y10, LeO (r40_term.j0 k y0 y1 y2 y3 y4 y5 y6 y7 y8 y9 y10) (r40_term.j0 (k + 1) y0 y1 y2 y3 y4 y5 y6 y7 y8 y9 y10)) ∧ (∀ y0 y1 y2 y3 y4 y5 y6 y7 y8 y9 y10, LeO (r40_term.j1 k y0 y1 y2 y3 y4 y5 y6 y7 y8 y9 y10) (r40_term.j1 (k + 1) y0 y1 y2 y3 y4 y5 y6 y7 y8 y9 y10)) ∧ (∀ y0 y1 y2 y3 y4 y5 y6 y7 y8 y9, LeO (r40_term.j2 k y0 y1 y2 y3 y4 y5 y6 y7 y8 y9) (r40_term.j2 (k + 1) y0 y1 y2 y3 y4 y5 y6 y7 y8 y9))
 | 0 => ⟨fun _ _ _ _ _ _ _ _ _ _ _ r h => by simp [r40_term.j0] at h, fun _ _ _ _ _ _ _ _ _ _ _ r h => by simp [r40_term.j1] at h, fun _ _ _ _ _ _ _ _ _ _ r h => by simp [r40_term.j2] at h⟩
 | k + 1 => by
  obtain ⟨ih0, ih1, ih2⟩ := r40_term.mono_l k
  refine ⟨?_, ?_, ?_⟩
  ·intro y0 y1 y2 y3 y4 y5 y6 y7 y8 y9 y10
   unfold r40_term.j0
   repeat' first
   | (with_reducible first | exact ih0 _ _ _ _ _ _ _ _ _ _ _ | exact ih1 _ _ _ _ _ _ _ _ _ _ _ | exact ih2 _ _ _ _ _ _ _ _ _ _ | exact LeO.refl _ | exact LeO.none _ | refine LeO.ite ?_ ?_ | refine LeO.bind ?_ (fun _ => ?_))
   | exact LeO.none _
   | refine LeO.ite ?_ ?_
   | refine LeO.bind ?_ (fun _ => ?_)
  ·intro y0 y1 y2 y3 y4 y5 y6 y7 y8 y9 y10
   unfold r40_term.j1
   repeat' first
   | (with_reducible first | exact ih0 _ _ _ _ _ _ _ _ _ _ _ | exact ih1 _ _ _ _ _ _ _ _ _ _ _ | exact ih2 _ _ _ _ _ _ _ _ _ _ | exact LeO.refl _ | exact LeO.none _ | refine LeO.ite ?_ ?_ | refine LeO.bind ?_ (fun _ => ?_))
   | exact LeO.none _
   | refine LeO.ite ?_ ?_
   | refine LeO.bind ?_ (fun _ => ?_)
  ·intro y0 y1 y2 y3 y4 y5 y6 y7 y8 y9
   unfold r40_term.j2
   repeat' first
   | (with_reducible first | exact ih0 _ _ _ _ _ _ _ _ _ _ _ | exact ih1 _ _ _ _ _ _ _ _ _ _ _ | exact ih2 _ _ _ _ _ _ _ _ _ _ | exact LeO.refl _ | exact LeO.none _ | refine LeO.ite ?_ ?_ | refine LeO.bind ?_ (fun _ => ?_))
   | exact LeO.none _
   | refine LeO.ite ?_ ?_
   | refine LeO.bind ?_ (fun _ => ?_)
theorem r40_term.mono : ∀ a0 a1 a2 a3 a4 a5 a6 a7 a8 a9 k, LeO (r40_term.f k a0 a1 a2 a3 a4 a5 a6 a7 a8 a9) (r40_term.f (k + 1) a0 a1 a2 a3 a4 a5 a6 a7 a8 a9) := by
 intro a0 a1 a2 a3 a4 a5 a6 a7 a8 a9 k
 obtain ⟨ih0, ih1, ih2⟩ := r40_term.mono_l k
 unfold r40_term.f
 repeat' first
   | (with_reducible first | exact ih0 _ _ _ _ _ _ _ _ _ _ _ | exact ih1 _ _ _ _ _ _ _ _ _ _ _ | exact ih2 _ _ _ _ _ _ _ _ _ _ | exact LeO.refl _ | exact LeO.none _ | refine LeO.ite ?_ ?_ | refine LeO.bind ?_ (fun _ => ?_))
   | exact LeO.none _
   | refine LeO.ite ?_ ?_
   | refine LeO.bind ?_ (fun _ => ?_)
set_option maxHeartbeats 8000000 in
set_option maxRecDepth 100000 in
theorem r40_term.calls (k : Nat) (A0 : Option Addr) (c0 : Nat) (l0 : List (S51)) (a1_0 : ByteArray) (A1_1 : Option Addr) (c1_1 : Nat) (l1_1 : List (S48)) (A1_2 : Option Addr) (c1_2 : Nat) (l1_2 : List (S62)) (A1_3 : Option Addr) (c1_3 : Nat) (l1_3 : List (S111)) (A1_4 : Option Addr) (c1_4 : Nat) (l1_4 : List (S111)) (a2 : Int) (a3_0 : Int) (a3_1 : Int) (a3_2 : Int) (r : Int) (w : World) (hr0 : Kd.C k51 w A0 l0.length l0) (hc0 : l0.length ≤ c0) (hr1_1 : Kd.C k48 w A1_1 l1_1.length l1_1) (hc1_1 : l1_1.length ≤ c1_1) (hr1_2 : Kd.C k62 w A1_2 l1_2.length l1_2) (hc1_2 : l1_2.length ≤ c1_2) (hr1_3 : Kd.C k111 w A1_3 l1_3.length l1_3) (hc1_3 : l1_3.length ≤ c1_3) (hr1_4 : Kd.C k111 w A1_4 l1_4.length l1_4) (hc1_4 : l1_4.length ≤ c1_4) (h : r40_term.f k l0 a1_0 l1_1 l1_2 l1_3 l1_4 a2 a3_0 a3_1 a3_2 = some r) :
  Calls Try.prog 36 #[.slice A0 l0.length c0, .agg #[.string a1_0, .slice A1_1 l1_1.length c1_1, .slice A1_2 l1_2.length c1_2, .slice A1_3 l1_3.length c1_3, .slice A1_4 l1_4.length c1_4], .int .i64 a2, .agg #[.int .i64 a3_0, .int .i64 a3_1, .int .i64 a3_2]] w fun e w' => e = .returned (.int .i64 r) ∧ Below w.heap.size w w' := by
 have hu27 := Try.underlying27; have hu9 := Try.underlying9; have hu23 := Try.underlying23; have hu24 := Try.underlying24; have hu25 := Try.underlying25; have hu54 := Try.underlying54; have hu3 := Try.underlying3; have HR0 := aM hr0; have HC0 := aM hc0; clear hr0 hc0; have HR1_1 := aM hr1_1; have HC1_1 := aM hc1_1; clear hr1_1 hc1_1; have HR1_2 := aM hr1_2; have HC1_2 := aM hc1_2; clear hr1_2 hc1_2; have HR1_3 := aM hr1_3; have HC1_3 := aM hc1_3; clear hr1_3 hc1_3; have HR1_4 := aM hr1_4; have HC1_4 := aM hc1_4; clear hr1_4 hc1_4; have HB := aM (Below.refl w.heap.size w); have H : (if a3_0 < 1 then (r40_term.j0 k l0 a2 true a1_0 l1_1 l1_2 l1_3 l1_4 a3_0 a3_1 a3_2) else (r40_term.j0 k l0 a2 (decide (a3_0 > 99)) a1_0 l1_1 l1_2 l1_3 l1_4 a3_0 a3_1 a3_2)) = some r := h; clear h; have HC5 := aM H; clear H
 go_enter Try.func36, Try.ntmps36
 go_upto_region 1 with (first | ((with_reducible refine gate_dst (N := 5) rfl ?_); (try (refine gate_guard (by rfl) ?_; dsimp only)); refine box_event ?hg (N := 5) ?hd (cs := #[.string a1_0, .slice A1_1 l1_1.length c1_1, .slice A1_2 l1_2.length c1_2, .slice A1_3 l1_3.length c1_3, .slice A1_4 l1_4.length c1_4]) (t := 27) ?hr ?_; (case hd => rfl); (case hg => rfl); (case hr => first | (go_simp; done) | (go_simp; rfl)); intro gb274 hg w6 hbox hb; have n0_ := aM (below_step (bB HB.out) hb); have n1_ := aM (hbox); have n2_ := aM ((by rw [hg]; exact (below_size (bB HB.out)) : w.heap.size ≤ gb274)); have n3_ := aM ((by rw [hg]; exact (below_size (bB HB.out)) : w.heap.size ≤ gb274)); clear HB; have HB := n0_; have BK274 := n1_; have GW274 := n2_; have GE274 := n3_; clear n0_ n1_ n2_ n3_; clear hb hbox hg) | ((with_reducible refine gate_dst (N := 7) rfl ?_); (try (refine gate_guard (by rfl) ?_; dsimp only)); refine box_event ?hg (N := 7) ?hd (cs := #[.int .i64 a3_0, .int .i64 a3_1, .int .i64 a3_2]) (t := 54) ?hr ?_; (case hd => rfl); (case hg => rfl); (case hr => first | (go_simp; done) | (go_simp; rfl)); intro gb275 hg w7 hbox hb; have n0_ := aM (kW BK274.out hb); have n1_ := aM (below_step (bB1 HB.out GE274.out) hb); have n2_ := aM (hbox); have n3_ := aM ((by rw [hg]; exact (below_size (bB1 HB.out GE274.out)) : w.heap.size ≤ gb275)); have n4_ := aM ((by rw [hg]; exact (below_size (bB1 HB.out GE274.out)) : w.heap.size ≤ gb275)); have n5_ := aM ((by rw [hg]; exact Nat.ne_of_lt (kL BK274.out) : gb274 ≠ gb275)); have n6_ := aM ((by rw [hg]; exact Nat.ne_of_gt (kL BK274.out) : gb275 ≠ gb274)); clear BK274; clear HB; have BK274 := n0_; have HB := n1_; have BK275 := n2_; have GW275 := n3_; have GE275 := n4_; have NB274_275 := n5_; have NB275_274 := n6_; clear n0_ n1_ n2_ n3_ n4_ n5_ n6_; clear hb hbox hg))
 repeat (go_quiet (fail); try go_wp2)
 (try simp only [Act.put, List.setIfInBounds_toArray, List.set_cons_zero, List.set_cons_succ])
 go_cut [16] (fun v16 wc => ∃ (kq : Nat) (x16_4 : Bool), v16 = .bool x16_4 ∧ Aside0 (r40_term.j0 kq l0 a2 x16_4 a1_0 l1_1 l1_2 l1_3 l1_4 a3_0 a3_1 a3_2 = some r) ∧ Aside0 (kq ≤ k) ∧ Aside0 (wc.heap[gb274]? = some (.cells #[.string a1_0, (.slice A1_1 l1_1.length c1_1), (.slice A1_2 l1_2.length c1_2), (.slice A1_3 l1_3.length c1_3), (.slice A1_4 l1_4.length c1_4)] 27 (0, 0))) ∧ Aside0 (wc.heap[gb275]? = some (.cells #[.int .i64 a3_0, .int .i64 a3_1, .int .i64 a3_2] 54 (0, 0))) ∧ Aside0 (Below w.heap.size w wc))
 case first =>
  have H := HC5.out; clear HC5
  by_cases c8 : a3_0 < 1
  ·rw [if_pos c8] at H
   have c8b0 : decide (a3_0 < 1) = true := decide_eq_true c8; clear c8
   (first | rw [c8b0] | (simp only [i64_w, i32_w]; rw [c8b0]) | skip)
   have H' := aM H
   clear H; have hnb9 := NB275_274.out; have hnc9 := NB274_275.out
   have hcz10_0 : w7.cell? ⟨gb275, 0, none⟩ = some (.int .i64 a3_0) := (blk_cell BK275.out 0).trans rfl
   have hcz10_1 : w7.cell? ⟨gb275, 1, none⟩ = some (.int .i64 a3_1) := (blk_cell BK275.out 1).trans rfl
   have hcz10_2 : w7.cell? ⟨gb275, 2, none⟩ = some (.int .i64 a3_2) := (blk_cell BK275.out 2).trans rfl
   have hfz10_0 := blk_frozen BK275.out 0; have hfz10_1 := blk_frozen BK275.out 1; have hfz10_2 := blk_frozen BK275.out 2
   go_wp2
   repeat (go_quiet (fail); try go_wp2)
   go_meet
   case rel => exact ⟨_, (true), eT, H', ⟨by first | omega | exact Nat.le_refl _⟩, ⟨kB BK274.out⟩, ⟨kB BK275.out⟩, ⟨bB2 HB.out GE274.out GE275.out⟩⟩
  ·rw [if_neg c8] at H
   have c8b0 : decide (a3_0 < 1) = false := decide_eq_false c8; clear c8
   (first | rw [c8b0] | (simp only [i64_w, i32_w]; rw [c8b0]) | skip)
   have H' := aM H
   clear H; have hnb11 := NB275_274.out; have hnc11 := NB274_275.out
   have hcz12_0 : w7.cell? ⟨gb275, 0, none⟩ = some (.int .i64 a3_0) := (blk_cell BK275.out 0).trans rfl
   have hcz12_1 : w7.cell? ⟨gb275, 1, none⟩ = some (.int .i64 a3_1) := (blk_cell BK275.out 1).trans rfl
   have hcz12_2 : w7.cell? ⟨gb275, 2, none⟩ = some (.int .i64 a3_2) := (blk_cell BK275.out 2).trans rfl
   have hfz12_0 := blk_frozen BK275.out 0; have hfz12_1 := blk_frozen BK275.out 1; have hfz12_2 := blk_frozen BK275.out 2
   go_wp2
   repeat (go_quiet (fail); try go_wp2)
   go_meet
   case rel => exact ⟨_, (decide (a3_0 > 99)), eT, H', ⟨by first | omega | exact Nat.le_refl _⟩, ⟨kB BK274.out⟩, ⟨kB BK275.out⟩, ⟨bB2 HB.out GE274.out GE275.out⟩⟩
 case rest =>
  clear HC5; obtain ⟨kq, x16_4, rfl, HA, HJ4, BK274, BK275, HB⟩ := hcut
  cases kq with
  | zero => exact absurd HA.out (by simp [r40_term.j0])
  | succ kj4 =>
   have H := HA.out; clear HA
   simp only [r40_term.j0] at H
   by_cases c13 : x16_4 = true
   ·subst c13
    have H1 : (some 9) = some r := by rw [if_pos rfl] at H; exact H
    clear H; have H := H1; clear H1
    obtain rfl := Option.some.inj H
    go_wp2
    repeat (go_quiet (fail); try go_wp2)
    go_ret
    exact ⟨rT, bB2 HB.out GE274.out GE275.out⟩
   ·replace c13 := Bool.eq_false_iff.mpr c13
    subst c13
    have H1 : (if a3_1 < 1 then (r40_term.j1 kj4 l0 a2 true a1_0 l1_1 l1_2 l1_3 l1_4 a3_0 a3_1 a3_2) else (r40_term.j1 kj4 l0 a2 (decide (a3_1 > 5)) a1_0 l1_1 l1_2 l1_3 l1_4 a3_0 a3_1 a3_2)) = some r := by rw [if_neg (show ¬ (false = true) by decide)] at H; exact H
    clear H; have H := H1; clear H1; have HC14 := aM H; clear H
    go_upto_region 3 with (fail)
    repeat (go_quiet (fail); go_upto_region 3 with (fail))
    go_cut [24] (fun v24 wc => ∃ (kq : Nat) (x24_13 : Bool), v24 = .bool x24_13 ∧ Aside0 (r40_term.j1 kq l0 a2 x24_13 a1_0 l1_1 l1_2 l1_3 l1_4 a3_0 a3_1 a3_2 = some r) ∧ Aside0 (kq ≤ kj4) ∧ Aside0 (wc.heap[gb274]? = some (.cells #[.string a1_0, (.slice A1_1 l1_1.length c1_1), (.slice A1_2 l1_2.length c1_2), (.slice A1_3 l1_3.length c1_3), (.slice A1_4 l1_4.length c1_4)] 27 (0, 0))) ∧ Aside0 (wc.heap[gb275]? = some (.cells #[.int .i64 a3_0, .int .i64 a3_1, .int .i64 a3_2] 54 (0, 0))) ∧ Aside0 (Below w.heap.size w wc))
    case first =>
     have H := HC14.out; clear HC14
     by_cases c15 : a3_1 < 1
     ·rw [if_pos c15] at H
      have c15b0 : decide (a3_1 < 1) = true := decide_eq_true c15; clear c15
      (first | rw [c15b0] | (simp only [i64_w, i32_w]; rw [c15b0]) | skip)
      have H' := aM H
      clear H; have hnb16 := NB275_274.out; have hnc16 := NB274_275.out
      have hcz17_0 : wc.cell? ⟨gb275, 0, none⟩ = some (.int .i64 a3_0) := (blk_cell BK275.out 0).trans rfl
      have hcz17_1 : wc.cell? ⟨gb275, 1, none⟩ = some (.int .i64 a3_1) := (blk_cell BK275.out 1).trans rfl
      have hcz17_2 : wc.cell? ⟨gb275, 2, none⟩ = some (.int .i64 a3_2) := (blk_cell BK275.out 2).trans rfl
      have hfz17_0 := blk_frozen BK275.out 0; have hfz17_1 := blk_frozen BK275.out 1; have hfz17_2 := blk_frozen BK275.out 2
      go_wp2
      repeat (go_quiet (fail); try go_wp2)
      go_meet
      case rel => exact ⟨_, (true), eT, H', ⟨by have := HJ4.out; first | omega | exact Nat.le_refl _⟩, ⟨kB BK274.out⟩, ⟨kB BK275.out⟩, ⟨bB2 HB.out GE274.out GE275.out⟩⟩
     ·rw [if_neg c15] at H
      have c15b0 : decide (a3_1 < 1) = false := decide_eq_false c15; clear c15
      (first | rw [c15b0] | (simp only [i64_w, i32_w]; rw [c15b0]) | skip)
      have H' := aM H
      clear H; have hnb18 := NB275_274.out; have hnc18 := NB274_275.out
      have hcz19_0 : wc.cell? ⟨gb275, 0, none⟩ = some (.int .i64 a3_0) := (blk_cell BK275.out 0).trans rfl
      have hcz19_1 : wc.cell? ⟨gb275, 1, none⟩ = some (.int .i64 a3_1) := (blk_cell BK275.out 1).trans rfl
      have hcz19_2 : wc.cell? ⟨gb275, 2, none⟩ = some (.int .i64 a3_2) := (blk_cell BK275.out 2).trans rfl
      have hfz19_0 := blk_frozen BK275.out 0; have hfz19_1 := blk_frozen BK275.out 1; have hfz19_2 := blk_frozen BK275.out 2
      go_wp2
      repeat (go_quiet (fail); try go_wp2)
      go_meet
      case rel => exact ⟨_, (decide (a3_1 > 5)), eT, H', ⟨by have := HJ4.out; first | omega | exact Nat.le_refl _⟩, ⟨kB BK274.out⟩, ⟨kB BK275.out⟩, ⟨bB2 HB.out GE274.out GE275.out⟩⟩
    case rest =>
     clear HC14; obtain ⟨kq, x24_13, rfl, HA, HJ13, BK274, BK275, HB⟩ := hcut
     cases kq with
     | zero => exact absurd HA.out (by simp [r40_term.j1])
     | succ kj13 =>
      have H := HA.out; clear HA
      simp only [r40_term.j1] at H
      by_cases c20 : x24_13 = true
      ·subst c20
       have H1 : (some 12) = some r := by rw [if_pos rfl] at H; exact H
       clear H; have H := H1; clear H1
       obtain rfl := Option.some.inj H
       go_wp2
       repeat (go_quiet (fail); try go_wp2)
       go_ret
       exact ⟨rT, bB2 HB.out GE274.out GE275.out⟩
      ·replace c20 := Bool.eq_false_iff.mpr c20
       subst c20
       have H1 : (if a3_1 = 1 then (if a3_2 < 0 then (some 1) else (if 0 ≤ a2 then (if a2 < (l0.length : Int) then (if a3_2 ≥ (((rd_T51 l0 a2).f1).length : Int) then (some 1) else (some 0)) else (none)) else (none))) else (if a3_1 = 5 then (if a3_2 = 0 then (some 0) else (some 1)) else (if a3_2 < 0 then (r40_term.j2 kj13 a2 true a1_0 l1_1 l1_2 l1_3 l1_4 a3_0 a3_1 a3_2) else (r40_term.j2 kj13 a2 (decide (a3_2 ≥ (l1_1.length : Int))) a1_0 l1_1 l1_2 l1_3 l1_4 a3_0 a3_1 a3_2)))) = some r := by rw [if_neg (show ¬ (false = true) by decide)] at H; exact H
       clear H; have H := H1; clear H1
       by_cases c21 : a3_1 = 1
       ·rw [if_pos c21] at H
        have c21b0 : (a3_1 == 1) = true := beq_iff_eq.mpr c21; have c21b1 : (a3_1 != 1) = false := bne_eq_false_iff_eq.mpr c21; clear c21
        by_cases c22 : a3_2 < 0
        ·rw [if_pos c22] at H
         have c22b0 : decide (a3_2 < 0) = true := decide_eq_true c22; clear c22
         obtain rfl := Option.some.inj H
         have hnb23 := NB275_274.out; have hnc23 := NB274_275.out
         have hcz24_0 : wc.cell? ⟨gb275, 0, none⟩ = some (.int .i64 a3_0) := (blk_cell BK275.out 0).trans rfl
         have hcz24_1 : wc.cell? ⟨gb275, 1, none⟩ = some (.int .i64 a3_1) := (blk_cell BK275.out 1).trans rfl
         have hcz24_2 : wc.cell? ⟨gb275, 2, none⟩ = some (.int .i64 a3_2) := (blk_cell BK275.out 2).trans rfl
         have hfz24_0 := blk_frozen BK275.out 0; have hfz24_1 := blk_frozen BK275.out 1; have hfz24_2 := blk_frozen BK275.out 2
         go_wp2
         repeat (go_quiet (fail); try go_wp2)
         go_ret
         exact ⟨rT, bB2 HB.out GE274.out GE275.out⟩
        ·rw [if_neg c22] at H
         have c22b0 : decide (a3_2 < 0) = false := decide_eq_false c22; clear c22
         by_cases c25 : 0 ≤ a2
         ·rw [if_pos c25] at H
          have c25b0 : decide (0 ≤ a2) = true := decide_eq_true c25; clear c25
          by_cases c26 : a2 < (l0.length : Int)
          ·rw [if_pos c26] at H
           have c26b0 : decide (a2 < (l0.length : Int)) = true := decide_eq_true c26; clear c26
           by_cases c27 : a3_2 ≥ (((rd_T51 l0 a2).f1).length : Int)
           ·rw [if_pos c27] at H
            have c27b0 : decide ((((rd_T51 l0 a2).f1).length : Int) ≤ a3_2) = true := decide_eq_true c27; clear c27
            obtain rfl := Option.some.inj H
            have hnb28 := NB275_274.out; have hnc28 := NB274_275.out
            have hcz29_0 : wc.cell? ⟨gb275, 0, none⟩ = some (.int .i64 a3_0) := (blk_cell BK275.out 0).trans rfl
            have hcz29_1 : wc.cell? ⟨gb275, 1, none⟩ = some (.int .i64 a3_1) := (blk_cell BK275.out 1).trans rfl
            have hcz29_2 : wc.cell? ⟨gb275, 2, none⟩ = some (.int .i64 a3_2) := (blk_cell BK275.out 2).trans rfl
            have hfz29_0 := blk_frozen BK275.out 0; have hfz29_1 := blk_frozen BK275.out 1; have hfz29_2 := blk_frozen BK275.out 2; have p276 : 0 ≤ (a2 : Int) := dT; have q276 : a2 < (l0.length : Int) := dT; obtain ⟨ad276, A276_1, c276_1, e276, hx276_0, hx276_1, hl276_1, hi276_1⟩ := at_T51 HR0.out a2 p276 q276; cases e276; replace hx276_0 := (HB.out.cell (World.block_lt_of_cell? w _ hx276_0)).trans hx276_0; replace hx276_1 := (HB.out.cell (World.block_lt_of_cell? w _ hx276_1)).trans hx276_1; have HR276_1 := aM hi276_1; have HC276_1 := aM hl276_1; clear hi276_1 hl276_1; replace p276 := eq_true p276; replace q276 := eq_true q276
            go_wp2
            repeat (go_quiet (fail); try go_wp2)
            go_ret
            exact ⟨rT, bB2 HB.out GE274.out GE275.out⟩
           ·rw [if_neg c27] at H
            have c27b0 : decide ((((rd_T51 l0 a2).f1).length : Int) ≤ a3_2) = false := decide_eq_false c27; clear c27
            obtain rfl := Option.some.inj H
            have hnb30 := NB275_274.out; have hnc30 := NB274_275.out
            have hcz31_0 : wc.cell? ⟨gb275, 0, none⟩ = some (.int .i64 a3_0) := (blk_cell BK275.out 0).trans rfl
            have hcz31_1 : wc.cell? ⟨gb275, 1, none⟩ = some (.int .i64 a3_1) := (blk_cell BK275.out 1).trans rfl
            have hcz31_2 : wc.cell? ⟨gb275, 2, none⟩ = some (.int .i64 a3_2) := (blk_cell BK275.out 2).trans rfl
            have hfz31_0 := blk_frozen BK275.out 0; have hfz31_1 := blk_frozen BK275.out 1; have hfz31_2 := blk_frozen BK275.out 2; have p276 : 0 ≤ (a2 : Int) := dT; have q276 : a2 < (l0.length : Int) := dT; obtain ⟨ad276, A276_1, c276_1, e276, hx276_0, hx276_1, hl276_1, hi276_1⟩ := at_T51 HR0.out a2 p276 q276; cases e276; replace hx276_0 := (HB.out.cell (World.block_lt_of_cell? w _ hx276_0)).trans hx276_0; replace hx276_1 := (HB.out.cell (World.block_lt_of_cell? w _ hx276_1)).trans hx276_1; have HR276_1 := aM hi276_1; have HC276_1 := aM hl276_1; clear hi276_1 hl276_1; replace p276 := eq_true p276; replace q276 := eq_true q276
            go_wp2
            repeat (go_quiet (fail); try go_wp2)
            go_ret
            exact ⟨rT, bB2 HB.out GE274.out GE275.out⟩
          ·rw [if_neg c26] at H
           exact absurd H (by simp)
         ·rw [if_neg c25] at H
          exact absurd H (by simp)
       ·rw [if_neg c21] at H
        have c21b0 : (a3_1 == 1) = false := beq_eq_false_iff_ne.mpr c21; have c21b1 : (a3_1 != 1) = true := bne_iff_ne.mpr c21
        by_cases c32 : a3_1 = 5
        ·rw [if_pos c32] at H
         have c32b0 : (a3_1 == 5) = true := beq_iff_eq.mpr c32; have c32b1 : (a3_1 != 5) = false := bne_eq_false_iff_eq.mpr c32; clear c32
         by_cases c33 : a3_2 = 0
         ·rw [if_pos c33] at H
          have c33b0 : (a3_2 == 0) = true := beq_iff_eq.mpr c33; have c33b1 : (a3_2 != 0) = false := bne_eq_false_iff_eq.mpr c33; clear c33
          obtain rfl := Option.some.inj H
          have hnb34 := NB275_274.out; have hnc34 := NB274_275.out
          have hcz35_0 : wc.cell? ⟨gb275, 0, none⟩ = some (.int .i64 a3_0) := (blk_cell BK275.out 0).trans rfl
          have hcz35_1 : wc.cell? ⟨gb275, 1, none⟩ = some (.int .i64 a3_1) := (blk_cell BK275.out 1).trans rfl
          have hcz35_2 : wc.cell? ⟨gb275, 2, none⟩ = some (.int .i64 a3_2) := (blk_cell BK275.out 2).trans rfl
          have hfz35_0 := blk_frozen BK275.out 0; have hfz35_1 := blk_frozen BK275.out 1; have hfz35_2 := blk_frozen BK275.out 2
          go_wp2
          repeat (go_quiet (fail); try go_wp2)
          go_ret
          exact ⟨rT, bB2 HB.out GE274.out GE275.out⟩
         ·rw [if_neg c33] at H
          have c33b0 : (a3_2 == 0) = false := beq_eq_false_iff_ne.mpr c33; have c33b1 : (a3_2 != 0) = true := bne_iff_ne.mpr c33
          obtain rfl := Option.some.inj H
          have hnb36 := NB275_274.out; have hnc36 := NB274_275.out
          have hcz37_0 : wc.cell? ⟨gb275, 0, none⟩ = some (.int .i64 a3_0) := (blk_cell BK275.out 0).trans rfl
          have hcz37_1 : wc.cell? ⟨gb275, 1, none⟩ = some (.int .i64 a3_1) := (blk_cell BK275.out 1).trans rfl
          have hcz37_2 : wc.cell? ⟨gb275, 2, none⟩ = some (.int .i64 a3_2) := (blk_cell BK275.out 2).trans rfl
          have hfz37_0 := blk_frozen BK275.out 0; have hfz37_1 := blk_frozen BK275.out 1; have hfz37_2 := blk_frozen BK275.out 2
          go_wp2
          repeat (go_quiet (fail); try go_wp2)
          go_ret
          exact ⟨rT, bB2 HB.out GE274.out GE275.out⟩
        ·rw [if_neg c32] at H
         have c32b0 : (a3_1 == 5) = false := beq_eq_false_iff_ne.mpr c32; have c32b1 : (a3_1 != 5) = true := bne_iff_ne.mpr c32; have HC38 := aM H; clear H; have hnb39 := NB275_274.out; have hnc39 := NB274_275.out
         have hcz40_0 : wc.cell? ⟨gb275, 0, none⟩ = some (.int .i64 a3_0) := (blk_cell BK275.out 0).trans rfl
         have hcz40_1 : wc.cell? ⟨gb275, 1, none⟩ = some (.int .i64 a3_1) := (blk_cell BK275.out 1).trans rfl
         have hcz40_2 : wc.cell? ⟨gb275, 2, none⟩ = some (.int .i64 a3_2) := (blk_cell BK275.out 2).trans rfl
         have hfz40_0 := blk_frozen BK275.out 0; have hfz40_1 := blk_frozen BK275.out 1; have hfz40_2 := blk_frozen BK275.out 2
         go_upto_region 13 with (fail)
         repeat (go_quiet (fail); go_upto_region 13 with (fail))
         go_cut [58] (fun v58 wc => ∃ (kq : Nat) (x58_37 : Bool), v58 = .bool x58_37 ∧ Aside0 (r40_term.j2 kq a2 x58_37 a1_0 l1_1 l1_2 l1_3 l1_4 a3_0 a3_1 a3_2 = some r) ∧ Aside0 (kq ≤ kj13) ∧ Aside0 (wc.heap[gb274]? = some (.cells #[.string a1_0, (.slice A1_1 l1_1.length c1_1), (.slice A1_2 l1_2.length c1_2), (.slice A1_3 l1_3.length c1_3), (.slice A1_4 l1_4.length c1_4)] 27 (0, 0))) ∧ Aside0 (wc.heap[gb275]? = some (.cells #[.int .i64 a3_0, .int .i64 a3_1, .int .i64 a3_2] 54 (0, 0))) ∧ Aside0 (Below w.heap.size w wc))
         case first =>
          have H := HC38.out; clear HC38
          by_cases c41 : a3_2 < 0
          ·rw [if_pos c41] at H
           have c41b0 : decide (a3_2 < 0) = true := decide_eq_true c41; clear c41
           (first | rw [c41b0] | (simp only [i64_w, i32_w]; rw [c41b0]) | skip)
           have H' := aM H
           clear H; have hnb42 := NB275_274.out; have hnc42 := NB274_275.out
           have hcz43_0 : wc.cell? ⟨gb275, 0, none⟩ = some (.int .i64 a3_0) := (blk_cell BK275.out 0).trans rfl
           have hcz43_1 : wc.cell? ⟨gb275, 1, none⟩ = some (.int .i64 a3_1) := (blk_cell BK275.out 1).trans rfl
           have hcz43_2 : wc.cell? ⟨gb275, 2, none⟩ = some (.int .i64 a3_2) := (blk_cell BK275.out 2).trans rfl
           have hfz43_0 := blk_frozen BK275.out 0; have hfz43_1 := blk_frozen BK275.out 1; have hfz43_2 := blk_frozen BK275.out 2
           go_wp2
           repeat (go_quiet (fail); try go_wp2)
           go_meet
           case rel => exact ⟨_, (true), eT, H', ⟨by have := HJ4.out; have := HJ13.out; first | omega | exact Nat.le_refl _⟩, ⟨kB BK274.out⟩, ⟨kB BK275.out⟩, ⟨bB2 HB.out GE274.out GE275.out⟩⟩
          ·rw [if_neg c41] at H
           have c41b0 : decide (a3_2 < 0) = false := decide_eq_false c41; clear c41
           (first | rw [c41b0] | (simp only [i64_w, i32_w]; rw [c41b0]) | skip)
           have H' := aM H
           clear H; have hnb44 := NB275_274.out; have hnc44 := NB274_275.out
           have hcz45_0 : wc.cell? ⟨gb275, 0, none⟩ = some (.int .i64 a3_0) := (blk_cell BK275.out 0).trans rfl
           have hcz45_1 : wc.cell? ⟨gb275, 1, none⟩ = some (.int .i64 a3_1) := (blk_cell BK275.out 1).trans rfl
           have hcz45_2 : wc.cell? ⟨gb275, 2, none⟩ = some (.int .i64 a3_2) := (blk_cell BK275.out 2).trans rfl
           have hfz45_0 := blk_frozen BK275.out 0; have hfz45_1 := blk_frozen BK275.out 1; have hfz45_2 := blk_frozen BK275.out 2
           have hcz46_0 : wc.cell? ⟨gb274, 0, none⟩ = some (.string a1_0) := (blk_cell BK274.out 0).trans rfl
           have hcz46_1 : wc.cell? ⟨gb274, 1, none⟩ = some (.slice A1_1 l1_1.length c1_1) := (blk_cell BK274.out 1).trans rfl
           have hcz46_2 : wc.cell? ⟨gb274, 2, none⟩ = some (.slice A1_2 l1_2.length c1_2) := (blk_cell BK274.out 2).trans rfl
           have hcz46_3 : wc.cell? ⟨gb274, 3, none⟩ = some (.slice A1_3 l1_3.length c1_3) := (blk_cell BK274.out 3).trans rfl
           have hcz46_4 : wc.cell? ⟨gb274, 4, none⟩ = some (.slice A1_4 l1_4.length c1_4) := (blk_cell BK274.out 4).trans rfl
           have hfz46_0 := blk_frozen BK274.out 0; have hfz46_1 := blk_frozen BK274.out 1; have hfz46_2 := blk_frozen BK274.out 2; have hfz46_3 := blk_frozen BK274.out 3; have hfz46_4 := blk_frozen BK274.out 4
           go_wp2
           repeat (go_quiet (fail); try go_wp2)
           go_meet
           case rel => exact ⟨_, (decide (a3_2 ≥ (l1_1.length : Int))), eT, H', ⟨by have := HJ4.out; have := HJ13.out; first | omega | exact Nat.le_refl _⟩, ⟨kB BK274.out⟩, ⟨kB BK275.out⟩, ⟨bB2 HB.out GE274.out GE275.out⟩⟩
         case rest =>
          clear HC38
          try clear hx2
          try clear hx27
          try clear hx276_0
          try clear hx276_1
          obtain ⟨kq, x58_37, rfl, HA, HJ37, BK274, BK275, HB⟩ := hcut
          cases kq with
          | zero => exact absurd HA.out (by simp [r40_term.j2])
          | succ kj37 =>
           have H := HA.out; clear HA
           simp only [r40_term.j2] at H
           by_cases c47 : x58_37 = true
           ·subst c47
            have H1 : (some 1) = some r := by rw [if_pos rfl] at H; exact H
            clear H; have H := H1; clear H1
            obtain rfl := Option.some.inj H
            go_wp2
            repeat (go_quiet (fail); try go_wp2)
            go_ret
            exact ⟨rT, bB2 HB.out GE274.out GE275.out⟩
           ·replace c47 := Bool.eq_false_iff.mpr c47
            subst c47
            have H1 : (if 0 ≤ a3_2 then (if a3_2 < (l1_1.length : Int) then (if ((rd_T48 l1_1 a3_2).f1) = a2 then (some 0) else (some 17)) else (none)) else (none)) = some r := by rw [if_neg (show ¬ (false = true) by decide)] at H; exact H
            clear H; have H := H1; clear H1
            by_cases c48 : 0 ≤ a3_2
            ·rw [if_pos c48] at H
             have c48b0 : decide (0 ≤ a3_2) = true := decide_eq_true c48; clear c48
             by_cases c49 : a3_2 < (l1_1.length : Int)
             ·rw [if_pos c49] at H
              have c49b0 : decide (a3_2 < (l1_1.length : Int)) = true := decide_eq_true c49; clear c49
              by_cases c50 : ((rd_T48 l1_1 a3_2).f1) = a2
              ·rw [if_pos c50] at H
               have c50b0 : (((rd_T48 l1_1 a3_2).f1) == a2) = true := beq_iff_eq.mpr c50; have c50b1 : (((rd_T48 l1_1 a3_2).f1) != a2) = false := bne_eq_false_iff_eq.mpr c50; clear c50
               obtain rfl := Option.some.inj H
               have hnb51 := NB274_275.out; have hnc51 := NB275_274.out
               have hcz52_0 : wc.cell? ⟨gb274, 0, none⟩ = some (.string a1_0) := (blk_cell BK274.out 0).trans rfl
               have hcz52_1 : wc.cell? ⟨gb274, 1, none⟩ = some (.slice A1_1 l1_1.length c1_1) := (blk_cell BK274.out 1).trans rfl
               have hcz52_2 : wc.cell? ⟨gb274, 2, none⟩ = some (.slice A1_2 l1_2.length c1_2) := (blk_cell BK274.out 2).trans rfl
               have hcz52_3 : wc.cell? ⟨gb274, 3, none⟩ = some (.slice A1_3 l1_3.length c1_3) := (blk_cell BK274.out 3).trans rfl
               have hcz52_4 : wc.cell? ⟨gb274, 4, none⟩ = some (.slice A1_4 l1_4.length c1_4) := (blk_cell BK274.out 4).trans rfl
               have hfz52_0 := blk_frozen BK274.out 0; have hfz52_1 := blk_frozen BK274.out 1; have hfz52_2 := blk_frozen BK274.out 2; have hfz52_3 := blk_frozen BK274.out 3; have hfz52_4 := blk_frozen BK274.out 4
               have hcz53_0 : wc.cell? ⟨gb275, 0, none⟩ = some (.int .i64 a3_0) := (blk_cell BK275.out 0).trans rfl
               have hcz53_1 : wc.cell? ⟨gb275, 1, none⟩ = some (.int .i64 a3_1) := (blk_cell BK275.out 1).trans rfl
               have hcz53_2 : wc.cell? ⟨gb275, 2, none⟩ = some (.int .i64 a3_2) := (blk_cell BK275.out 2).trans rfl
               have hfz53_0 := blk_frozen BK275.out 0; have hfz53_1 := blk_frozen BK275.out 1; have hfz53_2 := blk_frozen BK275.out 2; have p277 : 0 ≤ (a3_2 : Int) := dT; have q277 : a3_2 < (l1_1.length : Int) := dT; obtain ⟨ad277, e277, hx277_0, hx277_1⟩ := at_T48 HR1_1.out a3_2 p277 q277; cases e277; replace hx277_0 := (HB.out.cell (World.block_lt_of_cell? w _ hx277_0)).trans hx277_0; replace hx277_1 := (HB.out.cell (World.block_lt_of_cell? w _ hx277_1)).trans hx277_1; replace p277 := eq_true p277; replace q277 := eq_true q277
               go_wp2
               repeat (go_quiet (fail); try go_wp2)
               go_ret
               exact ⟨rT, bB2 HB.out GE274.out GE275.out⟩
              ·rw [if_neg c50] at H
               have c50b0 : (((rd_T48 l1_1 a3_2).f1) == a2) = false := beq_eq_false_iff_ne.mpr c50; have c50b1 : (((rd_T48 l1_1 a3_2).f1) != a2) = true := bne_iff_ne.mpr c50
               obtain rfl := Option.some.inj H
               have hnb54 := NB274_275.out; have hnc54 := NB275_274.out
               have hcz55_0 : wc.cell? ⟨gb274, 0, none⟩ = some (.string a1_0) := (blk_cell BK274.out 0).trans rfl
               have hcz55_1 : wc.cell? ⟨gb274, 1, none⟩ = some (.slice A1_1 l1_1.length c1_1) := (blk_cell BK274.out 1).trans rfl
               have hcz55_2 : wc.cell? ⟨gb274, 2, none⟩ = some (.slice A1_2 l1_2.length c1_2) := (blk_cell BK274.out 2).trans rfl
               have hcz55_3 : wc.cell? ⟨gb274, 3, none⟩ = some (.slice A1_3 l1_3.length c1_3) := (blk_cell BK274.out 3).trans rfl
               have hcz55_4 : wc.cell? ⟨gb274, 4, none⟩ = some (.slice A1_4 l1_4.length c1_4) := (blk_cell BK274.out 4).trans rfl
               have hfz55_0 := blk_frozen BK274.out 0; have hfz55_1 := blk_frozen BK274.out 1; have hfz55_2 := blk_frozen BK274.out 2; have hfz55_3 := blk_frozen BK274.out 3; have hfz55_4 := blk_frozen BK274.out 4
               have hcz56_0 : wc.cell? ⟨gb275, 0, none⟩ = some (.int .i64 a3_0) := (blk_cell BK275.out 0).trans rfl
               have hcz56_1 : wc.cell? ⟨gb275, 1, none⟩ = some (.int .i64 a3_1) := (blk_cell BK275.out 1).trans rfl
               have hcz56_2 : wc.cell? ⟨gb275, 2, none⟩ = some (.int .i64 a3_2) := (blk_cell BK275.out 2).trans rfl
               have hfz56_0 := blk_frozen BK275.out 0; have hfz56_1 := blk_frozen BK275.out 1; have hfz56_2 := blk_frozen BK275.out 2; have p277 : 0 ≤ (a3_2 : Int) := dT; have q277 : a3_2 < (l1_1.length : Int) := dT; obtain ⟨ad277, e277, hx277_0, hx277_1⟩ := at_T48 HR1_1.out a3_2 p277 q277; cases e277; replace hx277_0 := (HB.out.cell (World.block_lt_of_cell? w _ hx277_0)).trans hx277_0; replace hx277_1 := (HB.out.cell (World.block_lt_of_cell? w _ hx277_1)).trans hx277_1; replace p277 := eq_true p277; replace q277 := eq_true q277
               go_wp2
               repeat (go_quiet (fail); try go_wp2)
               go_ret
               exact ⟨rT, bB2 HB.out GE274.out GE275.out⟩
             ·rw [if_neg c49] at H
              exact absurd H (by simp)
            ·rw [if_neg c48] at H
             exact absurd H (by simp)




/-! ### r40_CheckTerms: function 14 -/
mutual
def r40_CheckTerms.j0 : Nat → List (S51) → Int → List (S54) → Bool → ByteArray → List (S48) → List (S62) → List (S111) → List (S111) → Option (Int)
 | 0, _, _, _, _, _, _, _, _, _ => none
 | k + 1, x0, x2, x3, x25, x279000, x279001, x279002, x279003, x279004 => if x25 = true then (some 1) else (r40_CheckTerms.l0 k x0 x2 x3 0 x279000 x279001 x279002 x279003 x279004)
def r40_CheckTerms.l0 : Nat → List (S51) → Int → List (S54) → Int → ByteArray → List (S48) → List (S62) → List (S111) → List (S111) → Option (Int)
 | 0, _, _, _, _, _, _, _, _, _ => none
 | k + 1, x0, x2, x3, x10, x279000, x279001, x279002, x279003, x279004 => if x10 < (x3.length : Int) then (if 0 ≤ x10 then ((r40_term.f k x0 x279000 x279001 x279002 x279003 x279004 x2 ((rd_T54 x3 x10).f0) ((rd_T54 x3 x10).f1) ((rd_T54 x3 x10).f2)).bind fun t281 => (if t281 = 0 then (r40_CheckTerms.l0 k x0 x2 x3 (wrap64 (x10 + 1)) x279000 x279001 x279002 x279003 x279004) else (some t281))) else (none)) else (some 0)
end
def r40_CheckTerms.f (k : Nat) (l0 : List (S51)) (a1_0 : ByteArray) (l1_1 : List (S48)) (l1_2 : List (S62)) (l1_3 : List (S111)) (l1_4 : List (S111)) (a2 : Int) (l3 : List (S54)) : Option (Int) := (r40_Check.f k l0 a1_0 l1_1 l1_2 l1_3 l1_4).bind fun t279 => (if t279 = 0 then (if a2 < 0 then (r40_CheckTerms.j0 k l0 a2 l3 true a1_0 l1_1 l1_2 l1_3 l1_4) else (r40_CheckTerms.j0 k l0 a2 l3 (decide (a2 ≥ (l0.length : Int))) a1_0 l1_1 l1_2 l1_3 l1_4)) else (some t279))
theorem r40_CheckTerms.mono_l : ∀ k, (∀ y0 y1 y2 y3 y4 y5 y6 y7 y8, LeO (r40_CheckTerms.j0 k y0 y1 y2 y3 y4 y5 y6 y7 y8) (r40_CheckTerms.j0 (k + 1) y0 y1 y2 y3 y4 y5 y6 y7 y8)) ∧ (∀ y0 y1 y2 y3 y4 y5 y6 y7 y8, LeO (r40_CheckTerms.l0 k y0 y1 y2 y3 y4 y5 y6 y7 y8) (r40_CheckTerms.l0 (k + 1) y0 y1 y2 y3 y4 y5 y6 y7 y8))
 | 0 => ⟨fun _ _ _ _ _ _ _ _ _ r h => by simp [r40_CheckTerms.j0] at h, fun _ _ _ _ _ _ _ _ _ r h => by simp [r40_CheckTerms.l0] at h⟩
 | k + 1 => by
  obtain ⟨ih0, ih1⟩ := r40_CheckTerms.mono_l k
  refine ⟨?_, ?_⟩
  ·intro y0 y1 y2 y3 y4 y5 y6 y7 y8
   unfold r40_CheckTerms.j0
   repeat' first
   | (with_reducible first | exact ih0 _ _ _ _ _ _ _ _ _ | exact ih1 _ _ _ _ _ _ _ _ _ | exact r40_Check.mono _ _ _ _ _ _ _ | exact r40_term.mono _ _ _ _ _ _ _ _ _ _ _ | exact LeO.refl _ | exact LeO.none _ | refine LeO.ite ?_ ?_ | refine LeO.bind ?_ (fun _ => ?_))
   | exact LeO.none _
   | refine LeO.ite ?_ ?_
   | refine LeO.bind ?_ (fun _ => ?_)
  ·intro y0 y1 y2 y3 y4 y5 y6 y7 y8
   unfold r40_CheckTerms.l0
   repeat' first
   | (with_reducible first | exact ih0 _ _ _ _ _ _ _ _ _ | exact ih1 _ _ _ _ _ _ _ _ _ | exact r40_Check.mono _ _ _ _ _ _ _ | exact r40_term.mono _ _ _ _ _ _ _ _ _ _ _ | exact LeO.refl _ | exact LeO.none _ | refine LeO.ite ?_ ?_ | refine LeO.bind ?_ (fun _ => ?_))
   | exact LeO.none _
   | refine LeO.ite ?_ ?_
   | refine LeO.bind ?_ (fun _ => ?_)
theorem r40_CheckTerms.mono : ∀ a0 a1 a2 a3 a4 a5 a6 a7 k, LeO (r40_CheckTerms.f k a0 a1 a2 a3 a4 a5 a6 a7) (r40_CheckTerms.f (k + 1) a0 a1 a2 a3 a4 a5 a6 a7) := by
 intro a0 a1 a2 a3 a4 a5 a6 a7 k
 obtain ⟨ih0, ih1⟩ := r40_CheckTerms.mono_l k
 unfold r40_CheckTerms.f
 repeat' first
   | (with_reducible first | exact ih0 _ _ _ _ _ _ _ _ _ | exact ih1 _ _ _ _ _ _ _ _ _ | exact r40_Check.mono _ _ _ _ _ _ _ | exact r40_term.mono _ _ _ _ _ _ _ _ _ _ _ | exact LeO.refl _ | exact LeO.none _ | refine LeO.ite ?_ ?_ | refine LeO.bind ?_ (fun _ => ?_))
   | exact LeO.none _
   | refine LeO.ite ?_ ?_
   | refine LeO.bind ?_ (fun _ => ?_)
def r40_CheckTerms.T9 : Bool × List (List Nat × List Nat) := (true, [([], []), ([], []), ([], []), ([], []), ([], []), ([3, 4], [3, 4]), ([5], [5]), ([0, 1, 2, 6], [0, 1, 2, 6]), ([7, 7, 0, 1, 2, 3, 4, 5, 6, 7], [7])])
def r40_CheckTerms.B9 : List Nat := [0, 0, 0, 0, 0, 24, 56, 127, 255]
theorem r40_CheckTerms.tab9 : rtab .any (opsOf Try.f14 9) = r40_CheckTerms.T9 := by kernel_rfl
theorem r40_CheckTerms.bits9 : waitsOk r40_CheckTerms.T9.2 r40_CheckTerms.B9 = true := by kernel_rfl
set_option maxHeartbeats 8000000 in
set_option maxRecDepth 100000 in
theorem r40_CheckTerms.calls (k : Nat) (A0 : Option Addr) (c0 : Nat) (l0 : List (S51)) (a1_0 : ByteArray) (A1_1 : Option Addr) (c1_1 : Nat) (l1_1 : List (S48)) (A1_2 : Option Addr) (c1_2 : Nat) (l1_2 : List (S62)) (A1_3 : Option Addr) (c1_3 : Nat) (l1_3 : List (S111)) (A1_4 : Option Addr) (c1_4 : Nat) (l1_4 : List (S111)) (a2 : Int) (A3 : Option Addr) (c3 : Nat) (l3 : List (S54)) (r : Int) (w : World) (hr0 : Kd.C k51 w A0 l0.length l0) (hc0 : l0.length ≤ c0) (hr1_1 : Kd.C k48 w A1_1 l1_1.length l1_1) (hc1_1 : l1_1.length ≤ c1_1) (hr1_2 : Kd.C k62 w A1_2 l1_2.length l1_2) (hc1_2 : l1_2.length ≤ c1_2) (hr1_3 : Kd.C k111 w A1_3 l1_3.length l1_3) (hc1_3 : l1_3.length ≤ c1_3) (hr1_4 : Kd.C k111 w A1_4 l1_4.length l1_4) (hc1_4 : l1_4.length ≤ c1_4) (hr3 : Kd.C k54 w A3 l3.length l3) (hc3 : l3.length ≤ c3) (h : r40_CheckTerms.f k l0 a1_0 l1_1 l1_2 l1_3 l1_4 a2 l3 = some r) :
  Calls Try.prog 14 #[.slice A0 l0.length c0, .agg #[.string a1_0, .slice A1_1 l1_1.length c1_1, .slice A1_2 l1_2.length c1_2, .slice A1_3 l1_3.length c1_3, .slice A1_4 l1_4.length c1_4], .int .i64 a2, .slice A3 l3.length c3] w fun e w' => e = .returned (.int .i64 r) ∧ Below w.heap.size w w' := by
 have hu27 := Try.underlying27; have hu9 := Try.underlying9; have hu23 := Try.underlying23; have hu24 := Try.underlying24; have hu25 := Try.underlying25; have hu54 := Try.underlying54; have hu3 := Try.underlying3; have HR0 := aM hr0; have HC0 := aM hc0; clear hr0 hc0; have HR1_1 := aM hr1_1; have HC1_1 := aM hc1_1; clear hr1_1 hc1_1; have HR1_2 := aM hr1_2; have HC1_2 := aM hc1_2; clear hr1_2 hc1_2; have HR1_3 := aM hr1_3; have HC1_3 := aM hc1_3; clear hr1_3 hc1_3; have HR1_4 := aM hr1_4; have HC1_4 := aM hc1_4; clear hr1_4 hc1_4; have HR3 := aM hr3; have HC3 := aM hc3; clear hr3 hc3; have HB := aM (Below.refl w.heap.size w)
 have H : ((r40_Check.f k l0 a1_0 l1_1 l1_2 l1_3 l1_4).bind fun t279 => (if t279 = 0 then (if a2 < 0 then (r40_CheckTerms.j0 k l0 a2 l3 true a1_0 l1_1 l1_2 l1_3 l1_4) else (r40_CheckTerms.j0 k l0 a2 l3 (decide (a2 ≥ (l0.length : Int))) a1_0 l1_1 l1_2 l1_3 l1_4)) else (some t279))) = some r := h
 clear h; replace H := Option.bind_eq_some_iff.mp H; obtain ⟨t279, A50, H⟩ := H
 replace H : (if t279 = 0 then (if a2 < 0 then (r40_CheckTerms.j0 k l0 a2 l3 true a1_0 l1_1 l1_2 l1_3 l1_4) else (r40_CheckTerms.j0 k l0 a2 l3 (decide (a2 ≥ (l0.length : Int))) a1_0 l1_1 l1_2 l1_3 l1_4)) else (some t279)) = some r := H
 have A5 := aM A50; clear A50
 by_cases c6 : t279 = 0
 ·rw [if_pos c6] at H
  have c6b0 : (t279 == 0) = true := beq_iff_eq.mpr c6; have c6b1 : (t279 != 0) = false := bne_eq_false_iff_eq.mpr c6; clear c6; have HC7 := aM H; clear H
  go_enter Try.func14, Try.ntmps14
  go_upto_region 4 with (first | ((with_reducible refine gate_dst (N := 5) rfl ?_); (try (refine gate_guard (by rfl) ?_; dsimp only)); refine box_event ?hg (N := 5) ?hd (cs := #[.string a1_0, .slice A1_1 l1_1.length c1_1, .slice A1_2 l1_2.length c1_2, .slice A1_3 l1_3.length c1_3, .slice A1_4 l1_4.length c1_4]) (t := 27) ?hr ?_; (case hd => rfl); (case hg => rfl); (case hr => first | (go_simp; done) | (go_simp; rfl)); intro gb278 hg w8 hbox hb; have n0_ := aM (below_step (bB HB.out) hb); have n1_ := aM (hbox); have n2_ := aM ((by rw [hg]; exact (below_size (bB HB.out)) : w.heap.size ≤ gb278)); have n3_ := aM ((by rw [hg]; exact (below_size (bB HB.out)) : w.heap.size ≤ gb278)); clear HB; have HB := n0_; have BK278 := n1_; have GW278 := n2_; have GE278 := n3_; clear n0_ n1_ n2_ n3_; clear hb hbox hg; have hcz9_0 : w8.cell? ⟨gb278, 0, none⟩ = some (.string a1_0) := (blk_cell BK278.out 0).trans rfl; have hcz9_1 : w8.cell? ⟨gb278, 1, none⟩ = some (.slice A1_1 l1_1.length c1_1) := (blk_cell BK278.out 1).trans rfl; have hcz9_2 : w8.cell? ⟨gb278, 2, none⟩ = some (.slice A1_2 l1_2.length c1_2) := (blk_cell BK278.out 2).trans rfl; have hcz9_3 : w8.cell? ⟨gb278, 3, none⟩ = some (.slice A1_3 l1_3.length c1_3) := (blk_cell BK278.out 3).trans rfl; have hcz9_4 : w8.cell? ⟨gb278, 4, none⟩ = some (.slice A1_4 l1_4.length c1_4) := (blk_cell BK278.out 4).trans rfl; have hfz9_0 := blk_frozen BK278.out 0; have hfz9_1 := blk_frozen BK278.out 1; have hfz9_2 := blk_frozen BK278.out 2; have hfz9_3 := blk_frozen BK278.out 3; have hfz9_4 := blk_frozen BK278.out 4) | ((with_reducible refine gate_callee (f := 12) rfl ?_); refine goesL_ (some 14) rfl rfl Try.func12 (by kernel_rfl) rfl #[.slice A0 l0.length c0, .agg #[.string a1_0, .slice A1_1 l1_1.length c1_1, .slice A1_2 l1_2.length c1_2, .slice A1_3 l1_3.length c1_3, .slice A1_4 l1_4.length c1_4]] rfl mT ?_; (with_reducible refine (r40_Check.calls k _ _ l0 a1_0 _ _ l1_1 _ _ l1_2 _ _ l1_3 _ _ l1_4 t279 _ ?side1 ?side2 ?side3 ?side4 ?side5 ?side6 ?side7 ?side8 ?side9 ?side10 A5.out).mono ?_); (case side1 => exact cB HR0.out HB.out); (case side2 => exact HC0.out); (case side3 => exact cB HR1_1.out HB.out); (case side4 => exact HC1_1.out); (case side5 => exact cB HR1_2.out HB.out); (case side6 => exact HC1_2.out); (case side7 => exact cB HR1_3.out HB.out); (case side8 => exact HC1_3.out); (case side9 => exact cB HR1_4.out HB.out); (case side10 => exact HC1_4.out); rintro e w10 ⟨rfl, hb⟩; refine ⟨_, rfl, ?_⟩; have n0_ := aM (kW BK278.out hb); have n1_ := aM (below_step (bB1 HB.out GE278.out) hb); clear BK278; clear HB; have BK278 := n0_; have HB := n1_; clear n0_ n1_; (try clear hb); (try clear hb2); (try clear hk); (try clear hi)))
  (try simp only [Act.put, List.setIfInBounds_toArray, List.set_cons_zero, List.set_cons_succ])
  go_cut [25] (fun v25 wc => ∃ (kq : Nat) (x25_6 : Bool), v25 = .bool x25_6 ∧ Aside0 (r40_CheckTerms.j0 kq l0 a2 l3 x25_6 a1_0 l1_1 l1_2 l1_3 l1_4 = some r) ∧ Aside0 (kq ≤ k) ∧ Aside0 (wc.heap[gb278]? = some (.cells #[.string a1_0, (.slice A1_1 l1_1.length c1_1), (.slice A1_2 l1_2.length c1_2), (.slice A1_3 l1_3.length c1_3), (.slice A1_4 l1_4.length c1_4)] 27 (0, 0))) ∧ Aside0 (Below w.heap.size w wc))
  case first =>
   have H := HC7.out; clear HC7
   by_cases c11 : a2 < 0
   ·rw [if_pos c11] at H
    have c11b0 : decide (a2 < 0) = true := decide_eq_true c11; clear c11
    (first | rw [c11b0] | (simp only [i64_w, i32_w]; rw [c11b0]) | skip)
    have H' := aM H
    clear H
    go_wp2
    go_meet
    case rel => exact ⟨_, (true), eT, H', ⟨by first | omega | exact Nat.le_refl _⟩, ⟨kB BK278.out⟩, ⟨bB1 HB.out GE278.out⟩⟩
   ·rw [if_neg c11] at H
    have c11b0 : decide (a2 < 0) = false := decide_eq_false c11; clear c11
    (first | rw [c11b0] | (simp only [i64_w, i32_w]; rw [c11b0]) | skip)
    have H' := aM H
    clear H
    go_wp2
    go_meet
    case rel => exact ⟨_, (decide (a2 ≥ (l0.length : Int))), eT, H', ⟨by first | omega | exact Nat.le_refl _⟩, ⟨kB BK278.out⟩, ⟨bB1 HB.out GE278.out⟩⟩
  case rest =>
   clear HC7; obtain ⟨kq, x25_6, rfl, HA, HJ6, BK278, HB⟩ := hcut
   cases kq with
   | zero => exact absurd HA.out (by simp [r40_CheckTerms.j0])
   | succ kj6 =>
    have H := HA.out; clear HA
    simp only [r40_CheckTerms.j0] at H
    by_cases c12 : x25_6 = true
    ·subst c12
     have H1 : (some 1) = some r := by rw [if_pos rfl] at H; exact H
     clear H; have H := H1; clear H1
     obtain rfl := Option.some.inj H
     go_wp2
     go_ret
     exact ⟨rT, bB1 HB.out GE278.out⟩
    ·replace c12 := Bool.eq_false_iff.mpr c12
     subst c12
     have H1 : (r40_CheckTerms.l0 kj6 l0 a2 l3 0 a1_0 l1_1 l1_2 l1_3 l1_4) = some r := by rw [if_neg (show ¬ (false = true) by decide)] at H; exact H
     clear H; have H := H1; clear H1
     have H' := aM H
     clear H
     go_wp2
     go_loopg [10] kj6 (fun kq v10 w' => ∃ (x10_2 : Int), v10 = .int .i64 x10_2 ∧ Aside0 (r40_CheckTerms.l0 kq l0 a2 l3 x10_2 a1_0 l1_1 l1_2 l1_3 l1_4 = some r) ∧ Aside0 (kq ≤ kj6) ∧ Aside0 (w'.heap[gb278]? = some (.cells #[.string a1_0, (.slice A1_1 l1_1.length c1_1), (.slice A1_2 l1_2.length c1_2), (.slice A1_3 l1_3.length c1_3), (.slice A1_4 l1_4.length c1_4)] 27 (0, 0))) ∧ Aside0 (Below w.heap.size w w'))
     case atStart => exact ⟨(0), eT, H', ⟨Nat.le_refl _⟩, ⟨kB BK278.out⟩, ⟨bB1 HB.out GE278.out⟩⟩
     case round =>
      clear H'; obtain ⟨x10_2, rfl, HA, HK2, BK278, HB⟩ := hrel
      cases gk with
      | zero => exact absurd HA.out (by simp [r40_CheckTerms.l0])
      | succ k2 =>
       have H := HA.out; clear HA
       simp only [r40_CheckTerms.l0] at H
       by_cases c13 : x10_2 < (l3.length : Int)
       ·rw [if_pos c13] at H
        have c13b0 : decide (x10_2 < (l3.length : Int)) = true := decide_eq_true c13; clear c13
        by_cases c14 : 0 ≤ x10_2
        ·rw [if_pos c14] at H
         have c14b0 : decide (0 ≤ x10_2) = true := decide_eq_true c14; clear c14; replace H := Option.bind_eq_some_iff.mp H; obtain ⟨t281, A150, H⟩ := H
         replace H : (if t281 = 0 then (r40_CheckTerms.l0 k2 l0 a2 l3 (wrap64 (x10_2 + 1)) a1_0 l1_1 l1_2 l1_3 l1_4) else (some t281)) = some r := H
         have A15 := aM A150; clear A150
         by_cases c16 : t281 = 0
         ·rw [if_pos c16] at H
          have c16b0 : (t281 == 0) = true := beq_iff_eq.mpr c16; have c16b1 : (t281 != 0) = false := bne_eq_false_iff_eq.mpr c16; clear c16
          have H' := aM H
          clear H
          try go_wp2
          have n0_ := aM (blk_drew BK278.out); have n1_ := aM (below_drew1 HB.out); clear BK278; clear HB; have BK278 := n0_; have HB := n1_; clear n0_ n1_; have p280 : 0 ≤ (x10_2 : Int) := dT; have q280 : x10_2 < (l3.length : Int) := dT; obtain ⟨ad280, e280, hx280_0, hx280_1, hx280_2⟩ := at_T54 HR3.out x10_2 p280 q280; have hw280_2 := hx280_2; have hw280_1 := hx280_1; have hw280_0 := hx280_0; cases e280; replace hx280_0 := (HB.out.cell (World.block_lt_of_cell? w _ hx280_0)).trans hx280_0; replace hx280_1 := (HB.out.cell (World.block_lt_of_cell? w _ hx280_1)).trans hx280_1; replace hx280_2 := (HB.out.cell (World.block_lt_of_cell? w _ hx280_2)).trans hx280_2; replace p280 := eq_true p280; replace q280 := eq_true q280
          refine start_ (n := 9) (S := fun w' => w'.cell? ⟨gb278, 0, none⟩ = some (.string a1_0) ∧ w'.cell? ⟨gb278, 1, none⟩ = some (.slice A1_1 l1_1.length c1_1) ∧ w'.cell? ⟨gb278, 2, none⟩ = some (.slice A1_2 l1_2.length c1_2) ∧ w'.cell? ⟨gb278, 3, none⟩ = some (.slice A1_3 l1_3.length c1_3) ∧ w'.cell? ⟨gb278, 4, none⟩ = some (.slice A1_4 l1_4.length c1_4) ∧ w'.cell? (ad280.add ((x10_2).toNat * 3)) = some (.int .i64 ((rd_T54 l3 x10_2).f0)) ∧ w'.cell? ⟨(ad280.add ((x10_2).toNat * 3)).block, (ad280.add ((x10_2).toNat * 3)).off + 1, none⟩ = some (.int .i64 ((rd_T54 l3 x10_2).f1)) ∧ w'.cell? ⟨(ad280.add ((x10_2).toNat * 3)).block, (ad280.add ((x10_2).toNat * 3)).off + 2, none⟩ = some (.int .i64 ((rd_T54 l3 x10_2).f2))) (ds := []) #[false, false, false, false, false, false, false, false, false] (by kernel_rfl) rfl rfl ⟨(blk_cell BK278.out 0).trans rfl, (blk_cell BK278.out 1).trans rfl, (blk_cell BK278.out 2).trans rfl, (blk_cell BK278.out 3).trans rfl, (blk_cell BK278.out 4).trans rfl, ((HB.out.cell (World.block_lt_of_cell? w _ hw280_0)).trans hw280_0), ((HB.out.cell (World.block_lt_of_cell? w _ hw280_1)).trans hw280_1), ((HB.out.cell (World.block_lt_of_cell? w _ hw280_2)).trans hw280_2)⟩ (fun hHeld => ?_); refine with_tabW r40_CheckTerms.tab9 r40_CheckTerms.bits9 (fun HT_ HW_ => ?_)
          generalize wr.drew = w17 at BK278 HB hx280_0 hx280_1 hx280_2 hHeld ⊢
          refine pure_ (i := 0) (N := some 32) (v := ?_) (a' := ?_) #[true, false, false, false, false, false, false, false, false] rfl rfl (any_of HT_.out (by kernel_rfl)) (fun _ _ _ h => h) (Or.inl ⟨by rfl, ?_⟩) ?_ ?_; rotate_left; exact qT; rotate_left; exact pT
          refine pure_ (i := 2) (N := some 34) (v := ?_) (a' := ?_) #[true, false, true, false, false, false, false, false, false] rfl rfl (any_of HT_.out (by kernel_rfl)) (fun _ _ _ h => h) (Or.inl ⟨by rfl, ?_⟩) ?_ ?_; rotate_left; exact qT; rotate_left; exact pT
          refine pure_ (i := 3) (N := some 35) (v := ?_) (a' := ?_) #[true, false, true, true, false, false, false, false, false] rfl rfl (any_of HT_.out (by kernel_rfl)) (fun _ _ _ h => h) (Or.inl ⟨by rfl, ?_⟩) ?_ ?_; rotate_left; exact qT; rotate_left; exact pT
          refine pure_ (i := 4) (N := some 36) (v := ?_) (a' := ?_) #[true, false, true, true, true, false, false, false, false] rfl rfl (any_of HT_.out (by kernel_rfl)) (fun _ _ _ h => h) (Or.inl ⟨by rfl, ?_⟩) ?_ ?_; rotate_left; exact qT; rotate_left; exact pT
          refine pure_ (i := 5) (N := some 37) (v := ?_) (a' := ?_) #[true, false, true, true, true, true, false, false, false] rfl rfl (any_of HT_.out (by kernel_rfl)) (fun _ _ _ h => h) (Or.inl ⟨by rfl, ?_⟩) ?_ ?_; rotate_left; exact qT; rotate_left; exact pT
          refine take_ (i := 1) (N := some 33) (v := ?_) (a' := ?_) #[true, true, true, true, true, true, false, false, false] rfl rfl (take_ofW HT_.out HW_.out (by kernel_rfl)) (fun _ _ _ h => h) (Or.inl ⟨by rfl, ?_⟩) hHeld ?_ ?_; rotate_left; rintro w' ⟨s0, s1, s2, s3, s4, s5, s6, s7⟩; go_simp; with_reducible rfl; rotate_left; exact pT
          refine take_ (i := 6) (N := some 38) (v := ?_) (a' := ?_) #[true, true, true, true, true, true, true, false, false] rfl rfl (take_ofW HT_.out HW_.out (by kernel_rfl)) (fun _ _ _ h => h) (Or.inl ⟨by rfl, ?_⟩) hHeld ?_ ?_; rotate_left; rintro w' ⟨s0, s1, s2, s3, s4, s5, s6, s7⟩; go_simp; with_reducible rfl; rotate_left; exact pT
          refine one_ (i := 7) (N := some 39) #[true, true, true, true, true, true, true, true, false] rfl rfl (one_of HT_.out (by kernel_rfl)) (by decide) (fun K hK => ?_)
          refine goes_ Try.func36 (by kernel_rfl) rfl #[.slice A0 l0.length c0, .agg #[.string a1_0, .slice A1_1 l1_1.length c1_1, .slice A1_2 l1_2.length c1_2, .slice A1_3 l1_3.length c1_3, .slice A1_4 l1_4.length c1_4], .int .i64 a2, .agg #[.int .i64 ((rd_T54 l3 x10_2).f0), .int .i64 ((rd_T54 l3 x10_2).f1), .int .i64 ((rd_T54 l3 x10_2).f2)]] (by rfl) rfl rfl mT ?_
          with_reducible refine (r40_term.calls k2 _ _ l0 a1_0 _ _ l1_1 _ _ l1_2 _ _ l1_3 _ _ l1_4 a2 ((rd_T54 l3 x10_2).f0) ((rd_T54 l3 x10_2).f1) ((rd_T54 l3 x10_2).f2) t281 _ ?side1 ?side2 ?side3 ?side4 ?side5 ?side6 ?side7 ?side8 ?side9 ?side10 A15.out).mono ?_
          (case side1 => exact cB HR0.out HB.out)
          (case side2 => exact HC0.out)
          (case side3 => exact cB HR1_1.out HB.out)
          (case side4 => exact HC1_1.out)
          (case side5 => exact cB HR1_2.out HB.out)
          (case side6 => exact HC1_2.out)
          (case side7 => exact cB HR1_3.out HB.out)
          (case side8 => exact HC1_3.out)
          (case side9 => exact cB HR1_4.out HB.out)
          (case side10 => exact HC1_4.out)
          rintro e w18 ⟨rfl, hb⟩
          refine ⟨_, rfl, ?_⟩
          have n0_ := aM (kW BK278.out hb); have n1_ := aM (below_step (bB1 HB.out GE278.out) hb); clear BK278; clear HB; have BK278 := n0_; have HB := n1_; clear n0_ n1_
          (try clear hb)
          (try clear hb2)
          (try clear hk)
          (try clear hi)
          refine hK.out _ _ ⟨(blk_cell BK278.out 0).trans rfl, (blk_cell BK278.out 1).trans rfl, (blk_cell BK278.out 2).trans rfl, (blk_cell BK278.out 3).trans rfl, (blk_cell BK278.out 4).trans rfl, ((HB.out.cell (World.block_lt_of_cell? w _ hw280_0)).trans hw280_0), ((HB.out.cell (World.block_lt_of_cell? w _ hw280_1)).trans hw280_1), ((HB.out.cell (World.block_lt_of_cell? w _ hw280_2)).trans hw280_2)⟩ (fun hHeld => ?_)
          clear hK K
          refine norm_ (a' := ?_) ?_ ?_
          rotate_left
          ·show Act.put _ (some 39) _ = _
           simp only [Act.put, List.setIfInBounds_toArray, List.set_cons_zero, List.set_cons_succ, i64_w, i32_w]
           rfl
          refine pure_ (i := 8) (N := some 11) (v := ?_) (a' := ?_) #[true, true, true, true, true, true, true, true, true] rfl rfl (any_of HT_.out (by kernel_rfl)) (fun _ _ _ h => h) (Or.inl ⟨by rfl, ?_⟩) ?_ ?_; rotate_left; exact qT; rotate_left; exact pT
          refine done_ (done_of HT_.out (by kernel_rfl)) ?_
          try go_wp2
          go_roundg k2
          case measure => have := HJ6.out; have := HK2.out; omega
          case rel => exact ⟨(wrap64 (x10_2 + 1)), eT, H', ⟨by have := HJ6.out; have := HK2.out; omega⟩, ⟨kB BK278.out⟩, ⟨bB1 HB.out GE278.out⟩⟩
         ·rw [if_neg c16] at H
          have c16b0 : (t281 == 0) = false := beq_eq_false_iff_ne.mpr c16; have c16b1 : (t281 != 0) = true := bne_iff_ne.mpr c16
          obtain rfl := Option.some.inj H
          try go_wp2
          have n0_ := aM (blk_drew BK278.out); have n1_ := aM (below_drew1 HB.out); clear BK278; clear HB; have BK278 := n0_; have HB := n1_; clear n0_ n1_; have p280 : 0 ≤ (x10_2 : Int) := dT; have q280 : x10_2 < (l3.length : Int) := dT; obtain ⟨ad280, e280, hx280_0, hx280_1, hx280_2⟩ := at_T54 HR3.out x10_2 p280 q280; have hw280_2 := hx280_2; have hw280_1 := hx280_1; have hw280_0 := hx280_0; cases e280; replace hx280_0 := (HB.out.cell (World.block_lt_of_cell? w _ hx280_0)).trans hx280_0; replace hx280_1 := (HB.out.cell (World.block_lt_of_cell? w _ hx280_1)).trans hx280_1; replace hx280_2 := (HB.out.cell (World.block_lt_of_cell? w _ hx280_2)).trans hx280_2; replace p280 := eq_true p280; replace q280 := eq_true q280
          refine start_ (n := 9) (S := fun w' => w'.cell? ⟨gb278, 0, none⟩ = some (.string a1_0) ∧ w'.cell? ⟨gb278, 1, none⟩ = some (.slice A1_1 l1_1.length c1_1) ∧ w'.cell? ⟨gb278, 2, none⟩ = some (.slice A1_2 l1_2.length c1_2) ∧ w'.cell? ⟨gb278, 3, none⟩ = some (.slice A1_3 l1_3.length c1_3) ∧ w'.cell? ⟨gb278, 4, none⟩ = some (.slice A1_4 l1_4.length c1_4) ∧ w'.cell? (ad280.add ((x10_2).toNat * 3)) = some (.int .i64 ((rd_T54 l3 x10_2).f0)) ∧ w'.cell? ⟨(ad280.add ((x10_2).toNat * 3)).block, (ad280.add ((x10_2).toNat * 3)).off + 1, none⟩ = some (.int .i64 ((rd_T54 l3 x10_2).f1)) ∧ w'.cell? ⟨(ad280.add ((x10_2).toNat * 3)).block, (ad280.add ((x10_2).toNat * 3)).off + 2, none⟩ = some (.int .i64 ((rd_T54 l3 x10_2).f2))) (ds := []) #[false, false, false, false, false, false, false, false, false] (by kernel_rfl) rfl rfl ⟨(blk_cell BK278.out 0).trans rfl, (blk_cell BK278.out 1).trans rfl, (blk_cell BK278.out 2).trans rfl, (blk_cell BK278.out 3).trans rfl, (blk_cell BK278.out 4).trans rfl, ((HB.out.cell (World.block_lt_of_cell? w _ hw280_0)).trans hw280_0), ((HB.out.cell (World.block_lt_of_cell? w _ hw280_1)).trans hw280_1), ((HB.out.cell (World.block_lt_of_cell? w _ hw280_2)).trans hw280_2)⟩ (fun hHeld => ?_); refine with_tabW r40_CheckTerms.tab9 r40_CheckTerms.bits9 (fun HT_ HW_ => ?_)
          generalize wr.drew = w19 at BK278 HB hx280_0 hx280_1 hx280_2 hHeld ⊢
          refine pure_ (i := 0) (N := some 32) (v := ?_) (a' := ?_) #[true, false, false, false, false, false, false, false, false] rfl rfl (any_of HT_.out (by kernel_rfl)) (fun _ _ _ h => h) (Or.inl ⟨by rfl, ?_⟩) ?_ ?_; rotate_left; exact qT; rotate_left; exact pT
          refine pure_ (i := 2) (N := some 34) (v := ?_) (a' := ?_) #[true, false, true, false, false, false, false, false, false] rfl rfl (any_of HT_.out (by kernel_rfl)) (fun _ _ _ h => h) (Or.inl ⟨by rfl, ?_⟩) ?_ ?_; rotate_left; exact qT; rotate_left; exact pT
          refine pure_ (i := 3) (N := some 35) (v := ?_) (a' := ?_) #[true, false, true, true, false, false, false, false, false] rfl rfl (any_of HT_.out (by kernel_rfl)) (fun _ _ _ h => h) (Or.inl ⟨by rfl, ?_⟩) ?_ ?_; rotate_left; exact qT; rotate_left; exact pT
          refine pure_ (i := 4) (N := some 36) (v := ?_) (a' := ?_) #[true, false, true, true, true, false, false, false, false] rfl rfl (any_of HT_.out (by kernel_rfl)) (fun _ _ _ h => h) (Or.inl ⟨by rfl, ?_⟩) ?_ ?_; rotate_left; exact qT; rotate_left; exact pT
          refine pure_ (i := 5) (N := some 37) (v := ?_) (a' := ?_) #[true, false, true, true, true, true, false, false, false] rfl rfl (any_of HT_.out (by kernel_rfl)) (fun _ _ _ h => h) (Or.inl ⟨by rfl, ?_⟩) ?_ ?_; rotate_left; exact qT; rotate_left; exact pT
          refine take_ (i := 1) (N := some 33) (v := ?_) (a' := ?_) #[true, true, true, true, true, true, false, false, false] rfl rfl (take_ofW HT_.out HW_.out (by kernel_rfl)) (fun _ _ _ h => h) (Or.inl ⟨by rfl, ?_⟩) hHeld ?_ ?_; rotate_left; rintro w' ⟨s0, s1, s2, s3, s4, s5, s6, s7⟩; go_simp; with_reducible rfl; rotate_left; exact pT
          refine take_ (i := 6) (N := some 38) (v := ?_) (a' := ?_) #[true, true, true, true, true, true, true, false, false] rfl rfl (take_ofW HT_.out HW_.out (by kernel_rfl)) (fun _ _ _ h => h) (Or.inl ⟨by rfl, ?_⟩) hHeld ?_ ?_; rotate_left; rintro w' ⟨s0, s1, s2, s3, s4, s5, s6, s7⟩; go_simp; with_reducible rfl; rotate_left; exact pT
          refine one_ (i := 7) (N := some 39) #[true, true, true, true, true, true, true, true, false] rfl rfl (one_of HT_.out (by kernel_rfl)) (by decide) (fun K hK => ?_)
          refine goes_ Try.func36 (by kernel_rfl) rfl #[.slice A0 l0.length c0, .agg #[.string a1_0, .slice A1_1 l1_1.length c1_1, .slice A1_2 l1_2.length c1_2, .slice A1_3 l1_3.length c1_3, .slice A1_4 l1_4.length c1_4], .int .i64 a2, .agg #[.int .i64 ((rd_T54 l3 x10_2).f0), .int .i64 ((rd_T54 l3 x10_2).f1), .int .i64 ((rd_T54 l3 x10_2).f2)]] (by rfl) rfl rfl mT ?_
          with_reducible refine (r40_term.calls k2 _ _ l0 a1_0 _ _ l1_1 _ _ l1_2 _ _ l1_3 _ _ l1_4 a2 ((rd_T54 l3 x10_2).f0) ((rd_T54 l3 x10_2).f1) ((rd_T54 l3 x10_2).f2) t281 _ ?side1 ?side2 ?side3 ?side4 ?side5 ?side6 ?side7 ?side8 ?side9 ?side10 A15.out).mono ?_
          (case side1 => exact cB HR0.out HB.out)
          (case side2 => exact HC0.out)
          (case side3 => exact cB HR1_1.out HB.out)
          (case side4 => exact HC1_1.out)
          (case side5 => exact cB HR1_2.out HB.out)
          (case side6 => exact HC1_2.out)
          (case side7 => exact cB HR1_3.out HB.out)
          (case side8 => exact HC1_3.out)
          (case side9 => exact cB HR1_4.out HB.out)
          (case side10 => exact HC1_4.out)
          rintro e w20 ⟨rfl, hb⟩
          refine ⟨_, rfl, ?_⟩
          have n0_ := aM (kW BK278.out hb); have n1_ := aM (below_step (bB1 HB.out GE278.out) hb); clear BK278; clear HB; have BK278 := n0_; have HB := n1_; clear n0_ n1_
          (try clear hb)
          (try clear hb2)
          (try clear hk)
          (try clear hi)
          refine hK.out _ _ ⟨(blk_cell BK278.out 0).trans rfl, (blk_cell BK278.out 1).trans rfl, (blk_cell BK278.out 2).trans rfl, (blk_cell BK278.out 3).trans rfl, (blk_cell BK278.out 4).trans rfl, ((HB.out.cell (World.block_lt_of_cell? w _ hw280_0)).trans hw280_0), ((HB.out.cell (World.block_lt_of_cell? w _ hw280_1)).trans hw280_1), ((HB.out.cell (World.block_lt_of_cell? w _ hw280_2)).trans hw280_2)⟩ (fun hHeld => ?_)
          clear hK K
          refine norm_ (a' := ?_) ?_ ?_
          rotate_left
          ·show Act.put _ (some 39) _ = _
           simp only [Act.put, List.setIfInBounds_toArray, List.set_cons_zero, List.set_cons_succ, i64_w, i32_w]
           rfl
          refine pure_ (i := 8) (N := some 11) (v := ?_) (a' := ?_) #[true, true, true, true, true, true, true, true, true] rfl rfl (any_of HT_.out (by kernel_rfl)) (fun _ _ _ h => h) (Or.inl ⟨by rfl, ?_⟩) ?_ ?_; rotate_left; exact qT; rotate_left; exact pT
          refine done_ (done_of HT_.out (by kernel_rfl)) ?_
          try go_wp2
          go_ret
          exact ⟨rT, bB1 HB.out GE278.out⟩
        ·rw [if_neg c14] at H
         exact absurd H (by simp)
       ·rw [if_neg c13] at H
        have c13b0 : decide (x10_2 < (l3.length : Int)) = false := decide_eq_false c13; clear c13
        obtain rfl := Option.some.inj H
        go_wp2
        go_ret
        exact ⟨rT, bB1 HB.out GE278.out⟩
 ·rw [if_neg c6] at H
  have c6b0 : (t279 == 0) = false := beq_eq_false_iff_ne.mpr c6; have c6b1 : (t279 != 0) = true := bne_iff_ne.mpr c6
  obtain rfl := Option.some.inj H
  go_enter Try.func14, Try.ntmps14
  go_wp2_with (first | ((with_reducible refine gate_dst (N := 5) rfl ?_); (try (refine gate_guard (by rfl) ?_; dsimp only)); refine box_event ?hg (N := 5) ?hd (cs := #[.string a1_0, .slice A1_1 l1_1.length c1_1, .slice A1_2 l1_2.length c1_2, .slice A1_3 l1_3.length c1_3, .slice A1_4 l1_4.length c1_4]) (t := 27) ?hr ?_; (case hd => rfl); (case hg => rfl); (case hr => first | (go_simp; done) | (go_simp; rfl)); intro gb278 hg w21 hbox hb; have n0_ := aM (below_step (bB HB.out) hb); have n1_ := aM (hbox); have n2_ := aM ((by rw [hg]; exact (below_size (bB HB.out)) : w.heap.size ≤ gb278)); have n3_ := aM ((by rw [hg]; exact (below_size (bB HB.out)) : w.heap.size ≤ gb278)); clear HB; have HB := n0_; have BK278 := n1_; have GW278 := n2_; have GE278 := n3_; clear n0_ n1_ n2_ n3_; clear hb hbox hg; have hcz22_0 : w21.cell? ⟨gb278, 0, none⟩ = some (.string a1_0) := (blk_cell BK278.out 0).trans rfl; have hcz22_1 : w21.cell? ⟨gb278, 1, none⟩ = some (.slice A1_1 l1_1.length c1_1) := (blk_cell BK278.out 1).trans rfl; have hcz22_2 : w21.cell? ⟨gb278, 2, none⟩ = some (.slice A1_2 l1_2.length c1_2) := (blk_cell BK278.out 2).trans rfl; have hcz22_3 : w21.cell? ⟨gb278, 3, none⟩ = some (.slice A1_3 l1_3.length c1_3) := (blk_cell BK278.out 3).trans rfl; have hcz22_4 : w21.cell? ⟨gb278, 4, none⟩ = some (.slice A1_4 l1_4.length c1_4) := (blk_cell BK278.out 4).trans rfl; have hfz22_0 := blk_frozen BK278.out 0; have hfz22_1 := blk_frozen BK278.out 1; have hfz22_2 := blk_frozen BK278.out 2; have hfz22_3 := blk_frozen BK278.out 3; have hfz22_4 := blk_frozen BK278.out 4) | ((with_reducible refine gate_callee (f := 12) rfl ?_); refine goesL_ (some 14) rfl rfl Try.func12 (by kernel_rfl) rfl #[.slice A0 l0.length c0, .agg #[.string a1_0, .slice A1_1 l1_1.length c1_1, .slice A1_2 l1_2.length c1_2, .slice A1_3 l1_3.length c1_3, .slice A1_4 l1_4.length c1_4]] rfl mT ?_; (with_reducible refine (r40_Check.calls k _ _ l0 a1_0 _ _ l1_1 _ _ l1_2 _ _ l1_3 _ _ l1_4 t279 _ ?side1 ?side2 ?side3 ?side4 ?side5 ?side6 ?side7 ?side8 ?side9 ?side10 A5.out).mono ?_); (case side1 => exact cB HR0.out HB.out); (case side2 => exact HC0.out); (case side3 => exact cB HR1_1.out HB.out); (case side4 => exact HC1_1.out); (case side5 => exact cB HR1_2.out HB.out); (case side6 => exact HC1_2.out); (case side7 => exact cB HR1_3.out HB.out); (case side8 => exact HC1_3.out); (case side9 => exact cB HR1_4.out HB.out); (case side10 => exact HC1_4.out); rintro e w23 ⟨rfl, hb⟩; refine ⟨_, rfl, ?_⟩; have n0_ := aM (kW BK278.out hb); have n1_ := aM (below_step (bB1 HB.out GE278.out) hb); clear BK278; clear HB; have BK278 := n0_; have HB := n1_; clear n0_ n1_; (try clear hb); (try clear hb2); (try clear hk); (try clear hi)))
  go_ret
  exact ⟨rT, bB1 HB.out GE278.out⟩




/-! ### l40_BindingChecks: function 3 -/
def l40_BindingChecks.j0 : Nat → List (S51) → Bool → ByteArray → List (S48) → List (S62) → List (S111) → List (S111) → Int → List (S54) → List Int → Option (Bool)
 | 0, _, _, _, _, _, _, _, _, _, _ => none
 | k + 1, x0, x16, x283000, x283001, x283002, x283003, x283004, x284000, x284001, x284002 => if x16 = true then ((l40_lives.f k).bind fun t285 => (some t285)) else ((binding_Check.f x0 x283000 x283001 x283002 x283003 x283004).bind fun t286 => ((r40_Check.f k x0 x283000 x283001 x283002 x283003 x283004).bind fun t287 => (if t286 = t287 then ((binding_CheckTerms.f k x0 x283000 x283001 x283002 x283003 x283004 x284000 x284001).bind fun t288 => ((r40_CheckTerms.f k x0 x283000 x283001 x283002 x283003 x283004 x284000 x284001).bind fun t289 => (if t288 = t289 then ((l40_lives.f k).bind fun t290 => (some t290)) else (some false)))) else (some false))))
def l40_BindingChecks.f (k : Nat) (l0 : List (S51)) (a1_0 : ByteArray) (l1_1 : List (S48)) (l1_2 : List (S62)) (l1_3 : List (S111)) (l1_4 : List (S111)) (a2_0 : Int) (l2_1 : List (S54)) (l2_2 : List Int) : Option (Bool) := (r40_Few.f k l0 a1_0 l1_1 l1_2 l1_3 l1_4).bind fun t284 => (if t284 = true then (l40_BindingChecks.j0 k l0 (decide ((l2_1.length : Int) > 20)) a1_0 l1_1 l1_2 l1_3 l1_4 a2_0 l2_1 l2_2) else (l40_BindingChecks.j0 k l0 true a1_0 l1_1 l1_2 l1_3 l1_4 a2_0 l2_1 l2_2))
theorem l40_BindingChecks.mono_l : ∀ k, (∀ y0 y1 y2 y3 y4 y5 y6 y7 y8 y9, LeO (l40_BindingChecks.j0 k y0 y1 y2 y3 y4 y5 y6 y7 y8 y9) (l40_BindingChecks.j0 (k + 1) y0 y1 y2 y3 y4 y5 y6 y7 y8 y9))
 | 0 => fun _ _ _ _ _ _ _ _ _ _ r h => by simp [l40_BindingChecks.j0] at h
 | k + 1 => by
  have ih0 := l40_BindingChecks.mono_l k
  ·intro y0 y1 y2 y3 y4 y5 y6 y7 y8 y9
   unfold l40_BindingChecks.j0
   repeat' first
   | (with_reducible first | exact ih0 _ _ _ _ _ _ _ _ _ _ | exact binding_CheckTerms.mono _ _ _ _ _ _ _ _ _ | exact l40_lives.mono _ | exact r40_Check.mono _ _ _ _ _ _ _ | exact r40_CheckTerms.mono _ _ _ _ _ _ _ _ _ | exact r40_Few.mono _ _ _ _ _ _ _ | exact LeO.refl _ | exact LeO.none _ | refine LeO.ite ?_ ?_ | refine LeO.bind ?_ (fun _ => ?_))
   | exact LeO.none _
   | refine LeO.ite ?_ ?_
   | refine LeO.bind ?_ (fun _ => ?_)
theorem l40_BindingChecks.mono : ∀ a0 a1 a2 a3 a4 a5 a6 a7 a8 k, LeO (l40_BindingChecks.f k a0 a1 a2 a3 a4 a5 a6 a7 a8) (l40_BindingChecks.f (k + 1) a0 a1 a2 a3 a4 a5 a6 a7 a8) := by
 intro a0 a1 a2 a3 a4 a5 a6 a7 a8 k
 have ih0 := l40_BindingChecks.mono_l k
 unfold l40_BindingChecks.f
 repeat' first
   | (with_reducible first | exact ih0 _ _ _ _ _ _ _ _ _ _ | exact binding_CheckTerms.mono _ _ _ _ _ _ _ _ _ | exact l40_lives.mono _ | exact r40_Check.mono _ _ _ _ _ _ _ | exact r40_CheckTerms.mono _ _ _ _ _ _ _ _ _ | exact r40_Few.mono _ _ _ _ _ _ _ | exact LeO.refl _ | exact LeO.none _ | refine LeO.ite ?_ ?_ | refine LeO.bind ?_ (fun _ => ?_))
   | exact LeO.none _
   | refine LeO.ite ?_ ?_
   | refine LeO.bind ?_ (fun _ => ?_)
def l40_BindingChecks.T3 : Bool × List (List Nat × List Nat) := (true, [([], []), ([], []), ([0, 1], [0, 1]), ([], []), ([], []), ([3, 4, 2], [3, 4]), ([2, 5], [2, 5]), ([6, 5], [6]), ([7], [7]), ([7], [7]), ([7], [7]), ([10, 7], [7, 10]), ([7], [7]), ([12, 7], [7, 12]), ([8, 9, 11, 13, 7, 7], [7, 8, 9, 11, 13]), ([7], [7]), ([7], [7]), ([7], [7]), ([17, 7], [7, 17]), ([7], [7]), ([19, 7], [7, 19]), ([15, 16, 18, 20, 14, 7], [7, 15, 16, 18, 20]), ([14, 21, 7], [7, 14, 21]), ([7, 22], [7, 22]), ([23, 21], [23]), ([24, 24], [24]), ([24, 25], [24, 25]), ([26, 25, 0, 1, 2, 3, 4, 5, 6, 7, 8, 9, 10, 11, 12, 13, 14, 15, 16, 17, 18, 19, 20, 21, 22, 23, 24, 25, 26], [26])])
def l40_BindingChecks.B3 : List Nat := [0, 0, 3, 0, 0, 31, 63, 127, 255, 255, 255, 1279, 255, 4351, 16383, 255, 255, 255, 131327, 255, 524543, 2097151, 4194303, 8388607, 16777215, 33554431, 67108863, 134217727]
theorem l40_BindingChecks.tab3 : rtab .any (opsOf Try.f3 3) = l40_BindingChecks.T3 := by kernel_rfl
theorem l40_BindingChecks.bits3 : waitsOk l40_BindingChecks.T3.2 l40_BindingChecks.B3 = true := by kernel_rfl
set_option maxHeartbeats 8000000 in
set_option maxRecDepth 100000 in
theorem l40_BindingChecks.calls (k : Nat) (A0 : Option Addr) (c0 : Nat) (l0 : List (S51)) (a1_0 : ByteArray) (A1_1 : Option Addr) (c1_1 : Nat) (l1_1 : List (S48)) (A1_2 : Option Addr) (c1_2 : Nat) (l1_2 : List (S62)) (A1_3 : Option Addr) (c1_3 : Nat) (l1_3 : List (S111)) (A1_4 : Option Addr) (c1_4 : Nat) (l1_4 : List (S111)) (a2_0 : Int) (A2_1 : Option Addr) (c2_1 : Nat) (l2_1 : List (S54)) (A2_2 : Option Addr) (c2_2 : Nat) (l2_2 : List Int) (r : Bool) (w : World) (hr0 : Kd.C k51 w A0 l0.length l0) (hc0 : l0.length ≤ c0) (hr1_1 : Kd.C k48 w A1_1 l1_1.length l1_1) (hc1_1 : l1_1.length ≤ c1_1) (hr1_2 : Kd.C k62 w A1_2 l1_2.length l1_2) (hc1_2 : l1_2.length ≤ c1_2) (hr1_3 : Kd.C k111 w A1_3 l1_3.length l1_3) (hc1_3 : l1_3.length ≤ c1_3) (hr1_4 : Kd.C k111 w A1_4 l1_4.length l1_4) (hc1_4 : l1_4.length ≤ c1_4) (hr2_1 : Kd.C k54 w A2_1 l2_1.length l2_1) (hc2_1 : l2_1.length ≤ c2_1) (hr2_2 : Kd.C (Kd.int .i64) w A2_2 l2_2.length l2_2) (hc2_2 : l2_2.length ≤ c2_2) (h : l40_BindingChecks.f k l0 a1_0 l1_1 l1_2 l1_3 l1_4 a2_0 l2_1 l2_2 = some r) (hrT_ : Aside0 (r = true)) :
  Calls Try.prog 3 #[.slice A0 l0.length c0, .agg #[.string a1_0, .slice A1_1 l1_1.length c1_1, .slice A1_2 l1_2.length c1_2, .slice A1_3 l1_3.length c1_3, .slice A1_4 l1_4.length c1_4], .agg #[.int .i64 a2_0, .slice A2_1 l2_1.length c2_1, .slice A2_2 l2_2.length c2_2]] w fun e w' => e = .returned (.bool r) ∧ Below w.heap.size w w' := by
 have hu27 := Try.underlying27; have hu9 := Try.underlying9; have hu23 := Try.underlying23; have hu24 := Try.underlying24; have hu25 := Try.underlying25; have hu31 := Try.underlying31; have hu3 := Try.underlying3; have hu28 := Try.underlying28; have hu29 := Try.underlying29; have HR0 := aM hr0; have HC0 := aM hc0; clear hr0 hc0; have HR1_1 := aM hr1_1; have HC1_1 := aM hc1_1; clear hr1_1 hc1_1; have HR1_2 := aM hr1_2; have HC1_2 := aM hc1_2; clear hr1_2 hc1_2; have HR1_3 := aM hr1_3; have HC1_3 := aM hc1_3; clear hr1_3 hc1_3; have HR1_4 := aM hr1_4; have HC1_4 := aM hc1_4; clear hr1_4 hc1_4; have HR2_1 := aM hr2_1; have HC2_1 := aM hc2_1; clear hr2_1 hc2_1; have HR2_2 := aM hr2_2; have HC2_2 := aM hc2_2; clear hr2_2 hc2_2; have HB := aM (Below.refl w.heap.size w)
 have H : ((r40_Few.f k l0 a1_0 l1_1 l1_2 l1_3 l1_4).bind fun t284 => (if t284 = true then (l40_BindingChecks.j0 k l0 (decide ((l2_1.length : Int) > 20)) a1_0 l1_1 l1_2 l1_3 l1_4 a2_0 l2_1 l2_2) else (l40_BindingChecks.j0 k l0 true a1_0 l1_1 l1_2 l1_3 l1_4 a2_0 l2_1 l2_2))) = some r := h
 clear h; have HC4 := aM H; clear H
 go_enter Try.func3, Try.ntmps3
 go_upto_region 1 with (first | ((with_reducible refine gate_dst (N := 4) rfl ?_); (try (refine gate_guard (by rfl) ?_; dsimp only)); refine box_event ?hg (N := 4) ?hd (cs := #[.string a1_0, .slice A1_1 l1_1.length c1_1, .slice A1_2 l1_2.length c1_2, .slice A1_3 l1_3.length c1_3, .slice A1_4 l1_4.length c1_4]) (t := 27) ?hr ?_; (case hd => rfl); (case hg => rfl); (case hr => first | (go_simp; done) | (go_simp; rfl)); intro gb282 hg w5 hbox hb; have n0_ := aM (below_step (bB HB.out) hb); have n1_ := aM (hbox); have n2_ := aM ((by rw [hg]; exact (below_size (bB HB.out)) : w.heap.size ≤ gb282)); have n3_ := aM ((by rw [hg]; exact (below_size (bB HB.out)) : w.heap.size ≤ gb282)); clear HB; have HB := n0_; have BK282 := n1_; have GW282 := n2_; have GE282 := n3_; clear n0_ n1_ n2_ n3_; clear hb hbox hg) | ((with_reducible refine gate_dst (N := 5) rfl ?_); (try (refine gate_guard (by rfl) ?_; dsimp only)); refine box_event ?hg (N := 5) ?hd (cs := #[.int .i64 a2_0, .slice A2_1 l2_1.length c2_1, .slice A2_2 l2_2.length c2_2]) (t := 31) ?hr ?_; (case hd => rfl); (case hg => rfl); (case hr => first | (go_simp; done) | (go_simp; rfl)); intro gb283 hg w6 hbox hb; have n0_ := aM (kW BK282.out hb); have n1_ := aM (below_step (bB1 HB.out GE282.out) hb); have n2_ := aM (hbox); have n3_ := aM ((by rw [hg]; exact (below_size (bB1 HB.out GE282.out)) : w.heap.size ≤ gb283)); have n4_ := aM ((by rw [hg]; exact (below_size (bB1 HB.out GE282.out)) : w.heap.size ≤ gb283)); have n5_ := aM ((by rw [hg]; exact Nat.ne_of_lt (kL BK282.out) : gb282 ≠ gb283)); have n6_ := aM ((by rw [hg]; exact Nat.ne_of_gt (kL BK282.out) : gb283 ≠ gb282)); clear BK282; clear HB; have BK282 := n0_; have HB := n1_; have BK283 := n2_; have GW283 := n3_; have GE283 := n4_; have NB282_283 := n5_; have NB283_282 := n6_; clear n0_ n1_ n2_ n3_ n4_ n5_ n6_; clear hb hbox hg))
 (try simp only [Act.put, List.setIfInBounds_toArray, List.set_cons_zero, List.set_cons_succ])
 go_cut [16] (fun v16 wc => ∃ (kq : Nat) (x16_3 : Bool), v16 = .bool x16_3 ∧ Aside0 (l40_BindingChecks.j0 kq l0 x16_3 a1_0 l1_1 l1_2 l1_3 l1_4 a2_0 l2_1 l2_2 = some r) ∧ Aside0 (kq ≤ k) ∧ Aside0 (wc.heap[gb282]? = some (.cells #[.string a1_0, (.slice A1_1 l1_1.length c1_1), (.slice A1_2 l1_2.length c1_2), (.slice A1_3 l1_3.length c1_3), (.slice A1_4 l1_4.length c1_4)] 27 (0, 0))) ∧ Aside0 (wc.heap[gb283]? = some (.cells #[.int .i64 a2_0, (.slice A2_1 l2_1.length c2_1), (.slice A2_2 l2_2.length c2_2)] 31 (0, 0))) ∧ Aside0 (Below w.heap.size w wc))
 case first =>
  have H := HC4.out; clear HC4; replace H := Option.bind_eq_some_iff.mp H; obtain ⟨t284, A70, H⟩ := H
  replace H : (if t284 = true then (l40_BindingChecks.j0 k l0 (decide ((l2_1.length : Int) > 20)) a1_0 l1_1 l1_2 l1_3 l1_4 a2_0 l2_1 l2_2) else (l40_BindingChecks.j0 k l0 true a1_0 l1_1 l1_2 l1_3 l1_4 a2_0 l2_1 l2_2)) = some r := H
  have A7 := aM A70; clear A70
  by_cases c8 : t284 = true
  ·subst c8
   have H1 : (l40_BindingChecks.j0 k l0 (decide ((l2_1.length : Int) > 20)) a1_0 l1_1 l1_2 l1_3 l1_4 a2_0 l2_1 l2_2) = some r := by rw [if_pos rfl] at H; exact H
   clear H; have H := H1; clear H1
   have H' := aM H
   clear H; have hnb9 := NB282_283.out; have hnc9 := NB283_282.out
   have hcz10_0 : w6.cell? ⟨gb282, 0, none⟩ = some (.string a1_0) := (blk_cell BK282.out 0).trans rfl
   have hcz10_1 : w6.cell? ⟨gb282, 1, none⟩ = some (.slice A1_1 l1_1.length c1_1) := (blk_cell BK282.out 1).trans rfl
   have hcz10_2 : w6.cell? ⟨gb282, 2, none⟩ = some (.slice A1_2 l1_2.length c1_2) := (blk_cell BK282.out 2).trans rfl
   have hcz10_3 : w6.cell? ⟨gb282, 3, none⟩ = some (.slice A1_3 l1_3.length c1_3) := (blk_cell BK282.out 3).trans rfl
   have hcz10_4 : w6.cell? ⟨gb282, 4, none⟩ = some (.slice A1_4 l1_4.length c1_4) := (blk_cell BK282.out 4).trans rfl
   have hfz10_0 := blk_frozen BK282.out 0; have hfz10_1 := blk_frozen BK282.out 1; have hfz10_2 := blk_frozen BK282.out 2; have hfz10_3 := blk_frozen BK282.out 3; have hfz10_4 := blk_frozen BK282.out 4
   go_wp2_with (first | ((with_reducible refine gate_callee (f := 9) rfl ?_); refine goesL_ (some 9) rfl rfl Try.func9 (by kernel_rfl) rfl #[.slice A0 l0.length c0, .agg #[.string a1_0, .slice A1_1 l1_1.length c1_1, .slice A1_2 l1_2.length c1_2, .slice A1_3 l1_3.length c1_3, .slice A1_4 l1_4.length c1_4]] rfl mT ?_; (with_reducible refine (r40_Few.calls k _ _ l0 a1_0 _ _ l1_1 _ _ l1_2 _ _ l1_3 _ _ l1_4 true _ ?side1 ?side2 ?side3 ?side4 ?side5 ?side6 ?side7 ?side8 ?side9 ?side10 A7.out).mono ?_); (case side1 => exact cB HR0.out HB.out); (case side2 => exact HC0.out); (case side3 => exact cB HR1_1.out HB.out); (case side4 => exact HC1_1.out); (case side5 => exact cB HR1_2.out HB.out); (case side6 => exact HC1_2.out); (case side7 => exact cB HR1_3.out HB.out); (case side8 => exact HC1_3.out); (case side9 => exact cB HR1_4.out HB.out); (case side10 => exact HC1_4.out); rintro e w11 ⟨rfl, hb⟩; refine ⟨_, rfl, ?_⟩; have n0_ := aM (kW BK282.out hb); have n1_ := aM (kW BK283.out hb); have n2_ := aM (below_step (bB2 HB.out GE282.out GE283.out) hb); clear BK282; clear BK283; clear HB; have BK282 := n0_; have BK283 := n1_; have HB := n2_; clear n0_ n1_ n2_; (try clear hb); (try clear hb2); (try clear hk); (try clear hi); have hcz12_0 : w11.cell? ⟨gb283, 0, none⟩ = some (.int .i64 a2_0) := (blk_cell BK283.out 0).trans rfl; have hcz12_1 : w11.cell? ⟨gb283, 1, none⟩ = some (.slice A2_1 l2_1.length c2_1) := (blk_cell BK283.out 1).trans rfl; have hcz12_2 : w11.cell? ⟨gb283, 2, none⟩ = some (.slice A2_2 l2_2.length c2_2) := (blk_cell BK283.out 2).trans rfl; have hfz12_0 := blk_frozen BK283.out 0; have hfz12_1 := blk_frozen BK283.out 1; have hfz12_2 := blk_frozen BK283.out 2))
   go_meet
   case rel => exact ⟨_, (decide ((l2_1.length : Int) > 20)), eT, H', ⟨by first | omega | exact Nat.le_refl _⟩, ⟨kB BK282.out⟩, ⟨kB BK283.out⟩, ⟨bB2 HB.out GE282.out GE283.out⟩⟩
  ·replace c8 := Bool.eq_false_iff.mpr c8
   subst c8
   have H1 : (l40_BindingChecks.j0 k l0 true a1_0 l1_1 l1_2 l1_3 l1_4 a2_0 l2_1 l2_2) = some r := by rw [if_neg (show ¬ (false = true) by decide)] at H; exact H
   clear H; have H := H1; clear H1
   have H' := aM H
   clear H; have hnb13 := NB282_283.out; have hnc13 := NB283_282.out
   have hcz14_0 : w6.cell? ⟨gb282, 0, none⟩ = some (.string a1_0) := (blk_cell BK282.out 0).trans rfl
   have hcz14_1 : w6.cell? ⟨gb282, 1, none⟩ = some (.slice A1_1 l1_1.length c1_1) := (blk_cell BK282.out 1).trans rfl
   have hcz14_2 : w6.cell? ⟨gb282, 2, none⟩ = some (.slice A1_2 l1_2.length c1_2) := (blk_cell BK282.out 2).trans rfl
   have hcz14_3 : w6.cell? ⟨gb282, 3, none⟩ = some (.slice A1_3 l1_3.length c1_3) := (blk_cell BK282.out 3).trans rfl
   have hcz14_4 : w6.cell? ⟨gb282, 4, none⟩ = some (.slice A1_4 l1_4.length c1_4) := (blk_cell BK282.out 4).trans rfl
   have hfz14_0 := blk_frozen BK282.out 0; have hfz14_1 := blk_frozen BK282.out 1; have hfz14_2 := blk_frozen BK282.out 2; have hfz14_3 := blk_frozen BK282.out 3; have hfz14_4 := blk_frozen BK282.out 4
   go_wp2_with (first | ((with_reducible refine gate_callee (f := 9) rfl ?_); refine goesL_ (some 9) rfl rfl Try.func9 (by kernel_rfl) rfl #[.slice A0 l0.length c0, .agg #[.string a1_0, .slice A1_1 l1_1.length c1_1, .slice A1_2 l1_2.length c1_2, .slice A1_3 l1_3.length c1_3, .slice A1_4 l1_4.length c1_4]] rfl mT ?_; (with_reducible refine (r40_Few.calls k _ _ l0 a1_0 _ _ l1_1 _ _ l1_2 _ _ l1_3 _ _ l1_4 false _ ?side1 ?side2 ?side3 ?side4 ?side5 ?side6 ?side7 ?side8 ?side9 ?side10 A7.out).mono ?_); (case side1 => exact cB HR0.out HB.out); (case side2 => exact HC0.out); (case side3 => exact cB HR1_1.out HB.out); (case side4 => exact HC1_1.out); (case side5 => exact cB HR1_2.out HB.out); (case side6 => exact HC1_2.out); (case side7 => exact cB HR1_3.out HB.out); (case side8 => exact HC1_3.out); (case side9 => exact cB HR1_4.out HB.out); (case side10 => exact HC1_4.out); rintro e w15 ⟨rfl, hb⟩; refine ⟨_, rfl, ?_⟩; have n0_ := aM (kW BK282.out hb); have n1_ := aM (kW BK283.out hb); have n2_ := aM (below_step (bB2 HB.out GE282.out GE283.out) hb); clear BK282; clear BK283; clear HB; have BK282 := n0_; have BK283 := n1_; have HB := n2_; clear n0_ n1_ n2_; (try clear hb); (try clear hb2); (try clear hk); (try clear hi)))
   go_meet
   case rel => exact ⟨_, (true), eT, H', ⟨by first | omega | exact Nat.le_refl _⟩, ⟨kB BK282.out⟩, ⟨kB BK283.out⟩, ⟨bB2 HB.out GE282.out GE283.out⟩⟩
 case rest =>
  clear HC4; obtain ⟨kq, x16_3, rfl, HA, HJ3, BK282, BK283, HB⟩ := hcut
  cases kq with
  | zero => exact absurd HA.out (by simp [l40_BindingChecks.j0])
  | succ kj3 =>
   have H := HA.out; clear HA
   simp only [l40_BindingChecks.j0] at H
   by_cases c16 : x16_3 = true
   ·subst c16
    have H1 : ((l40_lives.f kj3).bind fun t285 => (some t285)) = some r := by rw [if_pos rfl] at H; exact H
    clear H; have H := H1; clear H1; replace H := Option.bind_eq_some_iff.mp H; obtain ⟨t285, A170, H⟩ := H
    replace H : (some t285) = some r := H
    have A17 := aM A170; clear A170
    obtain rfl := Option.some.inj H
    go_wp2_with (first | ((with_reducible refine gate_callee (f := 10) rfl ?_); refine goesL_ (some 17) rfl rfl Try.func10 (by kernel_rfl) rfl #[] rfl mT ?_; (with_reducible refine (l40_lives.calls kj3  t285 _ A17.out (by first | exact hrT_ | exact ⟨rfl⟩)).mono ?_); rintro e w18 ⟨rfl, hb⟩; refine ⟨_, rfl, ?_⟩; have n0_ := aM (kW BK282.out hb); have n1_ := aM (kW BK283.out hb); have n2_ := aM (below_step (bB2 HB.out GE282.out GE283.out) hb); clear BK282; clear BK283; clear HB; have BK282 := n0_; have BK283 := n1_; have HB := n2_; clear n0_ n1_ n2_; (try clear hb); (try clear hb2); (try clear hk); (try clear hi)))
    go_ret
    exact ⟨rT, bB2 HB.out GE282.out GE283.out⟩
   ·replace c16 := Bool.eq_false_iff.mpr c16
    subst c16
    have H1 : ((binding_Check.f l0 a1_0 l1_1 l1_2 l1_3 l1_4).bind fun t286 => ((r40_Check.f kj3 l0 a1_0 l1_1 l1_2 l1_3 l1_4).bind fun t287 => (if t286 = t287 then ((binding_CheckTerms.f kj3 l0 a1_0 l1_1 l1_2 l1_3 l1_4 a2_0 l2_1).bind fun t288 => ((r40_CheckTerms.f kj3 l0 a1_0 l1_1 l1_2 l1_3 l1_4 a2_0 l2_1).bind fun t289 => (if t288 = t289 then ((l40_lives.f kj3).bind fun t290 => (some t290)) else (some false)))) else (some false)))) = some r := by rw [if_neg (show ¬ (false = true) by decide)] at H; exact H
    clear H; have H := H1; clear H1; replace H := Option.bind_eq_some_iff.mp H; obtain ⟨t286, A190, H⟩ := H
    replace H : ((r40_Check.f kj3 l0 a1_0 l1_1 l1_2 l1_3 l1_4).bind fun t287 => (if t286 = t287 then ((binding_CheckTerms.f kj3 l0 a1_0 l1_1 l1_2 l1_3 l1_4 a2_0 l2_1).bind fun t288 => ((r40_CheckTerms.f kj3 l0 a1_0 l1_1 l1_2 l1_3 l1_4 a2_0 l2_1).bind fun t289 => (if t288 = t289 then ((l40_lives.f kj3).bind fun t290 => (some t290)) else (some false)))) else (some false))) = some r := H
    have A19 := aM A190; clear A190; replace H := Option.bind_eq_some_iff.mp H; obtain ⟨t287, A200, H⟩ := H
    replace H : (if t286 = t287 then ((binding_CheckTerms.f kj3 l0 a1_0 l1_1 l1_2 l1_3 l1_4 a2_0 l2_1).bind fun t288 => ((r40_CheckTerms.f kj3 l0 a1_0 l1_1 l1_2 l1_3 l1_4 a2_0 l2_1).bind fun t289 => (if t288 = t289 then ((l40_lives.f kj3).bind fun t290 => (some t290)) else (some false)))) else (some false)) = some r := H
    have A20 := aM A200; clear A200
    by_cases c21 : t286 = t287
    ·rw [if_pos c21] at H
     have c21b0 : (t286 == t287) = true := beq_iff_eq.mpr c21; have c21b1 : (t286 != t287) = false := bne_eq_false_iff_eq.mpr c21; clear c21; replace H := Option.bind_eq_some_iff.mp H; obtain ⟨t288, A220, H⟩ := H
     replace H : ((r40_CheckTerms.f kj3 l0 a1_0 l1_1 l1_2 l1_3 l1_4 a2_0 l2_1).bind fun t289 => (if t288 = t289 then ((l40_lives.f kj3).bind fun t290 => (some t290)) else (some false))) = some r := H
     have A22 := aM A220; clear A220; replace H := Option.bind_eq_some_iff.mp H; obtain ⟨t289, A230, H⟩ := H
     replace H : (if t288 = t289 then ((l40_lives.f kj3).bind fun t290 => (some t290)) else (some false)) = some r := H
     have A23 := aM A230; clear A230
     by_cases c24 : t288 = t289
     ·rw [if_pos c24] at H
      have c24b0 : (t288 == t289) = true := beq_iff_eq.mpr c24; have c24b1 : (t288 != t289) = false := bne_eq_false_iff_eq.mpr c24; clear c24; replace H := Option.bind_eq_some_iff.mp H; obtain ⟨t290, A250, H⟩ := H
      replace H : (some t290) = some r := H
      have A25 := aM A250; clear A250
      obtain rfl := Option.some.inj H
      try go_wp2
      have n0_ := aM (blk_drew BK282.out); have n1_ := aM (blk_drew BK283.out); have n2_ := aM (below_drew1 HB.out); clear BK282; clear BK283; clear HB; have BK282 := n0_; have BK283 := n1_; have HB := n2_; clear n0_ n1_ n2_
      refine start_ (n := 28) (S := fun w' => w'.cell? ⟨gb282, 0, none⟩ = some (.string a1_0) ∧ w'.cell? ⟨gb282, 1, none⟩ = some (.slice A1_1 l1_1.length c1_1) ∧ w'.cell? ⟨gb282, 2, none⟩ = some (.slice A1_2 l1_2.length c1_2) ∧ w'.cell? ⟨gb282, 3, none⟩ = some (.slice A1_3 l1_3.length c1_3) ∧ w'.cell? ⟨gb282, 4, none⟩ = some (.slice A1_4 l1_4.length c1_4) ∧ w'.cell? ⟨gb283, 0, none⟩ = some (.int .i64 a2_0) ∧ w'.cell? ⟨gb283, 1, none⟩ = some (.slice A2_1 l2_1.length c2_1) ∧ w'.cell? ⟨gb283, 2, none⟩ = some (.slice A2_2 l2_2.length c2_2)) (ds := []) #[false, false, false, false, false, false, false, false, false, false, false, false, false, false, false, false, false, false, false, false, false, false, false, false, false, false, false, false] (by kernel_rfl) rfl rfl ⟨(blk_cell BK282.out 0).trans rfl, (blk_cell BK282.out 1).trans rfl, (blk_cell BK282.out 2).trans rfl, (blk_cell BK282.out 3).trans rfl, (blk_cell BK282.out 4).trans rfl, (blk_cell BK283.out 0).trans rfl, (blk_cell BK283.out 1).trans rfl, (blk_cell BK283.out 2).trans rfl⟩ (fun hHeld => ?_); refine with_tabW l40_BindingChecks.tab3 l40_BindingChecks.bits3 (fun HT_ HW_ => ?_)
      generalize wc.drew = w26 at BK282 BK283 HB hHeld ⊢
      refine pure_ (i := 0) (N := some 18) (v := ?_) (a' := ?_) #[true, false, false, false, false, false, false, false, false, false, false, false, false, false, false, false, false, false, false, false, false, false, false, false, false, false, false, false] rfl rfl (any_of HT_.out (by kernel_rfl)) (fun _ _ _ h => h) (Or.inl ⟨by rfl, ?_⟩) ?_ ?_; rotate_left; exact qT; rotate_left; exact pT
      refine pure_ (i := 3) (N := some 21) (v := ?_) (a' := ?_) #[true, false, false, true, false, false, false, false, false, false, false, false, false, false, false, false, false, false, false, false, false, false, false, false, false, false, false, false] rfl rfl (any_of HT_.out (by kernel_rfl)) (fun _ _ _ h => h) (Or.inl ⟨by rfl, ?_⟩) ?_ ?_; rotate_left; exact qT; rotate_left; exact pT
      refine take_ (i := 1) (N := some 19) (v := ?_) (a' := ?_) #[true, true, false, true, false, false, false, false, false, false, false, false, false, false, false, false, false, false, false, false, false, false, false, false, false, false, false, false] rfl rfl (take_ofW HT_.out HW_.out (by kernel_rfl)) (fun _ _ _ h => h) (Or.inl ⟨by rfl, ?_⟩) hHeld ?_ ?_; rotate_left; rintro w' ⟨s0, s1, s2, s3, s4, s5, s6, s7⟩; go_simp; with_reducible rfl; rotate_left; exact pT
      refine take_ (i := 4) (N := some 22) (v := ?_) (a' := ?_) #[true, true, false, true, true, false, false, false, false, false, false, false, false, false, false, false, false, false, false, false, false, false, false, false, false, false, false, false] rfl rfl (take_ofW HT_.out HW_.out (by kernel_rfl)) (fun _ _ _ h => h) (Or.inl ⟨by rfl, ?_⟩) hHeld ?_ ?_; rotate_left; rintro w' ⟨s0, s1, s2, s3, s4, s5, s6, s7⟩; go_simp; with_reducible rfl; rotate_left; exact pT
      refine one_ (i := 2) (N := some 20) #[true, true, true, true, true, false, false, false, false, false, false, false, false, false, false, false, false, false, false, false, false, false, false, false, false, false, false, false] rfl rfl (one_of HT_.out (by kernel_rfl)) (by decide) (fun K hK => ?_)
      refine goes_ Try.func11 (by kernel_rfl) rfl #[.slice A0 l0.length c0, .agg #[.string a1_0, .slice A1_1 l1_1.length c1_1, .slice A1_2 l1_2.length c1_2, .slice A1_3 l1_3.length c1_3, .slice A1_4 l1_4.length c1_4]] (by rfl) rfl rfl mT ?_
      with_reducible refine (binding_Check.calls _ _ l0 a1_0 _ _ l1_1 _ _ l1_2 _ _ l1_3 _ _ l1_4 t286 _ ?side1 ?side2 ?side3 ?side4 ?side5 ?side6 ?side7 ?side8 ?side9 ?side10 A19.out).mono ?_
      (case side1 => exact cB HR0.out HB.out)
      (case side2 => exact HC0.out)
      (case side3 => exact cB HR1_1.out HB.out)
      (case side4 => exact HC1_1.out)
      (case side5 => exact cB HR1_2.out HB.out)
      (case side6 => exact HC1_2.out)
      (case side7 => exact cB HR1_3.out HB.out)
      (case side8 => exact HC1_3.out)
      (case side9 => exact cB HR1_4.out HB.out)
      (case side10 => exact HC1_4.out)
      rintro e w27 ⟨rfl, hb⟩
      refine ⟨_, rfl, ?_⟩
      have n0_ := aM (kW BK282.out hb); have n1_ := aM (kW BK283.out hb); have n2_ := aM (below_step (bB2 HB.out GE282.out GE283.out) hb); clear BK282; clear BK283; clear HB; have BK282 := n0_; have BK283 := n1_; have HB := n2_; clear n0_ n1_ n2_
      (try clear hb)
      (try clear hb2)
      (try clear hk)
      (try clear hi)
      refine hK.out _ _ ⟨(blk_cell BK282.out 0).trans rfl, (blk_cell BK282.out 1).trans rfl, (blk_cell BK282.out 2).trans rfl, (blk_cell BK282.out 3).trans rfl, (blk_cell BK282.out 4).trans rfl, (blk_cell BK283.out 0).trans rfl, (blk_cell BK283.out 1).trans rfl, (blk_cell BK283.out 2).trans rfl⟩ (fun hHeld => ?_)
      clear hK K
      refine norm_ (a' := ?_) ?_ ?_
      rotate_left
      ·show Act.put _ (some 20) _ = _
       simp only [Act.put, List.setIfInBounds_toArray, List.set_cons_zero, List.set_cons_succ, i64_w, i32_w]
       rfl
      refine one_ (i := 5) (N := some 23) #[true, true, true, true, true, true, false, false, false, false, false, false, false, false, false, false, false, false, false, false, false, false, false, false, false, false, false, false] rfl rfl (one_of HT_.out (by kernel_rfl)) (by decide) (fun K hK => ?_)
      refine goes_ Try.func12 (by kernel_rfl) rfl #[.slice A0 l0.length c0, .agg #[.string a1_0, .slice A1_1 l1_1.length c1_1, .slice A1_2 l1_2.length c1_2, .slice A1_3 l1_3.length c1_3, .slice A1_4 l1_4.length c1_4]] (by rfl) rfl rfl mT ?_
      with_reducible refine (r40_Check.calls kj3 _ _ l0 a1_0 _ _ l1_1 _ _ l1_2 _ _ l1_3 _ _ l1_4 t287 _ ?side1 ?side2 ?side3 ?side4 ?side5 ?side6 ?side7 ?side8 ?side9 ?side10 A20.out).mono ?_
      (case side1 => exact cB HR0.out HB.out)
      (case side2 => exact HC0.out)
      (case side3 => exact cB HR1_1.out HB.out)
      (case side4 => exact HC1_1.out)
      (case side5 => exact cB HR1_2.out HB.out)
      (case side6 => exact HC1_2.out)
      (case side7 => exact cB HR1_3.out HB.out)
      (case side8 => exact HC1_3.out)
      (case side9 => exact cB HR1_4.out HB.out)
      (case side10 => exact HC1_4.out)
      rintro e w28 ⟨rfl, hb⟩
      refine ⟨_, rfl, ?_⟩
      have n0_ := aM (kW BK282.out hb); have n1_ := aM (kW BK283.out hb); have n2_ := aM (below_step (bB2 HB.out GE282.out GE283.out) hb); clear BK282; clear BK283; clear HB; have BK282 := n0_; have BK283 := n1_; have HB := n2_; clear n0_ n1_ n2_
      (try clear hb)
      (try clear hb2)
      (try clear hk)
      (try clear hi)
      refine hK.out _ _ ⟨(blk_cell BK282.out 0).trans rfl, (blk_cell BK282.out 1).trans rfl, (blk_cell BK282.out 2).trans rfl, (blk_cell BK282.out 3).trans rfl, (blk_cell BK282.out 4).trans rfl, (blk_cell BK283.out 0).trans rfl, (blk_cell BK283.out 1).trans rfl, (blk_cell BK283.out 2).trans rfl⟩ (fun hHeld => ?_)
      clear hK K
      refine norm_ (a' := ?_) ?_ ?_
      rotate_left
      ·show Act.put _ (some 23) _ = _
       simp only [Act.put, List.setIfInBounds_toArray, List.set_cons_zero, List.set_cons_succ, i64_w, i32_w]
       rfl
      refine pure_ (i := 6) (N := some 24) (v := ?_) (a' := ?_) #[true, true, true, true, true, true, true, false, false, false, false, false, false, false, false, false, false, false, false, false, false, false, false, false, false, false, false, false] rfl rfl (any_of HT_.out (by kernel_rfl)) (fun _ _ _ h => h) (Or.inl ⟨by rfl, ?_⟩) ?_ ?_; rotate_left; exact qT; rotate_left; exact pT
      refine pure_ (i := 7) (N := some 25) (v := ?_) (a' := ?_) #[true, true, true, true, true, true, true, true, false, false, false, false, false, false, false, false, false, false, false, false, false, false, false, false, false, false, false, false] rfl rfl (any_of HT_.out (by kernel_rfl)) (fun _ _ _ h => h) (Or.inl ⟨by rfl, ?_⟩) ?_ ?_; rotate_left; exact qT; rotate_left; exact pT
      refine pure_ (i := 8) (N := some 26) (v := ?_) (a' := ?_) #[true, true, true, true, true, true, true, true, true, false, false, false, false, false, false, false, false, false, false, false, false, false, false, false, false, false, false, false] rfl rfl (any_of HT_.out (by kernel_rfl)) (fun _ _ _ h => h) (Or.inl ⟨by rfl, ?_⟩) ?_ ?_; rotate_left; exact qT; rotate_left; exact pT
      refine pure_ (i := 10) (N := some 28) (v := ?_) (a' := ?_) #[true, true, true, true, true, true, true, true, true, false, true, false, false, false, false, false, false, false, false, false, false, false, false, false, false, false, false, false] rfl rfl (any_of HT_.out (by kernel_rfl)) (fun _ _ _ h => h) (Or.inl ⟨by rfl, ?_⟩) ?_ ?_; rotate_left; exact qT; rotate_left; exact pT
      refine pure_ (i := 12) (N := some 30) (v := ?_) (a' := ?_) #[true, true, true, true, true, true, true, true, true, false, true, false, true, false, false, false, false, false, false, false, false, false, false, false, false, false, false, false] rfl rfl (any_of HT_.out (by kernel_rfl)) (fun _ _ _ h => h) (Or.inl ⟨by rfl, ?_⟩) ?_ ?_; rotate_left; exact qT; rotate_left; exact pT
      refine pure_ (i := 15) (N := some 33) (v := ?_) (a' := ?_) #[true, true, true, true, true, true, true, true, true, false, true, false, true, false, false, true, false, false, false, false, false, false, false, false, false, false, false, false] rfl rfl (any_of HT_.out (by kernel_rfl)) (fun _ _ _ h => h) (Or.inl ⟨by rfl, ?_⟩) ?_ ?_; rotate_left; exact qT; rotate_left; exact pT
      refine pure_ (i := 17) (N := some 35) (v := ?_) (a' := ?_) #[true, true, true, true, true, true, true, true, true, false, true, false, true, false, false, true, false, true, false, false, false, false, false, false, false, false, false, false] rfl rfl (any_of HT_.out (by kernel_rfl)) (fun _ _ _ h => h) (Or.inl ⟨by rfl, ?_⟩) ?_ ?_; rotate_left; exact qT; rotate_left; exact pT
      refine pure_ (i := 19) (N := some 37) (v := ?_) (a' := ?_) #[true, true, true, true, true, true, true, true, true, false, true, false, true, false, false, true, false, true, false, true, false, false, false, false, false, false, false, false] rfl rfl (any_of HT_.out (by kernel_rfl)) (fun _ _ _ h => h) (Or.inl ⟨by rfl, ?_⟩) ?_ ?_; rotate_left; exact qT; rotate_left; exact pT
      refine take_ (i := 9) (N := some 27) (v := ?_) (a' := ?_) #[true, true, true, true, true, true, true, true, true, true, true, false, true, false, false, true, false, true, false, true, false, false, false, false, false, false, false, false] rfl rfl (take_ofW HT_.out HW_.out (by kernel_rfl)) (fun _ _ _ h => h) (Or.inl ⟨by rfl, ?_⟩) hHeld ?_ ?_; rotate_left; rintro w' ⟨s0, s1, s2, s3, s4, s5, s6, s7⟩; go_simp; with_reducible rfl; rotate_left; exact pT
      refine take_ (i := 11) (N := some 29) (v := ?_) (a' := ?_) #[true, true, true, true, true, true, true, true, true, true, true, true, true, false, false, true, false, true, false, true, false, false, false, false, false, false, false, false] rfl rfl (take_ofW HT_.out HW_.out (by kernel_rfl)) (fun _ _ _ h => h) (Or.inl ⟨by rfl, ?_⟩) hHeld ?_ ?_; rotate_left; rintro w' ⟨s0, s1, s2, s3, s4, s5, s6, s7⟩; go_simp; with_reducible rfl; rotate_left; exact pT
      refine take_ (i := 13) (N := some 31) (v := ?_) (a' := ?_) #[true, true, true, true, true, true, true, true, true, true, true, true, true, true, false, true, false, true, false, true, false, false, false, false, false, false, false, false] rfl rfl (take_ofW HT_.out HW_.out (by kernel_rfl)) (fun _ _ _ h => h) (Or.inl ⟨by rfl, ?_⟩) hHeld ?_ ?_; rotate_left; rintro w' ⟨s0, s1, s2, s3, s4, s5, s6, s7⟩; go_simp; with_reducible rfl; rotate_left; exact pT
      refine take_ (i := 16) (N := some 34) (v := ?_) (a' := ?_) #[true, true, true, true, true, true, true, true, true, true, true, true, true, true, false, true, true, true, false, true, false, false, false, false, false, false, false, false] rfl rfl (take_ofW HT_.out HW_.out (by kernel_rfl)) (fun _ _ _ h => h) (Or.inl ⟨by rfl, ?_⟩) hHeld ?_ ?_; rotate_left; rintro w' ⟨s0, s1, s2, s3, s4, s5, s6, s7⟩; go_simp; with_reducible rfl; rotate_left; exact pT
      refine take_ (i := 18) (N := some 36) (v := ?_) (a' := ?_) #[true, true, true, true, true, true, true, true, true, true, true, true, true, true, false, true, true, true, true, true, false, false, false, false, false, false, false, false] rfl rfl (take_ofW HT_.out HW_.out (by kernel_rfl)) (fun _ _ _ h => h) (Or.inl ⟨by rfl, ?_⟩) hHeld ?_ ?_; rotate_left; rintro w' ⟨s0, s1, s2, s3, s4, s5, s6, s7⟩; go_simp; with_reducible rfl; rotate_left; exact pT
      refine take_ (i := 20) (N := some 38) (v := ?_) (a' := ?_) #[true, true, true, true, true, true, true, true, true, true, true, true, true, true, false, true, true, true, true, true, true, false, false, false, false, false, false, false] rfl rfl (take_ofW HT_.out HW_.out (by kernel_rfl)) (fun _ _ _ h => h) (Or.inl ⟨by rfl, ?_⟩) hHeld ?_ ?_; rotate_left; rintro w' ⟨s0, s1, s2, s3, s4, s5, s6, s7⟩; go_simp; with_reducible rfl; rotate_left; exact pT
      refine one_ (i := 14) (N := some 32) #[true, true, true, true, true, true, true, true, true, true, true, true, true, true, true, true, true, true, true, true, true, false, false, false, false, false, false, false] rfl rfl (one_of HT_.out (by kernel_rfl)) (by decide) (fun K hK => ?_)
      refine goes_ Try.func13 (by kernel_rfl) rfl #[.slice A0 l0.length c0, .agg #[.string a1_0, .slice A1_1 l1_1.length c1_1, .slice A1_2 l1_2.length c1_2, .slice A1_3 l1_3.length c1_3, .slice A1_4 l1_4.length c1_4], .int .i64 a2_0, .slice A2_1 l2_1.length c2_1] (by rfl) rfl rfl mT ?_
      with_reducible refine (binding_CheckTerms.calls kj3 _ _ l0 a1_0 _ _ l1_1 _ _ l1_2 _ _ l1_3 _ _ l1_4 a2_0 _ _ l2_1 t288 _ ?side1 ?side2 ?side3 ?side4 ?side5 ?side6 ?side7 ?side8 ?side9 ?side10 ?side11 ?side12 A22.out).mono ?_
      (case side1 => exact cB HR0.out HB.out)
      (case side2 => exact HC0.out)
      (case side3 => exact cB HR1_1.out HB.out)
      (case side4 => exact HC1_1.out)
      (case side5 => exact cB HR1_2.out HB.out)
      (case side6 => exact HC1_2.out)
      (case side7 => exact cB HR1_3.out HB.out)
      (case side8 => exact HC1_3.out)
      (case side9 => exact cB HR1_4.out HB.out)
      (case side10 => exact HC1_4.out)
      (case side11 => exact cB HR2_1.out HB.out)
      (case side12 => exact HC2_1.out)
      rintro e w29 ⟨rfl, hb⟩
      refine ⟨_, rfl, ?_⟩
      have n0_ := aM (kW BK282.out hb); have n1_ := aM (kW BK283.out hb); have n2_ := aM (below_step (bB2 HB.out GE282.out GE283.out) hb); clear BK282; clear BK283; clear HB; have BK282 := n0_; have BK283 := n1_; have HB := n2_; clear n0_ n1_ n2_
      (try clear hb)
      (try clear hb2)
      (try clear hk)
      (try clear hi)
      refine hK.out _ _ ⟨(blk_cell BK282.out 0).trans rfl, (blk_cell BK282.out 1).trans rfl, (blk_cell BK282.out 2).trans rfl, (blk_cell BK282.out 3).trans rfl, (blk_cell BK282.out 4).trans rfl, (blk_cell BK283.out 0).trans rfl, (blk_cell BK283.out 1).trans rfl, (blk_cell BK283.out 2).trans rfl⟩ (fun hHeld => ?_)
      clear hK K
      refine norm_ (a' := ?_) ?_ ?_
      rotate_left
      ·show Act.put _ (some 32) _ = _
       simp only [Act.put, List.setIfInBounds_toArray, List.set_cons_zero, List.set_cons_succ, i64_w, i32_w]
       rfl
      refine one_ (i := 21) (N := some 39) #[true, true, true, true, true, true, true, true, true, true, true, true, true, true, true, true, true, true, true, true, true, true, false, false, false, false, false, false] rfl rfl (one_of HT_.out (by kernel_rfl)) (by decide) (fun K hK => ?_)
      refine goes_ Try.func14 (by kernel_rfl) rfl #[.slice A0 l0.length c0, .agg #[.string a1_0, .slice A1_1 l1_1.length c1_1, .slice A1_2 l1_2.length c1_2, .slice A1_3 l1_3.length c1_3, .slice A1_4 l1_4.length c1_4], .int .i64 a2_0, .slice A2_1 l2_1.length c2_1] (by rfl) rfl rfl mT ?_
      with_reducible refine (r40_CheckTerms.calls kj3 _ _ l0 a1_0 _ _ l1_1 _ _ l1_2 _ _ l1_3 _ _ l1_4 a2_0 _ _ l2_1 t289 _ ?side1 ?side2 ?side3 ?side4 ?side5 ?side6 ?side7 ?side8 ?side9 ?side10 ?side11 ?side12 A23.out).mono ?_
      (case side1 => exact cB HR0.out HB.out)
      (case side2 => exact HC0.out)
      (case side3 => exact cB HR1_1.out HB.out)
      (case side4 => exact HC1_1.out)
      (case side5 => exact cB HR1_2.out HB.out)
      (case side6 => exact HC1_2.out)
      (case side7 => exact cB HR1_3.out HB.out)
      (case side8 => exact HC1_3.out)
      (case side9 => exact cB HR1_4.out HB.out)
      (case side10 => exact HC1_4.out)
      (case side11 => exact cB HR2_1.out HB.out)
      (case side12 => exact HC2_1.out)
      rintro e w30 ⟨rfl, hb⟩
      refine ⟨_, rfl, ?_⟩
      have n0_ := aM (kW BK282.out hb); have n1_ := aM (kW BK283.out hb); have n2_ := aM (below_step (bB2 HB.out GE282.out GE283.out) hb); clear BK282; clear BK283; clear HB; have BK282 := n0_; have BK283 := n1_; have HB := n2_; clear n0_ n1_ n2_
      (try clear hb)
      (try clear hb2)
      (try clear hk)
      (try clear hi)
      refine hK.out _ _ ⟨(blk_cell BK282.out 0).trans rfl, (blk_cell BK282.out 1).trans rfl, (blk_cell BK282.out 2).trans rfl, (blk_cell BK282.out 3).trans rfl, (blk_cell BK282.out 4).trans rfl, (blk_cell BK283.out 0).trans rfl, (blk_cell BK283.out 1).trans rfl, (blk_cell BK283.out 2).trans rfl⟩ (fun hHeld => ?_)
      clear hK K
      refine norm_ (a' := ?_) ?_ ?_
      rotate_left
      ·show Act.put _ (some 39) _ = _
       simp only [Act.put, List.setIfInBounds_toArray, List.set_cons_zero, List.set_cons_succ, i64_w, i32_w]
       rfl
      refine pure_ (i := 22) (N := some 40) (v := ?_) (a' := ?_) #[true, true, true, true, true, true, true, true, true, true, true, true, true, true, true, true, true, true, true, true, true, true, true, false, false, false, false, false] rfl rfl (any_of HT_.out (by kernel_rfl)) (fun _ _ _ h => h) (Or.inl ⟨by rfl, ?_⟩) ?_ ?_; rotate_left; exact qT; rotate_left; exact pT
      refine pure_ (i := 23) (N := some 41) (v := ?_) (a' := ?_) #[true, true, true, true, true, true, true, true, true, true, true, true, true, true, true, true, true, true, true, true, true, true, true, true, false, false, false, false] rfl rfl (any_of HT_.out (by kernel_rfl)) (fun _ _ _ h => h) (Or.inl ⟨by rfl, ?_⟩) ?_ ?_; rotate_left; exact qT; rotate_left; exact pT
      refine pure_ (i := 24) (N := some 42) (v := ?_) (a' := ?_) #[true, true, true, true, true, true, true, true, true, true, true, true, true, true, true, true, true, true, true, true, true, true, true, true, true, false, false, false] rfl rfl (any_of HT_.out (by kernel_rfl)) (fun _ _ _ h => h) (Or.inl ⟨by rfl, ?_⟩) ?_ ?_; rotate_left; exact qT; rotate_left; exact pT
      refine one_ (i := 25) (N := some 43) #[true, true, true, true, true, true, true, true, true, true, true, true, true, true, true, true, true, true, true, true, true, true, true, true, true, true, false, false] rfl rfl (one_of HT_.out (by kernel_rfl)) (by decide) (fun K hK => ?_)
      refine goes_ Try.func10 (by kernel_rfl) rfl #[] (by rfl) rfl rfl mT ?_
      with_reducible refine (l40_lives.calls kj3  t290 _ A25.out (by first | exact hrT_ | exact ⟨rfl⟩)).mono ?_
      rintro e w31 ⟨rfl, hb⟩
      refine ⟨_, rfl, ?_⟩
      have n0_ := aM (kW BK282.out hb); have n1_ := aM (kW BK283.out hb); have n2_ := aM (below_step (bB2 HB.out GE282.out GE283.out) hb); clear BK282; clear BK283; clear HB; have BK282 := n0_; have BK283 := n1_; have HB := n2_; clear n0_ n1_ n2_
      (try clear hb)
      (try clear hb2)
      (try clear hk)
      (try clear hi)
      refine hK.out _ _ ⟨(blk_cell BK282.out 0).trans rfl, (blk_cell BK282.out 1).trans rfl, (blk_cell BK282.out 2).trans rfl, (blk_cell BK282.out 3).trans rfl, (blk_cell BK282.out 4).trans rfl, (blk_cell BK283.out 0).trans rfl, (blk_cell BK283.out 1).trans rfl, (blk_cell BK283.out 2).trans rfl⟩ (fun hHeld => ?_)
      clear hK K
      refine norm_ (a' := ?_) ?_ ?_
      rotate_left
      ·show Act.put _ (some 43) _ = _
       simp only [Act.put, List.setIfInBounds_toArray, List.set_cons_zero, List.set_cons_succ, i64_w, i32_w]
       rfl
      refine pure_ (i := 26) (N := some 44) (v := ?_) (a' := ?_) #[true, true, true, true, true, true, true, true, true, true, true, true, true, true, true, true, true, true, true, true, true, true, true, true, true, true, true, false] rfl rfl (any_of HT_.out (by kernel_rfl)) (fun _ _ _ h => h) (Or.inl ⟨by rfl, ?_⟩) ?_ ?_; rotate_left; exact qT; rotate_left; exact pT
      refine pure_ (i := 27) (N := some 6) (v := ?_) (a' := ?_) #[true, true, true, true, true, true, true, true, true, true, true, true, true, true, true, true, true, true, true, true, true, true, true, true, true, true, true, true] rfl rfl (any_of HT_.out (by kernel_rfl)) (fun _ _ _ h => h) (Or.inl ⟨by rfl, ?_⟩) ?_ ?_; rotate_left; exact qT; rotate_left; exact pT
      refine done_ (done_of HT_.out (by kernel_rfl)) ?_
      try go_wp2
      go_ret
      exact ⟨rT, bB2 HB.out GE282.out GE283.out⟩
     ·rw [if_neg c24] at H
      have c24b0 : (t288 == t289) = false := beq_eq_false_iff_ne.mpr c24; have c24b1 : (t288 != t289) = true := bne_iff_ne.mpr c24
      exact absurd ((Option.some.inj H).trans hrT_.out) Bool.false_ne_true
    ·rw [if_neg c21] at H
     have c21b0 : (t286 == t287) = false := beq_eq_false_iff_ne.mpr c21; have c21b1 : (t286 != t287) = true := bne_iff_ne.mpr c21
     exact absurd ((Option.some.inj H).trans hrT_.out) Bool.false_ne_true


























end Go.Proofs.Ytapkjfnfkalibaa.Pr
