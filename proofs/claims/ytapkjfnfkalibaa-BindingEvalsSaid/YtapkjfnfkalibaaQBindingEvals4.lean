/- Functions that the statement reaches: what each answers, and that the program answers it (written by a program of this work). -/
import Derived.Test.YtapkjfnfkalibaaProg
import Derived.Below
import Derived.Deep.Draws
import Derived.Deep.AppendLies
import Derived.Maps.AppendAt
import Derived.OwnWalk
import Derived.Laws.BytesArg
import Derived.Laws.MakeOwn
import Derived.Laws.OwnMore
import Derived.Deep.OwnRows
import Derived.Tactics
import Derived.Lib.ConvBytes
import Derived.Laws.Slices
import Derived.WalkKit
import Derived.KernelRfl
import Derived.RowKit3
import Derived.Deep.LoopGhost
import Derived.Deep.QuietTactic
import Derived.BigQuiet
import Derived.WideLaws
import Derived.Deep.DeepCutAuto
import Derived.Deep.CutBlock
import Derived.Deep.RegionHeld3
import Derived.Laws.Rows
import Derived.Lib.AppendStr
import Derived.ArgAppend
import Derived.Laws.IdiomCopy
import Derived.OrdersHeld
import Derived.Laws.BitsLemmas
import Derived.RowKit
import Derived.WalkMore
import Derived.Test.YtapkjfnfkalibaaVBindingEvals
import Derived.Test.YtapkjfnfkalibaaBBindingEvals
import Derived.Test.YtapkjfnfkalibaaQBindingEvals0
import Derived.Test.YtapkjfnfkalibaaQBindingEvals1
import Derived.Test.YtapkjfnfkalibaaQBindingEvals3
namespace Go.Proofs.Ytapkjfnfkalibaa.Pr
open Go.RowKit Go.Proofs.YtapkjfnfkalibaaW.PrintWords Go.Proofs.YtapkjfnfkalibaaW.PrintLast Go.Proofs.YtapkjfnfkalibaaW.PrintMore
attribute [local go_sem] Instr.field asAgg
attribute [local go_sem] max2_int min2_int max_two min_two max_three min_three max_four min_four   -- for this text's walks alone
set_option linter.unusedVariables false
set_option linter.unusedSimpArgs false
/-! ### r40_term: function 36 -/
mutual
def r40_term.j0 : Nat → List (S51) → Int → Bool → ByteArray → List (S48) → List (S62) → List (S111) → List (S111) → Int → Int → Int → Option (Int)
 | 0, _, _, _, _, _, _, _, _, _, _, _ => none
 | k + 1, x0, x2, x16, x275000, x275001, x275002, x275003, x275004, x276000, x276001, x276002 => if x16 = true then (some 9) else (if x276001 < 1 then (r40_term.j1 k x0 x2 true x275000 x275001 x275002 x275003 x275004 x276000 x276001 x276002) else (r40_term.j1 k x0 x2 (decide (x276001 > 5)) x275000 x275001 x275002 x275003 x275004 x276000 x276001 x276002))
def r40_term.j1 : Nat → List (S51) → Int → Bool → ByteArray → List (S48) → List (S62) → List (S111) → List (S111) → Int → Int → Int → Option (Int)
 | 0, _, _, _, _, _, _, _, _, _, _, _ => none
 | k + 1, x0, x2, x24, x275000, x275001, x275002, x275003, x275004, x276000, x276001, x276002 => if x24 = true then (some 12) else (if x276001 = 1 then (if x276002 < 0 then (some 1) else (if 0 ≤ x2 then (if x2 < (x0.length : Int) then (if x276002 ≥ (((rd_T51 x0 x2).f1).length : Int) then (some 1) else (some 0)) else (none)) else (none))) else (if x276001 = 5 then (if x276002 = 0 then (some 0) else (some 1)) else (if x276002 < 0 then (r40_term.j2 k x2 true x275000 x275001 x275002 x275003 x275004 x276000 x276001 x276002) else (r40_term.j2 k x2 (decide (x276002 ≥ (x275001.length : Int))) x275000 x275001 x275002 x275003 x275004 x276000 x276001 x276002))))
def r40_term.j2 : Nat → Int → Bool → ByteArray → List (S48) → List (S62) → List (S111) → List (S111) → Int → Int → Int → Option (Int)
 | 0, _, _, _, _, _, _, _, _, _, _ => none
 | k + 1, x2, x58, x275000, x275001, x275002, x275003, x275004, x276000, x276001, x276002 => if x58 = true then (some 1) else (if 0 ≤ x276002 then (if x276002 < (x275001.length : Int) then (if ((rd_T48 x275001 x276002).f1) = x2 then (some 0) else (some 17)) else (none)) else (none))
end
def r40_term.f (k : Nat) (l0 : List (S51)) (a1_0 : ByteArray) (l1_1 : List (S48)) (l1_2 : List (S62)) (l1_3 : List (S111)) (l1_4 : List (S111)) (a2 : Int) (a3_0 : Int) (a3_1 : Int) (a3_2 : Int) : Option (Int) := if a3_0 < 1 then (r40_term.j0 k l0 a2 true a1_0 l1_1 l1_2 l1_3 l1_4 a3_0 a3_1 a3_2) else (r40_term.j0 k l0 a2 (decide (a3_0 > 99)) a1_0 l1_1 l1_2 l1_3 l1_4 a3_0 a3_1 a3_2)
theorem r40_term.mono_l : ∀ k, (∀ y0 y1 y2 y3 y4 y5 y6 y7 y8 y9 y10, LeO (r40_term.j0 k y0 y1 y2 y3 y4 y5 y6 y7 y8 y9 y10) (r40_term.j0 (k + 1) y0 y1 y2 y3 y4 y5 y6 y7 y8 y9 y10)) ∧ (∀ y0 y1 y2 y3 y4 y5 y6 y7 y8 y9 y10, LeO (r40_term.j1 k y0 y1 y2 y3 y4 y5 y6 y7 y8 y9 y10) (r40_term.j1 (k + 1) y0 y1 y2 y3 y4 y5 y6 y7 y8 y9 y10)) ∧ (∀ y0 y1 y2 y3 y4 y5 y6 y7 y8 y9, LeO (r40_term.j2 k y0 y1 y2 y3 y4 y5 y6 y7 y8 y9) (r40_term.j2 (k + 1) y0 y1 y2 y3 y4 y5 y6 y7 y8 y9))
 | 0 => ⟨fun _ _ _ _ _ _ _ _ _ _ _ r h => by simp [r40_term.j0] at h, fun _ _ _ _ _ _ _ _ _ _ _ r h => by simp [r40_term.j1] at h, fun _ _ _ _ _ _ _ _ _ _ r h => by simp [r40_term.j2] at h⟩
 | k + 1 => by
  obtain ⟨ih0, ih1, ih2⟩ := r40_term.mono_l k
  refine ⟨?_, ?_, ?_⟩
  ·intro y0 y1 y2 y3 y4 y5 y6 y7 y8 y9 y10
   unfold r40_term.j0
   repeat' first
   | (with_reducible first | exact ih0 _ _ _ _ _ _ _ _ _ _ _ | exact ih1 _ _ _ _ _ _ _ _ _ _ _ | exact ih2 _ _ _ _ _ _ _ _ _ _ | exact LeO.refl _ | exact LeO.none _ | refine LeO.ite ?_ ?_ | refine LeO.bind ?_ (fun _ => ?_))
   | exact LeO.none _
   | refine LeO.ite ?_ ?_
   | refine LeO.bind ?_ (fun _ => ?_)
  ·intro y0 y1 y2 y3 y4 y5 y6 y7 y8 y9 y10
   unfold r40_term.j1
   repeat' first
   | (with_reducible first | exact ih0 _ _ _ _ _ _ _ _ _ _ _ | exact ih1 _ _ _ _ _ _ _ _ _ _ _ | exact ih2 _ _ _ _ _ _ _ _ _ _ | exact LeO.refl _ | exact LeO.none _ | refine LeO.ite ?_ ?_ | refine LeO.bind ?_ (fun _ => ?_))
   | exact LeO.none _
   | refine LeO.ite ?_ ?_
   | refine LeO.bind ?_ (fun _ => ?_)
  ·intro y0 y1 y2 y3 y4 y5 y6 y7 y8 y9
   unfold r40_term.j2
   repeat' first
   | (with_reducible first | exact ih0 _ _ _ _ _ _ _ _ _ _ _ | exact ih1 _ _ _ _ _ _ _ _ _ _ _ | exact ih2 _ _ _ _ _ _ _ _ _ _ | exact LeO.refl _ | exact LeO.none _ | refine LeO.ite ?_ ?_ | refine LeO.bind ?_ (fun _ => ?_))
   | exact LeO.none _
   | refine LeO.ite ?_ ?_
   | refine LeO.bind ?_ (fun _ => ?_)
theorem r40_term.mono : ∀ a0 a1 a2 a3 a4 a5 a6 a7 a8 a9 k, LeO (r40_term.f k a0 a1 a2 a3 a4 a5 a6 a7 a8 a9) (r40_term.f (k + 1) a0 a1 a2 a3 a4 a5 a6 a7 a8 a9) := by
 intro a0 a1 a2 a3 a4 a5 a6 a7 a8 a9 k
 obtain ⟨ih0, ih1, ih2⟩ := r40_term.mono_l k
 unfold r40_term.f
 repeat' first
   | (with_reducible first | exact ih0 _ _ _ _ _ _ _ _ _ _ _ | exact ih1 _ _ _ _ _ _ _ _ _ _ _ | exact ih2 _ _ _ _ _ _ _ _ _ _ | exact LeO.refl _ | exact LeO.none _ | refine LeO.ite ?_ ?_ | refine LeO.bind ?_ (fun _ => ?_))
   | exact LeO.none _
   | refine LeO.ite ?_ ?_
   | refine LeO.bind ?_ (fun _ => ?_)
set_option maxHeartbeats 8000000 in
set_option maxRecDepth 100000 in
theorem r40_term.calls (k : Nat) (A0 : Option Addr) (c0 : Nat) (l0 : List (S51)) (a1_0 : ByteArray) (A1_1 : Option Addr) (c1_1 : Nat) (l1_1 : List (S48)) (A1_2 : Option Addr) (c1_2 : Nat) (l1_2 : List (S62)) (A1_3 : Option Addr) (c1_3 : Nat) (l1_3 : List (S111)) (A1_4 : Option Addr) (c1_4 : Nat) (l1_4 : List (S111)) (a2 : Int) (a3_0 : Int) (a3_1 : Int) (a3_2 : Int) (r : Int) (w : World) (hr0 : Kd.C k51 w A0 l0.length l0) (hc0 : l0.length ≤ c0) (hr1_1 : Kd.C k48 w A1_1 l1_1.length l1_1) (hc1_1 : l1_1.length ≤ c1_1) (hr1_2 : Kd.C k62 w A1_2 l1_2.length l1_2) (hc1_2 : l1_2.length ≤ c1_2) (hr1_3 : Kd.C k111 w A1_3 l1_3.length l1_3) (hc1_3 : l1_3.length ≤ c1_3) (hr1_4 : Kd.C k111 w A1_4 l1_4.length l1_4) (hc1_4 : l1_4.length ≤ c1_4) (h : r40_term.f k l0 a1_0 l1_1 l1_2 l1_3 l1_4 a2 a3_0 a3_1 a3_2 = some r) :
  Calls Try.prog 36 #[.slice A0 l0.length c0, .agg #[.string a1_0, .slice A1_1 l1_1.length c1_1, .slice A1_2 l1_2.length c1_2, .slice A1_3 l1_3.length c1_3, .slice A1_4 l1_4.length c1_4], .int .i64 a2, .agg #[.int .i64 a3_0, .int .i64 a3_1, .int .i64 a3_2]] w fun e w' => e = .returned (.int .i64 r) ∧ Below w.heap.size w w' := by
 have hu27 := Try.underlying27; have hu9 := Try.underlying9; have hu23 := Try.underlying23; have hu24 := Try.underlying24; have hu25 := Try.underlying25; have hu54 := Try.underlying54; have hu3 := Try.underlying3; have HR0 := aM hr0; have HC0 := aM hc0; clear hr0 hc0; have HR1_1 := aM hr1_1; have HC1_1 := aM hc1_1; clear hr1_1 hc1_1; have HR1_2 := aM hr1_2; have HC1_2 := aM hc1_2; clear hr1_2 hc1_2; have HR1_3 := aM hr1_3; have HC1_3 := aM hc1_3; clear hr1_3 hc1_3; have HR1_4 := aM hr1_4; have HC1_4 := aM hc1_4; clear hr1_4 hc1_4; have HB := aM (Below.refl w.heap.size w); have H : (if a3_0 < 1 then (r40_term.j0 k l0 a2 true a1_0 l1_1 l1_2 l1_3 l1_4 a3_0 a3_1 a3_2) else (r40_term.j0 k l0 a2 (decide (a3_0 > 99)) a1_0 l1_1 l1_2 l1_3 l1_4 a3_0 a3_1 a3_2)) = some r := h; clear h; have HC5 := aM H; clear H
 go_enter Try.func36, Try.ntmps36
 go_upto_region 1 with (first | ((with_reducible refine gate_dst (N := 5) rfl ?_); (try (refine gate_guard (by rfl) ?_; dsimp only)); refine box_event ?hg (N := 5) ?hd (cs := #[.string a1_0, .slice A1_1 l1_1.length c1_1, .slice A1_2 l1_2.length c1_2, .slice A1_3 l1_3.length c1_3, .slice A1_4 l1_4.length c1_4]) (t := 27) ?hr ?_; (case hd => rfl); (case hg => rfl); (case hr => first | (go_simp; done) | (go_simp; rfl)); intro gb274 hg w6 hbox hb; have n0_ := aM (below_step (bB HB.out) hb); have n1_ := aM (hbox); have n2_ := aM ((by rw [hg]; exact (below_size (bB HB.out)) : w.heap.size ≤ gb274)); have n3_ := aM ((by rw [hg]; exact (below_size (bB HB.out)) : w.heap.size ≤ gb274)); clear HB; have HB := n0_; have BK274 := n1_; have GW274 := n2_; have GE274 := n3_; clear n0_ n1_ n2_ n3_; clear hb hbox hg) | ((with_reducible refine gate_dst (N := 7) rfl ?_); (try (refine gate_guard (by rfl) ?_; dsimp only)); refine box_event ?hg (N := 7) ?hd (cs := #[.int .i64 a3_0, .int .i64 a3_1, .int .i64 a3_2]) (t := 54) ?hr ?_; (case hd => rfl); (case hg => rfl); (case hr => first | (go_simp; done) | (go_simp; rfl)); intro gb275 hg w7 hbox hb; have n0_ := aM (kW BK274.out hb); have n1_ := aM (below_step (bB1 HB.out GE274.out) hb); have n2_ := aM (hbox); have n3_ := aM ((by rw [hg]; exact (below_size (bB1 HB.out GE274.out)) : w.heap.size ≤ gb275)); have n4_ := aM ((by rw [hg]; exact (below_size (bB1 HB.out GE274.out)) : w.heap.size ≤ gb275)); have n5_ := aM ((by rw [hg]; exact Nat.ne_of_lt (kL BK274.out) : gb274 ≠ gb275)); have n6_ := aM ((by rw [hg]; exact Nat.ne_of_gt (kL BK274.out) : gb275 ≠ gb274)); clear BK274; clear HB; have BK274 := n0_; have HB := n1_; have BK275 := n2_; have GW275 := n3_; have GE275 := n4_; have NB274_275 := n5_; have NB275_274 := n6_; clear n0_ n1_ n2_ n3_ n4_ n5_ n6_; clear hb hbox hg))
 repeat (go_quiet (fail); try go_wp2)
 (try simp only [Act.put, List.setIfInBounds_toArray, List.set_cons_zero, List.set_cons_succ])
 go_cut [16] (fun v16 wc => ∃ (kq : Nat) (x16_4 : Bool), v16 = .bool x16_4 ∧ Aside0 (r40_term.j0 kq l0 a2 x16_4 a1_0 l1_1 l1_2 l1_3 l1_4 a3_0 a3_1 a3_2 = some r) ∧ Aside0 (kq ≤ k) ∧ Aside0 (wc.heap[gb274]? = some (.cells #[.string a1_0, (.slice A1_1 l1_1.length c1_1), (.slice A1_2 l1_2.length c1_2), (.slice A1_3 l1_3.length c1_3), (.slice A1_4 l1_4.length c1_4)] 27 (0, 0))) ∧ Aside0 (wc.heap[gb275]? = some (.cells #[.int .i64 a3_0, .int .i64 a3_1, .int .i64 a3_2] 54 (0, 0))) ∧ Aside0 (Below w.heap.size w wc))
 case first =>
  have H := HC5.out; clear HC5
  by_cases c8 : a3_0 < 1
  ·rw [if_pos c8] at H
   have c8b0 : decide (a3_0 < 1) = true := decide_eq_true c8; clear c8
   (first | rw [c8b0] | (simp only [i64_w, i32_w]; rw [c8b0]) | skip)
   have H' := aM H
   clear H; have hnb9 := NB275_274.out; have hnc9 := NB274_275.out
   have hcz10_0 : w7.cell? ⟨gb275, 0, none⟩ = some (.int .i64 a3_0) := (blk_cell BK275.out 0).trans rfl
   have hcz10_1 : w7.cell? ⟨gb275, 1, none⟩ = some (.int .i64 a3_1) := (blk_cell BK275.out 1).trans rfl
   have hcz10_2 : w7.cell? ⟨gb275, 2, none⟩ = some (.int .i64 a3_2) := (blk_cell BK275.out 2).trans rfl
   have hfz10_0 := blk_frozen BK275.out 0; have hfz10_1 := blk_frozen BK275.out 1; have hfz10_2 := blk_frozen BK275.out 2
   go_wp2
   repeat (go_quiet (fail); try go_wp2)
   go_meet
   case rel => exact ⟨_, (true), eT, H', ⟨by first | omega | exact Nat.le_refl _⟩, ⟨kB BK274.out⟩, ⟨kB BK275.out⟩, ⟨bB2 HB.out GE274.out GE275.out⟩⟩
  ·rw [if_neg c8] at H
   have c8b0 : decide (a3_0 < 1) = false := decide_eq_false c8; clear c8
   (first | rw [c8b0] | (simp only [i64_w, i32_w]; rw [c8b0]) | skip)
   have H' := aM H
   clear H; have hnb11 := NB275_274.out; have hnc11 := NB274_275.out
   have hcz12_0 : w7.cell? ⟨gb275, 0, none⟩ = some (.int .i64 a3_0) := (blk_cell BK275.out 0).trans rfl
   have hcz12_1 : w7.cell? ⟨gb275, 1, none⟩ = some (.int .i64 a3_1) := (blk_cell BK275.out 1).trans rfl
   have hcz12_2 : w7.cell? ⟨gb275, 2, none⟩ = some (.int .i64 a3_2) := (blk_cell BK275.out 2).trans rfl
   have hfz12_0 := blk_frozen BK275.out 0; have hfz12_1 := blk_frozen BK275.out 1; have hfz12_2 := blk_frozen BK275.out 2
   go_wp2
   repeat (go_quiet (fail); try go_wp2)
   go_meet
   case rel => exact ⟨_, (decide (a3_0 > 99)), eT, H', ⟨by first | omega | exact Nat.le_refl _⟩, ⟨kB BK274.out⟩, ⟨kB BK275.out⟩, ⟨bB2 HB.out GE274.out GE275.out⟩⟩
 case rest =>
  clear HC5; obtain ⟨kq, x16_4, rfl, HA, HJ4, BK274, BK275, HB⟩ := hcut
  cases kq with
  | zero => exact absurd HA.out (by simp [r40_term.j0])
  | succ kj4 =>
   have H := HA.out; clear HA
   simp only [r40_term.j0] at H
   by_cases c13 : x16_4 = true
   ·subst c13
    have H1 : (some 9) = some r := by rw [if_pos rfl] at H; exact H
    clear H; have H := H1; clear H1
    obtain rfl := Option.some.inj H
    go_wp2
    repeat (go_quiet (fail); try go_wp2)
    go_ret
    exact ⟨rT, bB2 HB.out GE274.out GE275.out⟩
   ·replace c13 := Bool.eq_false_iff.mpr c13
    subst c13
    have H1 : (if a3_1 < 1 then (r40_term.j1 kj4 l0 a2 true a1_0 l1_1 l1_2 l1_3 l1_4 a3_0 a3_1 a3_2) else (r40_term.j1 kj4 l0 a2 (decide (a3_1 > 5)) a1_0 l1_1 l1_2 l1_3 l1_4 a3_0 a3_1 a3_2)) = some r := by rw [if_neg (show ¬ (false = true) by decide)] at H; exact H
    clear H; have H := H1; clear H1; have HC14 := aM H; clear H
    go_upto_region 3 with (fail)
    repeat (go_quiet (fail); go_upto_region 3 with (fail))
    go_cut [24] (fun v24 wc => ∃ (kq : Nat) (x24_13 : Bool), v24 = .bool x24_13 ∧ Aside0 (r40_term.j1 kq l0 a2 x24_13 a1_0 l1_1 l1_2 l1_3 l1_4 a3_0 a3_1 a3_2 = some r) ∧ Aside0 (kq ≤ kj4) ∧ Aside0 (wc.heap[gb274]? = some (.cells #[.string a1_0, (.slice A1_1 l1_1.length c1_1), (.slice A1_2 l1_2.length c1_2), (.slice A1_3 l1_3.length c1_3), (.slice A1_4 l1_4.length c1_4)] 27 (0, 0))) ∧ Aside0 (wc.heap[gb275]? = some (.cells #[.int .i64 a3_0, .int .i64 a3_1, .int .i64 a3_2] 54 (0, 0))) ∧ Aside0 (Below w.heap.size w wc))
    case first =>
     have H := HC14.out; clear HC14
     by_cases c15 : a3_1 < 1
     ·rw [if_pos c15] at H
      have c15b0 : decide (a3_1 < 1) = true := decide_eq_true c15; clear c15
      (first | rw [c15b0] | (simp only [i64_w, i32_w]; rw [c15b0]) | skip)
      have H' := aM H
      clear H; have hnb16 := NB275_274.out; have hnc16 := NB274_275.out
      have hcz17_0 : wc.cell? ⟨gb275, 0, none⟩ = some (.int .i64 a3_0) := (blk_cell BK275.out 0).trans rfl
      have hcz17_1 : wc.cell? ⟨gb275, 1, none⟩ = some (.int .i64 a3_1) := (blk_cell BK275.out 1).trans rfl
      have hcz17_2 : wc.cell? ⟨gb275, 2, none⟩ = some (.int .i64 a3_2) := (blk_cell BK275.out 2).trans rfl
      have hfz17_0 := blk_frozen BK275.out 0; have hfz17_1 := blk_frozen BK275.out 1; have hfz17_2 := blk_frozen BK275.out 2
      go_wp2
      repeat (go_quiet (fail); try go_wp2)
      go_meet
      case rel => exact ⟨_, (true), eT, H', ⟨by have := HJ4.out; first | omega | exact Nat.le_refl _⟩, ⟨kB BK274.out⟩, ⟨kB BK275.out⟩, ⟨bB2 HB.out GE274.out GE275.out⟩⟩
     ·rw [if_neg c15] at H
      have c15b0 : decide (a3_1 < 1) = false := decide_eq_false c15; clear c15
      (first | rw [c15b0] | (simp only [i64_w, i32_w]; rw [c15b0]) | skip)
      have H' := aM H
      clear H; have hnb18 := NB275_274.out; have hnc18 := NB274_275.out
      have hcz19_0 : wc.cell? ⟨gb275, 0, none⟩ = some (.int .i64 a3_0) := (blk_cell BK275.out 0).trans rfl
      have hcz19_1 : wc.cell? ⟨gb275, 1, none⟩ = some (.int .i64 a3_1) := (blk_cell BK275.out 1).trans rfl
      have hcz19_2 : wc.cell? ⟨gb275, 2, none⟩ = some (.int .i64 a3_2) := (blk_cell BK275.out 2).trans rfl
      have hfz19_0 := blk_frozen BK275.out 0; have hfz19_1 := blk_frozen BK275.out 1; have hfz19_2 := blk_frozen BK275.out 2
      go_wp2
      repeat (go_quiet (fail); try go_wp2)
      go_meet
      case rel => exact ⟨_, (decide (a3_1 > 5)), eT, H', ⟨by have := HJ4.out; first | omega | exact Nat.le_refl _⟩, ⟨kB BK274.out⟩, ⟨kB BK275.out⟩, ⟨bB2 HB.out GE274.out GE275.out⟩⟩
    case rest =>
     clear HC14; obtain ⟨kq, x24_13, rfl, HA, HJ13, BK274, BK275, HB⟩ := hcut
     cases kq with
     | zero => exact absurd HA.out (by simp [r40_term.j1])
     | succ kj13 =>
      have H := HA.out; clear HA
      simp only [r40_term.j1] at H
      by_cases c20 : x24_13 = true
      ·subst c20
       have H1 : (some 12) = some r := by rw [if_pos rfl] at H; exact H
       clear H; have H := H1; clear H1
       obtain rfl := Option.some.inj H
       go_wp2
       repeat (go_quiet (fail); try go_wp2)
       go_ret
       exact ⟨rT, bB2 HB.out GE274.out GE275.out⟩
      ·replace c20 := Bool.eq_false_iff.mpr c20
       subst c20
       have H1 : (if a3_1 = 1 then (if a3_2 < 0 then (some 1) else (if 0 ≤ a2 then (if a2 < (l0.length : Int) then (if a3_2 ≥ (((rd_T51 l0 a2).f1).length : Int) then (some 1) else (some 0)) else (none)) else (none))) else (if a3_1 = 5 then (if a3_2 = 0 then (some 0) else (some 1)) else (if a3_2 < 0 then (r40_term.j2 kj13 a2 true a1_0 l1_1 l1_2 l1_3 l1_4 a3_0 a3_1 a3_2) else (r40_term.j2 kj13 a2 (decide (a3_2 ≥ (l1_1.length : Int))) a1_0 l1_1 l1_2 l1_3 l1_4 a3_0 a3_1 a3_2)))) = some r := by rw [if_neg (show ¬ (false = true) by decide)] at H; exact H
       clear H; have H := H1; clear H1
       by_cases c21 : a3_1 = 1
       ·rw [if_pos c21] at H
        have c21b0 : (a3_1 == 1) = true := beq_iff_eq.mpr c21; have c21b1 : (a3_1 != 1) = false := bne_eq_false_iff_eq.mpr c21; clear c21
        by_cases c22 : a3_2 < 0
        ·rw [if_pos c22] at H
         have c22b0 : decide (a3_2 < 0) = true := decide_eq_true c22; clear c22
         obtain rfl := Option.some.inj H
         have hnb23 := NB275_274.out; have hnc23 := NB274_275.out
         have hcz24_0 : wc.cell? ⟨gb275, 0, none⟩ = some (.int .i64 a3_0) := (blk_cell BK275.out 0).trans rfl
         have hcz24_1 : wc.cell? ⟨gb275, 1, none⟩ = some (.int .i64 a3_1) := (blk_cell BK275.out 1).trans rfl
         have hcz24_2 : wc.cell? ⟨gb275, 2, none⟩ = some (.int .i64 a3_2) := (blk_cell BK275.out 2).trans rfl
         have hfz24_0 := blk_frozen BK275.out 0; have hfz24_1 := blk_frozen BK275.out 1; have hfz24_2 := blk_frozen BK275.out 2
         go_wp2
         repeat (go_quiet (fail); try go_wp2)
         go_ret
         exact ⟨rT, bB2 HB.out GE274.out GE275.out⟩
        ·rw [if_neg c22] at H
         have c22b0 : decide (a3_2 < 0) = false := decide_eq_false c22; clear c22
         by_cases c25 : 0 ≤ a2
         ·rw [if_pos c25] at H
          have c25b0 : decide (0 ≤ a2) = true := decide_eq_true c25; clear c25
          by_cases c26 : a2 < (l0.length : Int)
          ·rw [if_pos c26] at H
           have c26b0 : decide (a2 < (l0.length : Int)) = true := decide_eq_true c26; clear c26
           by_cases c27 : a3_2 ≥ (((rd_T51 l0 a2).f1).length : Int)
           ·rw [if_pos c27] at H
            have c27b0 : decide ((((rd_T51 l0 a2).f1).length : Int) ≤ a3_2) = true := decide_eq_true c27; clear c27
            obtain rfl := Option.some.inj H
            have hnb28 := NB275_274.out; have hnc28 := NB274_275.out
            have hcz29_0 : wc.cell? ⟨gb275, 0, none⟩ = some (.int .i64 a3_0) := (blk_cell BK275.out 0).trans rfl
            have hcz29_1 : wc.cell? ⟨gb275, 1, none⟩ = some (.int .i64 a3_1) := (blk_cell BK275.out 1).trans rfl
            have hcz29_2 : wc.cell? ⟨gb275, 2, none⟩ = some (.int .i64 a3_2) := (blk_cell BK275.out 2).trans rfl
            have hfz29_0 := blk_frozen BK275.out 0; have hfz29_1 := blk_frozen BK275.out 1; have hfz29_2 := blk_frozen BK275.out 2; have p276 : 0 ≤ (a2 : Int) := dT; have q276 : a2 < (l0.length : Int) := dT; obtain ⟨ad276, A276_1, c276_1, e276, hx276_0, hx276_1, hl276_1, hi276_1⟩ := at_T51 HR0.out a2 p276 q276; cases e276; replace hx276_0 := (HB.out.cell (World.block_lt_of_cell? w _ hx276_0)).trans hx276_0; replace hx276_1 := (HB.out.cell (World.block_lt_of_cell? w _ hx276_1)).trans hx276_1; have HR276_1 := aM hi276_1; have HC276_1 := aM hl276_1; clear hi276_1 hl276_1; replace p276 := eq_true p276; replace q276 := eq_true q276
            go_wp2
            repeat (go_quiet (fail); try go_wp2)
            go_ret
            exact ⟨rT, bB2 HB.out GE274.out GE275.out⟩
           ·rw [if_neg c27] at H
            have c27b0 : decide ((((rd_T51 l0 a2).f1).length : Int) ≤ a3_2) = false := decide_eq_false c27; clear c27
            obtain rfl := Option.some.inj H
            have hnb30 := NB275_274.out; have hnc30 := NB274_275.out
            have hcz31_0 : wc.cell? ⟨gb275, 0, none⟩ = some (.int .i64 a3_0) := (blk_cell BK275.out 0).trans rfl
            have hcz31_1 : wc.cell? ⟨gb275, 1, none⟩ = some (.int .i64 a3_1) := (blk_cell BK275.out 1).trans rfl
            have hcz31_2 : wc.cell? ⟨gb275, 2, none⟩ = some (.int .i64 a3_2) := (blk_cell BK275.out 2).trans rfl
            have hfz31_0 := blk_frozen BK275.out 0; have hfz31_1 := blk_frozen BK275.out 1; have hfz31_2 := blk_frozen BK275.out 2; have p276 : 0 ≤ (a2 : Int) := dT; have q276 : a2 < (l0.length : Int) := dT; obtain ⟨ad276, A276_1, c276_1, e276, hx276_0, hx276_1, hl276_1, hi276_1⟩ := at_T51 HR0.out a2 p276 q276; cases e276; replace hx276_0 := (HB.out.cell (World.block_lt_of_cell? w _ hx276_0)).trans hx276_0; replace hx276_1 := (HB.out.cell (World.block_lt_of_cell? w _ hx276_1)).trans hx276_1; have HR276_1 := aM hi276_1; have HC276_1 := aM hl276_1; clear hi276_1 hl276_1; replace p276 := eq_true p276; replace q276 := eq_true q276
            go_wp2
            repeat (go_quiet (fail); try go_wp2)
            go_ret
            exact ⟨rT, bB2 HB.out GE274.out GE275.out⟩
          ·rw [if_neg c26] at H
           exact absurd H (by simp)
         ·rw [if_neg c25] at H
          exact absurd H (by simp)
       ·rw [if_neg c21] at H
        have c21b0 : (a3_1 == 1) = false := beq_eq_false_iff_ne.mpr c21; have c21b1 : (a3_1 != 1) = true := bne_iff_ne.mpr c21
        by_cases c32 : a3_1 = 5
        ·rw [if_pos c32] at H
         have c32b0 : (a3_1 == 5) = true := beq_iff_eq.mpr c32; have c32b1 : (a3_1 != 5) = false := bne_eq_false_iff_eq.mpr c32; clear c32
         by_cases c33 : a3_2 = 0
         ·rw [if_pos c33] at H
          have c33b0 : (a3_2 == 0) = true := beq_iff_eq.mpr c33; have c33b1 : (a3_2 != 0) = false := bne_eq_false_iff_eq.mpr c33; clear c33
          obtain rfl := Option.some.inj H
          have hnb34 := NB275_274.out; have hnc34 := NB274_275.out
          have hcz35_0 : wc.cell? ⟨gb275, 0, none⟩ = some (.int .i64 a3_0) := (blk_cell BK275.out 0).trans rfl
          have hcz35_1 : wc.cell? ⟨gb275, 1, none⟩ = some (.int .i64 a3_1) := (blk_cell BK275.out 1).trans rfl
          have hcz35_2 : wc.cell? ⟨gb275, 2, none⟩ = some (.int .i64 a3_2) := (blk_cell BK275.out 2).trans rfl
          have hfz35_0 := blk_frozen BK275.out 0; have hfz35_1 := blk_frozen BK275.out 1; have hfz35_2 := blk_frozen BK275.out 2
          go_wp2
          repeat (go_quiet (fail); try go_wp2)
          go_ret
          exact ⟨rT, bB2 HB.out GE274.out GE275.out⟩
         ·rw [if_neg c33] at H
          have c33b0 : (a3_2 == 0) = false := beq_eq_false_iff_ne.mpr c33; have c33b1 : (a3_2 != 0) = true := bne_iff_ne.mpr c33
          obtain rfl := Option.some.inj H
          have hnb36 := NB275_274.out; have hnc36 := NB274_275.out
          have hcz37_0 : wc.cell? ⟨gb275, 0, none⟩ = some (.int .i64 a3_0) := (blk_cell BK275.out 0).trans rfl
          have hcz37_1 : wc.cell? ⟨gb275, 1, none⟩ = some (.int .i64 a3_1) := (blk_cell BK275.out 1).trans rfl
          have hcz37_2 : wc.cell? ⟨gb275, 2, none⟩ = some (.int .i64 a3_2) := (blk_cell BK275.out 2).trans rfl
          have hfz37_0 := blk_frozen BK275.out 0; have hfz37_1 := blk_frozen BK275.out 1; have hfz37_2 := blk_frozen BK275.out 2
          go_wp2
          repeat (go_quiet (fail); try go_wp2)
          go_ret
          exact ⟨rT, bB2 HB.out GE274.out GE275.out⟩
        ·rw [if_neg c32] at H
         have c32b0 : (a3_1 == 5) = false := beq_eq_false_iff_ne.mpr c32; have c32b1 : (a3_1 != 5) = true := bne_iff_ne.mpr c32; have HC38 := aM H; clear H; have hnb39 := NB275_274.out; have hnc39 := NB274_275.out
         have hcz40_0 : wc.cell? ⟨gb275, 0, none⟩ = some (.int .i64 a3_0) := (blk_cell BK275.out 0).trans rfl
         have hcz40_1 : wc.cell? ⟨gb275, 1, none⟩ = some (.int .i64 a3_1) := (blk_cell BK275.out 1).trans rfl
         have hcz40_2 : wc.cell? ⟨gb275, 2, none⟩ = some (.int .i64 a3_2) := (blk_cell BK275.out 2).trans rfl
         have hfz40_0 := blk_frozen BK275.out 0; have hfz40_1 := blk_frozen BK275.out 1; have hfz40_2 := blk_frozen BK275.out 2
         go_upto_region 13 with (fail)
         repeat (go_quiet (fail); go_upto_region 13 with (fail))
         go_cut [58] (fun v58 wc => ∃ (kq : Nat) (x58_37 : Bool), v58 = .bool x58_37 ∧ Aside0 (r40_term.j2 kq a2 x58_37 a1_0 l1_1 l1_2 l1_3 l1_4 a3_0 a3_1 a3_2 = some r) ∧ Aside0 (kq ≤ kj13) ∧ Aside0 (wc.heap[gb274]? = some (.cells #[.string a1_0, (.slice A1_1 l1_1.length c1_1), (.slice A1_2 l1_2.length c1_2), (.slice A1_3 l1_3.length c1_3), (.slice A1_4 l1_4.length c1_4)] 27 (0, 0))) ∧ Aside0 (wc.heap[gb275]? = some (.cells #[.int .i64 a3_0, .int .i64 a3_1, .int .i64 a3_2] 54 (0, 0))) ∧ Aside0 (Below w.heap.size w wc))
         case first =>
          have H := HC38.out; clear HC38
          by_cases c41 : a3_2 < 0
          ·rw [if_pos c41] at H
           have c41b0 : decide (a3_2 < 0) = true := decide_eq_true c41; clear c41
           (first | rw [c41b0] | (simp only [i64_w, i32_w]; rw [c41b0]) | skip)
           have H' := aM H
           clear H; have hnb42 := NB275_274.out; have hnc42 := NB274_275.out
           have hcz43_0 : wc.cell? ⟨gb275, 0, none⟩ = some (.int .i64 a3_0) := (blk_cell BK275.out 0).trans rfl
           have hcz43_1 : wc.cell? ⟨gb275, 1, none⟩ = some (.int .i64 a3_1) := (blk_cell BK275.out 1).trans rfl
           have hcz43_2 : wc.cell? ⟨gb275, 2, none⟩ = some (.int .i64 a3_2) := (blk_cell BK275.out 2).trans rfl
           have hfz43_0 := blk_frozen BK275.out 0; have hfz43_1 := blk_frozen BK275.out 1; have hfz43_2 := blk_frozen BK275.out 2
           go_wp2
           repeat (go_quiet (fail); try go_wp2)
           go_meet
           case rel => exact ⟨_, (true), eT, H', ⟨by have := HJ4.out; have := HJ13.out; first | omega | exact Nat.le_refl _⟩, ⟨kB BK274.out⟩, ⟨kB BK275.out⟩, ⟨bB2 HB.out GE274.out GE275.out⟩⟩
          ·rw [if_neg c41] at H
           have c41b0 : decide (a3_2 < 0) = false := decide_eq_false c41; clear c41
           (first | rw [c41b0] | (simp only [i64_w, i32_w]; rw [c41b0]) | skip)
           have H' := aM H
           clear H; have hnb44 := NB275_274.out; have hnc44 := NB274_275.out
           have hcz45_0 : wc.cell? ⟨gb275, 0, none⟩ = some (.int .i64 a3_0) := (blk_cell BK275.out 0).trans rfl
           have hcz45_1 : wc.cell? ⟨gb275, 1, none⟩ = some (.int .i64 a3_1) := (blk_cell BK275.out 1).trans rfl
           have hcz45_2 : wc.cell? ⟨gb275, 2, none⟩ = some (.int .i64 a3_2) := (blk_cell BK275.out 2).trans rfl
           have hfz45_0 := blk_frozen BK275.out 0; have hfz45_1 := blk_frozen BK275.out 1; have hfz45_2 := blk_frozen BK275.out 2
           have hcz46_0 : wc.cell? ⟨gb274, 0, none⟩ = some (.string a1_0) := (blk_cell BK274.out 0).trans rfl
           have hcz46_1 : wc.cell? ⟨gb274, 1, none⟩ = some (.slice A1_1 l1_1.length c1_1) := (blk_cell BK274.out 1).trans rfl
           have hcz46_2 : wc.cell? ⟨gb274, 2, none⟩ = some (.slice A1_2 l1_2.length c1_2) := (blk_cell BK274.out 2).trans rfl
           have hcz46_3 : wc.cell? ⟨gb274, 3, none⟩ = some (.slice A1_3 l1_3.length c1_3) := (blk_cell BK274.out 3).trans rfl
           have hcz46_4 : wc.cell? ⟨gb274, 4, none⟩ = some (.slice A1_4 l1_4.length c1_4) := (blk_cell BK274.out 4).trans rfl
           have hfz46_0 := blk_frozen BK274.out 0; have hfz46_1 := blk_frozen BK274.out 1; have hfz46_2 := blk_frozen BK274.out 2; have hfz46_3 := blk_frozen BK274.out 3; have hfz46_4 := blk_frozen BK274.out 4
           go_wp2
           repeat (go_quiet (fail); try go_wp2)
           go_meet
           case rel => exact ⟨_, (decide (a3_2 ≥ (l1_1.length : Int))), eT, H', ⟨by have := HJ4.out; have := HJ13.out; first | omega | exact Nat.le_refl _⟩, ⟨kB BK274.out⟩, ⟨kB BK275.out⟩, ⟨bB2 HB.out GE274.out GE275.out⟩⟩
         case rest =>
          clear HC38
          try clear hx2
          try clear hx27
          try clear hx276_0
          try clear hx276_1
          obtain ⟨kq, x58_37, rfl, HA, HJ37, BK274, BK275, HB⟩ := hcut
          cases kq with
          | zero => exact absurd HA.out (by simp [r40_term.j2])
          | succ kj37 =>
           have H := HA.out; clear HA
           simp only [r40_term.j2] at H
           by_cases c47 : x58_37 = true
           ·subst c47
            have H1 : (some 1) = some r := by rw [if_pos rfl] at H; exact H
            clear H; have H := H1; clear H1
            obtain rfl := Option.some.inj H
            go_wp2
            repeat (go_quiet (fail); try go_wp2)
            go_ret
            exact ⟨rT, bB2 HB.out GE274.out GE275.out⟩
           ·replace c47 := Bool.eq_false_iff.mpr c47
            subst c47
            have H1 : (if 0 ≤ a3_2 then (if a3_2 < (l1_1.length : Int) then (if ((rd_T48 l1_1 a3_2).f1) = a2 then (some 0) else (some 17)) else (none)) else (none)) = some r := by rw [if_neg (show ¬ (false = true) by decide)] at H; exact H
            clear H; have H := H1; clear H1
            by_cases c48 : 0 ≤ a3_2
            ·rw [if_pos c48] at H
             have c48b0 : decide (0 ≤ a3_2) = true := decide_eq_true c48; clear c48
             by_cases c49 : a3_2 < (l1_1.length : Int)
             ·rw [if_pos c49] at H
              have c49b0 : decide (a3_2 < (l1_1.length : Int)) = true := decide_eq_true c49; clear c49
              by_cases c50 : ((rd_T48 l1_1 a3_2).f1) = a2
              ·rw [if_pos c50] at H
               have c50b0 : (((rd_T48 l1_1 a3_2).f1) == a2) = true := beq_iff_eq.mpr c50; have c50b1 : (((rd_T48 l1_1 a3_2).f1) != a2) = false := bne_eq_false_iff_eq.mpr c50; clear c50
               obtain rfl := Option.some.inj H
               have hnb51 := NB274_275.out; have hnc51 := NB275_274.out
               have hcz52_0 : wc.cell? ⟨gb274, 0, none⟩ = some (.string a1_0) := (blk_cell BK274.out 0).trans rfl
               have hcz52_1 : wc.cell? ⟨gb274, 1, none⟩ = some (.slice A1_1 l1_1.length c1_1) := (blk_cell BK274.out 1).trans rfl
               have hcz52_2 : wc.cell? ⟨gb274, 2, none⟩ = some (.slice A1_2 l1_2.length c1_2) := (blk_cell BK274.out 2).trans rfl
               have hcz52_3 : wc.cell? ⟨gb274, 3, none⟩ = some (.slice A1_3 l1_3.length c1_3) := (blk_cell BK274.out 3).trans rfl
               have hcz52_4 : wc.cell? ⟨gb274, 4, none⟩ = some (.slice A1_4 l1_4.length c1_4) := (blk_cell BK274.out 4).trans rfl
               have hfz52_0 := blk_frozen BK274.out 0; have hfz52_1 := blk_frozen BK274.out 1; have hfz52_2 := blk_frozen BK274.out 2; have hfz52_3 := blk_frozen BK274.out 3; have hfz52_4 := blk_frozen BK274.out 4
               have hcz53_0 : wc.cell? ⟨gb275, 0, none⟩ = some (.int .i64 a3_0) := (blk_cell BK275.out 0).trans rfl
               have hcz53_1 : wc.cell? ⟨gb275, 1, none⟩ = some (.int .i64 a3_1) := (blk_cell BK275.out 1).trans rfl
               have hcz53_2 : wc.cell? ⟨gb275, 2, none⟩ = some (.int .i64 a3_2) := (blk_cell BK275.out 2).trans rfl
               have hfz53_0 := blk_frozen BK275.out 0; have hfz53_1 := blk_frozen BK275.out 1; have hfz53_2 := blk_frozen BK275.out 2; have p277 : 0 ≤ (a3_2 : Int) := dT; have q277 : a3_2 < (l1_1.length : Int) := dT; obtain ⟨ad277, e277, hx277_0, hx277_1⟩ := at_T48 HR1_1.out a3_2 p277 q277; cases e277; replace hx277_0 := (HB.out.cell (World.block_lt_of_cell? w _ hx277_0)).trans hx277_0; replace hx277_1 := (HB.out.cell (World.block_lt_of_cell? w _ hx277_1)).trans hx277_1; replace p277 := eq_true p277; replace q277 := eq_true q277
               go_wp2
               repeat (go_quiet (fail); try go_wp2)
               go_ret
               exact ⟨rT, bB2 HB.out GE274.out GE275.out⟩
              ·rw [if_neg c50] at H
               have c50b0 : (((rd_T48 l1_1 a3_2).f1) == a2) = false := beq_eq_false_iff_ne.mpr c50; have c50b1 : (((rd_T48 l1_1 a3_2).f1) != a2) = true := bne_iff_ne.mpr c50
               obtain rfl := Option.some.inj H
               have hnb54 := NB274_275.out; have hnc54 := NB275_274.out
               have hcz55_0 : wc.cell? ⟨gb274, 0, none⟩ = some (.string a1_0) := (blk_cell BK274.out 0).trans rfl
               have hcz55_1 : wc.cell? ⟨gb274, 1, none⟩ = some (.slice A1_1 l1_1.length c1_1) := (blk_cell BK274.out 1).trans rfl
               have hcz55_2 : wc.cell? ⟨gb274, 2, none⟩ = some (.slice A1_2 l1_2.length c1_2) := (blk_cell BK274.out 2).trans rfl
               have hcz55_3 : wc.cell? ⟨gb274, 3, none⟩ = some (.slice A1_3 l1_3.length c1_3) := (blk_cell BK274.out 3).trans rfl
               have hcz55_4 : wc.cell? ⟨gb274, 4, none⟩ = some (.slice A1_4 l1_4.length c1_4) := (blk_cell BK274.out 4).trans rfl
               have hfz55_0 := blk_frozen BK274.out 0; have hfz55_1 := blk_frozen BK274.out 1; have hfz55_2 := blk_frozen BK274.out 2; have hfz55_3 := blk_frozen BK274.out 3; have hfz55_4 := blk_frozen BK274.out 4
               have hcz56_0 : wc.cell? ⟨gb275, 0, none⟩ = some (.int .i64 a3_0) := (blk_cell BK275.out 0).trans rfl
               have hcz56_1 : wc.cell? ⟨gb275, 1, none⟩ = some (.int .i64 a3_1) := (blk_cell BK275.out 1).trans rfl
               have hcz56_2 : wc.cell? ⟨gb275, 2, none⟩ = some (.int .i64 a3_2) := (blk_cell BK275.out 2).trans rfl
               have hfz56_0 := blk_frozen BK275.out 0; have hfz56_1 := blk_frozen BK275.out 1; have hfz56_2 := blk_frozen BK275.out 2; have p277 : 0 ≤ (a3_2 : Int) := dT; have q277 : a3_2 < (l1_1.length : Int) := dT; obtain ⟨ad277, e277, hx277_0, hx277_1⟩ := at_T48 HR1_1.out a3_2 p277 q277; cases e277; replace hx277_0 := (HB.out.cell (World.block_lt_of_cell? w _ hx277_0)).trans hx277_0; replace hx277_1 := (HB.out.cell (World.block_lt_of_cell? w _ hx277_1)).trans hx277_1; replace p277 := eq_true p277; replace q277 := eq_true q277
               go_wp2
               repeat (go_quiet (fail); try go_wp2)
               go_ret
               exact ⟨rT, bB2 HB.out GE274.out GE275.out⟩
             ·rw [if_neg c49] at H
              exact absurd H (by simp)
            ·rw [if_neg c48] at H
             exact absurd H (by simp)




/-! ### r40_CheckTerms: function 14 -/
mutual
def r40_CheckTerms.j0 : Nat → List (S51) → Int → List (S54) → Bool → ByteArray → List (S48) → List (S62) → List (S111) → List (S111) → Option (Int)
 | 0, _, _, _, _, _, _, _, _, _ => none
 | k + 1, x0, x2, x3, x25, x279000, x279001, x279002, x279003, x279004 => if x25 = true then (some 1) else (r40_CheckTerms.l0 k x0 x2 x3 0 x279000 x279001 x279002 x279003 x279004)
def r40_CheckTerms.l0 : Nat → List (S51) → Int → List (S54) → Int → ByteArray → List (S48) → List (S62) → List (S111) → List (S111) → Option (Int)
 | 0, _, _, _, _, _, _, _, _, _ => none
 | k + 1, x0, x2, x3, x10, x279000, x279001, x279002, x279003, x279004 => if x10 < (x3.length : Int) then (if 0 ≤ x10 then ((r40_term.f k x0 x279000 x279001 x279002 x279003 x279004 x2 ((rd_T54 x3 x10).f0) ((rd_T54 x3 x10).f1) ((rd_T54 x3 x10).f2)).bind fun t281 => (if t281 = 0 then (r40_CheckTerms.l0 k x0 x2 x3 (wrap64 (x10 + 1)) x279000 x279001 x279002 x279003 x279004) else (some t281))) else (none)) else (some 0)
end
def r40_CheckTerms.f (k : Nat) (l0 : List (S51)) (a1_0 : ByteArray) (l1_1 : List (S48)) (l1_2 : List (S62)) (l1_3 : List (S111)) (l1_4 : List (S111)) (a2 : Int) (l3 : List (S54)) : Option (Int) := (r40_Check.f k l0 a1_0 l1_1 l1_2 l1_3 l1_4).bind fun t279 => (if t279 = 0 then (if a2 < 0 then (r40_CheckTerms.j0 k l0 a2 l3 true a1_0 l1_1 l1_2 l1_3 l1_4) else (r40_CheckTerms.j0 k l0 a2 l3 (decide (a2 ≥ (l0.length : Int))) a1_0 l1_1 l1_2 l1_3 l1_4)) else (some t279))
theorem r40_CheckTerms.mono_l : ∀ k, (∀ y0 y1 y2 y3 y4 y5 y6 y7 y8, LeO (r40_CheckTerms.j0 k y0 y1 y2 y3 y4 y5 y6 y7 y8) (r40_CheckTerms.j0 (k + 1) y0 y1 y2 y3 y4 y5 y6 y7 y8)) ∧ (∀ y0 y1 y2 y3 y4 y5 y6 y7 y8, LeO (r40_CheckTerms.l0 k y0 y1 y2 y3 y4 y5 y6 y7 y8) (r40_CheckTerms.l0 (k + 1) y0 y1 y2 y3 y4 y5 y6 y7 y8))
 | 0 => ⟨fun _ _ _ _ _ _ _ _ _ r h => by simp [r40_CheckTerms.j0] at h, fun _ _ _ _ _ _ _ _ _ r h => by simp [r40_CheckTerms.l0] at h⟩
 | k + 1 => by
  obtain ⟨ih0, ih1⟩ := r40_CheckTerms.mono_l k
  refine ⟨?_, ?_⟩
  ·intro y0 y1 y2 y3 y4 y5 y6 y7 y8
   unfold r40_CheckTerms.j0
   repeat' first
   | (with_reducible first | exact ih0 _ _ _ _ _ _ _ _ _ | exact ih1 _ _ _ _ _ _ _ _ _ | exact r40_Check.mono _ _ _ _ _ _ _ | exact r40_term.mono _ _ _ _ _ _ _ _ _ _ _ | exact LeO.refl _ | exact LeO.none _ | refine LeO.ite ?_ ?_ | refine LeO.bind ?_ (fun _ => ?_))
   | exact LeO.none _
   | refine LeO.ite ?_ ?_
   | refine LeO.bind ?_ (fun _ => ?_)
  ·intro y0 y1 y2 y3 y4 y5 y6 y7 y8
   unfold r40_CheckTerms.l0
   repeat' first
   | (with_reducible first | exact ih0 _ _ _ _ _ _ _ _ _ | exact ih1 _ _ _ _ _ _ _ _ _ | exact r40_Check.mono _ _ _ _ _ _ _ | exact r40_term.mono _ _ _ _ _ _ _ _ _ _ _ | exact LeO.refl _ | exact LeO.none _ | refine LeO.ite ?_ ?_ | refine LeO.bind ?_ (fun _ => ?_))
   | exact LeO.none _
   | refine LeO.ite ?_ ?_
   | refine LeO.bind ?_ (fun _ => ?_)
theorem r40_CheckTerms.mono : ∀ a0 a1 a2 a3 a4 a5 a6 a7 k, LeO (r40_CheckTerms.f k a0 a1 a2 a3 a4 a5 a6 a7) (r40_CheckTerms.f (k + 1) a0 a1 a2 a3 a4 a5 a6 a7) := by
 intro a0 a1 a2 a3 a4 a5 a6 a7 k
 obtain ⟨ih0, ih1⟩ := r40_CheckTerms.mono_l k
 unfold r40_CheckTerms.f
 repeat' first
   | (with_reducible first | exact ih0 _ _ _ _ _ _ _ _ _ | exact ih1 _ _ _ _ _ _ _ _ _ | exact r40_Check.mono _ _ _ _ _ _ _ | exact r40_term.mono _ _ _ _ _ _ _ _ _ _ _ | exact LeO.refl _ | exact LeO.none _ | refine LeO.ite ?_ ?_ | refine LeO.bind ?_ (fun _ => ?_))
   | exact LeO.none _
   | refine LeO.ite ?_ ?_
   | refine LeO.bind ?_ (fun _ => ?_)
def r40_CheckTerms.T9 : Bool × List (List Nat × List Nat) := (true, [([], []), ([], []), ([], []), ([], []), ([], []), ([3, 4], [3, 4]), ([5], [5]), ([0, 1, 2, 6], [0, 1, 2, 6]), ([7, 7, 0, 1, 2, 3, 4, 5, 6, 7], [7])])
def r40_CheckTerms.B9 : List Nat := [0, 0, 0, 0, 0, 24, 56, 127, 255]
theorem r40_CheckTerms.tab9 : rtab .any (opsOf Try.f14 9) = r40_CheckTerms.T9 := by kernel_rfl
theorem r40_CheckTerms.bits9 : waitsOk r40_CheckTerms.T9.2 r40_CheckTerms.B9 = true := by kernel_rfl
set_option maxHeartbeats 8000000 in
set_option maxRecDepth 100000 in
theorem r40_CheckTerms.calls (k : Nat) (A0 : Option Addr) (c0 : Nat) (l0 : List (S51)) (a1_0 : ByteArray) (A1_1 : Option Addr) (c1_1 : Nat) (l1_1 : List (S48)) (A1_2 : Option Addr) (c1_2 : Nat) (l1_2 : List (S62)) (A1_3 : Option Addr) (c1_3 : Nat) (l1_3 : List (S111)) (A1_4 : Option Addr) (c1_4 : Nat) (l1_4 : List (S111)) (a2 : Int) (A3 : Option Addr) (c3 : Nat) (l3 : List (S54)) (r : Int) (w : World) (hr0 : Kd.C k51 w A0 l0.length l0) (hc0 : l0.length ≤ c0) (hr1_1 : Kd.C k48 w A1_1 l1_1.length l1_1) (hc1_1 : l1_1.length ≤ c1_1) (hr1_2 : Kd.C k62 w A1_2 l1_2.length l1_2) (hc1_2 : l1_2.length ≤ c1_2) (hr1_3 : Kd.C k111 w A1_3 l1_3.length l1_3) (hc1_3 : l1_3.length ≤ c1_3) (hr1_4 : Kd.C k111 w A1_4 l1_4.length l1_4) (hc1_4 : l1_4.length ≤ c1_4) (hr3 : Kd.C k54 w A3 l3.length l3) (hc3 : l3.length ≤ c3) (h : r40_CheckTerms.f k l0 a1_0 l1_1 l1_2 l1_3 l1_4 a2 l3 = some r) :
  Calls Try.prog 14 #[.slice A0 l0.length c0, .agg #[.string a1_0, .slice A1_1 l1_1.length c1_1, .slice A1_2 l1_2.length c1_2, .slice A1_3 l1_3.length c1_3, .slice A1_4 l1_4.length c1_4], .int .i64 a2, .slice A3 l3.length c3] w fun e w' => e = .returned (.int .i64 r) ∧ Below w.heap.size w w' := by
 have hu27 := Try.underlying27; have hu9 := Try.underlying9; have hu23 := Try.underlying23; have hu24 := Try.underlying24; have hu25 := Try.underlying25; have hu54 := Try.underlying54; have hu3 := Try.underlying3; have HR0 := aM hr0; have HC0 := aM hc0; clear hr0 hc0; have HR1_1 := aM hr1_1; have HC1_1 := aM hc1_1; clear hr1_1 hc1_1; have HR1_2 := aM hr1_2; have HC1_2 := aM hc1_2; clear hr1_2 hc1_2; have HR1_3 := aM hr1_3; have HC1_3 := aM hc1_3; clear hr1_3 hc1_3; have HR1_4 := aM hr1_4; have HC1_4 := aM hc1_4; clear hr1_4 hc1_4; have HR3 := aM hr3; have HC3 := aM hc3; clear hr3 hc3; have HB := aM (Below.refl w.heap.size w)
 have H : ((r40_Check.f k l0 a1_0 l1_1 l1_2 l1_3 l1_4).bind fun t279 => (if t279 = 0 then (if a2 < 0 then (r40_CheckTerms.j0 k l0 a2 l3 true a1_0 l1_1 l1_2 l1_3 l1_4) else (r40_CheckTerms.j0 k l0 a2 l3 (decide (a2 ≥ (l0.length : Int))) a1_0 l1_1 l1_2 l1_3 l1_4)) else (some t279))) = some r := h
 clear h; replace H := Option.bind_eq_some_iff.mp H; obtain ⟨t279, A50, H⟩ := H
 replace H : (if t279 = 0 then (if a2 < 0 then (r40_CheckTerms.j0 k l0 a2 l3 true a1_0 l1_1 l1_2 l1_3 l1_4) else (r40_CheckTerms.j0 k l0 a2 l3 (decide (a2 ≥ (l0.length : Int))) a1_0 l1_1 l1_2 l1_3 l1_4)) else (some t279)) = some r := H
 have A5 := aM A50; clear A50
 by_cases c6 : t279 = 0
 ·rw [if_pos c6] at H
  have c6b0 : (t279 == 0) = true := beq_iff_eq.mpr c6; have c6b1 : (t279 != 0) = false := bne_eq_false_iff_eq.mpr c6; clear c6; have HC7 := aM H; clear H
  go_enter Try.func14, Try.ntmps14
  go_upto_region 4 with (first | ((with_reducible refine gate_dst (N := 5) rfl ?_); (try (refine gate_guard (by rfl) ?_; dsimp only)); refine box_event ?hg (N := 5) ?hd (cs := #[.string a1_0, .slice A1_1 l1_1.length c1_1, .slice A1_2 l1_2.length c1_2, .slice A1_3 l1_3.length c1_3, .slice A1_4 l1_4.length c1_4]) (t := 27) ?hr ?_; (case hd => rfl); (case hg => rfl); (case hr => first | (go_simp; done) | (go_simp; rfl)); intro gb278 hg w8 hbox hb; have n0_ := aM (below_step (bB HB.out) hb); have n1_ := aM (hbox); have n2_ := aM ((by rw [hg]; exact (below_size (bB HB.out)) : w.heap.size ≤ gb278)); have n3_ := aM ((by rw [hg]; exact (below_size (bB HB.out)) : w.heap.size ≤ gb278)); clear HB; have HB := n0_; have BK278 := n1_; have GW278 := n2_; have GE278 := n3_; clear n0_ n1_ n2_ n3_; clear hb hbox hg; have hcz9_0 : w8.cell? ⟨gb278, 0, none⟩ = some (.string a1_0) := (blk_cell BK278.out 0).trans rfl; have hcz9_1 : w8.cell? ⟨gb278, 1, none⟩ = some (.slice A1_1 l1_1.length c1_1) := (blk_cell BK278.out 1).trans rfl; have hcz9_2 : w8.cell? ⟨gb278, 2, none⟩ = some (.slice A1_2 l1_2.length c1_2) := (blk_cell BK278.out 2).trans rfl; have hcz9_3 : w8.cell? ⟨gb278, 3, none⟩ = some (.slice A1_3 l1_3.length c1_3) := (blk_cell BK278.out 3).trans rfl; have hcz9_4 : w8.cell? ⟨gb278, 4, none⟩ = some (.slice A1_4 l1_4.length c1_4) := (blk_cell BK278.out 4).trans rfl; have hfz9_0 := blk_frozen BK278.out 0; have hfz9_1 := blk_frozen BK278.out 1; have hfz9_2 := blk_frozen BK278.out 2; have hfz9_3 := blk_frozen BK278.out 3; have hfz9_4 := blk_frozen BK278.out 4) | ((with_reducible refine gate_callee (f := 12) rfl ?_); refine goesL_ (some 14) rfl rfl Try.func12 (by kernel_rfl) rfl #[.slice A0 l0.length c0, .agg #[.string a1_0, .slice A1_1 l1_1.length c1_1, .slice A1_2 l1_2.length c1_2, .slice A1_3 l1_3.length c1_3, .slice A1_4 l1_4.length c1_4]] rfl mT ?_; (with_reducible refine (r40_Check.calls k _ _ l0 a1_0 _ _ l1_1 _ _ l1_2 _ _ l1_3 _ _ l1_4 t279 _ ?side1 ?side2 ?side3 ?side4 ?side5 ?side6 ?side7 ?side8 ?side9 ?side10 A5.out).mono ?_); (case side1 => exact cB HR0.out HB.out); (case side2 => exact HC0.out); (case side3 => exact cB HR1_1.out HB.out); (case side4 => exact HC1_1.out); (case side5 => exact cB HR1_2.out HB.out); (case side6 => exact HC1_2.out); (case side7 => exact cB HR1_3.out HB.out); (case side8 => exact HC1_3.out); (case side9 => exact cB HR1_4.out HB.out); (case side10 => exact HC1_4.out); rintro e w10 ⟨rfl, hb⟩; refine ⟨_, rfl, ?_⟩; have n0_ := aM (kW BK278.out hb); have n1_ := aM (below_step (bB1 HB.out GE278.out) hb); clear BK278; clear HB; have BK278 := n0_; have HB := n1_; clear n0_ n1_; (try clear hb); (try clear hb2); (try clear hk); (try clear hi)))
  (try simp only [Act.put, List.setIfInBounds_toArray, List.set_cons_zero, List.set_cons_succ])
  go_cut [25] (fun v25 wc => ∃ (kq : Nat) (x25_6 : Bool), v25 = .bool x25_6 ∧ Aside0 (r40_CheckTerms.j0 kq l0 a2 l3 x25_6 a1_0 l1_1 l1_2 l1_3 l1_4 = some r) ∧ Aside0 (kq ≤ k) ∧ Aside0 (wc.heap[gb278]? = some (.cells #[.string a1_0, (.slice A1_1 l1_1.length c1_1), (.slice A1_2 l1_2.length c1_2), (.slice A1_3 l1_3.length c1_3), (.slice A1_4 l1_4.length c1_4)] 27 (0, 0))) ∧ Aside0 (Below w.heap.size w wc))
  case first =>
   have H := HC7.out; clear HC7
   by_cases c11 : a2 < 0
   ·rw [if_pos c11] at H
    have c11b0 : decide (a2 < 0) = true := decide_eq_true c11; clear c11
    (first | rw [c11b0] | (simp only [i64_w, i32_w]; rw [c11b0]) | skip)
    have H' := aM H
    clear H
    go_wp2
    go_meet
    case rel => exact ⟨_, (true), eT, H', ⟨by first | omega | exact Nat.le_refl _⟩, ⟨kB BK278.out⟩, ⟨bB1 HB.out GE278.out⟩⟩
   ·rw [if_neg c11] at H
    have c11b0 : decide (a2 < 0) = false := decide_eq_false c11; clear c11
    (first | rw [c11b0] | (simp only [i64_w, i32_w]; rw [c11b0]) | skip)
    have H' := aM H
    clear H
    go_wp2
    go_meet
    case rel => exact ⟨_, (decide (a2 ≥ (l0.length : Int))), eT, H', ⟨by first | omega | exact Nat.le_refl _⟩, ⟨kB BK278.out⟩, ⟨bB1 HB.out GE278.out⟩⟩
  case rest =>
   clear HC7; obtain ⟨kq, x25_6, rfl, HA, HJ6, BK278, HB⟩ := hcut
   cases kq with
   | zero => exact absurd HA.out (by simp [r40_CheckTerms.j0])
   | succ kj6 =>
    have H := HA.out; clear HA
    simp only [r40_CheckTerms.j0] at H
    by_cases c12 : x25_6 = true
    ·subst c12
     have H1 : (some 1) = some r := by rw [if_pos rfl] at H; exact H
     clear H; have H := H1; clear H1
     obtain rfl := Option.some.inj H
     go_wp2
     go_ret
     exact ⟨rT, bB1 HB.out GE278.out⟩
    ·replace c12 := Bool.eq_false_iff.mpr c12
     subst c12
     have H1 : (r40_CheckTerms.l0 kj6 l0 a2 l3 0 a1_0 l1_1 l1_2 l1_3 l1_4) = some r := by rw [if_neg (show ¬ (false = true) by decide)] at H; exact H
     clear H; have H := H1; clear H1
     have H' := aM H
     clear H
     go_wp2
     go_loopg [10] kj6 (fun kq v10 w' => ∃ (x10_2 : Int), v10 = .int .i64 x10_2 ∧ Aside0 (r40_CheckTerms.l0 kq l0 a2 l3 x10_2 a1_0 l1_1 l1_2 l1_3 l1_4 = some r) ∧ Aside0 (kq ≤ kj6) ∧ Aside0 (w'.heap[gb278]? = some (.cells #[.string a1_0, (.slice A1_1 l1_1.length c1_1), (.slice A1_2 l1_2.length c1_2), (.slice A1_3 l1_3.length c1_3), (.slice A1_4 l1_4.length c1_4)] 27 (0, 0))) ∧ Aside0 (Below w.heap.size w w'))
     case atStart => exact ⟨(0), eT, H', ⟨Nat.le_refl _⟩, ⟨kB BK278.out⟩, ⟨bB1 HB.out GE278.out⟩⟩
     case round =>
      clear H'; obtain ⟨x10_2, rfl, HA, HK2, BK278, HB⟩ := hrel
      cases gk with
      | zero => exact absurd HA.out (by simp [r40_CheckTerms.l0])
      | succ k2 =>
       have H := HA.out; clear HA
       simp only [r40_CheckTerms.l0] at H
       by_cases c13 : x10_2 < (l3.length : Int)
       ·rw [if_pos c13] at H
        have c13b0 : decide (x10_2 < (l3.length : Int)) = true := decide_eq_true c13; clear c13
        by_cases c14 : 0 ≤ x10_2
        ·rw [if_pos c14] at H
         have c14b0 : decide (0 ≤ x10_2) = true := decide_eq_true c14; clear c14; replace H := Option.bind_eq_some_iff.mp H; obtain ⟨t281, A150, H⟩ := H
         replace H : (if t281 = 0 then (r40_CheckTerms.l0 k2 l0 a2 l3 (wrap64 (x10_2 + 1)) a1_0 l1_1 l1_2 l1_3 l1_4) else (some t281)) = some r := H
         have A15 := aM A150; clear A150
         by_cases c16 : t281 = 0
         ·rw [if_pos c16] at H
          have c16b0 : (t281 == 0) = true := beq_iff_eq.mpr c16; have c16b1 : (t281 != 0) = false := bne_eq_false_iff_eq.mpr c16; clear c16
          have H' := aM H
          clear H
          try go_wp2
          have n0_ := aM (blk_drew BK278.out); have n1_ := aM (below_drew1 HB.out); clear BK278; clear HB; have BK278 := n0_; have HB := n1_; clear n0_ n1_; have p280 : 0 ≤ (x10_2 : Int) := dT; have q280 : x10_2 < (l3.length : Int) := dT; obtain ⟨ad280, e280, hx280_0, hx280_1, hx280_2⟩ := at_T54 HR3.out x10_2 p280 q280; have hw280_2 := hx280_2; have hw280_1 := hx280_1; have hw280_0 := hx280_0; cases e280; replace hx280_0 := (HB.out.cell (World.block_lt_of_cell? w _ hx280_0)).trans hx280_0; replace hx280_1 := (HB.out.cell (World.block_lt_of_cell? w _ hx280_1)).trans hx280_1; replace hx280_2 := (HB.out.cell (World.block_lt_of_cell? w _ hx280_2)).trans hx280_2; replace p280 := eq_true p280; replace q280 := eq_true q280
          refine start_ (n := 9) (S := fun w' => w'.cell? ⟨gb278, 0, none⟩ = some (.string a1_0) ∧ w'.cell? ⟨gb278, 1, none⟩ = some (.slice A1_1 l1_1.length c1_1) ∧ w'.cell? ⟨gb278, 2, none⟩ = some (.slice A1_2 l1_2.length c1_2) ∧ w'.cell? ⟨gb278, 3, none⟩ = some (.slice A1_3 l1_3.length c1_3) ∧ w'.cell? ⟨gb278, 4, none⟩ = some (.slice A1_4 l1_4.length c1_4) ∧ w'.cell? (ad280.add ((x10_2).toNat * 3)) = some (.int .i64 ((rd_T54 l3 x10_2).f0)) ∧ w'.cell? ⟨(ad280.add ((x10_2).toNat * 3)).block, (ad280.add ((x10_2).toNat * 3)).off + 1, none⟩ = some (.int .i64 ((rd_T54 l3 x10_2).f1)) ∧ w'.cell? ⟨(ad280.add ((x10_2).toNat * 3)).block, (ad280.add ((x10_2).toNat * 3)).off + 2, none⟩ = some (.int .i64 ((rd_T54 l3 x10_2).f2))) (ds := []) #[false, false, false, false, false, false, false, false, false] (by kernel_rfl) rfl rfl ⟨(blk_cell BK278.out 0).trans rfl, (blk_cell BK278.out 1).trans rfl, (blk_cell BK278.out 2).trans rfl, (blk_cell BK278.out 3).trans rfl, (blk_cell BK278.out 4).trans rfl, ((HB.out.cell (World.block_lt_of_cell? w _ hw280_0)).trans hw280_0), ((HB.out.cell (World.block_lt_of_cell? w _ hw280_1)).trans hw280_1), ((HB.out.cell (World.block_lt_of_cell? w _ hw280_2)).trans hw280_2)⟩ (fun hHeld => ?_); refine with_tabW r40_CheckTerms.tab9 r40_CheckTerms.bits9 (fun HT_ HW_ => ?_)
          generalize wr.drew = w17 at BK278 HB hx280_0 hx280_1 hx280_2 hHeld ⊢
          refine pure_ (i := 0) (N := some 32) (v := ?_) (a' := ?_) #[true, false, false, false, false, false, false, false, false] rfl rfl (any_of HT_.out (by kernel_rfl)) (fun _ _ _ h => h) (Or.inl ⟨by rfl, ?_⟩) ?_ ?_; rotate_left; exact qT; rotate_left; exact pT
          refine pure_ (i := 2) (N := some 34) (v := ?_) (a' := ?_) #[true, false, true, false, false, false, false, false, false] rfl rfl (any_of HT_.out (by kernel_rfl)) (fun _ _ _ h => h) (Or.inl ⟨by rfl, ?_⟩) ?_ ?_; rotate_left; exact qT; rotate_left; exact pT
          refine pure_ (i := 3) (N := some 35) (v := ?_) (a' := ?_) #[true, false, true, true, false, false, false, false, false] rfl rfl (any_of HT_.out (by kernel_rfl)) (fun _ _ _ h => h) (Or.inl ⟨by rfl, ?_⟩) ?_ ?_; rotate_left; exact qT; rotate_left; exact pT
          refine pure_ (i := 4) (N := some 36) (v := ?_) (a' := ?_) #[true, false, true, true, true, false, false, false, false] rfl rfl (any_of HT_.out (by kernel_rfl)) (fun _ _ _ h => h) (Or.inl ⟨by rfl, ?_⟩) ?_ ?_; rotate_left; exact qT; rotate_left; exact pT
          refine pure_ (i := 5) (N := some 37) (v := ?_) (a' := ?_) #[true, false, true, true, true, true, false, false, false] rfl rfl (any_of HT_.out (by kernel_rfl)) (fun _ _ _ h => h) (Or.inl ⟨by rfl, ?_⟩) ?_ ?_; rotate_left; exact qT; rotate_left; exact pT
          refine take_ (i := 1) (N := some 33) (v := ?_) (a' := ?_) #[true, true, true, true, true, true, false, false, false] rfl rfl (take_ofW HT_.out HW_.out (by kernel_rfl)) (fun _ _ _ h => h) (Or.inl ⟨by rfl, ?_⟩) hHeld ?_ ?_; rotate_left; rintro w' ⟨s0, s1, s2, s3, s4, s5, s6, s7⟩; go_simp; with_reducible rfl; rotate_left; exact pT
          refine take_ (i := 6) (N := some 38) (v := ?_) (a' := ?_) #[true, true, true, true, true, true, true, false, false] rfl rfl (take_ofW HT_.out HW_.out (by kernel_rfl)) (fun _ _ _ h => h) (Or.inl ⟨by rfl, ?_⟩) hHeld ?_ ?_; rotate_left; rintro w' ⟨s0, s1, s2, s3, s4, s5, s6, s7⟩; go_simp; with_reducible rfl; rotate_left; exact pT
          refine one_ (i := 7) (N := some 39) #[true, true, true, true, true, true, true, true, false] rfl rfl (one_of HT_.out (by kernel_rfl)) (by decide) (fun K hK => ?_)
          refine goes_ Try.func36 (by kernel_rfl) rfl #[.slice A0 l0.length c0, .agg #[.string a1_0, .slice A1_1 l1_1.length c1_1, .slice A1_2 l1_2.length c1_2, .slice A1_3 l1_3.length c1_3, .slice A1_4 l1_4.length c1_4], .int .i64 a2, .agg #[.int .i64 ((rd_T54 l3 x10_2).f0), .int .i64 ((rd_T54 l3 x10_2).f1), .int .i64 ((rd_T54 l3 x10_2).f2)]] (by rfl) rfl rfl mT ?_
          with_reducible refine (r40_term.calls k2 _ _ l0 a1_0 _ _ l1_1 _ _ l1_2 _ _ l1_3 _ _ l1_4 a2 ((rd_T54 l3 x10_2).f0) ((rd_T54 l3 x10_2).f1) ((rd_T54 l3 x10_2).f2) t281 _ ?side1 ?side2 ?side3 ?side4 ?side5 ?side6 ?side7 ?side8 ?side9 ?side10 A15.out).mono ?_
          (case side1 => exact cB HR0.out HB.out)
          (case side2 => exact HC0.out)
          (case side3 => exact cB HR1_1.out HB.out)
          (case side4 => exact HC1_1.out)
          (case side5 => exact cB HR1_2.out HB.out)
          (case side6 => exact HC1_2.out)
          (case side7 => exact cB HR1_3.out HB.out)
          (case side8 => exact HC1_3.out)
          (case side9 => exact cB HR1_4.out HB.out)
          (case side10 => exact HC1_4.out)
          rintro e w18 ⟨rfl, hb⟩
          refine ⟨_, rfl, ?_⟩
          have n0_ := aM (kW BK278.out hb); have n1_ := aM (below_step (bB1 HB.out GE278.out) hb); clear BK278; clear HB; have BK278 := n0_; have HB := n1_; clear n0_ n1_
          (try clear hb)
          (try clear hb2)
          (try clear hk)
          (try clear hi)
          refine hK.out _ _ ⟨(blk_cell BK278.out 0).trans rfl, (blk_cell BK278.out 1).trans rfl, (blk_cell BK278.out 2).trans rfl, (blk_cell BK278.out 3).trans rfl, (blk_cell BK278.out 4).trans rfl, ((HB.out.cell (World.block_lt_of_cell? w _ hw280_0)).trans hw280_0), ((HB.out.cell (World.block_lt_of_cell? w _ hw280_1)).trans hw280_1), ((HB.out.cell (World.block_lt_of_cell? w _ hw280_2)).trans hw280_2)⟩ (fun hHeld => ?_)
          clear hK K
          refine norm_ (a' := ?_) ?_ ?_
          rotate_left
          ·show Act.put _ (some 39) _ = _
           simp only [Act.put, List.setIfInBounds_toArray, List.set_cons_zero, List.set_cons_succ, i64_w, i32_w]
           rfl
          refine pure_ (i := 8) (N := some 11) (v := ?_) (a' := ?_) #[true, true, true, true, true, true, true, true, true] rfl rfl (any_of HT_.out (by kernel_rfl)) (fun _ _ _ h => h) (Or.inl ⟨by rfl, ?_⟩) ?_ ?_; rotate_left; exact qT; rotate_left; exact pT
          refine done_ (done_of HT_.out (by kernel_rfl)) ?_
          try go_wp2
          go_roundg k2
          case measure => have := HJ6.out; have := HK2.out; omega
          case rel => exact ⟨(wrap64 (x10_2 + 1)), eT, H', ⟨by have := HJ6.out; have := HK2.out; omega⟩, ⟨kB BK278.out⟩, ⟨bB1 HB.out GE278.out⟩⟩
         ·rw [if_neg c16] at H
          have c16b0 : (t281 == 0) = false := beq_eq_false_iff_ne.mpr c16; have c16b1 : (t281 != 0) = true := bne_iff_ne.mpr c16
          obtain rfl := Option.some.inj H
          try go_wp2
          have n0_ := aM (blk_drew BK278.out); have n1_ := aM (below_drew1 HB.out); clear BK278; clear HB; have BK278 := n0_; have HB := n1_; clear n0_ n1_; have p280 : 0 ≤ (x10_2 : Int) := dT; have q280 : x10_2 < (l3.length : Int) := dT; obtain ⟨ad280, e280, hx280_0, hx280_1, hx280_2⟩ := at_T54 HR3.out x10_2 p280 q280; have hw280_2 := hx280_2; have hw280_1 := hx280_1; have hw280_0 := hx280_0; cases e280; replace hx280_0 := (HB.out.cell (World.block_lt_of_cell? w _ hx280_0)).trans hx280_0; replace hx280_1 := (HB.out.cell (World.block_lt_of_cell? w _ hx280_1)).trans hx280_1; replace hx280_2 := (HB.out.cell (World.block_lt_of_cell? w _ hx280_2)).trans hx280_2; replace p280 := eq_true p280; replace q280 := eq_true q280
          refine start_ (n := 9) (S := fun w' => w'.cell? ⟨gb278, 0, none⟩ = some (.string a1_0) ∧ w'.cell? ⟨gb278, 1, none⟩ = some (.slice A1_1 l1_1.length c1_1) ∧ w'.cell? ⟨gb278, 2, none⟩ = some (.slice A1_2 l1_2.length c1_2) ∧ w'.cell? ⟨gb278, 3, none⟩ = some (.slice A1_3 l1_3.length c1_3) ∧ w'.cell? ⟨gb278, 4, none⟩ = some (.slice A1_4 l1_4.length c1_4) ∧ w'.cell? (ad280.add ((x10_2).toNat * 3)) = some (.int .i64 ((rd_T54 l3 x10_2).f0)) ∧ w'.cell? ⟨(ad280.add ((x10_2).toNat * 3)).block, (ad280.add ((x10_2).toNat * 3)).off + 1, none⟩ = some (.int .i64 ((rd_T54 l3 x10_2).f1)) ∧ w'.cell? ⟨(ad280.add ((x10_2).toNat * 3)).block, (ad280.add ((x10_2).toNat * 3)).off + 2, none⟩ = some (.int .i64 ((rd_T54 l3 x10_2).f2))) (ds := []) #[false, false, false, false, false, false, false, false, false] (by kernel_rfl) rfl rfl ⟨(blk_cell BK278.out 0).trans rfl, (blk_cell BK278.out 1).trans rfl, (blk_cell BK278.out 2).trans rfl, (blk_cell BK278.out 3).trans rfl, (blk_cell BK278.out 4).trans rfl, ((HB.out.cell (World.block_lt_of_cell? w _ hw280_0)).trans hw280_0), ((HB.out.cell (World.block_lt_of_cell? w _ hw280_1)).trans hw280_1), ((HB.out.cell (World.block_lt_of_cell? w _ hw280_2)).trans hw280_2)⟩ (fun hHeld => ?_); refine with_tabW r40_CheckTerms.tab9 r40_CheckTerms.bits9 (fun HT_ HW_ => ?_)
          generalize wr.drew = w19 at BK278 HB hx280_0 hx280_1 hx280_2 hHeld ⊢
          refine pure_ (i := 0) (N := some 32) (v := ?_) (a' := ?_) #[true, false, false, false, false, false, false, false, false] rfl rfl (any_of HT_.out (by kernel_rfl)) (fun _ _ _ h => h) (Or.inl ⟨by rfl, ?_⟩) ?_ ?_; rotate_left; exact qT; rotate_left; exact pT
          refine pure_ (i := 2) (N := some 34) (v := ?_) (a' := ?_) #[true, false, true, false, false, false, false, false, false] rfl rfl (any_of HT_.out (by kernel_rfl)) (fun _ _ _ h => h) (Or.inl ⟨by rfl, ?_⟩) ?_ ?_; rotate_left; exact qT; rotate_left; exact pT
          refine pure_ (i := 3) (N := some 35) (v := ?_) (a' := ?_) #[true, false, true, true, false, false, false, false, false] rfl rfl (any_of HT_.out (by kernel_rfl)) (fun _ _ _ h => h) (Or.inl ⟨by rfl, ?_⟩) ?_ ?_; rotate_left; exact qT; rotate_left; exact pT
          refine pure_ (i := 4) (N := some 36) (v := ?_) (a' := ?_) #[true, false, true, true, true, false, false, false, false] rfl rfl (any_of HT_.out (by kernel_rfl)) (fun _ _ _ h => h) (Or.inl ⟨by rfl, ?_⟩) ?_ ?_; rotate_left; exact qT; rotate_left; exact pT
          refine pure_ (i := 5) (N := some 37) (v := ?_) (a' := ?_) #[true, false, true, true, true, true, false, false, false] rfl rfl (any_of HT_.out (by kernel_rfl)) (fun _ _ _ h => h) (Or.inl ⟨by rfl, ?_⟩) ?_ ?_; rotate_left; exact qT; rotate_left; exact pT
          refine take_ (i := 1) (N := some 33) (v := ?_) (a' := ?_) #[true, true, true, true, true, true, false, false, false] rfl rfl (take_ofW HT_.out HW_.out (by kernel_rfl)) (fun _ _ _ h => h) (Or.inl ⟨by rfl, ?_⟩) hHeld ?_ ?_; rotate_left; rintro w' ⟨s0, s1, s2, s3, s4, s5, s6, s7⟩; go_simp; with_reducible rfl; rotate_left; exact pT
          refine take_ (i := 6) (N := some 38) (v := ?_) (a' := ?_) #[true, true, true, true, true, true, true, false, false] rfl rfl (take_ofW HT_.out HW_.out (by kernel_rfl)) (fun _ _ _ h => h) (Or.inl ⟨by rfl, ?_⟩) hHeld ?_ ?_; rotate_left; rintro w' ⟨s0, s1, s2, s3, s4, s5, s6, s7⟩; go_simp; with_reducible rfl; rotate_left; exact pT
          refine one_ (i := 7) (N := some 39) #[true, true, true, true, true, true, true, true, false] rfl rfl (one_of HT_.out (by kernel_rfl)) (by decide) (fun K hK => ?_)
          refine goes_ Try.func36 (by kernel_rfl) rfl #[.slice A0 l0.length c0, .agg #[.string a1_0, .slice A1_1 l1_1.length c1_1, .slice A1_2 l1_2.length c1_2, .slice A1_3 l1_3.length c1_3, .slice A1_4 l1_4.length c1_4], .int .i64 a2, .agg #[.int .i64 ((rd_T54 l3 x10_2).f0), .int .i64 ((rd_T54 l3 x10_2).f1), .int .i64 ((rd_T54 l3 x10_2).f2)]] (by rfl) rfl rfl mT ?_
          with_reducible refine (r40_term.calls k2 _ _ l0 a1_0 _ _ l1_1 _ _ l1_2 _ _ l1_3 _ _ l1_4 a2 ((rd_T54 l3 x10_2).f0) ((rd_T54 l3 x10_2).f1) ((rd_T54 l3 x10_2).f2) t281 _ ?side1 ?side2 ?side3 ?side4 ?side5 ?side6 ?side7 ?side8 ?side9 ?side10 A15.out).mono ?_
          (case side1 => exact cB HR0.out HB.out)
          (case side2 => exact HC0.out)
          (case side3 => exact cB HR1_1.out HB.out)
          (case side4 => exact HC1_1.out)
          (case side5 => exact cB HR1_2.out HB.out)
          (case side6 => exact HC1_2.out)
          (case side7 => exact cB HR1_3.out HB.out)
          (case side8 => exact HC1_3.out)
          (case side9 => exact cB HR1_4.out HB.out)
          (case side10 => exact HC1_4.out)
          rintro e w20 ⟨rfl, hb⟩
          refine ⟨_, rfl, ?_⟩
          have n0_ := aM (kW BK278.out hb); have n1_ := aM (below_step (bB1 HB.out GE278.out) hb); clear BK278; clear HB; have BK278 := n0_; have HB := n1_; clear n0_ n1_
          (try clear hb)
          (try clear hb2)
          (try clear hk)
          (try clear hi)
          refine hK.out _ _ ⟨(blk_cell BK278.out 0).trans rfl, (blk_cell BK278.out 1).trans rfl, (blk_cell BK278.out 2).trans rfl, (blk_cell BK278.out 3).trans rfl, (blk_cell BK278.out 4).trans rfl, ((HB.out.cell (World.block_lt_of_cell? w _ hw280_0)).trans hw280_0), ((HB.out.cell (World.block_lt_of_cell? w _ hw280_1)).trans hw280_1), ((HB.out.cell (World.block_lt_of_cell? w _ hw280_2)).trans hw280_2)⟩ (fun hHeld => ?_)
          clear hK K
          refine norm_ (a' := ?_) ?_ ?_
          rotate_left
          ·show Act.put _ (some 39) _ = _
           simp only [Act.put, List.setIfInBounds_toArray, List.set_cons_zero, List.set_cons_succ, i64_w, i32_w]
           rfl
          refine pure_ (i := 8) (N := some 11) (v := ?_) (a' := ?_) #[true, true, true, true, true, true, true, true, true] rfl rfl (any_of HT_.out (by kernel_rfl)) (fun _ _ _ h => h) (Or.inl ⟨by rfl, ?_⟩) ?_ ?_; rotate_left; exact qT; rotate_left; exact pT
          refine done_ (done_of HT_.out (by kernel_rfl)) ?_
          try go_wp2
          go_ret
          exact ⟨rT, bB1 HB.out GE278.out⟩
        ·rw [if_neg c14] at H
         exact absurd H (by simp)
       ·rw [if_neg c13] at H
        have c13b0 : decide (x10_2 < (l3.length : Int)) = false := decide_eq_false c13; clear c13
        obtain rfl := Option.some.inj H
        go_wp2
        go_ret
        exact ⟨rT, bB1 HB.out GE278.out⟩
 ·rw [if_neg c6] at H
  have c6b0 : (t279 == 0) = false := beq_eq_false_iff_ne.mpr c6; have c6b1 : (t279 != 0) = true := bne_iff_ne.mpr c6
  obtain rfl := Option.some.inj H
  go_enter Try.func14, Try.ntmps14
  go_wp2_with (first | ((with_reducible refine gate_dst (N := 5) rfl ?_); (try (refine gate_guard (by rfl) ?_; dsimp only)); refine box_event ?hg (N := 5) ?hd (cs := #[.string a1_0, .slice A1_1 l1_1.length c1_1, .slice A1_2 l1_2.length c1_2, .slice A1_3 l1_3.length c1_3, .slice A1_4 l1_4.length c1_4]) (t := 27) ?hr ?_; (case hd => rfl); (case hg => rfl); (case hr => first | (go_simp; done) | (go_simp; rfl)); intro gb278 hg w21 hbox hb; have n0_ := aM (below_step (bB HB.out) hb); have n1_ := aM (hbox); have n2_ := aM ((by rw [hg]; exact (below_size (bB HB.out)) : w.heap.size ≤ gb278)); have n3_ := aM ((by rw [hg]; exact (below_size (bB HB.out)) : w.heap.size ≤ gb278)); clear HB; have HB := n0_; have BK278 := n1_; have GW278 := n2_; have GE278 := n3_; clear n0_ n1_ n2_ n3_; clear hb hbox hg; have hcz22_0 : w21.cell? ⟨gb278, 0, none⟩ = some (.string a1_0) := (blk_cell BK278.out 0).trans rfl; have hcz22_1 : w21.cell? ⟨gb278, 1, none⟩ = some (.slice A1_1 l1_1.length c1_1) := (blk_cell BK278.out 1).trans rfl; have hcz22_2 : w21.cell? ⟨gb278, 2, none⟩ = some (.slice A1_2 l1_2.length c1_2) := (blk_cell BK278.out 2).trans rfl; have hcz22_3 : w21.cell? ⟨gb278, 3, none⟩ = some (.slice A1_3 l1_3.length c1_3) := (blk_cell BK278.out 3).trans rfl; have hcz22_4 : w21.cell? ⟨gb278, 4, none⟩ = some (.slice A1_4 l1_4.length c1_4) := (blk_cell BK278.out 4).trans rfl; have hfz22_0 := blk_frozen BK278.out 0; have hfz22_1 := blk_frozen BK278.out 1; have hfz22_2 := blk_frozen BK278.out 2; have hfz22_3 := blk_frozen BK278.out 3; have hfz22_4 := blk_frozen BK278.out 4) | ((with_reducible refine gate_callee (f := 12) rfl ?_); refine goesL_ (some 14) rfl rfl Try.func12 (by kernel_rfl) rfl #[.slice A0 l0.length c0, .agg #[.string a1_0, .slice A1_1 l1_1.length c1_1, .slice A1_2 l1_2.length c1_2, .slice A1_3 l1_3.length c1_3, .slice A1_4 l1_4.length c1_4]] rfl mT ?_; (with_reducible refine (r40_Check.calls k _ _ l0 a1_0 _ _ l1_1 _ _ l1_2 _ _ l1_3 _ _ l1_4 t279 _ ?side1 ?side2 ?side3 ?side4 ?side5 ?side6 ?side7 ?side8 ?side9 ?side10 A5.out).mono ?_); (case side1 => exact cB HR0.out HB.out); (case side2 => exact HC0.out); (case side3 => exact cB HR1_1.out HB.out); (case side4 => exact HC1_1.out); (case side5 => exact cB HR1_2.out HB.out); (case side6 => exact HC1_2.out); (case side7 => exact cB HR1_3.out HB.out); (case side8 => exact HC1_3.out); (case side9 => exact cB HR1_4.out HB.out); (case side10 => exact HC1_4.out); rintro e w23 ⟨rfl, hb⟩; refine ⟨_, rfl, ?_⟩; have n0_ := aM (kW BK278.out hb); have n1_ := aM (below_step (bB1 HB.out GE278.out) hb); clear BK278; clear HB; have BK278 := n0_; have HB := n1_; clear n0_ n1_; (try clear hb); (try clear hb2); (try clear hk); (try clear hi)))
  go_ret
  exact ⟨rT, bB1 HB.out GE278.out⟩




/-! ### r40_Bound: function 40 -/
def r40_Bound.l0 : Nat → List (S51) → List Int → Int → ByteArray → List (S48) → List (S62) → List (S111) → List (S111) → Option (Bool)
 | 0, _, _, _, _, _, _, _, _ => none
 | k + 1, x0, x2, x7, x292000, x292001, x292002, x292003, x292004 => if x7 < (x2.length : Int) then (if 0 ≤ x7 then (if (rd x2 x7) < 0 then (some false) else (if x7 < (x292001.length : Int) then (if 0 ≤ ((rd_T48 x292001 x7).f1) then (if ((rd_T48 x292001 x7).f1) < (x0.length : Int) then (if (rd x2 x7) ≥ (((rd_T51 x0 ((rd_T48 x292001 x7).f1)).f1).length : Int) then (some false) else (r40_Bound.l0 k x0 x2 (wrap64 (x7 + 1)) x292000 x292001 x292002 x292003 x292004)) else (none)) else (none)) else (none))) else (none)) else (some true)
def r40_Bound.f (k : Nat) (l0 : List (S51)) (a1_0 : ByteArray) (l1_1 : List (S48)) (l1_2 : List (S62)) (l1_3 : List (S111)) (l1_4 : List (S111)) (l2 : List Int) : Option (Bool) := if (l2.length : Int) = (l1_1.length : Int) then (r40_Bound.l0 k l0 l2 0 a1_0 l1_1 l1_2 l1_3 l1_4) else (some false)
theorem r40_Bound.mono_l : ∀ k, (∀ y0 y1 y2 y3 y4 y5 y6 y7, LeO (r40_Bound.l0 k y0 y1 y2 y3 y4 y5 y6 y7) (r40_Bound.l0 (k + 1) y0 y1 y2 y3 y4 y5 y6 y7))
 | 0 => fun _ _ _ _ _ _ _ _ r h => by simp [r40_Bound.l0] at h
 | k + 1 => by
  have ih0 := r40_Bound.mono_l k
  ·intro y0 y1 y2 y3 y4 y5 y6 y7
   unfold r40_Bound.l0
   repeat' first
   | (with_reducible first | exact ih0 _ _ _ _ _ _ _ _ | exact LeO.refl _ | exact LeO.none _ | refine LeO.ite ?_ ?_ | refine LeO.bind ?_ (fun _ => ?_))
   | exact LeO.none _
   | refine LeO.ite ?_ ?_
   | refine LeO.bind ?_ (fun _ => ?_)
theorem r40_Bound.mono : ∀ a0 a1 a2 a3 a4 a5 a6 k, LeO (r40_Bound.f k a0 a1 a2 a3 a4 a5 a6) (r40_Bound.f (k + 1) a0 a1 a2 a3 a4 a5 a6) := by
 intro a0 a1 a2 a3 a4 a5 a6 k
 have ih0 := r40_Bound.mono_l k
 unfold r40_Bound.f
 repeat' first
   | (with_reducible first | exact ih0 _ _ _ _ _ _ _ _ | exact LeO.refl _ | exact LeO.none _ | refine LeO.ite ?_ ?_ | refine LeO.bind ?_ (fun _ => ?_))
   | exact LeO.none _
   | refine LeO.ite ?_ ?_
   | refine LeO.bind ?_ (fun _ => ?_)
set_option maxHeartbeats 8000000 in
set_option maxRecDepth 100000 in
theorem r40_Bound.calls (k : Nat) (A0 : Option Addr) (c0 : Nat) (l0 : List (S51)) (a1_0 : ByteArray) (A1_1 : Option Addr) (c1_1 : Nat) (l1_1 : List (S48)) (A1_2 : Option Addr) (c1_2 : Nat) (l1_2 : List (S62)) (A1_3 : Option Addr) (c1_3 : Nat) (l1_3 : List (S111)) (A1_4 : Option Addr) (c1_4 : Nat) (l1_4 : List (S111)) (A2 : Option Addr) (c2 : Nat) (l2 : List Int) (r : Bool) (w : World) (hr0 : Kd.C k51 w A0 l0.length l0) (hc0 : l0.length ≤ c0) (hr1_1 : Kd.C k48 w A1_1 l1_1.length l1_1) (hc1_1 : l1_1.length ≤ c1_1) (hr1_2 : Kd.C k62 w A1_2 l1_2.length l1_2) (hc1_2 : l1_2.length ≤ c1_2) (hr1_3 : Kd.C k111 w A1_3 l1_3.length l1_3) (hc1_3 : l1_3.length ≤ c1_3) (hr1_4 : Kd.C k111 w A1_4 l1_4.length l1_4) (hc1_4 : l1_4.length ≤ c1_4) (hr2 : Kd.C (Kd.int .i64) w A2 l2.length l2) (hc2 : l2.length ≤ c2) (h : r40_Bound.f k l0 a1_0 l1_1 l1_2 l1_3 l1_4 l2 = some r) :
  Calls Try.prog 40 #[.slice A0 l0.length c0, .agg #[.string a1_0, .slice A1_1 l1_1.length c1_1, .slice A1_2 l1_2.length c1_2, .slice A1_3 l1_3.length c1_3, .slice A1_4 l1_4.length c1_4], .slice A2 l2.length c2] w fun e w' => e = .returned (.bool r) ∧ Below w.heap.size w w' := by
 have hu27 := Try.underlying27; have hu9 := Try.underlying9; have hu23 := Try.underlying23; have hu24 := Try.underlying24; have hu25 := Try.underlying25; have HR0 := aM hr0; have HC0 := aM hc0; clear hr0 hc0; have HR1_1 := aM hr1_1; have HC1_1 := aM hc1_1; clear hr1_1 hc1_1; have HR1_2 := aM hr1_2; have HC1_2 := aM hc1_2; clear hr1_2 hc1_2; have HR1_3 := aM hr1_3; have HC1_3 := aM hc1_3; clear hr1_3 hc1_3; have HR1_4 := aM hr1_4; have HC1_4 := aM hc1_4; clear hr1_4 hc1_4; have HR2 := aM hr2; have HC2 := aM hc2; clear hr2 hc2; have HB := aM (Below.refl w.heap.size w); have H : (if (l2.length : Int) = (l1_1.length : Int) then (r40_Bound.l0 k l0 l2 0 a1_0 l1_1 l1_2 l1_3 l1_4) else (some false)) = some r := h; clear h
 by_cases c4 : (l2.length : Int) = (l1_1.length : Int)
 ·rw [if_pos c4] at H
  have c4b0 : ((l2.length : Int) == (l1_1.length : Int)) = true := beq_iff_eq.mpr c4; have c4b1 : ((l2.length : Int) != (l1_1.length : Int)) = false := bne_eq_false_iff_eq.mpr c4
  have c4b2 : (l2.length == l1_1.length) = true := by first | simpa using c4 | (simp at c4 ⊢; omega)
  clear c4
  have H' := aM H
  clear H
  go_enter Try.func40, Try.ntmps40
  go_wp2_with (first | ((with_reducible refine gate_dst (N := 4) rfl ?_); (try (refine gate_guard (by rfl) ?_; dsimp only)); refine box_event ?hg (N := 4) ?hd (cs := #[.string a1_0, .slice A1_1 l1_1.length c1_1, .slice A1_2 l1_2.length c1_2, .slice A1_3 l1_3.length c1_3, .slice A1_4 l1_4.length c1_4]) (t := 27) ?hr ?_; (case hd => rfl); (case hg => rfl); (case hr => first | (go_simp; done) | (go_simp; rfl)); intro gb291 hg w5 hbox hb; have n0_ := aM (below_step (bB HB.out) hb); have n1_ := aM (hbox); have n2_ := aM ((by rw [hg]; exact (below_size (bB HB.out)) : w.heap.size ≤ gb291)); have n3_ := aM ((by rw [hg]; exact (below_size (bB HB.out)) : w.heap.size ≤ gb291)); clear HB; have HB := n0_; have BK291 := n1_; have GW291 := n2_; have GE291 := n3_; clear n0_ n1_ n2_ n3_; clear hb hbox hg; have hcz6_0 : w5.cell? ⟨gb291, 0, none⟩ = some (.string a1_0) := (blk_cell BK291.out 0).trans rfl; have hcz6_1 : w5.cell? ⟨gb291, 1, none⟩ = some (.slice A1_1 l1_1.length c1_1) := (blk_cell BK291.out 1).trans rfl; have hcz6_2 : w5.cell? ⟨gb291, 2, none⟩ = some (.slice A1_2 l1_2.length c1_2) := (blk_cell BK291.out 2).trans rfl; have hcz6_3 : w5.cell? ⟨gb291, 3, none⟩ = some (.slice A1_3 l1_3.length c1_3) := (blk_cell BK291.out 3).trans rfl; have hcz6_4 : w5.cell? ⟨gb291, 4, none⟩ = some (.slice A1_4 l1_4.length c1_4) := (blk_cell BK291.out 4).trans rfl; have hfz6_0 := blk_frozen BK291.out 0; have hfz6_1 := blk_frozen BK291.out 1; have hfz6_2 := blk_frozen BK291.out 2; have hfz6_3 := blk_frozen BK291.out 3; have hfz6_4 := blk_frozen BK291.out 4))
  repeat (go_quiet (fail); try go_wp2)
  go_loopg [7] k (fun kq v7 w' => ∃ (x7_1 : Int), v7 = .int .i64 x7_1 ∧ Aside0 (r40_Bound.l0 kq l0 l2 x7_1 a1_0 l1_1 l1_2 l1_3 l1_4 = some r) ∧ Aside0 (kq ≤ k) ∧ Aside0 (w'.heap[gb291]? = some (.cells #[.string a1_0, (.slice A1_1 l1_1.length c1_1), (.slice A1_2 l1_2.length c1_2), (.slice A1_3 l1_3.length c1_3), (.slice A1_4 l1_4.length c1_4)] 27 (0, 0))) ∧ Aside0 (Below w.heap.size w w'))
  case atStart => exact ⟨(0), eT, H', ⟨Nat.le_refl _⟩, ⟨kB BK291.out⟩, ⟨bB1 HB.out GE291.out⟩⟩
  case round =>
   clear H'; obtain ⟨x7_1, rfl, HA, HK1, BK291, HB⟩ := hrel
   cases gk with
   | zero => exact absurd HA.out (by simp [r40_Bound.l0])
   | succ k1 =>
    have H := HA.out; clear HA
    simp only [r40_Bound.l0] at H
    by_cases c7 : x7_1 < (l2.length : Int)
    ·rw [if_pos c7] at H
     have c7b0 : decide (x7_1 < (l2.length : Int)) = true := decide_eq_true c7; clear c7
     by_cases c8 : 0 ≤ x7_1
     ·rw [if_pos c8] at H
      have c8b0 : decide (0 ≤ x7_1) = true := decide_eq_true c8; clear c8
      by_cases c9 : (rd l2 x7_1) < 0
      ·rw [if_pos c9] at H
       have c9b0 : decide ((rd l2 x7_1) < 0) = true := decide_eq_true c9; clear c9
       obtain rfl := Option.some.inj H
       have p292 : 0 ≤ (x7_1 : Int) := dT; have q292 : x7_1 < (l2.length : Int) := dT; obtain ⟨ad292, e292, hx292_0⟩ := Kd.at_int HR2.out x7_1 p292 q292; cases e292; replace hx292_0 := (HB.out.cell (World.block_lt_of_cell? w _ hx292_0)).trans hx292_0; replace p292 := eq_true p292; replace q292 := eq_true q292
       go_wp2
       repeat (go_quiet (fail); try go_wp2)
       go_ret
       exact ⟨rT, bB1 HB.out GE291.out⟩
      ·rw [if_neg c9] at H
       have c9b0 : decide ((rd l2 x7_1) < 0) = false := decide_eq_false c9; clear c9
       by_cases c10 : x7_1 < (l1_1.length : Int)
       ·rw [if_pos c10] at H
        have c10b0 : decide (x7_1 < (l1_1.length : Int)) = true := decide_eq_true c10; clear c10
        by_cases c11 : 0 ≤ ((rd_T48 l1_1 x7_1).f1)
        ·rw [if_pos c11] at H
         have c11b0 : decide (0 ≤ ((rd_T48 l1_1 x7_1).f1)) = true := decide_eq_true c11; clear c11
         by_cases c12 : ((rd_T48 l1_1 x7_1).f1) < (l0.length : Int)
         ·rw [if_pos c12] at H
          have c12b0 : decide (((rd_T48 l1_1 x7_1).f1) < (l0.length : Int)) = true := decide_eq_true c12; clear c12
          by_cases c13 : (rd l2 x7_1) ≥ (((rd_T51 l0 ((rd_T48 l1_1 x7_1).f1)).f1).length : Int)
          ·rw [if_pos c13] at H
           have c13b0 : decide ((((rd_T51 l0 ((rd_T48 l1_1 x7_1).f1)).f1).length : Int) ≤ (rd l2 x7_1)) = true := decide_eq_true c13; clear c13
           obtain rfl := Option.some.inj H
           have p292 : 0 ≤ (x7_1 : Int) := dT; have q292 : x7_1 < (l2.length : Int) := dT; obtain ⟨ad292, e292, hx292_0⟩ := Kd.at_int HR2.out x7_1 p292 q292; cases e292; replace hx292_0 := (HB.out.cell (World.block_lt_of_cell? w _ hx292_0)).trans hx292_0; replace p292 := eq_true p292; replace q292 := eq_true q292; have p293 : 0 ≤ (x7_1 : Int) := dT; have q293 : x7_1 < (l2.length : Int) := dT; obtain ⟨ad293, e293, hx293_0⟩ := Kd.at_int HR2.out x7_1 p293 q293; obtain rfl : ad292 = ad293 := (by injection e293); replace hx293_0 := (HB.out.cell (World.block_lt_of_cell? w _ hx293_0)).trans hx293_0; replace p293 := eq_true p293; replace q293 := eq_true q293
           have hcz14_0 : wr.cell? ⟨gb291, 0, none⟩ = some (.string a1_0) := (blk_cell BK291.out 0).trans rfl
           have hcz14_1 : wr.cell? ⟨gb291, 1, none⟩ = some (.slice A1_1 l1_1.length c1_1) := (blk_cell BK291.out 1).trans rfl
           have hcz14_2 : wr.cell? ⟨gb291, 2, none⟩ = some (.slice A1_2 l1_2.length c1_2) := (blk_cell BK291.out 2).trans rfl
           have hcz14_3 : wr.cell? ⟨gb291, 3, none⟩ = some (.slice A1_3 l1_3.length c1_3) := (blk_cell BK291.out 3).trans rfl
           have hcz14_4 : wr.cell? ⟨gb291, 4, none⟩ = some (.slice A1_4 l1_4.length c1_4) := (blk_cell BK291.out 4).trans rfl
           have hfz14_0 := blk_frozen BK291.out 0; have hfz14_1 := blk_frozen BK291.out 1; have hfz14_2 := blk_frozen BK291.out 2; have hfz14_3 := blk_frozen BK291.out 3; have hfz14_4 := blk_frozen BK291.out 4; have p294 : 0 ≤ (x7_1 : Int) := dT; have q294 : x7_1 < (l1_1.length : Int) := dT; obtain ⟨ad294, e294, hx294_0, hx294_1⟩ := at_T48 HR1_1.out x7_1 p294 q294; cases e294; replace hx294_0 := (HB.out.cell (World.block_lt_of_cell? w _ hx294_0)).trans hx294_0; replace hx294_1 := (HB.out.cell (World.block_lt_of_cell? w _ hx294_1)).trans hx294_1; replace p294 := eq_true p294; replace q294 := eq_true q294; have p295 : 0 ≤ (((rd_T48 l1_1 x7_1).f1) : Int) := dT; have q295 : ((rd_T48 l1_1 x7_1).f1) < (l0.length : Int) := dT; obtain ⟨ad295, A295_1, c295_1, e295, hx295_0, hx295_1, hl295_1, hi295_1⟩ := at_T51 HR0.out ((rd_T48 l1_1 x7_1).f1) p295 q295; cases e295; replace hx295_0 := (HB.out.cell (World.block_lt_of_cell? w _ hx295_0)).trans hx295_0; replace hx295_1 := (HB.out.cell (World.block_lt_of_cell? w _ hx295_1)).trans hx295_1; have HR295_1 := aM hi295_1; have HC295_1 := aM hl295_1; clear hi295_1 hl295_1; replace p295 := eq_true p295; replace q295 := eq_true q295
           go_wp2
           repeat (go_quiet (fail); try go_wp2)
           go_ret
           exact ⟨rT, bB1 HB.out GE291.out⟩
          ·rw [if_neg c13] at H
           have c13b0 : decide ((((rd_T51 l0 ((rd_T48 l1_1 x7_1).f1)).f1).length : Int) ≤ (rd l2 x7_1)) = false := decide_eq_false c13; clear c13
           have H' := aM H
           clear H; have p292 : 0 ≤ (x7_1 : Int) := dT; have q292 : x7_1 < (l2.length : Int) := dT; obtain ⟨ad292, e292, hx292_0⟩ := Kd.at_int HR2.out x7_1 p292 q292; cases e292; replace hx292_0 := (HB.out.cell (World.block_lt_of_cell? w _ hx292_0)).trans hx292_0; replace p292 := eq_true p292; replace q292 := eq_true q292; have p293 : 0 ≤ (x7_1 : Int) := dT; have q293 : x7_1 < (l2.length : Int) := dT; obtain ⟨ad293, e293, hx293_0⟩ := Kd.at_int HR2.out x7_1 p293 q293; obtain rfl : ad292 = ad293 := (by injection e293); replace hx293_0 := (HB.out.cell (World.block_lt_of_cell? w _ hx293_0)).trans hx293_0; replace p293 := eq_true p293; replace q293 := eq_true q293
           have hcz15_0 : wr.cell? ⟨gb291, 0, none⟩ = some (.string a1_0) := (blk_cell BK291.out 0).trans rfl
           have hcz15_1 : wr.cell? ⟨gb291, 1, none⟩ = some (.slice A1_1 l1_1.length c1_1) := (blk_cell BK291.out 1).trans rfl
           have hcz15_2 : wr.cell? ⟨gb291, 2, none⟩ = some (.slice A1_2 l1_2.length c1_2) := (blk_cell BK291.out 2).trans rfl
           have hcz15_3 : wr.cell? ⟨gb291, 3, none⟩ = some (.slice A1_3 l1_3.length c1_3) := (blk_cell BK291.out 3).trans rfl
           have hcz15_4 : wr.cell? ⟨gb291, 4, none⟩ = some (.slice A1_4 l1_4.length c1_4) := (blk_cell BK291.out 4).trans rfl
           have hfz15_0 := blk_frozen BK291.out 0; have hfz15_1 := blk_frozen BK291.out 1; have hfz15_2 := blk_frozen BK291.out 2; have hfz15_3 := blk_frozen BK291.out 3; have hfz15_4 := blk_frozen BK291.out 4; have p294 : 0 ≤ (x7_1 : Int) := dT; have q294 : x7_1 < (l1_1.length : Int) := dT; obtain ⟨ad294, e294, hx294_0, hx294_1⟩ := at_T48 HR1_1.out x7_1 p294 q294; cases e294; replace hx294_0 := (HB.out.cell (World.block_lt_of_cell? w _ hx294_0)).trans hx294_0; replace hx294_1 := (HB.out.cell (World.block_lt_of_cell? w _ hx294_1)).trans hx294_1; replace p294 := eq_true p294; replace q294 := eq_true q294; have p295 : 0 ≤ (((rd_T48 l1_1 x7_1).f1) : Int) := dT; have q295 : ((rd_T48 l1_1 x7_1).f1) < (l0.length : Int) := dT; obtain ⟨ad295, A295_1, c295_1, e295, hx295_0, hx295_1, hl295_1, hi295_1⟩ := at_T51 HR0.out ((rd_T48 l1_1 x7_1).f1) p295 q295; cases e295; replace hx295_0 := (HB.out.cell (World.block_lt_of_cell? w _ hx295_0)).trans hx295_0; replace hx295_1 := (HB.out.cell (World.block_lt_of_cell? w _ hx295_1)).trans hx295_1; have HR295_1 := aM hi295_1; have HC295_1 := aM hl295_1; clear hi295_1 hl295_1; replace p295 := eq_true p295; replace q295 := eq_true q295
           go_wp2
           repeat (go_quiet (fail); try go_wp2)
           go_roundg k1
           case measure => have := HK1.out; omega
           case rel => exact ⟨(wrap64 (x7_1 + 1)), eT, H', ⟨by have := HK1.out; omega⟩, ⟨kB BK291.out⟩, ⟨bB1 HB.out GE291.out⟩⟩
         ·rw [if_neg c12] at H
          exact absurd H (by simp)
        ·rw [if_neg c11] at H
         exact absurd H (by simp)
       ·rw [if_neg c10] at H
        exact absurd H (by simp)
     ·rw [if_neg c8] at H
      exact absurd H (by simp)
    ·rw [if_neg c7] at H
     have c7b0 : decide (x7_1 < (l2.length : Int)) = false := decide_eq_false c7; clear c7
     obtain rfl := Option.some.inj H
     go_wp2
     repeat (go_quiet (fail); try go_wp2)
     go_ret
     exact ⟨rT, bB1 HB.out GE291.out⟩
 ·rw [if_neg c4] at H
  have c4b0 : ((l2.length : Int) == (l1_1.length : Int)) = false := beq_eq_false_iff_ne.mpr c4; have c4b1 : ((l2.length : Int) != (l1_1.length : Int)) = true := bne_iff_ne.mpr c4
  have c4b2 : (l2.length == l1_1.length) = false := by first | simpa using c4 | (simp at c4 ⊢; omega)
  obtain rfl := Option.some.inj H
  go_enter Try.func40, Try.ntmps40
  go_wp2_with (first | ((with_reducible refine gate_dst (N := 4) rfl ?_); (try (refine gate_guard (by rfl) ?_; dsimp only)); refine box_event ?hg (N := 4) ?hd (cs := #[.string a1_0, .slice A1_1 l1_1.length c1_1, .slice A1_2 l1_2.length c1_2, .slice A1_3 l1_3.length c1_3, .slice A1_4 l1_4.length c1_4]) (t := 27) ?hr ?_; (case hd => rfl); (case hg => rfl); (case hr => first | (go_simp; done) | (go_simp; rfl)); intro gb291 hg w16 hbox hb; have n0_ := aM (below_step (bB HB.out) hb); have n1_ := aM (hbox); have n2_ := aM ((by rw [hg]; exact (below_size (bB HB.out)) : w.heap.size ≤ gb291)); have n3_ := aM ((by rw [hg]; exact (below_size (bB HB.out)) : w.heap.size ≤ gb291)); clear HB; have HB := n0_; have BK291 := n1_; have GW291 := n2_; have GE291 := n3_; clear n0_ n1_ n2_ n3_; clear hb hbox hg; have hcz17_0 : w16.cell? ⟨gb291, 0, none⟩ = some (.string a1_0) := (blk_cell BK291.out 0).trans rfl; have hcz17_1 : w16.cell? ⟨gb291, 1, none⟩ = some (.slice A1_1 l1_1.length c1_1) := (blk_cell BK291.out 1).trans rfl; have hcz17_2 : w16.cell? ⟨gb291, 2, none⟩ = some (.slice A1_2 l1_2.length c1_2) := (blk_cell BK291.out 2).trans rfl; have hcz17_3 : w16.cell? ⟨gb291, 3, none⟩ = some (.slice A1_3 l1_3.length c1_3) := (blk_cell BK291.out 3).trans rfl; have hcz17_4 : w16.cell? ⟨gb291, 4, none⟩ = some (.slice A1_4 l1_4.length c1_4) := (blk_cell BK291.out 4).trans rfl; have hfz17_0 := blk_frozen BK291.out 0; have hfz17_1 := blk_frozen BK291.out 1; have hfz17_2 := blk_frozen BK291.out 2; have hfz17_3 := blk_frozen BK291.out 3; have hfz17_4 := blk_frozen BK291.out 4))
  repeat (go_quiet (fail); try go_wp2)
  go_ret
  exact ⟨rT, bB1 HB.out GE291.out⟩


/-! ### r39_Shift: function 52 -/
def r39_Shift.j0 : Nat → Int → Int → Int → Bool → Option (Int)
 | 0, _, _, _, _ => none
 | k + 1, x1, x2, x7, x17 => if x17 = true then (some (-1)) else (if x7 = 0 then (none) else (if (Int.tmod x2 x7) < 0 then (some (Int.tmod (wrap64 (x1 + (wrap64 ((Int.tmod x2 x7) + x7)))) x7)) else (some (Int.tmod (wrap64 (x1 + (Int.tmod x2 x7))) x7))))
def r39_Shift.f (k : Nat) (a0_0 : ByteArray) (l0_1 : List ByteArray) (a1 : Int) (a2 : Int) : Option (Int) := if a1 < 0 then (r39_Shift.j0 k a1 a2 (l0_1.length : Int) true) else (r39_Shift.j0 k a1 a2 (l0_1.length : Int) (decide (a1 ≥ (l0_1.length : Int))))
theorem r39_Shift.mono_l : ∀ k, (∀ y0 y1 y2 y3, LeO (r39_Shift.j0 k y0 y1 y2 y3) (r39_Shift.j0 (k + 1) y0 y1 y2 y3))
 | 0 => fun _ _ _ _ r h => by simp [r39_Shift.j0] at h
 | k + 1 => by
  have ih0 := r39_Shift.mono_l k
  ·intro y0 y1 y2 y3
   unfold r39_Shift.j0
   repeat' first
   | (with_reducible first | exact ih0 _ _ _ _ | exact LeO.refl _ | exact LeO.none _ | refine LeO.ite ?_ ?_ | refine LeO.bind ?_ (fun _ => ?_))
   | exact LeO.none _
   | refine LeO.ite ?_ ?_
   | refine LeO.bind ?_ (fun _ => ?_)
theorem r39_Shift.mono : ∀ a0 a1 a2 a3 k, LeO (r39_Shift.f k a0 a1 a2 a3) (r39_Shift.f (k + 1) a0 a1 a2 a3) := by
 intro a0 a1 a2 a3 k
 have ih0 := r39_Shift.mono_l k
 unfold r39_Shift.f
 repeat' first
   | (with_reducible first | exact ih0 _ _ _ _ | exact LeO.refl _ | exact LeO.none _ | refine LeO.ite ?_ ?_ | refine LeO.bind ?_ (fun _ => ?_))
   | exact LeO.none _
   | refine LeO.ite ?_ ?_
   | refine LeO.bind ?_ (fun _ => ?_)
set_option maxHeartbeats 8000000 in
set_option maxRecDepth 100000 in
theorem r39_Shift.calls (k : Nat) (a0_0 : ByteArray) (A0_1 : Option Addr) (c0_1 : Nat) (l0_1 : List ByteArray) (a1 : Int) (a2 : Int) (r : Int) (w : World) (hr0_1 : Kd.C Kd.string w A0_1 l0_1.length l0_1) (hc0_1 : l0_1.length ≤ c0_1) (h : r39_Shift.f k a0_0 l0_1 a1 a2 = some r) :
  Calls Try.prog 52 #[.agg #[.string a0_0, .slice A0_1 l0_1.length c0_1], .int .i64 a1, .int .i64 a2] w fun e w' => e = .returned (.int .i64 r) ∧ Below w.heap.size w w' := by
 have hu51 := Try.underlying51; have hu9 := Try.underlying9; have hu49 := Try.underlying49; have HR0_1 := aM hr0_1; have HC0_1 := aM hc0_1; clear hr0_1 hc0_1; have HB := aM (Below.refl w.heap.size w); have H : (if a1 < 0 then (r39_Shift.j0 k a1 a2 (l0_1.length : Int) true) else (r39_Shift.j0 k a1 a2 (l0_1.length : Int) (decide (a1 ≥ (l0_1.length : Int))))) = some r := h; clear h; have HC4 := aM H; clear H
 go_enter Try.func52, Try.ntmps52
 go_upto_region 2 with (first | ((with_reducible refine gate_dst (N := 3) rfl ?_); refine box_event ?hg (N := 3) ?hd (cs := #[.string a0_0, .slice A0_1 l0_1.length c0_1]) (t := 51) ?hr ?_; (case hd => rfl); (case hg => rfl); (case hr => first | (go_simp; done) | (go_simp; rfl)); intro gb296 hg w5 hbox hb; have n0_ := aM (below_step (bB HB.out) hb); have n1_ := aM (hbox); have n2_ := aM ((by rw [hg]; exact (below_size (bB HB.out)) : w.heap.size ≤ gb296)); have n3_ := aM ((by rw [hg]; exact (below_size (bB HB.out)) : w.heap.size ≤ gb296)); clear HB; have HB := n0_; have BK296 := n1_; have GW296 := n2_; have GE296 := n3_; clear n0_ n1_ n2_ n3_; clear hb hbox hg; have hcz6_0 : w5.cell? ⟨gb296, 0, none⟩ = some (.string a0_0) := (blk_cell BK296.out 0).trans rfl; have hcz6_1 : w5.cell? ⟨gb296, 1, none⟩ = some (.slice A0_1 l0_1.length c0_1) := (blk_cell BK296.out 1).trans rfl; have hfz6_0 := blk_frozen BK296.out 0; have hfz6_1 := blk_frozen BK296.out 1))
 (try simp only [Act.put, List.setIfInBounds_toArray, List.set_cons_zero, List.set_cons_succ])
 go_cut [17] (fun v17 wc => ∃ (kq : Nat) (x17_3 : Bool), v17 = .bool x17_3 ∧ Aside0 (r39_Shift.j0 kq a1 a2 (l0_1.length : Int) x17_3 = some r) ∧ Aside0 (kq ≤ k) ∧ Aside0 (wc.heap[gb296]? = some (.cells #[.string a0_0, (.slice A0_1 l0_1.length c0_1)] 51 (0, 0))) ∧ Aside0 (Below w.heap.size w wc))
 case first =>
  have H := HC4.out; clear HC4
  by_cases c7 : a1 < 0
  ·rw [if_pos c7] at H
   have c7b0 : decide (a1 < 0) = true := decide_eq_true c7; clear c7
   (first | rw [c7b0] | (simp only [i64_w, i32_w]; rw [c7b0]) | skip)
   have H' := aM H
   clear H
   go_wp2
   go_meet
   case rel => exact ⟨_, (true), eT, H', ⟨by first | omega | exact Nat.le_refl _⟩, ⟨kB BK296.out⟩, ⟨bB1 HB.out GE296.out⟩⟩
  ·rw [if_neg c7] at H
   have c7b0 : decide (a1 < 0) = false := decide_eq_false c7; clear c7
   (first | rw [c7b0] | (simp only [i64_w, i32_w]; rw [c7b0]) | skip)
   have H' := aM H
   clear H
   go_wp2
   go_meet
   case rel => exact ⟨_, (decide (a1 ≥ (l0_1.length : Int))), eT, H', ⟨by first | omega | exact Nat.le_refl _⟩, ⟨kB BK296.out⟩, ⟨bB1 HB.out GE296.out⟩⟩
 case rest =>
  clear HC4; obtain ⟨kq, x17_3, rfl, HA, HJ3, BK296, HB⟩ := hcut
  cases kq with
  | zero => exact absurd HA.out (by simp [r39_Shift.j0])
  | succ kj3 =>
   have H := HA.out; clear HA
   simp only [r39_Shift.j0] at H
   by_cases c8 : x17_3 = true
   ·subst c8
    have H1 : (some (-1)) = some r := by rw [if_pos rfl] at H; exact H
    clear H; have H := H1; clear H1
    obtain rfl := Option.some.inj H
    go_wp2
    go_ret
    exact ⟨rT, bB1 HB.out GE296.out⟩
   ·replace c8 := Bool.eq_false_iff.mpr c8
    subst c8
    have H1 : (if (l0_1.length : Int) = 0 then (none) else (if (Int.tmod a2 (l0_1.length : Int)) < 0 then (some (Int.tmod (wrap64 (a1 + (wrap64 ((Int.tmod a2 (l0_1.length : Int)) + (l0_1.length : Int))))) (l0_1.length : Int))) else (some (Int.tmod (wrap64 (a1 + (Int.tmod a2 (l0_1.length : Int)))) (l0_1.length : Int))))) = some r := by rw [if_neg (show ¬ (false = true) by decide)] at H; exact H
    clear H; have H := H1; clear H1
    by_cases c9 : (l0_1.length : Int) = 0
    ·rw [if_pos c9] at H
     exact absurd H (by simp)
    ·rw [if_neg c9] at H
     have c9b0 : ((l0_1.length : Int) == 0) = false := beq_eq_false_iff_ne.mpr c9; have c9b1 : ((l0_1.length : Int) != 0) = true := bne_iff_ne.mpr c9
     have c9b2 : ¬ (l0_1 = []) := fun h_ => c9 (by rw [h_]; rfl)
     by_cases c10 : (Int.tmod a2 (l0_1.length : Int)) < 0
     ·rw [if_pos c10] at H
      have c10b0 : decide ((Int.tmod a2 (l0_1.length : Int)) < 0) = true := decide_eq_true c10; clear c10
      obtain rfl := Option.some.inj H
      go_wp2
      go_ret
      exact ⟨rT, bB1 HB.out GE296.out⟩
     ·rw [if_neg c10] at H
      have c10b0 : decide ((Int.tmod a2 (l0_1.length : Int)) < 0) = false := decide_eq_false c10; clear c10
      obtain rfl := Option.some.inj H
      go_wp2
      go_ret
      exact ⟨rT, bB1 HB.out GE296.out⟩




/-! ### r40_color: function 41 -/
def r40_color.f (k : Nat) (a0_0 : ByteArray) (l0_1 : List ByteArray) (a1_0 : Int) (a1_1 : Int) (a1_2 : Int) (l2 : List Int) : Option (Int) := if a1_1 = 1 then (some a1_2) else (if a1_1 = 2 then (if 0 ≤ a1_2 then (if a1_2 < (l2.length : Int) then (some (rd l2 a1_2)) else (none)) else (none)) else (if a1_1 = 3 then (if 0 ≤ a1_2 then (if a1_2 < (l2.length : Int) then ((r39_Shift.f k a0_0 l0_1 (rd l2 a1_2) 1).bind fun t301 => (some t301)) else (none)) else (none)) else (if a1_1 = 4 then (if 0 ≤ a1_2 then (if a1_2 < (l2.length : Int) then ((r39_Shift.f k a0_0 l0_1 (rd l2 a1_2) (-1)).bind fun t303 => (some t303)) else (none)) else (none)) else (some (-1)))))
theorem r40_color.mono : ∀ a0 a1 a2 a3 a4 a5 k, LeO (r40_color.f k a0 a1 a2 a3 a4 a5) (r40_color.f (k + 1) a0 a1 a2 a3 a4 a5) := by
 intro a0 a1 a2 a3 a4 a5 k
 unfold r40_color.f
 repeat' first
   | (with_reducible first | exact r39_Shift.mono _ _ _ _ _ | exact LeO.refl _ | exact LeO.none _ | refine LeO.ite ?_ ?_ | refine LeO.bind ?_ (fun _ => ?_))
   | exact LeO.none _
   | refine LeO.ite ?_ ?_
   | refine LeO.bind ?_ (fun _ => ?_)
def r40_color.T6 : Bool × List (List Nat × List Nat) := (true, [([], []), ([], []), ([], []), ([2], [2]), ([1, 3], [1, 3]), ([4], [4]), ([0, 5], [0, 5]), ([6, 6, 0, 1, 2, 3, 4, 5, 6], [6])])
def r40_color.B6 : List Nat := [0, 0, 0, 4, 14, 30, 63, 127]
theorem r40_color.tab6 : rtab .any (opsOf Try.f41 6) = r40_color.T6 := by kernel_rfl
theorem r40_color.bits6 : waitsOk r40_color.T6.2 r40_color.B6 = true := by kernel_rfl
def r40_color.T8 : Bool × List (List Nat × List Nat) := (true, [([], []), ([], []), ([], []), ([2], [2]), ([1, 3], [1, 3]), ([4], [4]), ([0, 5], [0, 5]), ([6, 6, 0, 1, 2, 3, 4, 5, 6], [6])])
def r40_color.B8 : List Nat := [0, 0, 0, 4, 14, 30, 63, 127]
theorem r40_color.tab8 : rtab .any (opsOf Try.f41 8) = r40_color.T8 := by kernel_rfl
theorem r40_color.bits8 : waitsOk r40_color.T8.2 r40_color.B8 = true := by kernel_rfl
set_option maxHeartbeats 8000000 in
set_option maxRecDepth 100000 in
theorem r40_color.calls (k : Nat) (a0_0 : ByteArray) (A0_1 : Option Addr) (c0_1 : Nat) (l0_1 : List ByteArray) (a1_0 : Int) (a1_1 : Int) (a1_2 : Int) (A2 : Option Addr) (c2 : Nat) (l2 : List Int) (r : Int) (w : World) (hr0_1 : Kd.C Kd.string w A0_1 l0_1.length l0_1) (hc0_1 : l0_1.length ≤ c0_1) (hr2 : Kd.C (Kd.int .i64) w A2 l2.length l2) (hc2 : l2.length ≤ c2) (h : r40_color.f k a0_0 l0_1 a1_0 a1_1 a1_2 l2 = some r) :
  Calls Try.prog 41 #[.agg #[.string a0_0, .slice A0_1 l0_1.length c0_1], .agg #[.int .i64 a1_0, .int .i64 a1_1, .int .i64 a1_2], .slice A2 l2.length c2] w fun e w' => e = .returned (.int .i64 r) ∧ Below w.heap.size w w' := by
 have hu51 := Try.underlying51; have hu9 := Try.underlying9; have hu49 := Try.underlying49; have hu54 := Try.underlying54; have hu3 := Try.underlying3; have HR0_1 := aM hr0_1; have HC0_1 := aM hc0_1; clear hr0_1 hc0_1; have HR2 := aM hr2; have HC2 := aM hc2; clear hr2 hc2; have HB := aM (Below.refl w.heap.size w)
 have H : (if a1_1 = 1 then (some a1_2) else (if a1_1 = 2 then (if 0 ≤ a1_2 then (if a1_2 < (l2.length : Int) then (some (rd l2 a1_2)) else (none)) else (none)) else (if a1_1 = 3 then (if 0 ≤ a1_2 then (if a1_2 < (l2.length : Int) then ((r39_Shift.f k a0_0 l0_1 (rd l2 a1_2) 1).bind fun t301 => (some t301)) else (none)) else (none)) else (if a1_1 = 4 then (if 0 ≤ a1_2 then (if a1_2 < (l2.length : Int) then ((r39_Shift.f k a0_0 l0_1 (rd l2 a1_2) (-1)).bind fun t303 => (some t303)) else (none)) else (none)) else (some (-1)))))) = some r := h
 clear h
 by_cases c4 : a1_1 = 1
 ·rw [if_pos c4] at H
  have c4b0 : (a1_1 == 1) = true := beq_iff_eq.mpr c4; have c4b1 : (a1_1 != 1) = false := bne_eq_false_iff_eq.mpr c4; clear c4
  obtain rfl := Option.some.inj H
  go_enter Try.func41, Try.ntmps41
  go_wp2_with (first | ((with_reducible refine gate_dst (N := 3) rfl ?_); refine box_event ?hg (N := 3) ?hd (cs := #[.string a0_0, .slice A0_1 l0_1.length c0_1]) (t := 51) ?hr ?_; (case hd => rfl); (case hg => rfl); (case hr => first | (go_simp; done) | (go_simp; rfl)); intro gb297 hg w5 hbox hb; have n0_ := aM (below_step (bB HB.out) hb); have n1_ := aM (hbox); have n2_ := aM ((by rw [hg]; exact (below_size (bB HB.out)) : w.heap.size ≤ gb297)); have n3_ := aM ((by rw [hg]; exact (below_size (bB HB.out)) : w.heap.size ≤ gb297)); clear HB; have HB := n0_; have BK297 := n1_; have GW297 := n2_; have GE297 := n3_; clear n0_ n1_ n2_ n3_; clear hb hbox hg) | ((with_reducible refine gate_dst (N := 4) rfl ?_); refine box_event ?hg (N := 4) ?hd (cs := #[.int .i64 a1_0, .int .i64 a1_1, .int .i64 a1_2]) (t := 54) ?hr ?_; (case hd => rfl); (case hg => rfl); (case hr => first | (go_simp; done) | (go_simp; rfl)); intro gb298 hg w6 hbox hb; have n0_ := aM (kW BK297.out hb); have n1_ := aM (below_step (bB1 HB.out GE297.out) hb); have n2_ := aM (hbox); have n3_ := aM ((by rw [hg]; exact (below_size (bB1 HB.out GE297.out)) : w.heap.size ≤ gb298)); have n4_ := aM ((by rw [hg]; exact (below_size (bB1 HB.out GE297.out)) : w.heap.size ≤ gb298)); have n5_ := aM ((by rw [hg]; exact Nat.ne_of_lt (kL BK297.out) : gb297 ≠ gb298)); have n6_ := aM ((by rw [hg]; exact Nat.ne_of_gt (kL BK297.out) : gb298 ≠ gb297)); clear BK297; clear HB; have BK297 := n0_; have HB := n1_; have BK298 := n2_; have GW298 := n3_; have GE298 := n4_; have NB297_298 := n5_; have NB298_297 := n6_; clear n0_ n1_ n2_ n3_ n4_ n5_ n6_; clear hb hbox hg; have hnb7 := NB298_297.out; have hnc7 := NB297_298.out; have hcz8_0 : w6.cell? ⟨gb298, 0, none⟩ = some (.int .i64 a1_0) := (blk_cell BK298.out 0).trans rfl; have hcz8_1 : w6.cell? ⟨gb298, 1, none⟩ = some (.int .i64 a1_1) := (blk_cell BK298.out 1).trans rfl; have hcz8_2 : w6.cell? ⟨gb298, 2, none⟩ = some (.int .i64 a1_2) := (blk_cell BK298.out 2).trans rfl; have hfz8_0 := blk_frozen BK298.out 0; have hfz8_1 := blk_frozen BK298.out 1; have hfz8_2 := blk_frozen BK298.out 2))
  go_ret
  exact ⟨rT, bB2 HB.out GE297.out GE298.out⟩
 ·rw [if_neg c4] at H
  have c4b0 : (a1_1 == 1) = false := beq_eq_false_iff_ne.mpr c4; have c4b1 : (a1_1 != 1) = true := bne_iff_ne.mpr c4
  by_cases c9 : a1_1 = 2
  ·rw [if_pos c9] at H
   have c9b0 : (a1_1 == 2) = true := beq_iff_eq.mpr c9; have c9b1 : (a1_1 != 2) = false := bne_eq_false_iff_eq.mpr c9; clear c9
   by_cases c10 : 0 ≤ a1_2
   ·rw [if_pos c10] at H
    have c10b0 : decide (0 ≤ a1_2) = true := decide_eq_true c10; clear c10
    by_cases c11 : a1_2 < (l2.length : Int)
    ·rw [if_pos c11] at H
     have c11b0 : decide (a1_2 < (l2.length : Int)) = true := decide_eq_true c11; clear c11
     obtain rfl := Option.some.inj H
     go_enter Try.func41, Try.ntmps41
     go_wp2_with (first | ((with_reducible refine gate_dst (N := 3) rfl ?_); refine box_event ?hg (N := 3) ?hd (cs := #[.string a0_0, .slice A0_1 l0_1.length c0_1]) (t := 51) ?hr ?_; (case hd => rfl); (case hg => rfl); (case hr => first | (go_simp; done) | (go_simp; rfl)); intro gb297 hg w12 hbox hb; have n0_ := aM (below_step (bB HB.out) hb); have n1_ := aM (hbox); have n2_ := aM ((by rw [hg]; exact (below_size (bB HB.out)) : w.heap.size ≤ gb297)); have n3_ := aM ((by rw [hg]; exact (below_size (bB HB.out)) : w.heap.size ≤ gb297)); clear HB; have HB := n0_; have BK297 := n1_; have GW297 := n2_; have GE297 := n3_; clear n0_ n1_ n2_ n3_; clear hb hbox hg) | ((with_reducible refine gate_dst (N := 4) rfl ?_); refine box_event ?hg (N := 4) ?hd (cs := #[.int .i64 a1_0, .int .i64 a1_1, .int .i64 a1_2]) (t := 54) ?hr ?_; (case hd => rfl); (case hg => rfl); (case hr => first | (go_simp; done) | (go_simp; rfl)); intro gb298 hg w13 hbox hb; have n0_ := aM (kW BK297.out hb); have n1_ := aM (below_step (bB1 HB.out GE297.out) hb); have n2_ := aM (hbox); have n3_ := aM ((by rw [hg]; exact (below_size (bB1 HB.out GE297.out)) : w.heap.size ≤ gb298)); have n4_ := aM ((by rw [hg]; exact (below_size (bB1 HB.out GE297.out)) : w.heap.size ≤ gb298)); have n5_ := aM ((by rw [hg]; exact Nat.ne_of_lt (kL BK297.out) : gb297 ≠ gb298)); have n6_ := aM ((by rw [hg]; exact Nat.ne_of_gt (kL BK297.out) : gb298 ≠ gb297)); clear BK297; clear HB; have BK297 := n0_; have HB := n1_; have BK298 := n2_; have GW298 := n3_; have GE298 := n4_; have NB297_298 := n5_; have NB298_297 := n6_; clear n0_ n1_ n2_ n3_ n4_ n5_ n6_; clear hb hbox hg; have hnb14 := NB298_297.out; have hnc14 := NB297_298.out; have hcz15_0 : w13.cell? ⟨gb298, 0, none⟩ = some (.int .i64 a1_0) := (blk_cell BK298.out 0).trans rfl; have hcz15_1 : w13.cell? ⟨gb298, 1, none⟩ = some (.int .i64 a1_1) := (blk_cell BK298.out 1).trans rfl; have hcz15_2 : w13.cell? ⟨gb298, 2, none⟩ = some (.int .i64 a1_2) := (blk_cell BK298.out 2).trans rfl; have hfz15_0 := blk_frozen BK298.out 0; have hfz15_1 := blk_frozen BK298.out 1; have hfz15_2 := blk_frozen BK298.out 2; have p299 : 0 ≤ (a1_2 : Int) := dT; have q299 : a1_2 < (l2.length : Int) := dT; obtain ⟨ad299, e299, hx299_0⟩ := Kd.at_int HR2.out a1_2 p299 q299; cases e299; replace hx299_0 := (HB.out.cell (World.block_lt_of_cell? w _ hx299_0)).trans hx299_0; replace p299 := eq_true p299; replace q299 := eq_true q299))
     go_ret
     exact ⟨rT, bB2 HB.out GE297.out GE298.out⟩
    ·rw [if_neg c11] at H
     exact absurd H (by simp)
   ·rw [if_neg c10] at H
    exact absurd H (by simp)
  ·rw [if_neg c9] at H
   have c9b0 : (a1_1 == 2) = false := beq_eq_false_iff_ne.mpr c9; have c9b1 : (a1_1 != 2) = true := bne_iff_ne.mpr c9
   by_cases c16 : a1_1 = 3
   ·rw [if_pos c16] at H
    have c16b0 : (a1_1 == 3) = true := beq_iff_eq.mpr c16; have c16b1 : (a1_1 != 3) = false := bne_eq_false_iff_eq.mpr c16; clear c16
    by_cases c17 : 0 ≤ a1_2
    ·rw [if_pos c17] at H
     have c17b0 : decide (0 ≤ a1_2) = true := decide_eq_true c17; clear c17
     by_cases c18 : a1_2 < (l2.length : Int)
     ·rw [if_pos c18] at H
      have c18b0 : decide (a1_2 < (l2.length : Int)) = true := decide_eq_true c18; clear c18; replace H := Option.bind_eq_some_iff.mp H; obtain ⟨t301, A190, H⟩ := H
      replace H : (some t301) = some r := H
      have A19 := aM A190; clear A190
      obtain rfl := Option.some.inj H
      go_enter Try.func41, Try.ntmps41
      try go_wp2_with (first | ((with_reducible refine gate_dst (N := 3) rfl ?_); refine box_event ?hg (N := 3) ?hd (cs := #[.string a0_0, .slice A0_1 l0_1.length c0_1]) (t := 51) ?hr ?_; (case hd => rfl); (case hg => rfl); (case hr => first | (go_simp; done) | (go_simp; rfl)); intro gb297 hg w20 hbox hb; have n0_ := aM (below_step (bB HB.out) hb); have n1_ := aM (hbox); have n2_ := aM ((by rw [hg]; exact (below_size (bB HB.out)) : w.heap.size ≤ gb297)); have n3_ := aM ((by rw [hg]; exact (below_size (bB HB.out)) : w.heap.size ≤ gb297)); clear HB; have HB := n0_; have BK297 := n1_; have GW297 := n2_; have GE297 := n3_; clear n0_ n1_ n2_ n3_; clear hb hbox hg) | ((with_reducible refine gate_dst (N := 4) rfl ?_); refine box_event ?hg (N := 4) ?hd (cs := #[.int .i64 a1_0, .int .i64 a1_1, .int .i64 a1_2]) (t := 54) ?hr ?_; (case hd => rfl); (case hg => rfl); (case hr => first | (go_simp; done) | (go_simp; rfl)); intro gb298 hg w21 hbox hb; have n0_ := aM (kW BK297.out hb); have n1_ := aM (below_step (bB1 HB.out GE297.out) hb); have n2_ := aM (hbox); have n3_ := aM ((by rw [hg]; exact (below_size (bB1 HB.out GE297.out)) : w.heap.size ≤ gb298)); have n4_ := aM ((by rw [hg]; exact (below_size (bB1 HB.out GE297.out)) : w.heap.size ≤ gb298)); have n5_ := aM ((by rw [hg]; exact Nat.ne_of_lt (kL BK297.out) : gb297 ≠ gb298)); have n6_ := aM ((by rw [hg]; exact Nat.ne_of_gt (kL BK297.out) : gb298 ≠ gb297)); clear BK297; clear HB; have BK297 := n0_; have HB := n1_; have BK298 := n2_; have GW298 := n3_; have GE298 := n4_; have NB297_298 := n5_; have NB298_297 := n6_; clear n0_ n1_ n2_ n3_ n4_ n5_ n6_; clear hb hbox hg; have hnb22 := NB298_297.out; have hnc22 := NB297_298.out; have hcz23_0 : w21.cell? ⟨gb298, 0, none⟩ = some (.int .i64 a1_0) := (blk_cell BK298.out 0).trans rfl; have hcz23_1 : w21.cell? ⟨gb298, 1, none⟩ = some (.int .i64 a1_1) := (blk_cell BK298.out 1).trans rfl; have hcz23_2 : w21.cell? ⟨gb298, 2, none⟩ = some (.int .i64 a1_2) := (blk_cell BK298.out 2).trans rfl; have hfz23_0 := blk_frozen BK298.out 0; have hfz23_1 := blk_frozen BK298.out 1; have hfz23_2 := blk_frozen BK298.out 2))
      have n0_ := aM (blk_drew BK297.out); have n1_ := aM (blk_drew BK298.out); have n2_ := aM (below_drew1 HB.out); clear BK297; clear BK298; clear HB; have BK297 := n0_; have BK298 := n1_; have HB := n2_; clear n0_ n1_ n2_; have p300 : 0 ≤ (a1_2 : Int) := dT; have q300 : a1_2 < (l2.length : Int) := dT; obtain ⟨ad300, e300, hx300_0⟩ := Kd.at_int HR2.out a1_2 p300 q300; have hw300_0 := hx300_0; cases e300; replace hx300_0 := (HB.out.cell (World.block_lt_of_cell? w _ hx300_0)).trans hx300_0; replace p300 := eq_true p300; replace q300 := eq_true q300
      refine start_ (n := 8) (S := fun w' => w'.cell? ⟨gb297, 0, none⟩ = some (.string a0_0) ∧ w'.cell? ⟨gb297, 1, none⟩ = some (.slice A0_1 l0_1.length c0_1) ∧ w'.cell? ⟨gb298, 0, none⟩ = some (.int .i64 a1_0) ∧ w'.cell? ⟨gb298, 1, none⟩ = some (.int .i64 a1_1) ∧ w'.cell? ⟨gb298, 2, none⟩ = some (.int .i64 a1_2) ∧ w'.cell? (ad300.add (a1_2).toNat) = some (.int .i64 (rd l2 a1_2))) (ds := []) #[false, false, false, false, false, false, false, false] (by kernel_rfl) rfl rfl ⟨(blk_cell BK297.out 0).trans rfl, (blk_cell BK297.out 1).trans rfl, (blk_cell BK298.out 0).trans rfl, (blk_cell BK298.out 1).trans rfl, (blk_cell BK298.out 2).trans rfl, ((HB.out.cell (World.block_lt_of_cell? w _ hw300_0)).trans hw300_0)⟩ (fun hHeld => ?_); refine with_tabW r40_color.tab6 r40_color.bits6 (fun HT_ HW_ => ?_)
      generalize w21.drew = w24 at BK297 BK298 HB hx300_0 hHeld ⊢
      refine pure_ (i := 1) (N := some 24) (v := ?_) (a' := ?_) #[false, true, false, false, false, false, false, false] rfl rfl (any_of HT_.out (by kernel_rfl)) (fun _ _ _ h => h) (Or.inl ⟨by rfl, ?_⟩) ?_ ?_; rotate_left; exact qT; rotate_left; exact pT
      refine pure_ (i := 2) (N := some 25) (v := ?_) (a' := ?_) #[false, true, true, false, false, false, false, false] rfl rfl (any_of HT_.out (by kernel_rfl)) (fun _ _ _ h => h) (Or.inl ⟨by rfl, ?_⟩) ?_ ?_; rotate_left; exact qT; rotate_left; exact pT
      refine take_ (i := 0) (N := some 23) (v := ?_) (a' := ?_) #[true, true, true, false, false, false, false, false] rfl rfl (take_ofW HT_.out HW_.out (by kernel_rfl)) (fun _ _ _ h => h) (Or.inl ⟨by rfl, ?_⟩) hHeld ?_ ?_; rotate_left; rintro w' ⟨s0, s1, s2, s3, s4, s5⟩; go_simp; with_reducible rfl; rotate_left; exact pT
      refine take_ (i := 3) (N := some 26) (v := ?_) (a' := ?_) #[true, true, true, true, false, false, false, false] rfl rfl (take_ofW HT_.out HW_.out (by kernel_rfl)) (fun _ _ _ h => h) (Or.inl ⟨by rfl, ?_⟩) hHeld ?_ ?_; rotate_left; rintro w' ⟨s0, s1, s2, s3, s4, s5⟩; go_simp; with_reducible rfl; rotate_left; exact pT
      refine pure_ (i := 4) (N := some 27) (v := ?_) (a' := ?_) #[true, true, true, true, true, false, false, false] rfl rfl (any_of HT_.out (by kernel_rfl)) (fun _ _ _ h => h) (Or.inl ⟨by rfl, ?_⟩) ?_ ?_; rotate_left; exact qT; rotate_left; exact pT
      refine take_ (i := 5) (N := some 28) (v := ?_) (a' := ?_) #[true, true, true, true, true, true, false, false] rfl rfl (take_ofW HT_.out HW_.out (by kernel_rfl)) (fun _ _ _ h => h) (Or.inl ⟨by rfl, ?_⟩) hHeld ?_ ?_; rotate_left; rintro w' ⟨s0, s1, s2, s3, s4, s5⟩; go_simp; with_reducible rfl; rotate_left; exact pT
      refine one_ (i := 6) (N := some 29) #[true, true, true, true, true, true, true, false] rfl rfl (one_of HT_.out (by kernel_rfl)) (by decide) (fun K hK => ?_)
      refine goes_ Try.func52 (by kernel_rfl) rfl #[.agg #[.string a0_0, .slice A0_1 l0_1.length c0_1], .int .i64 (rd l2 a1_2), .int .i64 1] (by rfl) rfl rfl mT ?_
      with_reducible refine (r39_Shift.calls k a0_0 _ _ l0_1 (rd l2 a1_2) 1 t301 _ ?side1 ?side2 A19.out).mono ?_
      (case side1 => exact cB HR0_1.out HB.out)
      (case side2 => exact HC0_1.out)
      rintro e w25 ⟨rfl, hb⟩
      refine ⟨_, rfl, ?_⟩
      have n0_ := aM (kW BK297.out hb); have n1_ := aM (kW BK298.out hb); have n2_ := aM (below_step (bB2 HB.out GE297.out GE298.out) hb); clear BK297; clear BK298; clear HB; have BK297 := n0_; have BK298 := n1_; have HB := n2_; clear n0_ n1_ n2_
      (try clear hb)
      (try clear hb2)
      (try clear hk)
      (try clear hi)
      refine hK.out _ _ ⟨(blk_cell BK297.out 0).trans rfl, (blk_cell BK297.out 1).trans rfl, (blk_cell BK298.out 0).trans rfl, (blk_cell BK298.out 1).trans rfl, (blk_cell BK298.out 2).trans rfl, ((HB.out.cell (World.block_lt_of_cell? w _ hw300_0)).trans hw300_0)⟩ (fun hHeld => ?_)
      clear hK K
      refine norm_ (a' := ?_) ?_ ?_
      rotate_left
      ·show Act.put _ (some 29) _ = _
       simp only [Act.put, List.setIfInBounds_toArray, List.set_cons_zero, List.set_cons_succ, i64_w, i32_w]
       rfl
      refine pure_ (i := 7) (N := some 6) (v := ?_) (a' := ?_) #[true, true, true, true, true, true, true, true] rfl rfl (any_of HT_.out (by kernel_rfl)) (fun _ _ _ h => h) (Or.inl ⟨by rfl, ?_⟩) ?_ ?_; rotate_left; exact qT; rotate_left; exact pT
      refine done_ (done_of HT_.out (by kernel_rfl)) ?_
      try go_wp2
      go_ret
      exact ⟨rT, bB2 HB.out GE297.out GE298.out⟩
     ·rw [if_neg c18] at H
      exact absurd H (by simp)
    ·rw [if_neg c17] at H
     exact absurd H (by simp)
   ·rw [if_neg c16] at H
    have c16b0 : (a1_1 == 3) = false := beq_eq_false_iff_ne.mpr c16; have c16b1 : (a1_1 != 3) = true := bne_iff_ne.mpr c16
    by_cases c26 : a1_1 = 4
    ·rw [if_pos c26] at H
     have c26b0 : (a1_1 == 4) = true := beq_iff_eq.mpr c26; have c26b1 : (a1_1 != 4) = false := bne_eq_false_iff_eq.mpr c26; clear c26
     by_cases c27 : 0 ≤ a1_2
     ·rw [if_pos c27] at H
      have c27b0 : decide (0 ≤ a1_2) = true := decide_eq_true c27; clear c27
      by_cases c28 : a1_2 < (l2.length : Int)
      ·rw [if_pos c28] at H
       have c28b0 : decide (a1_2 < (l2.length : Int)) = true := decide_eq_true c28; clear c28; replace H := Option.bind_eq_some_iff.mp H; obtain ⟨t303, A290, H⟩ := H
       replace H : (some t303) = some r := H
       have A29 := aM A290; clear A290
       obtain rfl := Option.some.inj H
       go_enter Try.func41, Try.ntmps41
       try go_wp2_with (first | ((with_reducible refine gate_dst (N := 3) rfl ?_); refine box_event ?hg (N := 3) ?hd (cs := #[.string a0_0, .slice A0_1 l0_1.length c0_1]) (t := 51) ?hr ?_; (case hd => rfl); (case hg => rfl); (case hr => first | (go_simp; done) | (go_simp; rfl)); intro gb297 hg w30 hbox hb; have n0_ := aM (below_step (bB HB.out) hb); have n1_ := aM (hbox); have n2_ := aM ((by rw [hg]; exact (below_size (bB HB.out)) : w.heap.size ≤ gb297)); have n3_ := aM ((by rw [hg]; exact (below_size (bB HB.out)) : w.heap.size ≤ gb297)); clear HB; have HB := n0_; have BK297 := n1_; have GW297 := n2_; have GE297 := n3_; clear n0_ n1_ n2_ n3_; clear hb hbox hg) | ((with_reducible refine gate_dst (N := 4) rfl ?_); refine box_event ?hg (N := 4) ?hd (cs := #[.int .i64 a1_0, .int .i64 a1_1, .int .i64 a1_2]) (t := 54) ?hr ?_; (case hd => rfl); (case hg => rfl); (case hr => first | (go_simp; done) | (go_simp; rfl)); intro gb298 hg w31 hbox hb; have n0_ := aM (kW BK297.out hb); have n1_ := aM (below_step (bB1 HB.out GE297.out) hb); have n2_ := aM (hbox); have n3_ := aM ((by rw [hg]; exact (below_size (bB1 HB.out GE297.out)) : w.heap.size ≤ gb298)); have n4_ := aM ((by rw [hg]; exact (below_size (bB1 HB.out GE297.out)) : w.heap.size ≤ gb298)); have n5_ := aM ((by rw [hg]; exact Nat.ne_of_lt (kL BK297.out) : gb297 ≠ gb298)); have n6_ := aM ((by rw [hg]; exact Nat.ne_of_gt (kL BK297.out) : gb298 ≠ gb297)); clear BK297; clear HB; have BK297 := n0_; have HB := n1_; have BK298 := n2_; have GW298 := n3_; have GE298 := n4_; have NB297_298 := n5_; have NB298_297 := n6_; clear n0_ n1_ n2_ n3_ n4_ n5_ n6_; clear hb hbox hg; have hnb32 := NB298_297.out; have hnc32 := NB297_298.out; have hcz33_0 : w31.cell? ⟨gb298, 0, none⟩ = some (.int .i64 a1_0) := (blk_cell BK298.out 0).trans rfl; have hcz33_1 : w31.cell? ⟨gb298, 1, none⟩ = some (.int .i64 a1_1) := (blk_cell BK298.out 1).trans rfl; have hcz33_2 : w31.cell? ⟨gb298, 2, none⟩ = some (.int .i64 a1_2) := (blk_cell BK298.out 2).trans rfl; have hfz33_0 := blk_frozen BK298.out 0; have hfz33_1 := blk_frozen BK298.out 1; have hfz33_2 := blk_frozen BK298.out 2))
       have n0_ := aM (blk_drew BK297.out); have n1_ := aM (blk_drew BK298.out); have n2_ := aM (below_drew1 HB.out); clear BK297; clear BK298; clear HB; have BK297 := n0_; have BK298 := n1_; have HB := n2_; clear n0_ n1_ n2_; have p302 : 0 ≤ (a1_2 : Int) := dT; have q302 : a1_2 < (l2.length : Int) := dT; obtain ⟨ad302, e302, hx302_0⟩ := Kd.at_int HR2.out a1_2 p302 q302; have hw302_0 := hx302_0; cases e302; replace hx302_0 := (HB.out.cell (World.block_lt_of_cell? w _ hx302_0)).trans hx302_0; replace p302 := eq_true p302; replace q302 := eq_true q302
       refine start_ (n := 8) (S := fun w' => w'.cell? ⟨gb297, 0, none⟩ = some (.string a0_0) ∧ w'.cell? ⟨gb297, 1, none⟩ = some (.slice A0_1 l0_1.length c0_1) ∧ w'.cell? ⟨gb298, 0, none⟩ = some (.int .i64 a1_0) ∧ w'.cell? ⟨gb298, 1, none⟩ = some (.int .i64 a1_1) ∧ w'.cell? ⟨gb298, 2, none⟩ = some (.int .i64 a1_2) ∧ w'.cell? (ad302.add (a1_2).toNat) = some (.int .i64 (rd l2 a1_2))) (ds := []) #[false, false, false, false, false, false, false, false] (by kernel_rfl) rfl rfl ⟨(blk_cell BK297.out 0).trans rfl, (blk_cell BK297.out 1).trans rfl, (blk_cell BK298.out 0).trans rfl, (blk_cell BK298.out 1).trans rfl, (blk_cell BK298.out 2).trans rfl, ((HB.out.cell (World.block_lt_of_cell? w _ hw302_0)).trans hw302_0)⟩ (fun hHeld => ?_); refine with_tabW r40_color.tab8 r40_color.bits8 (fun HT_ HW_ => ?_)
       generalize w31.drew = w34 at BK297 BK298 HB hx302_0 hHeld ⊢
       refine pure_ (i := 1) (N := some 34) (v := ?_) (a' := ?_) #[false, true, false, false, false, false, false, false] rfl rfl (any_of HT_.out (by kernel_rfl)) (fun _ _ _ h => h) (Or.inl ⟨by rfl, ?_⟩) ?_ ?_; rotate_left; exact qT; rotate_left; exact pT
       refine pure_ (i := 2) (N := some 35) (v := ?_) (a' := ?_) #[false, true, true, false, false, false, false, false] rfl rfl (any_of HT_.out (by kernel_rfl)) (fun _ _ _ h => h) (Or.inl ⟨by rfl, ?_⟩) ?_ ?_; rotate_left; exact qT; rotate_left; exact pT
       refine take_ (i := 0) (N := some 33) (v := ?_) (a' := ?_) #[true, true, true, false, false, false, false, false] rfl rfl (take_ofW HT_.out HW_.out (by kernel_rfl)) (fun _ _ _ h => h) (Or.inl ⟨by rfl, ?_⟩) hHeld ?_ ?_; rotate_left; rintro w' ⟨s0, s1, s2, s3, s4, s5⟩; go_simp; with_reducible rfl; rotate_left; exact pT
       refine take_ (i := 3) (N := some 36) (v := ?_) (a' := ?_) #[true, true, true, true, false, false, false, false] rfl rfl (take_ofW HT_.out HW_.out (by kernel_rfl)) (fun _ _ _ h => h) (Or.inl ⟨by rfl, ?_⟩) hHeld ?_ ?_; rotate_left; rintro w' ⟨s0, s1, s2, s3, s4, s5⟩; go_simp; with_reducible rfl; rotate_left; exact pT
       refine pure_ (i := 4) (N := some 37) (v := ?_) (a' := ?_) #[true, true, true, true, true, false, false, false] rfl rfl (any_of HT_.out (by kernel_rfl)) (fun _ _ _ h => h) (Or.inl ⟨by rfl, ?_⟩) ?_ ?_; rotate_left; exact qT; rotate_left; exact pT
       refine take_ (i := 5) (N := some 38) (v := ?_) (a' := ?_) #[true, true, true, true, true, true, false, false] rfl rfl (take_ofW HT_.out HW_.out (by kernel_rfl)) (fun _ _ _ h => h) (Or.inl ⟨by rfl, ?_⟩) hHeld ?_ ?_; rotate_left; rintro w' ⟨s0, s1, s2, s3, s4, s5⟩; go_simp; with_reducible rfl; rotate_left; exact pT
       refine one_ (i := 6) (N := some 39) #[true, true, true, true, true, true, true, false] rfl rfl (one_of HT_.out (by kernel_rfl)) (by decide) (fun K hK => ?_)
       refine goes_ Try.func52 (by kernel_rfl) rfl #[.agg #[.string a0_0, .slice A0_1 l0_1.length c0_1], .int .i64 (rd l2 a1_2), .int .i64 (-1)] (by rfl) rfl rfl mT ?_
       with_reducible refine (r39_Shift.calls k a0_0 _ _ l0_1 (rd l2 a1_2) (-1) t303 _ ?side1 ?side2 A29.out).mono ?_
       (case side1 => exact cB HR0_1.out HB.out)
       (case side2 => exact HC0_1.out)
       rintro e w35 ⟨rfl, hb⟩
       refine ⟨_, rfl, ?_⟩
       have n0_ := aM (kW BK297.out hb); have n1_ := aM (kW BK298.out hb); have n2_ := aM (below_step (bB2 HB.out GE297.out GE298.out) hb); clear BK297; clear BK298; clear HB; have BK297 := n0_; have BK298 := n1_; have HB := n2_; clear n0_ n1_ n2_
       (try clear hb)
       (try clear hb2)
       (try clear hk)
       (try clear hi)
       refine hK.out _ _ ⟨(blk_cell BK297.out 0).trans rfl, (blk_cell BK297.out 1).trans rfl, (blk_cell BK298.out 0).trans rfl, (blk_cell BK298.out 1).trans rfl, (blk_cell BK298.out 2).trans rfl, ((HB.out.cell (World.block_lt_of_cell? w _ hw302_0)).trans hw302_0)⟩ (fun hHeld => ?_)
       clear hK K
       refine norm_ (a' := ?_) ?_ ?_
       rotate_left
       ·show Act.put _ (some 39) _ = _
        simp only [Act.put, List.setIfInBounds_toArray, List.set_cons_zero, List.set_cons_succ, i64_w, i32_w]
        rfl
       refine pure_ (i := 7) (N := some 6) (v := ?_) (a' := ?_) #[true, true, true, true, true, true, true, true] rfl rfl (any_of HT_.out (by kernel_rfl)) (fun _ _ _ h => h) (Or.inl ⟨by rfl, ?_⟩) ?_ ?_; rotate_left; exact qT; rotate_left; exact pT
       refine done_ (done_of HT_.out (by kernel_rfl)) ?_
       try go_wp2
       go_ret
       exact ⟨rT, bB2 HB.out GE297.out GE298.out⟩
      ·rw [if_neg c28] at H
       exact absurd H (by simp)
     ·rw [if_neg c27] at H
      exact absurd H (by simp)
    ·rw [if_neg c26] at H
     have c26b0 : (a1_1 == 4) = false := beq_eq_false_iff_ne.mpr c26; have c26b1 : (a1_1 != 4) = true := bne_iff_ne.mpr c26
     obtain rfl := Option.some.inj H
     go_enter Try.func41, Try.ntmps41
     go_wp2_with (first | ((with_reducible refine gate_dst (N := 3) rfl ?_); refine box_event ?hg (N := 3) ?hd (cs := #[.string a0_0, .slice A0_1 l0_1.length c0_1]) (t := 51) ?hr ?_; (case hd => rfl); (case hg => rfl); (case hr => first | (go_simp; done) | (go_simp; rfl)); intro gb297 hg w36 hbox hb; have n0_ := aM (below_step (bB HB.out) hb); have n1_ := aM (hbox); have n2_ := aM ((by rw [hg]; exact (below_size (bB HB.out)) : w.heap.size ≤ gb297)); have n3_ := aM ((by rw [hg]; exact (below_size (bB HB.out)) : w.heap.size ≤ gb297)); clear HB; have HB := n0_; have BK297 := n1_; have GW297 := n2_; have GE297 := n3_; clear n0_ n1_ n2_ n3_; clear hb hbox hg) | ((with_reducible refine gate_dst (N := 4) rfl ?_); refine box_event ?hg (N := 4) ?hd (cs := #[.int .i64 a1_0, .int .i64 a1_1, .int .i64 a1_2]) (t := 54) ?hr ?_; (case hd => rfl); (case hg => rfl); (case hr => first | (go_simp; done) | (go_simp; rfl)); intro gb298 hg w37 hbox hb; have n0_ := aM (kW BK297.out hb); have n1_ := aM (below_step (bB1 HB.out GE297.out) hb); have n2_ := aM (hbox); have n3_ := aM ((by rw [hg]; exact (below_size (bB1 HB.out GE297.out)) : w.heap.size ≤ gb298)); have n4_ := aM ((by rw [hg]; exact (below_size (bB1 HB.out GE297.out)) : w.heap.size ≤ gb298)); have n5_ := aM ((by rw [hg]; exact Nat.ne_of_lt (kL BK297.out) : gb297 ≠ gb298)); have n6_ := aM ((by rw [hg]; exact Nat.ne_of_gt (kL BK297.out) : gb298 ≠ gb297)); clear BK297; clear HB; have BK297 := n0_; have HB := n1_; have BK298 := n2_; have GW298 := n3_; have GE298 := n4_; have NB297_298 := n5_; have NB298_297 := n6_; clear n0_ n1_ n2_ n3_ n4_ n5_ n6_; clear hb hbox hg; have hnb38 := NB298_297.out; have hnc38 := NB297_298.out; have hcz39_0 : w37.cell? ⟨gb298, 0, none⟩ = some (.int .i64 a1_0) := (blk_cell BK298.out 0).trans rfl; have hcz39_1 : w37.cell? ⟨gb298, 1, none⟩ = some (.int .i64 a1_1) := (blk_cell BK298.out 1).trans rfl; have hcz39_2 : w37.cell? ⟨gb298, 2, none⟩ = some (.int .i64 a1_2) := (blk_cell BK298.out 2).trans rfl; have hfz39_0 := blk_frozen BK298.out 0; have hfz39_1 := blk_frozen BK298.out 1; have hfz39_2 := blk_frozen BK298.out 2))
     go_ret
     exact ⟨rT, bB2 HB.out GE297.out GE298.out⟩




/-! ### r40_Eval: function 16 -/
mutual
def r40_Eval.l0 : Nat → List (S51) → Int → List (S54) → List Int → List Int → Int → Option (List Int × Int)
 | 0, _, _, _, _, _, _ => none
 | k + 1, x0, x2, x3, x4, x13, x14 => if x14 < (x3.length : Int) then (if 0 ≤ x2 then (if x2 < (x0.length : Int) then (if 0 ≤ x14 then ((r40_color.f k ((rd_T51 x0 x2).f0) ((rd_T51 x0 x2).f1) ((rd_T54 x3 x14).f0) ((rd_T54 x3 x14).f1) ((rd_T54 x3 x14).f2) x4).bind fun t313 => (r40_Eval.l1 k x0 x2 x3 x4 x13 x14 t313 0)) else (none)) else (none)) else (none)) else (some (x13, 0))
def r40_Eval.l1 : Nat → List (S51) → Int → List (S54) → List Int → List Int → Int → Int → Int → Option (List Int × Int)
 | 0, _, _, _, _, _, _, _, _ => none
 | k + 1, x0, x2, x3, x4, x13, x14, x15, x16 => if x16 < (x13.length : Int) then (if x15 = (-1) then (r40_Eval.j2 k x0 x2 x3 x4 x13 x14 x15 x16 true) else (r40_Eval.j2 k x0 x2 x3 x4 x13 x14 x15 x16 (x15 == x16))) else (r40_Eval.l0 k x0 x2 x3 x4 x13 (wrap64 (x14 + 1)))
def r40_Eval.j2 : Nat → List (S51) → Int → List (S54) → List Int → List Int → Int → Int → Int → Bool → Option (List Int × Int)
 | 0, _, _, _, _, _, _, _, _, _ => none
 | k + 1, x0, x2, x3, x4, x13, x14, x15, x16, x65 => if x65 = true then (if 0 ≤ x16 then (if x16 < (x13.length : Int) then (if 0 ≤ x14 then (if x14 < (x3.length : Int) then (if (wrap64 ((rd x13 x16) + ((rd_T54 x3 x14).f0))) > 1048576 then (some (([] : List Int), 3)) else (r40_Eval.l1 k x0 x2 x3 x4 (x13.set (x16 : Int).toNat (wrap64 ((rd x13 x16) + ((rd_T54 x3 x14).f0)))) x14 x15 (wrap64 (x16 + 1)))) else (none)) else (none)) else (none)) else (none)) else (if 0 ≤ x16 then (if x16 < (x13.length : Int) then (if (rd x13 x16) > 1048576 then (some (([] : List Int), 3)) else (r40_Eval.l1 k x0 x2 x3 x4 x13 x14 x15 (wrap64 (x16 + 1)))) else (none)) else (none))
end
def r40_Eval.f (k : Nat) (l0 : List (S51)) (a1_0 : ByteArray) (l1_1 : List (S48)) (l1_2 : List (S62)) (l1_3 : List (S111)) (l1_4 : List (S111)) (a2 : Int) (l3 : List (S54)) (l4 : List Int) : Option (List Int × Int) := (r40_CheckTerms.f k l0 a1_0 l1_1 l1_2 l1_3 l1_4 a2 l3).bind fun t305 => (if t305 = 0 then ((r40_Bound.f k l0 a1_0 l1_1 l1_2 l1_3 l1_4 l4).bind fun t306 => (if t306 = true then (if 0 ≤ a2 then (if a2 < (l0.length : Int) then (if 0 ≤ (((rd_T51 l0 a2).f1).length : Int) then (if ((((rd_T51 l0 a2).f1).length : Int) : Int).toNat ≤ 35184372088832 then (r40_Eval.l0 k l0 a2 l3 l4 (List.replicate ((((rd_T51 l0 a2).f1).length : Int) : Int).toNat 0) 0) else (none)) else (none)) else (none)) else (none)) else (some (([] : List Int), 15)))) else (some (([] : List Int), t305)))
theorem r40_Eval.mono_l : ∀ k, (∀ y0 y1 y2 y3 y4 y5, LeO (r40_Eval.l0 k y0 y1 y2 y3 y4 y5) (r40_Eval.l0 (k + 1) y0 y1 y2 y3 y4 y5)) ∧ (∀ y0 y1 y2 y3 y4 y5 y6 y7, LeO (r40_Eval.l1 k y0 y1 y2 y3 y4 y5 y6 y7) (r40_Eval.l1 (k + 1) y0 y1 y2 y3 y4 y5 y6 y7)) ∧ (∀ y0 y1 y2 y3 y4 y5 y6 y7 y8, LeO (r40_Eval.j2 k y0 y1 y2 y3 y4 y5 y6 y7 y8) (r40_Eval.j2 (k + 1) y0 y1 y2 y3 y4 y5 y6 y7 y8))
 | 0 => ⟨fun _ _ _ _ _ _ r h => by simp [r40_Eval.l0] at h, fun _ _ _ _ _ _ _ _ r h => by simp [r40_Eval.l1] at h, fun _ _ _ _ _ _ _ _ _ r h => by simp [r40_Eval.j2] at h⟩
 | k + 1 => by
  obtain ⟨ih0, ih1, ih2⟩ := r40_Eval.mono_l k
  refine ⟨?_, ?_, ?_⟩
  ·intro y0 y1 y2 y3 y4 y5
   unfold r40_Eval.l0
   repeat' first
   | (with_reducible first | exact ih0 _ _ _ _ _ _ | exact ih1 _ _ _ _ _ _ _ _ | exact ih2 _ _ _ _ _ _ _ _ _ | exact r40_Bound.mono _ _ _ _ _ _ _ _ | exact r40_CheckTerms.mono _ _ _ _ _ _ _ _ _ | exact r40_color.mono _ _ _ _ _ _ _ | exact LeO.refl _ | exact LeO.none _ | refine LeO.ite ?_ ?_ | refine LeO.bind ?_ (fun _ => ?_))
   | exact LeO.none _
   | refine LeO.ite ?_ ?_
   | refine LeO.bind ?_ (fun _ => ?_)
  ·intro y0 y1 y2 y3 y4 y5 y6 y7
   unfold r40_Eval.l1
   repeat' first
   | (with_reducible first | exact ih0 _ _ _ _ _ _ | exact ih1 _ _ _ _ _ _ _ _ | exact ih2 _ _ _ _ _ _ _ _ _ | exact r40_Bound.mono _ _ _ _ _ _ _ _ | exact r40_CheckTerms.mono _ _ _ _ _ _ _ _ _ | exact r40_color.mono _ _ _ _ _ _ _ | exact LeO.refl _ | exact LeO.none _ | refine LeO.ite ?_ ?_ | refine LeO.bind ?_ (fun _ => ?_))
   | exact LeO.none _
   | refine LeO.ite ?_ ?_
   | refine LeO.bind ?_ (fun _ => ?_)
  ·intro y0 y1 y2 y3 y4 y5 y6 y7 y8
   unfold r40_Eval.j2
   repeat' first
   | (with_reducible first | exact ih0 _ _ _ _ _ _ | exact ih1 _ _ _ _ _ _ _ _ | exact ih2 _ _ _ _ _ _ _ _ _ | exact r40_Bound.mono _ _ _ _ _ _ _ _ | exact r40_CheckTerms.mono _ _ _ _ _ _ _ _ _ | exact r40_color.mono _ _ _ _ _ _ _ | exact LeO.refl _ | exact LeO.none _ | refine LeO.ite ?_ ?_ | refine LeO.bind ?_ (fun _ => ?_))
   | exact LeO.none _
   | refine LeO.ite ?_ ?_
   | refine LeO.bind ?_ (fun _ => ?_)
theorem r40_Eval.mono : ∀ a0 a1 a2 a3 a4 a5 a6 a7 a8 k, LeO (r40_Eval.f k a0 a1 a2 a3 a4 a5 a6 a7 a8) (r40_Eval.f (k + 1) a0 a1 a2 a3 a4 a5 a6 a7 a8) := by
 intro a0 a1 a2 a3 a4 a5 a6 a7 a8 k
 obtain ⟨ih0, ih1, ih2⟩ := r40_Eval.mono_l k
 unfold r40_Eval.f
 repeat' first
   | (with_reducible first | exact ih0 _ _ _ _ _ _ | exact ih1 _ _ _ _ _ _ _ _ | exact ih2 _ _ _ _ _ _ _ _ _ | exact r40_Bound.mono _ _ _ _ _ _ _ _ | exact r40_CheckTerms.mono _ _ _ _ _ _ _ _ _ | exact r40_color.mono _ _ _ _ _ _ _ | exact LeO.refl _ | exact LeO.none _ | refine LeO.ite ?_ ?_ | refine LeO.bind ?_ (fun _ => ?_))
   | exact LeO.none _
   | refine LeO.ite ?_ ?_
   | refine LeO.bind ?_ (fun _ => ?_)
def r40_Eval.T10 : Bool × List (List Nat × List Nat) := (true, [([], []), ([], []), ([0, 1], [0, 1]), ([2], [2]), ([], []), ([], []), ([4, 5], [4, 5]), ([6], [6]), ([], []), ([3, 7, 8], [3, 7, 8]), ([9, 9, 0, 1, 2, 3, 4, 5, 6, 7, 8, 9], [9])])
def r40_Eval.B10 : List Nat := [0, 0, 3, 7, 0, 0, 48, 112, 0, 511, 1023]
theorem r40_Eval.tab10 : rtab .any (opsOf Try.f16 10) = r40_Eval.T10 := by kernel_rfl
theorem r40_Eval.bits10 : waitsOk r40_Eval.T10.2 r40_Eval.B10 = true := by kernel_rfl
def r40_Eval.T15 : Bool × List (List Nat × List Nat) := (true, [([], []), ([], []), ([], []), ([], []), ([2, 3], [2, 3]), ([4], [4]), ([], []), ([], []), ([6, 7], [6, 7]), ([8], [8]), ([9], [9]), ([5, 10], [5, 10]), ([0, 1, 0, 1, 2, 3, 4, 5, 6, 7, 8, 9, 10, 11], [0, 1]), ([12, 11, 0, 1, 2, 3, 4, 5, 6, 7, 8, 9, 10, 11], [11, 12])])
def r40_Eval.B15 : List Nat := [0, 0, 0, 0, 12, 28, 0, 0, 192, 448, 960, 2044, 4095, 8191]
theorem r40_Eval.tab15 : rtab .any (opsOf Try.f16 15) = r40_Eval.T15 := by kernel_rfl
theorem r40_Eval.bits15 : waitsOk r40_Eval.T15.2 r40_Eval.B15 = true := by kernel_rfl
set_option maxHeartbeats 8000000 in
set_option maxRecDepth 100000 in
theorem r40_Eval.calls (k : Nat) (A0 : Option Addr) (c0 : Nat) (l0 : List (S51)) (a1_0 : ByteArray) (A1_1 : Option Addr) (c1_1 : Nat) (l1_1 : List (S48)) (A1_2 : Option Addr) (c1_2 : Nat) (l1_2 : List (S62)) (A1_3 : Option Addr) (c1_3 : Nat) (l1_3 : List (S111)) (A1_4 : Option Addr) (c1_4 : Nat) (l1_4 : List (S111)) (a2 : Int) (A3 : Option Addr) (c3 : Nat) (l3 : List (S54)) (A4 : Option Addr) (c4 : Nat) (l4 : List Int) (r1 : List Int) (r2 : Int) (w : World) (hr0 : Kd.C k51 w A0 l0.length l0) (hc0 : l0.length ≤ c0) (hr1_1 : Kd.C k48 w A1_1 l1_1.length l1_1) (hc1_1 : l1_1.length ≤ c1_1) (hr1_2 : Kd.C k62 w A1_2 l1_2.length l1_2) (hc1_2 : l1_2.length ≤ c1_2) (hr1_3 : Kd.C k111 w A1_3 l1_3.length l1_3) (hc1_3 : l1_3.length ≤ c1_3) (hr1_4 : Kd.C k111 w A1_4 l1_4.length l1_4) (hc1_4 : l1_4.length ≤ c1_4) (hr3 : Kd.C k54 w A3 l3.length l3) (hc3 : l3.length ≤ c3) (hr4 : Kd.C (Kd.int .i64) w A4 l4.length l4) (hc4 : l4.length ≤ c4) (h : r40_Eval.f k l0 a1_0 l1_1 l1_2 l1_3 l1_4 a2 l3 l4 = some (r1, r2)) :
  Calls Try.prog 16 #[.slice A0 l0.length c0, .agg #[.string a1_0, .slice A1_1 l1_1.length c1_1, .slice A1_2 l1_2.length c1_2, .slice A1_3 l1_3.length c1_3, .slice A1_4 l1_4.length c1_4], .int .i64 a2, .slice A3 l3.length c3, .slice A4 l4.length c4] w fun e w' => ∃ v0_ : Value, e = .returned (.tuple #[v0_, .int .i64 r2]) ∧ Kd.R (Kd.int .i64) 3 w' w.heap.size (fun _ => True) v0_ r1 ∧ Below w.heap.size w w' := by
 have hu27 := Try.underlying27; have hu9 := Try.underlying9; have hu23 := Try.underlying23; have hu24 := Try.underlying24; have hu25 := Try.underlying25; have hu51 := Try.underlying51; have hu9 := Try.underlying9; have hu49 := Try.underlying49; have hu54 := Try.underlying54; have hu3 := Try.underlying3; have HR0 := aM hr0; have HC0 := aM hc0; clear hr0 hc0; have HR1_1 := aM hr1_1; have HC1_1 := aM hc1_1; clear hr1_1 hc1_1; have HR1_2 := aM hr1_2; have HC1_2 := aM hc1_2; clear hr1_2 hc1_2; have HR1_3 := aM hr1_3; have HC1_3 := aM hc1_3; clear hr1_3 hc1_3; have HR1_4 := aM hr1_4; have HC1_4 := aM hc1_4; clear hr1_4 hc1_4; have HR3 := aM hr3; have HC3 := aM hc3; clear hr3 hc3; have HR4 := aM hr4; have HC4 := aM hc4; clear hr4 hc4; have HB := aM (Below.refl w.heap.size w)
 have H : ((r40_CheckTerms.f k l0 a1_0 l1_1 l1_2 l1_3 l1_4 a2 l3).bind fun t305 => (if t305 = 0 then ((r40_Bound.f k l0 a1_0 l1_1 l1_2 l1_3 l1_4 l4).bind fun t306 => (if t306 = true then (if 0 ≤ a2 then (if a2 < (l0.length : Int) then (if 0 ≤ (((rd_T51 l0 a2).f1).length : Int) then (if ((((rd_T51 l0 a2).f1).length : Int) : Int).toNat ≤ 35184372088832 then (r40_Eval.l0 k l0 a2 l3 l4 (List.replicate ((((rd_T51 l0 a2).f1).length : Int) : Int).toNat 0) 0) else (none)) else (none)) else (none)) else (none)) else (some (([] : List Int), 15)))) else (some (([] : List Int), t305)))) = some (r1, r2) := h
 clear h; replace H := Option.bind_eq_some_iff.mp H; obtain ⟨t305, A60, H⟩ := H
 replace H : (if t305 = 0 then ((r40_Bound.f k l0 a1_0 l1_1 l1_2 l1_3 l1_4 l4).bind fun t306 => (if t306 = true then (if 0 ≤ a2 then (if a2 < (l0.length : Int) then (if 0 ≤ (((rd_T51 l0 a2).f1).length : Int) then (if ((((rd_T51 l0 a2).f1).length : Int) : Int).toNat ≤ 35184372088832 then (r40_Eval.l0 k l0 a2 l3 l4 (List.replicate ((((rd_T51 l0 a2).f1).length : Int) : Int).toNat 0) 0) else (none)) else (none)) else (none)) else (none)) else (some (([] : List Int), 15)))) else (some (([] : List Int), t305))) = some (r1, r2) := H
 have A6 := aM A60; clear A60
 by_cases c7 : t305 = 0
 ·rw [if_pos c7] at H
  have c7b0 : (t305 == 0) = true := beq_iff_eq.mpr c7; have c7b1 : (t305 != 0) = false := bne_eq_false_iff_eq.mpr c7; clear c7; replace H := Option.bind_eq_some_iff.mp H; obtain ⟨t306, A80, H⟩ := H
  replace H : (if t306 = true then (if 0 ≤ a2 then (if a2 < (l0.length : Int) then (if 0 ≤ (((rd_T51 l0 a2).f1).length : Int) then (if ((((rd_T51 l0 a2).f1).length : Int) : Int).toNat ≤ 35184372088832 then (r40_Eval.l0 k l0 a2 l3 l4 (List.replicate ((((rd_T51 l0 a2).f1).length : Int) : Int).toNat 0) 0) else (none)) else (none)) else (none)) else (none)) else (some (([] : List Int), 15))) = some (r1, r2) := H
  have A8 := aM A80; clear A80
  by_cases c9 : t306 = true
  ·subst c9
   have H1 : (if 0 ≤ a2 then (if a2 < (l0.length : Int) then (if 0 ≤ (((rd_T51 l0 a2).f1).length : Int) then (if ((((rd_T51 l0 a2).f1).length : Int) : Int).toNat ≤ 35184372088832 then (r40_Eval.l0 k l0 a2 l3 l4 (List.replicate ((((rd_T51 l0 a2).f1).length : Int) : Int).toNat 0) 0) else (none)) else (none)) else (none)) else (none)) = some (r1, r2) := by rw [if_pos rfl] at H; exact H
   clear H; have H := H1; clear H1
   by_cases c10 : 0 ≤ a2
   ·rw [if_pos c10] at H
    have c10b0 : decide (0 ≤ a2) = true := decide_eq_true c10; clear c10
    by_cases c11 : a2 < (l0.length : Int)
    ·rw [if_pos c11] at H
     have c11b0 : decide (a2 < (l0.length : Int)) = true := decide_eq_true c11; clear c11
     by_cases c12 : 0 ≤ (((rd_T51 l0 a2).f1).length : Int)
     ·rw [if_pos c12] at H
      have c12b0 := eq_true c12; have c12b1 : decide (0 ≤ (((rd_T51 l0 a2).f1).length : Int)) = true := decide_eq_true c12; clear c12
      by_cases c13 : ((((rd_T51 l0 a2).f1).length : Int) : Int).toNat ≤ 35184372088832
      ·rw [if_pos c13] at H
       have c13b0 := eq_true c13; have c13b1 : decide (((((rd_T51 l0 a2).f1).length : Int) : Int).toNat ≤ 35184372088832) = true := decide_eq_true c13; clear c13
       obtain ⟨y308, hy308⟩ : ∃ y_ : List Int, y_ = (List.replicate ((((rd_T51 l0 a2).f1).length : Int) : Int).toNat 0) := ⟨_, rfl⟩
       replace H : (r40_Eval.l0 k l0 a2 l3 l4 y308 0) = some (r1, r2) := by first | (rw [hy308]; with_reducible exact H) | (have H2_ := (Option.bind_some _ _).symm.trans H; rw [hy308]; with_reducible exact H2_) | (have H2_ := (Option.bind_some _ _).symm.trans H; with_reducible exact H2_) | with_reducible exact H | (rw [hy308]; exact H) | exact H
       have Ny308 := aM hy308; clear hy308
       have H' := aM H
       clear H
       go_enter Try.func16, Try.ntmps16
       go_wp2_with (first | ((with_reducible refine gate_dst (N := 6) rfl ?_); refine box_event ?hg (N := 6) ?hd (cs := #[.string a1_0, .slice A1_1 l1_1.length c1_1, .slice A1_2 l1_2.length c1_2, .slice A1_3 l1_3.length c1_3, .slice A1_4 l1_4.length c1_4]) (t := 27) ?hr ?_; (case hd => rfl); (case hg => rfl); (case hr => first | (go_simp; done) | (go_simp; rfl)); intro gb304 hg w14 hbox hb; have n0_ := aM (below_step (bB HB.out) hb); have n1_ := aM (hbox); have n2_ := aM ((by rw [hg]; exact (below_size (bB HB.out)) : w.heap.size ≤ gb304)); have n3_ := aM ((by rw [hg]; exact (below_size (bB HB.out)) : w.heap.size ≤ gb304)); clear HB; have HB := n0_; have BK304 := n1_; have GW304 := n2_; have GE304 := n3_; clear n0_ n1_ n2_ n3_; clear hb hbox hg; have hcz15_0 : w14.cell? ⟨gb304, 0, none⟩ = some (.string a1_0) := (blk_cell BK304.out 0).trans rfl; have hcz15_1 : w14.cell? ⟨gb304, 1, none⟩ = some (.slice A1_1 l1_1.length c1_1) := (blk_cell BK304.out 1).trans rfl; have hcz15_2 : w14.cell? ⟨gb304, 2, none⟩ = some (.slice A1_2 l1_2.length c1_2) := (blk_cell BK304.out 2).trans rfl; have hcz15_3 : w14.cell? ⟨gb304, 3, none⟩ = some (.slice A1_3 l1_3.length c1_3) := (blk_cell BK304.out 3).trans rfl; have hcz15_4 : w14.cell? ⟨gb304, 4, none⟩ = some (.slice A1_4 l1_4.length c1_4) := (blk_cell BK304.out 4).trans rfl; have hfz15_0 := blk_frozen BK304.out 0; have hfz15_1 := blk_frozen BK304.out 1; have hfz15_2 := blk_frozen BK304.out 2; have hfz15_3 := blk_frozen BK304.out 3; have hfz15_4 := blk_frozen BK304.out 4) | ((with_reducible refine gate_callee (f := 14) rfl ?_); refine goesL_ (some 21) rfl rfl Try.func14 (by kernel_rfl) rfl #[.slice A0 l0.length c0, .agg #[.string a1_0, .slice A1_1 l1_1.length c1_1, .slice A1_2 l1_2.length c1_2, .slice A1_3 l1_3.length c1_3, .slice A1_4 l1_4.length c1_4], .int .i64 a2, .slice A3 l3.length c3] rfl mT ?_; (with_reducible refine (r40_CheckTerms.calls k _ _ l0 a1_0 _ _ l1_1 _ _ l1_2 _ _ l1_3 _ _ l1_4 a2 _ _ l3 t305 _ ?side1 ?side2 ?side3 ?side4 ?side5 ?side6 ?side7 ?side8 ?side9 ?side10 ?side11 ?side12 A6.out).mono ?_); (case side1 => exact cB HR0.out HB.out); (case side2 => exact HC0.out); (case side3 => exact cB HR1_1.out HB.out); (case side4 => exact HC1_1.out); (case side5 => exact cB HR1_2.out HB.out); (case side6 => exact HC1_2.out); (case side7 => exact cB HR1_3.out HB.out); (case side8 => exact HC1_3.out); (case side9 => exact cB HR1_4.out HB.out); (case side10 => exact HC1_4.out); (case side11 => exact cB HR3.out HB.out); (case side12 => exact HC3.out); rintro e w16 ⟨rfl, hb⟩; refine ⟨_, rfl, ?_⟩; have n0_ := aM (kW BK304.out hb); have n1_ := aM (below_step (bB1 HB.out GE304.out) hb); clear BK304; clear HB; have BK304 := n0_; have HB := n1_; clear n0_ n1_; (try clear hb); (try clear hb2); (try clear hk); (try clear hi); have hcz17_0 : w16.cell? ⟨gb304, 0, none⟩ = some (.string a1_0) := (blk_cell BK304.out 0).trans rfl; have hcz17_1 : w16.cell? ⟨gb304, 1, none⟩ = some (.slice A1_1 l1_1.length c1_1) := (blk_cell BK304.out 1).trans rfl; have hcz17_2 : w16.cell? ⟨gb304, 2, none⟩ = some (.slice A1_2 l1_2.length c1_2) := (blk_cell BK304.out 2).trans rfl; have hcz17_3 : w16.cell? ⟨gb304, 3, none⟩ = some (.slice A1_3 l1_3.length c1_3) := (blk_cell BK304.out 3).trans rfl; have hcz17_4 : w16.cell? ⟨gb304, 4, none⟩ = some (.slice A1_4 l1_4.length c1_4) := (blk_cell BK304.out 4).trans rfl; have hfz17_0 := blk_frozen BK304.out 0; have hfz17_1 := blk_frozen BK304.out 1; have hfz17_2 := blk_frozen BK304.out 2; have hfz17_3 := blk_frozen BK304.out 3; have hfz17_4 := blk_frozen BK304.out 4) | ((with_reducible refine gate_callee (f := 40) rfl ?_); refine goesL_ (some 28) rfl rfl Try.func40 (by kernel_rfl) rfl #[.slice A0 l0.length c0, .agg #[.string a1_0, .slice A1_1 l1_1.length c1_1, .slice A1_2 l1_2.length c1_2, .slice A1_3 l1_3.length c1_3, .slice A1_4 l1_4.length c1_4], .slice A4 l4.length c4] rfl mT ?_; (with_reducible refine (r40_Bound.calls k _ _ l0 a1_0 _ _ l1_1 _ _ l1_2 _ _ l1_3 _ _ l1_4 _ _ l4 true _ ?side1 ?side2 ?side3 ?side4 ?side5 ?side6 ?side7 ?side8 ?side9 ?side10 ?side11 ?side12 A8.out).mono ?_); (case side1 => exact cB HR0.out HB.out); (case side2 => exact HC0.out); (case side3 => exact cB HR1_1.out HB.out); (case side4 => exact HC1_1.out); (case side5 => exact cB HR1_2.out HB.out); (case side6 => exact HC1_2.out); (case side7 => exact cB HR1_3.out HB.out); (case side8 => exact HC1_3.out); (case side9 => exact cB HR1_4.out HB.out); (case side10 => exact HC1_4.out); (case side11 => exact cB HR4.out HB.out); (case side12 => exact HC4.out); rintro e w18 ⟨rfl, hb⟩; refine ⟨_, rfl, ?_⟩; have n0_ := aM (kW BK304.out hb); have n1_ := aM (below_step (bB1 HB.out GE304.out) hb); clear BK304; clear HB; have BK304 := n0_; have HB := n1_; clear n0_ n1_; (try clear hb); (try clear hb2); (try clear hk); (try clear hi); have p307 : 0 ≤ (a2 : Int) := dT; have q307 : a2 < (l0.length : Int) := dT; obtain ⟨ad307, A307_1, c307_1, e307, hx307_0, hx307_1, hl307_1, hi307_1⟩ := at_T51 HR0.out a2 p307 q307; cases e307; replace hx307_0 := (HB.out.cell (World.block_lt_of_cell? w _ hx307_0)).trans hx307_0; replace hx307_1 := (HB.out.cell (World.block_lt_of_cell? w _ hx307_1)).trans hx307_1; have HR307_1 := aM hi307_1; have HC307_1 := aM hl307_1; clear hi307_1 hl307_1; replace p307 := eq_true p307; replace q307 := eq_true q307) | ((with_reducible refine gate_dst (N := 36) rfl ?_); refine Kd.R_make (Kd.int .i64) _ 3 rfl (N := 36) rfl 29 _ _ rfl (((rd_T51 l0 a2).f1).length : Int) rfl rfl Try.underlying29 (.int .i64 0) 8 info3 rfl (by decide) (by omega) 0 (ok := fun _ => True) (okp := fun _ => True) rfl (fun _ hk => hk) trivial (dT) (Nat.le_trans (Nat.mul_le_mul_right _ (dT : (((rd_T51 l0 a2).f1).length : Int).toNat ≤ 35184372088832)) (by omega)) (Below.refl _ _) (Nat.le_refl _) ?_; intro v309 w19 ho20 hb hg_ hnew_; clear hg_ hnew_; (first | rw [← Ny308.out] at ho20 | (simp only [Int.reduceToNat] at ho20; rw [← Ny308.out] at ho20)); have n0_ := aM (Kd.R_lower ho20 (below_size (bB1 HB.out GE304.out))); have n1_ := aM (kW BK304.out hb); have n2_ := aM (below_step (bB1 HB.out GE304.out) hb); clear BK304; clear HB; have HO310 := n0_; have BK304 := n1_; have HB := n2_; clear n0_ n1_ n2_; clear hb ho20))
       go_loopg [14] k (fun kq v14 w' => ∃ (x13_1 : List Int) (x14_1 : Int), v14 = .int .i64 x14_1 ∧ Aside0 (r40_Eval.l0 kq l0 a2 l3 l4 x13_1 x14_1 = some (r1, r2)) ∧ Aside0 (kq ≤ k) ∧ Aside0 (Kd.R (Kd.int .i64) 3 w' w.heap.size (fun _ => True) v309 x13_1) ∧ Aside0 (w'.heap[gb304]? = some (.cells #[.string a1_0, (.slice A1_1 l1_1.length c1_1), (.slice A1_2 l1_2.length c1_2), (.slice A1_3 l1_3.length c1_3), (.slice A1_4 l1_4.length c1_4)] 27 (0, 0))) ∧ Aside0 (Below w.heap.size w w'))
       case atStart => exact ⟨(y308), (0), eT, H', ⟨Nat.le_refl _⟩, ⟨by (with_reducible repeat (first | apply Kd.R_alloc | apply Kd.R_drewN | apply Kd.R_drew)); exact HO310.out⟩, ⟨kB BK304.out⟩, ⟨bB1 HB.out GE304.out⟩⟩
       case round =>
        clear H'
        try clear hx3
        try clear hx307_0
        try clear hx307_1
        obtain ⟨x13_1, x14_1, rfl, HA, HK1, HO_13, BK304, HB⟩ := hrel
        cases gk with
        | zero => exact absurd HA.out (by simp [r40_Eval.l0])
        | succ k1 =>
         have H := HA.out; clear HA
         simp only [r40_Eval.l0] at H
         by_cases c21 : x14_1 < (l3.length : Int)
         ·rw [if_pos c21] at H
          have c21b0 : decide (x14_1 < (l3.length : Int)) = true := decide_eq_true c21; clear c21
          by_cases c22 : 0 ≤ a2
          ·rw [if_pos c22] at H
           have c22b0 : decide (0 ≤ a2) = true := decide_eq_true c22; clear c22
           by_cases c23 : a2 < (l0.length : Int)
           ·rw [if_pos c23] at H
            have c23b0 : decide (a2 < (l0.length : Int)) = true := decide_eq_true c23; clear c23
            by_cases c24 : 0 ≤ x14_1
            ·rw [if_pos c24] at H
             have c24b0 : decide (0 ≤ x14_1) = true := decide_eq_true c24; clear c24; replace H := Option.bind_eq_some_iff.mp H; obtain ⟨t313, A250, H⟩ := H
             replace H : (r40_Eval.l1 k1 l0 a2 l3 l4 x13_1 x14_1 t313 0) = some (r1, r2) := H
             have A25 := aM A250; clear A250
             have H' := aM H
             clear H
             try go_wp2
             have n0_ := aM (Kd.R_drew HO_13.out); have n1_ := aM (blk_drew BK304.out); have n2_ := aM (below_drew1 HB.out); clear HO_13; clear BK304; clear HB; have HO_13 := n0_; have BK304 := n1_; have HB := n2_; clear n0_ n1_ n2_; have p311 : 0 ≤ (a2 : Int) := dT; have q311 : a2 < (l0.length : Int) := dT; obtain ⟨ad311, A311_1, c311_1, e311, hx311_0, hx311_1, hl311_1, hi311_1⟩ := at_T51 HR0.out a2 p311 q311; have hw311_1 := hx311_1; have hw311_0 := hx311_0; obtain rfl : ad307 = ad311 := (by injection e311)
             try (first | (have hq_ := (hHeld.1).symm.trans hx311_1; injection hq_ with hq_; injection hq_ with h1_ h2_ h3_; rw [h1_, h3_] at hHeld; (try clear hq_ h1_ h2_ h3_)) | (have hq_ := (hHeld).symm.trans hx311_1; injection hq_ with hq_; injection hq_ with h1_ h2_ h3_; rw [h1_, h3_] at hHeld; (try clear hq_ h1_ h2_ h3_)) | (have hq_ := (hHeld.2.1).symm.trans hx311_1; injection hq_ with hq_; injection hq_ with h1_ h2_ h3_; rw [h1_, h3_] at hHeld; (try clear hq_ h1_ h2_ h3_)) | (have hq_ := (hHeld.2).symm.trans hx311_1; injection hq_ with hq_; injection hq_ with h1_ h2_ h3_; rw [h1_, h3_] at hHeld; (try clear hq_ h1_ h2_ h3_)) | (have hq_ := (hHeld.2.2.1).symm.trans hx311_1; injection hq_ with hq_; injection hq_ with h1_ h2_ h3_; rw [h1_, h3_] at hHeld; (try clear hq_ h1_ h2_ h3_)) | (have hq_ := (hHeld.2.2).symm.trans hx311_1; injection hq_ with hq_; injection hq_ with h1_ h2_ h3_; rw [h1_, h3_] at hHeld; (try clear hq_ h1_ h2_ h3_)) | (have hq_ := (hHeld.2.2.2.1).symm.trans hx311_1; injection hq_ with hq_; injection hq_ with h1_ h2_ h3_; rw [h1_, h3_] at hHeld; (try clear hq_ h1_ h2_ h3_)) | (have hq_ := (hHeld.2.2.2).symm.trans hx311_1; injection hq_ with hq_; injection hq_ with h1_ h2_ h3_; rw [h1_, h3_] at hHeld; (try clear hq_ h1_ h2_ h3_)) | (have hq_ := (hHeld.2.2.2.2.1).symm.trans hx311_1; injection hq_ with hq_; injection hq_ with h1_ h2_ h3_; rw [h1_, h3_] at hHeld; (try clear hq_ h1_ h2_ h3_)) | (have hq_ := (hHeld.2.2.2.2).symm.trans hx311_1; injection hq_ with hq_; injection hq_ with h1_ h2_ h3_; rw [h1_, h3_] at hHeld; (try clear hq_ h1_ h2_ h3_)) | (have hq_ := (hHeld.2.2.2.2.2.1).symm.trans hx311_1; injection hq_ with hq_; injection hq_ with h1_ h2_ h3_; rw [h1_, h3_] at hHeld; (try clear hq_ h1_ h2_ h3_)) | (have hq_ := (hHeld.2.2.2.2.2).symm.trans hx311_1; injection hq_ with hq_; injection hq_ with h1_ h2_ h3_; rw [h1_, h3_] at hHeld; (try clear hq_ h1_ h2_ h3_)) | (have hq_ := (hHeld.2.2.2.2.2.2.1).symm.trans hx311_1; injection hq_ with hq_; injection hq_ with h1_ h2_ h3_; rw [h1_, h3_] at hHeld; (try clear hq_ h1_ h2_ h3_)) | (have hq_ := (hHeld.2.2.2.2.2.2).symm.trans hx311_1; injection hq_ with hq_; injection hq_ with h1_ h2_ h3_; rw [h1_, h3_] at hHeld; (try clear hq_ h1_ h2_ h3_)) | (have hq_ := (hHeld.2.2.2.2.2.2.2.1).symm.trans hx311_1; injection hq_ with hq_; injection hq_ with h1_ h2_ h3_; rw [h1_, h3_] at hHeld; (try clear hq_ h1_ h2_ h3_)) | (have hq_ := (hHeld.2.2.2.2.2.2.2).symm.trans hx311_1; injection hq_ with hq_; injection hq_ with h1_ h2_ h3_; rw [h1_, h3_] at hHeld; (try clear hq_ h1_ h2_ h3_)))
             replace hx311_0 := (HB.out.cell (World.block_lt_of_cell? w _ hx311_0)).trans hx311_0; replace hx311_1 := (HB.out.cell (World.block_lt_of_cell? w _ hx311_1)).trans hx311_1; have HR311_1 := aM hi311_1; have HC311_1 := aM hl311_1; clear hi311_1 hl311_1; replace p311 := eq_true p311; replace q311 := eq_true q311; have p312 : 0 ≤ (x14_1 : Int) := dT; have q312 : x14_1 < (l3.length : Int) := dT; obtain ⟨ad312, e312, hx312_0, hx312_1, hx312_2⟩ := at_T54 HR3.out x14_1 p312 q312; have hw312_2 := hx312_2; have hw312_1 := hx312_1; have hw312_0 := hx312_0; cases e312; replace hx312_0 := (HB.out.cell (World.block_lt_of_cell? w _ hx312_0)).trans hx312_0; replace hx312_1 := (HB.out.cell (World.block_lt_of_cell? w _ hx312_1)).trans hx312_1; replace hx312_2 := (HB.out.cell (World.block_lt_of_cell? w _ hx312_2)).trans hx312_2; replace p312 := eq_true p312; replace q312 := eq_true q312
             refine start_ (n := 11) (S := fun w' => w'.cell? (ad307.add ((a2).toNat * 2)) = some (.string ((rd_T51 l0 a2).f0)) ∧ w'.cell? ⟨(ad307.add ((a2).toNat * 2)).block, (ad307.add ((a2).toNat * 2)).off + 1, none⟩ = some (.slice A311_1 ((rd_T51 l0 a2).f1).length c311_1) ∧ w'.cell? (ad312.add ((x14_1).toNat * 3)) = some (.int .i64 ((rd_T54 l3 x14_1).f0)) ∧ w'.cell? ⟨(ad312.add ((x14_1).toNat * 3)).block, (ad312.add ((x14_1).toNat * 3)).off + 1, none⟩ = some (.int .i64 ((rd_T54 l3 x14_1).f1)) ∧ w'.cell? ⟨(ad312.add ((x14_1).toNat * 3)).block, (ad312.add ((x14_1).toNat * 3)).off + 2, none⟩ = some (.int .i64 ((rd_T54 l3 x14_1).f2))) (ds := []) #[false, false, false, false, false, false, false, false, false, false, false] (by kernel_rfl) rfl rfl ⟨((HB.out.cell (World.block_lt_of_cell? w _ hw311_0)).trans hw311_0), ((HB.out.cell (World.block_lt_of_cell? w _ hw311_1)).trans hw311_1), ((HB.out.cell (World.block_lt_of_cell? w _ hw312_0)).trans hw312_0), ((HB.out.cell (World.block_lt_of_cell? w _ hw312_1)).trans hw312_1), ((HB.out.cell (World.block_lt_of_cell? w _ hw312_2)).trans hw312_2)⟩ (fun hHeld => ?_); refine with_tabW r40_Eval.tab10 r40_Eval.bits10 (fun HT_ HW_ => ?_)
             generalize wr.drew = w26 at HO_13 BK304 HB HR311_1 hx311_0 hx311_1 hx312_0 hx312_1 hx312_2 hHeld ⊢
             refine pure_ (i := 0) (N := some 43) (v := ?_) (a' := ?_) #[true, false, false, false, false, false, false, false, false, false, false] rfl rfl (any_of HT_.out (by kernel_rfl)) (fun _ _ _ h => h) (Or.inl ⟨by rfl, ?_⟩) ?_ ?_; rotate_left; exact qT; rotate_left; exact pT
             refine pure_ (i := 1) (N := some 44) (v := ?_) (a' := ?_) #[true, true, false, false, false, false, false, false, false, false, false] rfl rfl (any_of HT_.out (by kernel_rfl)) (fun _ _ _ h => h) (Or.inl ⟨by rfl, ?_⟩) ?_ ?_; rotate_left; exact qT; rotate_left; exact pT
             refine pure_ (i := 2) (N := some 45) (v := ?_) (a' := ?_) #[true, true, true, false, false, false, false, false, false, false, false] rfl rfl (any_of HT_.out (by kernel_rfl)) (fun _ _ _ h => h) (Or.inl ⟨by rfl, ?_⟩) ?_ ?_; rotate_left; exact qT; rotate_left; exact pT
             refine pure_ (i := 4) (N := some 47) (v := ?_) (a' := ?_) #[true, true, true, false, true, false, false, false, false, false, false] rfl rfl (any_of HT_.out (by kernel_rfl)) (fun _ _ _ h => h) (Or.inl ⟨by rfl, ?_⟩) ?_ ?_; rotate_left; exact qT; rotate_left; exact pT
             refine pure_ (i := 5) (N := some 48) (v := ?_) (a' := ?_) #[true, true, true, false, true, true, false, false, false, false, false] rfl rfl (any_of HT_.out (by kernel_rfl)) (fun _ _ _ h => h) (Or.inl ⟨by rfl, ?_⟩) ?_ ?_; rotate_left; exact qT; rotate_left; exact pT
             refine pure_ (i := 6) (N := some 49) (v := ?_) (a' := ?_) #[true, true, true, false, true, true, true, false, false, false, false] rfl rfl (any_of HT_.out (by kernel_rfl)) (fun _ _ _ h => h) (Or.inl ⟨by rfl, ?_⟩) ?_ ?_; rotate_left; exact qT; rotate_left; exact pT
             refine pure_ (i := 8) (N := some 51) (v := ?_) (a' := ?_) #[true, true, true, false, true, true, true, false, true, false, false] rfl rfl (any_of HT_.out (by kernel_rfl)) (fun _ _ _ h => h) (Or.inl ⟨by rfl, ?_⟩) ?_ ?_; rotate_left; exact qT; rotate_left; exact pT
             refine take_ (i := 3) (N := some 46) (v := ?_) (a' := ?_) #[true, true, true, true, true, true, true, false, true, false, false] rfl rfl (take_ofW HT_.out HW_.out (by kernel_rfl)) (fun _ _ _ h => h) (Or.inl ⟨by rfl, ?_⟩) hHeld ?_ ?_; rotate_left; rintro w' ⟨s0, s1, s2, s3, s4⟩; go_simp; with_reducible rfl; rotate_left; exact pT
             refine take_ (i := 7) (N := some 50) (v := ?_) (a' := ?_) #[true, true, true, true, true, true, true, true, true, false, false] rfl rfl (take_ofW HT_.out HW_.out (by kernel_rfl)) (fun _ _ _ h => h) (Or.inl ⟨by rfl, ?_⟩) hHeld ?_ ?_; rotate_left; rintro w' ⟨s0, s1, s2, s3, s4⟩; go_simp; with_reducible rfl; rotate_left; exact pT
             refine one_ (i := 9) (N := some 52) #[true, true, true, true, true, true, true, true, true, true, false] rfl rfl (one_of HT_.out (by kernel_rfl)) (by decide) (fun K hK => ?_)
             refine goes_ Try.func41 (by kernel_rfl) rfl #[.agg #[.string ((rd_T51 l0 a2).f0), .slice A311_1 ((rd_T51 l0 a2).f1).length c311_1], .agg #[.int .i64 ((rd_T54 l3 x14_1).f0), .int .i64 ((rd_T54 l3 x14_1).f1), .int .i64 ((rd_T54 l3 x14_1).f2)], .slice A4 l4.length c4] (by rfl) rfl rfl mT ?_
             with_reducible refine (r40_color.calls k1 ((rd_T51 l0 a2).f0) _ _ ((rd_T51 l0 a2).f1) ((rd_T54 l3 x14_1).f0) ((rd_T54 l3 x14_1).f1) ((rd_T54 l3 x14_1).f2) _ _ l4 t313 _ ?side1 ?side2 ?side3 ?side4 A25.out).mono ?_
             (case side1 => exact cB HR311_1.out HB.out)
             (case side2 => exact HC311_1.out)
             (case side3 => exact cB HR4.out HB.out)
             (case side4 => exact HC4.out)
             rintro e w27 ⟨rfl, hb⟩
             refine ⟨_, rfl, ?_⟩
             have n0_ := aM (Kd.R_below (by (with_reducible repeat (first | apply Kd.R_alloc | apply Kd.R_drewN | apply Kd.R_drew)); exact HO_13.out) hb); have n1_ := aM (kW BK304.out hb); have n2_ := aM (below_step (bB1 HB.out GE304.out) hb); clear HO_13; clear BK304; clear HB; have HO_13 := n0_; have BK304 := n1_; have HB := n2_; clear n0_ n1_ n2_
             (try clear hb)
             (try clear hb2)
             (try clear hk)
             (try clear hi)
             refine hK.out _ _ ⟨((HB.out.cell (World.block_lt_of_cell? w _ hw311_0)).trans hw311_0), ((HB.out.cell (World.block_lt_of_cell? w _ hw311_1)).trans hw311_1), ((HB.out.cell (World.block_lt_of_cell? w _ hw312_0)).trans hw312_0), ((HB.out.cell (World.block_lt_of_cell? w _ hw312_1)).trans hw312_1), ((HB.out.cell (World.block_lt_of_cell? w _ hw312_2)).trans hw312_2)⟩ (fun hHeld => ?_)
             clear hK K
             refine norm_ (a' := ?_) ?_ ?_
             rotate_left
             ·show Act.put _ (some 52) _ = _
              simp only [Act.put, List.setIfInBounds_toArray, List.set_cons_zero, List.set_cons_succ, i64_w, i32_w]
              rfl
             refine pure_ (i := 10) (N := some 15) (v := ?_) (a' := ?_) #[true, true, true, true, true, true, true, true, true, true, true] rfl rfl (any_of HT_.out (by kernel_rfl)) (fun _ _ _ h => h) (Or.inl ⟨by rfl, ?_⟩) ?_ ?_; rotate_left; exact qT; rotate_left; exact pT
             refine done_ (done_of HT_.out (by kernel_rfl)) ?_
             try go_wp2
             go_loopg [16] k1 (fun kq v16 w' => ∃ (x13_2 : List Int) (x16_2 : Int), v16 = .int .i64 x16_2 ∧ Aside0 (r40_Eval.l1 kq l0 a2 l3 l4 x13_2 x14_1 t313 x16_2 = some (r1, r2)) ∧ Aside0 (kq ≤ k1) ∧ Aside0 (Kd.R (Kd.int .i64) 3 w' w.heap.size (fun _ => True) v309 x13_2) ∧ Aside0 (w'.heap[gb304]? = some (.cells #[.string a1_0, (.slice A1_1 l1_1.length c1_1), (.slice A1_2 l1_2.length c1_2), (.slice A1_3 l1_3.length c1_3), (.slice A1_4 l1_4.length c1_4)] 27 (0, 0))) ∧ Aside0 (Below w.heap.size w w'))
             case atStart => exact ⟨(x13_1), (0), eT, H', ⟨Nat.le_refl _⟩, ⟨by (with_reducible repeat (first | apply Kd.R_alloc | apply Kd.R_drewN | apply Kd.R_drew)); exact HO_13.out⟩, ⟨kB BK304.out⟩, ⟨bB1 HB.out GE304.out⟩⟩
             case round =>
              clear H'
              try clear hx3
              try clear hx307_0
              try clear hx307_1
              try clear hx311_0
              try clear hx311_1
              try clear hx312_0
              try clear hx312_1
              try clear hx312_2
              obtain ⟨x13_2, x16_2, rfl, HA, HK2, HO_13, BK304, HB⟩ := hrel
              cases gk with
              | zero => exact absurd HA.out (by simp [r40_Eval.l1])
              | succ k2 =>
               have H := HA.out; clear HA
               simp only [r40_Eval.l1] at H
               by_cases c28 : x16_2 < (x13_2.length : Int)
               ·rw [if_pos c28] at H
                have c28b0 : decide (x16_2 < (x13_2.length : Int)) = true := decide_eq_true c28; clear c28; have HC29 := aM H; clear H; obtain ⟨Ao30, co30, eo30⟩ := Kd.R_slice HO_13.out; subst eo30
                go_upto_region 14 with (fail)
                go_cut [65] (fun v65 wc => ∃ (kq : Nat) (x65_28 : Bool), v65 = .bool x65_28 ∧ Aside0 (r40_Eval.j2 kq l0 a2 l3 l4 x13_2 x14_1 t313 x16_2 x65_28 = some (r1, r2)) ∧ Aside0 (kq ≤ k2) ∧ Aside0 (Kd.R (Kd.int .i64) 3 wc w.heap.size (fun _ => True) (.slice Ao30 x13_2.length co30) x13_2) ∧ Aside0 (wc.heap[gb304]? = some (.cells #[.string a1_0, (.slice A1_1 l1_1.length c1_1), (.slice A1_2 l1_2.length c1_2), (.slice A1_3 l1_3.length c1_3), (.slice A1_4 l1_4.length c1_4)] 27 (0, 0))) ∧ Aside0 (Below w.heap.size w wc))
                case first =>
                 have H := HC29.out; clear HC29
                 by_cases c31 : t313 = (-1)
                 ·rw [if_pos c31] at H
                  have c31b0 : (t313 == (-1)) = true := beq_iff_eq.mpr c31; have c31b1 : (t313 != (-1)) = false := bne_eq_false_iff_eq.mpr c31; clear c31
                  (first | rw [c31b0] | (simp only [i64_w, i32_w]; rw [c31b0]) | skip)
                  have H' := aM H
                  clear H
                  go_wp2
                  go_meet
                  case rel => exact ⟨_, (true), eT, H', ⟨by have := HK1.out; have := HK2.out; first | omega | exact Nat.le_refl _⟩, ⟨by (with_reducible repeat (first | apply Kd.R_alloc | apply Kd.R_drewN | apply Kd.R_drew)); exact HO_13.out⟩, ⟨kB BK304.out⟩, ⟨bB1 HB.out GE304.out⟩⟩
                 ·rw [if_neg c31] at H
                  have c31b0 : (t313 == (-1)) = false := beq_eq_false_iff_ne.mpr c31; have c31b1 : (t313 != (-1)) = true := bne_iff_ne.mpr c31
                  (first | rw [c31b0] | (simp only [i64_w, i32_w]; rw [c31b0]) | skip)
                  have H' := aM H
                  clear H
                  go_wp2
                  go_meet
                  case rel => exact ⟨_, ((t313 == x16_2)), eT, H', ⟨by have := HK1.out; have := HK2.out; first | omega | exact Nat.le_refl _⟩, ⟨by (with_reducible repeat (first | apply Kd.R_alloc | apply Kd.R_drewN | apply Kd.R_drew)); exact HO_13.out⟩, ⟨kB BK304.out⟩, ⟨bB1 HB.out GE304.out⟩⟩
                case rest =>
                 clear HC29
                 try clear hx3
                 try clear hx30
                 try clear hx31
                 try clear hx307_0
                 try clear hx307_1
                 try clear hx311_0
                 try clear hx311_1
                 try clear hx312_0
                 try clear hx312_1
                 try clear hx312_2
                 obtain ⟨kq, x65_28, rfl, HA, HJ28, HO_13, BK304, HB⟩ := hcut
                 cases kq with
                 | zero => exact absurd HA.out (by simp [r40_Eval.j2])
                 | succ kj28 =>
                  have H := HA.out; clear HA
                  simp only [r40_Eval.j2] at H
                  by_cases c32 : x65_28 = true
                  ·subst c32
                   have H1 : (if 0 ≤ x16_2 then (if x16_2 < (x13_2.length : Int) then (if 0 ≤ x14_1 then (if x14_1 < (l3.length : Int) then (if (wrap64 ((rd x13_2 x16_2) + ((rd_T54 l3 x14_1).f0))) > 1048576 then (some (([] : List Int), 3)) else (r40_Eval.l1 kj28 l0 a2 l3 l4 (x13_2.set (x16_2 : Int).toNat (wrap64 ((rd x13_2 x16_2) + ((rd_T54 l3 x14_1).f0)))) x14_1 t313 (wrap64 (x16_2 + 1)))) else (none)) else (none)) else (none)) else (none)) = some (r1, r2) := by rw [if_pos rfl] at H; exact H
                   clear H; have H := H1; clear H1
                   by_cases c33 : 0 ≤ x16_2
                   ·rw [if_pos c33] at H
                    have c33b0 : decide (0 ≤ x16_2) = true := decide_eq_true c33; clear c33
                    by_cases c34 : x16_2 < (x13_2.length : Int)
                    ·rw [if_pos c34] at H
                     have c34b0 : decide (x16_2 < (x13_2.length : Int)) = true := decide_eq_true c34; clear c34
                     by_cases c35 : 0 ≤ x14_1
                     ·rw [if_pos c35] at H
                      have c35b0 : decide (0 ≤ x14_1) = true := decide_eq_true c35; clear c35
                      by_cases c36 : x14_1 < (l3.length : Int)
                      ·rw [if_pos c36] at H
                       have c36b0 : decide (x14_1 < (l3.length : Int)) = true := decide_eq_true c36; clear c36
                       obtain ⟨y316, hy316⟩ : ∃ y_ : List Int, y_ = (x13_2.set (x16_2 : Int).toNat (wrap64 ((rd x13_2 x16_2) + ((rd_T54 l3 x14_1).f0)))) := ⟨_, rfl⟩
                       replace H : (if (wrap64 ((rd x13_2 x16_2) + ((rd_T54 l3 x14_1).f0))) > 1048576 then (some (([] : List Int), 3)) else (r40_Eval.l1 kj28 l0 a2 l3 l4 y316 x14_1 t313 (wrap64 (x16_2 + 1)))) = some (r1, r2) := by first | (rw [hy316]; with_reducible exact H) | (have H2_ := (Option.bind_some _ _).symm.trans H; rw [hy316]; with_reducible exact H2_) | (have H2_ := (Option.bind_some _ _).symm.trans H; with_reducible exact H2_) | with_reducible exact H | (rw [hy316]; exact H) | exact H
                       have Ny316 := aM hy316; clear hy316
                       by_cases c39 : (wrap64 ((rd x13_2 x16_2) + ((rd_T54 l3 x14_1).f0))) > 1048576
                       ·rw [if_pos c39] at H
                        have c39b0 : decide (1048576 < (wrap64 ((rd x13_2 x16_2) + ((rd_T54 l3 x14_1).f0)))) = true := decide_eq_true c39; clear c39
                        simp only [Option.some.injEq, Prod.mk.injEq] at H
                        obtain ⟨rfl, rfl⟩ := H
                        try go_wp2
                        have n0_ := aM (Kd.R_drew HO_13.out); have n1_ := aM (blk_drew BK304.out); have n2_ := aM (below_drew1 HB.out); clear HO_13; clear BK304; clear HB; have HO_13 := n0_; have BK304 := n1_; have HB := n2_; clear n0_ n1_ n2_; have p314 : 0 ≤ (x16_2 : Int) := dT; have q314 : x16_2 < (x13_2.length : Int) := dT
                        try (obtain ⟨Aoz314, coz314, eoz314⟩ := Kd.R_slice HO_13.out; subst eoz314)
                        obtain ⟨ad314, e314, hx314_0⟩ := Kd.at_int (Kd.R_reads' HO_13.out).2.2 x16_2 p314 q314; cases e314; replace p314 := eq_true p314; replace q314 := eq_true q314; have p315 : 0 ≤ (x14_1 : Int) := dT; have q315 : x14_1 < (l3.length : Int) := dT; obtain ⟨ad315, e315, hx315_0, hx315_1, hx315_2⟩ := at_T54 HR3.out x14_1 p315 q315; have hw315_2 := hx315_2; have hw315_1 := hx315_1; have hw315_0 := hx315_0; obtain rfl : ad312 = ad315 := (by injection e315); replace hx315_0 := (HB.out.cell (World.block_lt_of_cell? w _ hx315_0)).trans hx315_0; replace hx315_1 := (HB.out.cell (World.block_lt_of_cell? w _ hx315_1)).trans hx315_1; replace hx315_2 := (HB.out.cell (World.block_lt_of_cell? w _ hx315_2)).trans hx315_2; replace p315 := eq_true p315; replace q315 := eq_true q315; have p37 : 0 ≤ (x16_2 : Int) := dT; have q37 : (x16_2 : Int) < ((x13_2.length : Int) : Int) := dT; obtain ⟨go37, co37, eo37, gb37, gl37, cl37, HG37⟩ := Kd.R_form HO_13.out (by omega)
                        (first | cases eo37 | (injection eo37 with ea_ en_ ec_; (first | subst ea_ | (injection ea_ with ea_; subst ea_)); subst ec_; clear en_))
                        have GB37 := aM gb37; have GG37 := aM HG37; clear gb37 gl37 HG37
                        (first | simp only [add_plain] at hx314_0 | skip)
                        obtain ⟨hx37_0, hf37_0⟩ := Kd.R_celln 0 HO_13.out (x16_2 : Int) p37 q37; replace p37 := eq_true p37; replace q37 := eq_true q37; have HP41 := Kd.R_putn HO_13.out (x16_2 : Int) (wrap64 ((rd x13_2 x16_2) + ((rd_T54 l3 x14_1).f0))); rw [← Ny316.out] at HP41; have HQ41 := aM HP41; clear HP41
                        refine start_ (n := 14) (S := fun w' => w'.cell? ⟨go37, (x16_2).toNat, none⟩ = some (.int .i64 (rd x13_2 x16_2)) ∧ w'.cell? (ad312.add ((x14_1).toNat * 3)) = some (.int .i64 ((rd_T54 l3 x14_1).f0)) ∧ w'.cell? ⟨(ad312.add ((x14_1).toNat * 3)).block, (ad312.add ((x14_1).toNat * 3)).off + 1, none⟩ = some (.int .i64 ((rd_T54 l3 x14_1).f1)) ∧ w'.cell? ⟨(ad312.add ((x14_1).toNat * 3)).block, (ad312.add ((x14_1).toNat * 3)).off + 2, none⟩ = some (.int .i64 ((rd_T54 l3 x14_1).f2))) (ds := [13]) #[false, false, false, false, false, false, false, false, false, false, false, false, false, false] (by kernel_rfl) rfl rfl ⟨hx314_0, ((HB.out.cell (World.block_lt_of_cell? w _ hw315_0)).trans hw315_0), ((HB.out.cell (World.block_lt_of_cell? w _ hw315_1)).trans hw315_1), ((HB.out.cell (World.block_lt_of_cell? w _ hw315_2)).trans hw315_2)⟩ (fun hHeld => ?_); refine with_tabW r40_Eval.tab15 r40_Eval.bits15 (fun HT_ HW_ => ?_)
                        generalize wc.drew = w40 at HO_13 BK304 HB GG37 HQ41 hf37_0 hx314_0 hx315_0 hx315_1 hx315_2 hx37_0 hHeld ⊢
                        refine pure_ (i := 0) (N := some 66) (v := ?_) (a' := ?_) #[true, false, false, false, false, false, false, false, false, false, false, false, false, false] rfl rfl (any_of HT_.out (by kernel_rfl)) (fun _ _ _ h => h) (Or.inl ⟨by rfl, ?_⟩) ?_ ?_; rotate_left; exact qT; rotate_left; exact pT
                        refine pure_ (i := 1) (N := some 67) (v := ?_) (a' := ?_) #[true, true, false, false, false, false, false, false, false, false, false, false, false, false] rfl rfl (any_of HT_.out (by kernel_rfl)) (fun _ _ _ h => h) (Or.inl ⟨by rfl, ?_⟩) ?_ ?_; rotate_left; exact qT; rotate_left; exact pT
                        refine pure_ (i := 2) (N := some 68) (v := ?_) (a' := ?_) #[true, true, true, false, false, false, false, false, false, false, false, false, false, false] rfl rfl (any_of HT_.out (by kernel_rfl)) (fun _ _ _ h => h) (Or.inl ⟨by rfl, ?_⟩) ?_ ?_; rotate_left; exact qT; rotate_left; exact pT
                        refine pure_ (i := 3) (N := some 69) (v := ?_) (a' := ?_) #[true, true, true, true, false, false, false, false, false, false, false, false, false, false] rfl rfl (any_of HT_.out (by kernel_rfl)) (fun _ _ _ h => h) (Or.inl ⟨by rfl, ?_⟩) ?_ ?_; rotate_left; exact qT; rotate_left; exact pT
                        refine pure_ (i := 4) (N := some 70) (v := ?_) (a' := ?_) #[true, true, true, true, true, false, false, false, false, false, false, false, false, false] rfl rfl (any_of HT_.out (by kernel_rfl)) (fun _ _ _ h => h) (Or.inl ⟨by rfl, ?_⟩) ?_ ?_; rotate_left; exact qT; rotate_left; exact pT
                        refine pure_ (i := 6) (N := some 72) (v := ?_) (a' := ?_) #[true, true, true, true, true, false, true, false, false, false, false, false, false, false] rfl rfl (any_of HT_.out (by kernel_rfl)) (fun _ _ _ h => h) (Or.inl ⟨by rfl, ?_⟩) ?_ ?_; rotate_left; exact qT; rotate_left; exact pT
                        refine pure_ (i := 7) (N := some 73) (v := ?_) (a' := ?_) #[true, true, true, true, true, false, true, true, false, false, false, false, false, false] rfl rfl (any_of HT_.out (by kernel_rfl)) (fun _ _ _ h => h) (Or.inl ⟨by rfl, ?_⟩) ?_ ?_; rotate_left; exact qT; rotate_left; exact pT
                        refine pure_ (i := 8) (N := some 74) (v := ?_) (a' := ?_) #[true, true, true, true, true, false, true, true, true, false, false, false, false, false] rfl rfl (any_of HT_.out (by kernel_rfl)) (fun _ _ _ h => h) (Or.inl ⟨by rfl, ?_⟩) ?_ ?_; rotate_left; exact qT; rotate_left; exact pT
                        refine pure_ (i := 9) (N := some 75) (v := ?_) (a' := ?_) #[true, true, true, true, true, false, true, true, true, true, false, false, false, false] rfl rfl (any_of HT_.out (by kernel_rfl)) (fun _ _ _ h => h) (Or.inl ⟨by rfl, ?_⟩) ?_ ?_; rotate_left; exact qT; rotate_left; exact pT
                        refine take_ (i := 5) (N := some 71) (v := ?_) (a' := ?_) #[true, true, true, true, true, true, true, true, true, true, false, false, false, false] rfl rfl (take_ofW HT_.out HW_.out (by kernel_rfl)) (fun _ _ _ h => h) (Or.inl ⟨by rfl, ?_⟩) hHeld ?_ ?_; rotate_left; rintro w' ⟨s0, s1, s2, s3⟩; go_simp; with_reducible rfl; rotate_left; exact pT
                        refine take_ (i := 10) (N := some 76) (v := ?_) (a' := ?_) #[true, true, true, true, true, true, true, true, true, true, true, false, false, false] rfl rfl (take_ofW HT_.out HW_.out (by kernel_rfl)) (fun _ _ _ h => h) (Or.inl ⟨by rfl, ?_⟩) hHeld ?_ ?_; rotate_left; rintro w' ⟨s0, s1, s2, s3⟩; go_simp; with_reducible rfl; rotate_left; exact pT
                        refine pure_ (i := 11) (N := some 77) (v := ?_) (a' := ?_) #[true, true, true, true, true, true, true, true, true, true, true, true, false, false] rfl rfl (any_of HT_.out (by kernel_rfl)) (fun _ _ _ h => h) (Or.inl ⟨by rfl, ?_⟩) ?_ ?_; rotate_left; exact qT; rotate_left; exact pT
                        refine pure_ (i := 12) (N := some 78) (v := ?_) (a' := ?_) #[true, true, true, true, true, true, true, true, true, true, true, true, true, false] rfl rfl (any_of HT_.out (by kernel_rfl)) (fun _ _ _ h => h) (Or.inl ⟨by rfl, ?_⟩) ?_ ?_; rotate_left; exact qT; rotate_left; exact pT
                        refine last_ (i := 13) (N := none) #[true, true, true, true, true, true, true, true, true, true, true, true, true, true] rfl rfl (one_of HT_.out (by kernel_rfl)) (by decide) (fun K hK => ?_)
                        refine skip_ (w1 := ?_) (by rfl) rfl ?_ ?_
                        rotate_left
                        ·go_simp
                         rfl
                        refine hK.out _ _ ?_
                        clear hK K
                        refine done_ (done_of HT_.out (by kernel_rfl)) ?_
                        have p38 : 0 ≤ (x16_2 : Int) := dT; have q38 : (x16_2 : Int) < ((x13_2.length : Int) : Int) := dT; replace p38 := eq_true p38; replace q38 := eq_true q38
                        try go_wp2
                        go_ret2
                        exact ⟨_, rT, by first | exact Kd.R_nil _ _ _ _ _ | exact Kd.N_nil _ _ _ _ _ | exact Kd.V_nil _ _ _ _ _ | exact Kd.Q_nil _ _ _ _ _ | exact Kd.S_nil _ _ _ _ _, by repeat (first | (with_reducible first | exact HB.out | apply below_alloc | apply pw_below_drewN | apply below_drew1 | refine below_set ?_ GB37.out | refine below_set ?_ GE304.out) | exact HB.out)⟩
                       ·rw [if_neg c39] at H
                        have c39b0 : decide (1048576 < (wrap64 ((rd x13_2 x16_2) + ((rd_T54 l3 x14_1).f0)))) = false := decide_eq_false c39; clear c39
                        have H' := aM H
                        clear H
                        try go_wp2
                        have n0_ := aM (Kd.R_drew HO_13.out); have n1_ := aM (blk_drew BK304.out); have n2_ := aM (below_drew1 HB.out); clear HO_13; clear BK304; clear HB; have HO_13 := n0_; have BK304 := n1_; have HB := n2_; clear n0_ n1_ n2_; have p314 : 0 ≤ (x16_2 : Int) := dT; have q314 : x16_2 < (x13_2.length : Int) := dT
                        try (obtain ⟨Aoz314, coz314, eoz314⟩ := Kd.R_slice HO_13.out; subst eoz314)
                        obtain ⟨ad314, e314, hx314_0⟩ := Kd.at_int (Kd.R_reads' HO_13.out).2.2 x16_2 p314 q314; cases e314; replace p314 := eq_true p314; replace q314 := eq_true q314; have p315 : 0 ≤ (x14_1 : Int) := dT; have q315 : x14_1 < (l3.length : Int) := dT; obtain ⟨ad315, e315, hx315_0, hx315_1, hx315_2⟩ := at_T54 HR3.out x14_1 p315 q315; have hw315_2 := hx315_2; have hw315_1 := hx315_1; have hw315_0 := hx315_0; obtain rfl : ad312 = ad315 := (by injection e315); replace hx315_0 := (HB.out.cell (World.block_lt_of_cell? w _ hx315_0)).trans hx315_0; replace hx315_1 := (HB.out.cell (World.block_lt_of_cell? w _ hx315_1)).trans hx315_1; replace hx315_2 := (HB.out.cell (World.block_lt_of_cell? w _ hx315_2)).trans hx315_2; replace p315 := eq_true p315; replace q315 := eq_true q315; have p37 : 0 ≤ (x16_2 : Int) := dT; have q37 : (x16_2 : Int) < ((x13_2.length : Int) : Int) := dT; obtain ⟨go37, co37, eo37, gb37, gl37, cl37, HG37⟩ := Kd.R_form HO_13.out (by omega)
                        (first | cases eo37 | (injection eo37 with ea_ en_ ec_; (first | subst ea_ | (injection ea_ with ea_; subst ea_)); subst ec_; clear en_))
                        have GB37 := aM gb37; have GG37 := aM HG37; clear gb37 gl37 HG37
                        (first | simp only [add_plain] at hx314_0 | skip)
                        obtain ⟨hx37_0, hf37_0⟩ := Kd.R_celln 0 HO_13.out (x16_2 : Int) p37 q37; replace p37 := eq_true p37; replace q37 := eq_true q37; have HP43 := Kd.R_putn HO_13.out (x16_2 : Int) (wrap64 ((rd x13_2 x16_2) + ((rd_T54 l3 x14_1).f0))); rw [← Ny316.out] at HP43; have HQ43 := aM HP43; clear HP43
                        refine start_ (n := 14) (S := fun w' => w'.cell? ⟨go37, (x16_2).toNat, none⟩ = some (.int .i64 (rd x13_2 x16_2)) ∧ w'.cell? (ad312.add ((x14_1).toNat * 3)) = some (.int .i64 ((rd_T54 l3 x14_1).f0)) ∧ w'.cell? ⟨(ad312.add ((x14_1).toNat * 3)).block, (ad312.add ((x14_1).toNat * 3)).off + 1, none⟩ = some (.int .i64 ((rd_T54 l3 x14_1).f1)) ∧ w'.cell? ⟨(ad312.add ((x14_1).toNat * 3)).block, (ad312.add ((x14_1).toNat * 3)).off + 2, none⟩ = some (.int .i64 ((rd_T54 l3 x14_1).f2))) (ds := [13]) #[false, false, false, false, false, false, false, false, false, false, false, false, false, false] (by kernel_rfl) rfl rfl ⟨hx314_0, ((HB.out.cell (World.block_lt_of_cell? w _ hw315_0)).trans hw315_0), ((HB.out.cell (World.block_lt_of_cell? w _ hw315_1)).trans hw315_1), ((HB.out.cell (World.block_lt_of_cell? w _ hw315_2)).trans hw315_2)⟩ (fun hHeld => ?_); refine with_tabW r40_Eval.tab15 r40_Eval.bits15 (fun HT_ HW_ => ?_)
                        generalize wc.drew = w42 at HO_13 BK304 HB GG37 HQ43 hf37_0 hx314_0 hx315_0 hx315_1 hx315_2 hx37_0 hHeld ⊢
                        refine pure_ (i := 0) (N := some 66) (v := ?_) (a' := ?_) #[true, false, false, false, false, false, false, false, false, false, false, false, false, false] rfl rfl (any_of HT_.out (by kernel_rfl)) (fun _ _ _ h => h) (Or.inl ⟨by rfl, ?_⟩) ?_ ?_; rotate_left; exact qT; rotate_left; exact pT
                        refine pure_ (i := 1) (N := some 67) (v := ?_) (a' := ?_) #[true, true, false, false, false, false, false, false, false, false, false, false, false, false] rfl rfl (any_of HT_.out (by kernel_rfl)) (fun _ _ _ h => h) (Or.inl ⟨by rfl, ?_⟩) ?_ ?_; rotate_left; exact qT; rotate_left; exact pT
                        refine pure_ (i := 2) (N := some 68) (v := ?_) (a' := ?_) #[true, true, true, false, false, false, false, false, false, false, false, false, false, false] rfl rfl (any_of HT_.out (by kernel_rfl)) (fun _ _ _ h => h) (Or.inl ⟨by rfl, ?_⟩) ?_ ?_; rotate_left; exact qT; rotate_left; exact pT
                        refine pure_ (i := 3) (N := some 69) (v := ?_) (a' := ?_) #[true, true, true, true, false, false, false, false, false, false, false, false, false, false] rfl rfl (any_of HT_.out (by kernel_rfl)) (fun _ _ _ h => h) (Or.inl ⟨by rfl, ?_⟩) ?_ ?_; rotate_left; exact qT; rotate_left; exact pT
                        refine pure_ (i := 4) (N := some 70) (v := ?_) (a' := ?_) #[true, true, true, true, true, false, false, false, false, false, false, false, false, false] rfl rfl (any_of HT_.out (by kernel_rfl)) (fun _ _ _ h => h) (Or.inl ⟨by rfl, ?_⟩) ?_ ?_; rotate_left; exact qT; rotate_left; exact pT
                        refine pure_ (i := 6) (N := some 72) (v := ?_) (a' := ?_) #[true, true, true, true, true, false, true, false, false, false, false, false, false, false] rfl rfl (any_of HT_.out (by kernel_rfl)) (fun _ _ _ h => h) (Or.inl ⟨by rfl, ?_⟩) ?_ ?_; rotate_left; exact qT; rotate_left; exact pT
                        refine pure_ (i := 7) (N := some 73) (v := ?_) (a' := ?_) #[true, true, true, true, true, false, true, true, false, false, false, false, false, false] rfl rfl (any_of HT_.out (by kernel_rfl)) (fun _ _ _ h => h) (Or.inl ⟨by rfl, ?_⟩) ?_ ?_; rotate_left; exact qT; rotate_left; exact pT
                        refine pure_ (i := 8) (N := some 74) (v := ?_) (a' := ?_) #[true, true, true, true, true, false, true, true, true, false, false, false, false, false] rfl rfl (any_of HT_.out (by kernel_rfl)) (fun _ _ _ h => h) (Or.inl ⟨by rfl, ?_⟩) ?_ ?_; rotate_left; exact qT; rotate_left; exact pT
                        refine pure_ (i := 9) (N := some 75) (v := ?_) (a' := ?_) #[true, true, true, true, true, false, true, true, true, true, false, false, false, false] rfl rfl (any_of HT_.out (by kernel_rfl)) (fun _ _ _ h => h) (Or.inl ⟨by rfl, ?_⟩) ?_ ?_; rotate_left; exact qT; rotate_left; exact pT
                        refine take_ (i := 5) (N := some 71) (v := ?_) (a' := ?_) #[true, true, true, true, true, true, true, true, true, true, false, false, false, false] rfl rfl (take_ofW HT_.out HW_.out (by kernel_rfl)) (fun _ _ _ h => h) (Or.inl ⟨by rfl, ?_⟩) hHeld ?_ ?_; rotate_left; rintro w' ⟨s0, s1, s2, s3⟩; go_simp; with_reducible rfl; rotate_left; exact pT
                        refine take_ (i := 10) (N := some 76) (v := ?_) (a' := ?_) #[true, true, true, true, true, true, true, true, true, true, true, false, false, false] rfl rfl (take_ofW HT_.out HW_.out (by kernel_rfl)) (fun _ _ _ h => h) (Or.inl ⟨by rfl, ?_⟩) hHeld ?_ ?_; rotate_left; rintro w' ⟨s0, s1, s2, s3⟩; go_simp; with_reducible rfl; rotate_left; exact pT
                        refine pure_ (i := 11) (N := some 77) (v := ?_) (a' := ?_) #[true, true, true, true, true, true, true, true, true, true, true, true, false, false] rfl rfl (any_of HT_.out (by kernel_rfl)) (fun _ _ _ h => h) (Or.inl ⟨by rfl, ?_⟩) ?_ ?_; rotate_left; exact qT; rotate_left; exact pT
                        refine pure_ (i := 12) (N := some 78) (v := ?_) (a' := ?_) #[true, true, true, true, true, true, true, true, true, true, true, true, true, false] rfl rfl (any_of HT_.out (by kernel_rfl)) (fun _ _ _ h => h) (Or.inl ⟨by rfl, ?_⟩) ?_ ?_; rotate_left; exact qT; rotate_left; exact pT
                        refine last_ (i := 13) (N := none) #[true, true, true, true, true, true, true, true, true, true, true, true, true, true] rfl rfl (one_of HT_.out (by kernel_rfl)) (by decide) (fun K hK => ?_)
                        refine skip_ (w1 := ?_) (by rfl) rfl ?_ ?_
                        rotate_left
                        ·go_simp
                         rfl
                        refine hK.out _ _ ?_
                        clear hK K
                        refine done_ (done_of HT_.out (by kernel_rfl)) ?_
                        have p38 : 0 ≤ (x16_2 : Int) := dT; have q38 : (x16_2 : Int) < ((x13_2.length : Int) : Int) := dT; replace p38 := eq_true p38; replace q38 := eq_true q38
                        try go_wp2
                        go_roundg kj28
                        case measure => have := HK1.out; have := HK2.out; have := HJ28.out; omega
                        case rel => exact ⟨(y316), (wrap64 (x16_2 + 1)), eT, H', ⟨by have := HK1.out; have := HK2.out; have := HJ28.out; omega⟩, ⟨by (with_reducible repeat (first | apply Kd.R_alloc | apply Kd.R_drewN | apply Kd.R_drew)); exact HQ43.out⟩, ⟨by (with_reducible repeat (first | refine blk_drewN ?_ _ | refine blk_drew ?_ | refine blk_alloc ?_ _)); refine blk_far ?_ (by have h_ := Kd.R_ne HO_13.out BK304.out (by decide); intro e_; exact h_ (by rw [e_]; rfl)) _; (with_reducible repeat (first | refine blk_drewN ?_ _ | refine blk_drew ?_ | refine blk_alloc ?_ _)); exact BK304.out⟩, ⟨by repeat (first | (with_reducible first | exact HB.out | apply below_alloc | apply pw_below_drewN | apply below_drew1 | refine below_set ?_ GB37.out | refine below_set ?_ GE304.out) | exact HB.out)⟩⟩
                      ·rw [if_neg c36] at H
                       exact absurd H (by simp)
                     ·rw [if_neg c35] at H
                      exact absurd H (by simp)
                    ·rw [if_neg c34] at H
                     exact absurd H (by simp)
                   ·rw [if_neg c33] at H
                    exact absurd H (by simp)
                  ·replace c32 := Bool.eq_false_iff.mpr c32
                   subst c32
                   have H1 : (if 0 ≤ x16_2 then (if x16_2 < (x13_2.length : Int) then (if (rd x13_2 x16_2) > 1048576 then (some (([] : List Int), 3)) else (r40_Eval.l1 kj28 l0 a2 l3 l4 x13_2 x14_1 t313 (wrap64 (x16_2 + 1)))) else (none)) else (none)) = some (r1, r2) := by rw [if_neg (show ¬ (false = true) by decide)] at H; exact H
                   clear H; have H := H1; clear H1
                   by_cases c44 : 0 ≤ x16_2
                   ·rw [if_pos c44] at H
                    have c44b0 : decide (0 ≤ x16_2) = true := decide_eq_true c44; clear c44
                    by_cases c45 : x16_2 < (x13_2.length : Int)
                    ·rw [if_pos c45] at H
                     have c45b0 : decide (x16_2 < (x13_2.length : Int)) = true := decide_eq_true c45; clear c45
                     by_cases c46 : (rd x13_2 x16_2) > 1048576
                     ·rw [if_pos c46] at H
                      have c46b0 : decide (1048576 < (rd x13_2 x16_2)) = true := decide_eq_true c46; clear c46
                      simp only [Option.some.injEq, Prod.mk.injEq] at H
                      obtain ⟨rfl, rfl⟩ := H; have p318 : 0 ≤ (x16_2 : Int) := dT; have q318 : x16_2 < (x13_2.length : Int) := dT
                      try (obtain ⟨Aoz318, coz318, eoz318⟩ := Kd.R_slice HO_13.out; subst eoz318)
                      obtain ⟨ad318, e318, hx318_0⟩ := Kd.at_int (Kd.R_reads' HO_13.out).2.2 x16_2 p318 q318; cases e318; replace p318 := eq_true p318; replace q318 := eq_true q318
                      go_wp2
                      go_ret2
                      exact ⟨_, rT, by first | exact Kd.R_nil _ _ _ _ _ | exact Kd.N_nil _ _ _ _ _ | exact Kd.V_nil _ _ _ _ _ | exact Kd.Q_nil _ _ _ _ _ | exact Kd.S_nil _ _ _ _ _, bB1 HB.out GE304.out⟩
                     ·rw [if_neg c46] at H
                      have c46b0 : decide (1048576 < (rd x13_2 x16_2)) = false := decide_eq_false c46; clear c46
                      have H' := aM H
                      clear H; have p318 : 0 ≤ (x16_2 : Int) := dT; have q318 : x16_2 < (x13_2.length : Int) := dT
                      try (obtain ⟨Aoz318, coz318, eoz318⟩ := Kd.R_slice HO_13.out; subst eoz318)
                      obtain ⟨ad318, e318, hx318_0⟩ := Kd.at_int (Kd.R_reads' HO_13.out).2.2 x16_2 p318 q318; cases e318; replace p318 := eq_true p318; replace q318 := eq_true q318
                      go_wp2
                      go_roundg kj28
                      case measure => have := HK1.out; have := HK2.out; have := HJ28.out; omega
                      case rel => exact ⟨(x13_2), (wrap64 (x16_2 + 1)), eT, H', ⟨by have := HK1.out; have := HK2.out; have := HJ28.out; omega⟩, ⟨by (with_reducible repeat (first | apply Kd.R_alloc | apply Kd.R_drewN | apply Kd.R_drew)); exact HO_13.out⟩, ⟨kB BK304.out⟩, ⟨bB1 HB.out GE304.out⟩⟩
                    ·rw [if_neg c45] at H
                     exact absurd H (by simp)
                   ·rw [if_neg c44] at H
                    exact absurd H (by simp)
               ·rw [if_neg c28] at H
                have c28b0 : decide (x16_2 < (x13_2.length : Int)) = false := decide_eq_false c28; clear c28
                have H' := aM H
                clear H; obtain ⟨Ao47, co47, eo47⟩ := Kd.R_slice HO_13.out; subst eo47
                go_wp2
                go_roundg k2
                case measure => have := HK1.out; have := HK2.out; omega
                case rel => exact ⟨(x13_2), (wrap64 (x14_1 + 1)), eT, H', ⟨by have := HK1.out; have := HK2.out; omega⟩, ⟨by (with_reducible repeat (first | apply Kd.R_alloc | apply Kd.R_drewN | apply Kd.R_drew)); exact HO_13.out⟩, ⟨kB BK304.out⟩, ⟨bB1 HB.out GE304.out⟩⟩
            ·rw [if_neg c24] at H
             exact absurd H (by simp)
           ·rw [if_neg c23] at H
            exact absurd H (by simp)
          ·rw [if_neg c22] at H
           exact absurd H (by simp)
         ·rw [if_neg c21] at H
          have c21b0 : decide (x14_1 < (l3.length : Int)) = false := decide_eq_false c21; clear c21
          simp only [Option.some.injEq, Prod.mk.injEq] at H
          obtain ⟨rfl, rfl⟩ := H
          go_wp2
          go_ret2
          exact ⟨_, rT, by (with_reducible repeat (first | apply Kd.R_alloc | apply Kd.R_drewN | apply Kd.R_drew)); exact HO_13.out, bB1 HB.out GE304.out⟩
      ·rw [if_neg c13] at H
       exact absurd H (by simp)
     ·rw [if_neg c12] at H
      exact absurd H (by simp)
    ·rw [if_neg c11] at H
     exact absurd H (by simp)
   ·rw [if_neg c10] at H
    exact absurd H (by simp)
  ·replace c9 := Bool.eq_false_iff.mpr c9
   subst c9
   have H1 : (some (([] : List Int), 15)) = some (r1, r2) := by rw [if_neg (show ¬ (false = true) by decide)] at H; exact H
   clear H; have H := H1; clear H1
   simp only [Option.some.injEq, Prod.mk.injEq] at H
   obtain ⟨rfl, rfl⟩ := H
   go_enter Try.func16, Try.ntmps16
   go_wp2_with (first | ((with_reducible refine gate_dst (N := 6) rfl ?_); refine box_event ?hg (N := 6) ?hd (cs := #[.string a1_0, .slice A1_1 l1_1.length c1_1, .slice A1_2 l1_2.length c1_2, .slice A1_3 l1_3.length c1_3, .slice A1_4 l1_4.length c1_4]) (t := 27) ?hr ?_; (case hd => rfl); (case hg => rfl); (case hr => first | (go_simp; done) | (go_simp; rfl)); intro gb304 hg w48 hbox hb; have n0_ := aM (below_step (bB HB.out) hb); have n1_ := aM (hbox); have n2_ := aM ((by rw [hg]; exact (below_size (bB HB.out)) : w.heap.size ≤ gb304)); have n3_ := aM ((by rw [hg]; exact (below_size (bB HB.out)) : w.heap.size ≤ gb304)); clear HB; have HB := n0_; have BK304 := n1_; have GW304 := n2_; have GE304 := n3_; clear n0_ n1_ n2_ n3_; clear hb hbox hg; have hcz49_0 : w48.cell? ⟨gb304, 0, none⟩ = some (.string a1_0) := (blk_cell BK304.out 0).trans rfl; have hcz49_1 : w48.cell? ⟨gb304, 1, none⟩ = some (.slice A1_1 l1_1.length c1_1) := (blk_cell BK304.out 1).trans rfl; have hcz49_2 : w48.cell? ⟨gb304, 2, none⟩ = some (.slice A1_2 l1_2.length c1_2) := (blk_cell BK304.out 2).trans rfl; have hcz49_3 : w48.cell? ⟨gb304, 3, none⟩ = some (.slice A1_3 l1_3.length c1_3) := (blk_cell BK304.out 3).trans rfl; have hcz49_4 : w48.cell? ⟨gb304, 4, none⟩ = some (.slice A1_4 l1_4.length c1_4) := (blk_cell BK304.out 4).trans rfl; have hfz49_0 := blk_frozen BK304.out 0; have hfz49_1 := blk_frozen BK304.out 1; have hfz49_2 := blk_frozen BK304.out 2; have hfz49_3 := blk_frozen BK304.out 3; have hfz49_4 := blk_frozen BK304.out 4) | ((with_reducible refine gate_callee (f := 14) rfl ?_); refine goesL_ (some 21) rfl rfl Try.func14 (by kernel_rfl) rfl #[.slice A0 l0.length c0, .agg #[.string a1_0, .slice A1_1 l1_1.length c1_1, .slice A1_2 l1_2.length c1_2, .slice A1_3 l1_3.length c1_3, .slice A1_4 l1_4.length c1_4], .int .i64 a2, .slice A3 l3.length c3] rfl mT ?_; (with_reducible refine (r40_CheckTerms.calls k _ _ l0 a1_0 _ _ l1_1 _ _ l1_2 _ _ l1_3 _ _ l1_4 a2 _ _ l3 t305 _ ?side1 ?side2 ?side3 ?side4 ?side5 ?side6 ?side7 ?side8 ?side9 ?side10 ?side11 ?side12 A6.out).mono ?_); (case side1 => exact cB HR0.out HB.out); (case side2 => exact HC0.out); (case side3 => exact cB HR1_1.out HB.out); (case side4 => exact HC1_1.out); (case side5 => exact cB HR1_2.out HB.out); (case side6 => exact HC1_2.out); (case side7 => exact cB HR1_3.out HB.out); (case side8 => exact HC1_3.out); (case side9 => exact cB HR1_4.out HB.out); (case side10 => exact HC1_4.out); (case side11 => exact cB HR3.out HB.out); (case side12 => exact HC3.out); rintro e w50 ⟨rfl, hb⟩; refine ⟨_, rfl, ?_⟩; have n0_ := aM (kW BK304.out hb); have n1_ := aM (below_step (bB1 HB.out GE304.out) hb); clear BK304; clear HB; have BK304 := n0_; have HB := n1_; clear n0_ n1_; (try clear hb); (try clear hb2); (try clear hk); (try clear hi); have hcz51_0 : w50.cell? ⟨gb304, 0, none⟩ = some (.string a1_0) := (blk_cell BK304.out 0).trans rfl; have hcz51_1 : w50.cell? ⟨gb304, 1, none⟩ = some (.slice A1_1 l1_1.length c1_1) := (blk_cell BK304.out 1).trans rfl; have hcz51_2 : w50.cell? ⟨gb304, 2, none⟩ = some (.slice A1_2 l1_2.length c1_2) := (blk_cell BK304.out 2).trans rfl; have hcz51_3 : w50.cell? ⟨gb304, 3, none⟩ = some (.slice A1_3 l1_3.length c1_3) := (blk_cell BK304.out 3).trans rfl; have hcz51_4 : w50.cell? ⟨gb304, 4, none⟩ = some (.slice A1_4 l1_4.length c1_4) := (blk_cell BK304.out 4).trans rfl; have hfz51_0 := blk_frozen BK304.out 0; have hfz51_1 := blk_frozen BK304.out 1; have hfz51_2 := blk_frozen BK304.out 2; have hfz51_3 := blk_frozen BK304.out 3; have hfz51_4 := blk_frozen BK304.out 4) | ((with_reducible refine gate_callee (f := 40) rfl ?_); refine goesL_ (some 28) rfl rfl Try.func40 (by kernel_rfl) rfl #[.slice A0 l0.length c0, .agg #[.string a1_0, .slice A1_1 l1_1.length c1_1, .slice A1_2 l1_2.length c1_2, .slice A1_3 l1_3.length c1_3, .slice A1_4 l1_4.length c1_4], .slice A4 l4.length c4] rfl mT ?_; (with_reducible refine (r40_Bound.calls k _ _ l0 a1_0 _ _ l1_1 _ _ l1_2 _ _ l1_3 _ _ l1_4 _ _ l4 false _ ?side1 ?side2 ?side3 ?side4 ?side5 ?side6 ?side7 ?side8 ?side9 ?side10 ?side11 ?side12 A8.out).mono ?_); (case side1 => exact cB HR0.out HB.out); (case side2 => exact HC0.out); (case side3 => exact cB HR1_1.out HB.out); (case side4 => exact HC1_1.out); (case side5 => exact cB HR1_2.out HB.out); (case side6 => exact HC1_2.out); (case side7 => exact cB HR1_3.out HB.out); (case side8 => exact HC1_3.out); (case side9 => exact cB HR1_4.out HB.out); (case side10 => exact HC1_4.out); (case side11 => exact cB HR4.out HB.out); (case side12 => exact HC4.out); rintro e w52 ⟨rfl, hb⟩; refine ⟨_, rfl, ?_⟩; have n0_ := aM (kW BK304.out hb); have n1_ := aM (below_step (bB1 HB.out GE304.out) hb); clear BK304; clear HB; have BK304 := n0_; have HB := n1_; clear n0_ n1_; (try clear hb); (try clear hb2); (try clear hk); (try clear hi)))
   go_ret2
   exact ⟨_, rT, by first | exact Kd.R_nil _ _ _ _ _ | exact Kd.N_nil _ _ _ _ _ | exact Kd.V_nil _ _ _ _ _ | exact Kd.Q_nil _ _ _ _ _ | exact Kd.S_nil _ _ _ _ _, bB1 HB.out GE304.out⟩
 ·rw [if_neg c7] at H
  have c7b0 : (t305 == 0) = false := beq_eq_false_iff_ne.mpr c7; have c7b1 : (t305 != 0) = true := bne_iff_ne.mpr c7
  simp only [Option.some.injEq, Prod.mk.injEq] at H
  obtain ⟨rfl, rfl⟩ := H
  go_enter Try.func16, Try.ntmps16
  go_wp2_with (first | ((with_reducible refine gate_dst (N := 6) rfl ?_); refine box_event ?hg (N := 6) ?hd (cs := #[.string a1_0, .slice A1_1 l1_1.length c1_1, .slice A1_2 l1_2.length c1_2, .slice A1_3 l1_3.length c1_3, .slice A1_4 l1_4.length c1_4]) (t := 27) ?hr ?_; (case hd => rfl); (case hg => rfl); (case hr => first | (go_simp; done) | (go_simp; rfl)); intro gb304 hg w53 hbox hb; have n0_ := aM (below_step (bB HB.out) hb); have n1_ := aM (hbox); have n2_ := aM ((by rw [hg]; exact (below_size (bB HB.out)) : w.heap.size ≤ gb304)); have n3_ := aM ((by rw [hg]; exact (below_size (bB HB.out)) : w.heap.size ≤ gb304)); clear HB; have HB := n0_; have BK304 := n1_; have GW304 := n2_; have GE304 := n3_; clear n0_ n1_ n2_ n3_; clear hb hbox hg; have hcz54_0 : w53.cell? ⟨gb304, 0, none⟩ = some (.string a1_0) := (blk_cell BK304.out 0).trans rfl; have hcz54_1 : w53.cell? ⟨gb304, 1, none⟩ = some (.slice A1_1 l1_1.length c1_1) := (blk_cell BK304.out 1).trans rfl; have hcz54_2 : w53.cell? ⟨gb304, 2, none⟩ = some (.slice A1_2 l1_2.length c1_2) := (blk_cell BK304.out 2).trans rfl; have hcz54_3 : w53.cell? ⟨gb304, 3, none⟩ = some (.slice A1_3 l1_3.length c1_3) := (blk_cell BK304.out 3).trans rfl; have hcz54_4 : w53.cell? ⟨gb304, 4, none⟩ = some (.slice A1_4 l1_4.length c1_4) := (blk_cell BK304.out 4).trans rfl; have hfz54_0 := blk_frozen BK304.out 0; have hfz54_1 := blk_frozen BK304.out 1; have hfz54_2 := blk_frozen BK304.out 2; have hfz54_3 := blk_frozen BK304.out 3; have hfz54_4 := blk_frozen BK304.out 4) | ((with_reducible refine gate_callee (f := 14) rfl ?_); refine goesL_ (some 21) rfl rfl Try.func14 (by kernel_rfl) rfl #[.slice A0 l0.length c0, .agg #[.string a1_0, .slice A1_1 l1_1.length c1_1, .slice A1_2 l1_2.length c1_2, .slice A1_3 l1_3.length c1_3, .slice A1_4 l1_4.length c1_4], .int .i64 a2, .slice A3 l3.length c3] rfl mT ?_; (with_reducible refine (r40_CheckTerms.calls k _ _ l0 a1_0 _ _ l1_1 _ _ l1_2 _ _ l1_3 _ _ l1_4 a2 _ _ l3 t305 _ ?side1 ?side2 ?side3 ?side4 ?side5 ?side6 ?side7 ?side8 ?side9 ?side10 ?side11 ?side12 A6.out).mono ?_); (case side1 => exact cB HR0.out HB.out); (case side2 => exact HC0.out); (case side3 => exact cB HR1_1.out HB.out); (case side4 => exact HC1_1.out); (case side5 => exact cB HR1_2.out HB.out); (case side6 => exact HC1_2.out); (case side7 => exact cB HR1_3.out HB.out); (case side8 => exact HC1_3.out); (case side9 => exact cB HR1_4.out HB.out); (case side10 => exact HC1_4.out); (case side11 => exact cB HR3.out HB.out); (case side12 => exact HC3.out); rintro e w55 ⟨rfl, hb⟩; refine ⟨_, rfl, ?_⟩; have n0_ := aM (kW BK304.out hb); have n1_ := aM (below_step (bB1 HB.out GE304.out) hb); clear BK304; clear HB; have BK304 := n0_; have HB := n1_; clear n0_ n1_; (try clear hb); (try clear hb2); (try clear hk); (try clear hi)))
  go_ret2
  exact ⟨_, rT, by first | exact Kd.R_nil _ _ _ _ _ | exact Kd.N_nil _ _ _ _ _ | exact Kd.V_nil _ _ _ _ _ | exact Kd.Q_nil _ _ _ _ _ | exact Kd.S_nil _ _ _ _ _, bB1 HB.out GE304.out⟩




/-! ### r04_Same: function 17 -/
def r04_Same.l0 : Nat → List Int → List Int → Int → Option (Bool)
 | 0, _, _, _ => none
 | k + 1, x0, x1, x5 => if x5 < (x0.length : Int) then (if 0 ≤ x5 then (if x5 < (x1.length : Int) then (if (rd x0 x5) = (rd x1 x5) then (r04_Same.l0 k x0 x1 (wrap64 (x5 + 1))) else (some false)) else (none)) else (none)) else (some true)
def r04_Same.f (k : Nat) (l0 : List Int) (l1 : List Int) : Option (Bool) := if (l0.length : Int) = (l1.length : Int) then (r04_Same.l0 k l0 l1 0) else (some false)
theorem r04_Same.mono_l : ∀ k, (∀ y0 y1 y2, LeO (r04_Same.l0 k y0 y1 y2) (r04_Same.l0 (k + 1) y0 y1 y2))
 | 0 => fun _ _ _ r h => by simp [r04_Same.l0] at h
 | k + 1 => by
  have ih0 := r04_Same.mono_l k
  ·intro y0 y1 y2
   unfold r04_Same.l0
   repeat' first
   | (with_reducible first | exact ih0 _ _ _ | exact LeO.refl _ | exact LeO.none _ | refine LeO.ite ?_ ?_ | refine LeO.bind ?_ (fun _ => ?_))
   | exact LeO.none _
   | refine LeO.ite ?_ ?_
   | refine LeO.bind ?_ (fun _ => ?_)
theorem r04_Same.mono : ∀ a0 a1 k, LeO (r04_Same.f k a0 a1) (r04_Same.f (k + 1) a0 a1) := by
 intro a0 a1 k
 have ih0 := r04_Same.mono_l k
 unfold r04_Same.f
 repeat' first
   | (with_reducible first | exact ih0 _ _ _ | exact LeO.refl _ | exact LeO.none _ | refine LeO.ite ?_ ?_ | refine LeO.bind ?_ (fun _ => ?_))
   | exact LeO.none _
   | refine LeO.ite ?_ ?_
   | refine LeO.bind ?_ (fun _ => ?_)
set_option maxHeartbeats 8000000 in
set_option maxRecDepth 100000 in
theorem r04_Same.calls (k : Nat) (A0 : Option Addr) (c0 : Nat) (l0 : List Int) (A1 : Option Addr) (c1 : Nat) (l1 : List Int) (r : Bool) (w : World) (hr0 : Kd.C (Kd.int .i64) w A0 l0.length l0) (hc0 : l0.length ≤ c0) (hr1 : Kd.C (Kd.int .i64) w A1 l1.length l1) (hc1 : l1.length ≤ c1) (h : r04_Same.f k l0 l1 = some r) :
  Calls Try.prog 17 #[.slice A0 l0.length c0, .slice A1 l1.length c1] w fun e w' => e = .returned (.bool r) ∧ Drawn0 w w' := by
 have HR0 := aM hr0; have HC0 := aM hc0; clear hr0 hc0; have HR1 := aM hr1; have HC1 := aM hc1; clear hr1 hc1; have H : (if (l0.length : Int) = (l1.length : Int) then (r04_Same.l0 k l0 l1 0) else (some false)) = some r := h; clear h
 by_cases c3 : (l0.length : Int) = (l1.length : Int)
 ·rw [if_pos c3] at H
  have c3b0 : ((l0.length : Int) == (l1.length : Int)) = true := beq_iff_eq.mpr c3; have c3b1 : ((l0.length : Int) != (l1.length : Int)) = false := bne_eq_false_iff_eq.mpr c3
  have c3b2 : (l0.length == l1.length) = true := by first | simpa using c3 | (simp at c3 ⊢; omega)
  clear c3
  have H' := aM H
  clear H
  go_enter Try.func17, Try.ntmps17
  go_wp2
  repeat (go_quiet (fail); try go_wp2)
  go_loopg [5] k (fun kq v5 w' => ∃ (x5_1 : Int), v5 = .int .i64 x5_1 ∧ Aside0 (r04_Same.l0 kq l0 l1 x5_1 = some r) ∧ Aside0 (kq ≤ k) ∧ Drawn0 w w')
  case atStart => exact ⟨(0), eT, H', ⟨Nat.le_refl _⟩, by repeat (first | exact Drawn0.refl _ | apply Drawn0.step)⟩
  case round =>
   clear H'
   obtain ⟨x5_1, rfl, HA, HK1, ⟨m1, rfl⟩⟩ := hrel
   cases gk with
   | zero => exact absurd HA.out (by simp [r04_Same.l0])
   | succ k1 =>
    have H := HA.out; clear HA
    simp only [r04_Same.l0] at H
    by_cases c4 : x5_1 < (l0.length : Int)
    ·rw [if_pos c4] at H
     have c4b0 : decide (x5_1 < (l0.length : Int)) = true := decide_eq_true c4; clear c4
     by_cases c5 : 0 ≤ x5_1
     ·rw [if_pos c5] at H
      have c5b0 : decide (0 ≤ x5_1) = true := decide_eq_true c5; clear c5
      by_cases c6 : x5_1 < (l1.length : Int)
      ·rw [if_pos c6] at H
       have c6b0 : decide (x5_1 < (l1.length : Int)) = true := decide_eq_true c6; clear c6
       by_cases c7 : (rd l0 x5_1) = (rd l1 x5_1)
       ·rw [if_pos c7] at H
        have c7b0 : ((rd l0 x5_1) == (rd l1 x5_1)) = true := beq_iff_eq.mpr c7; have c7b1 : ((rd l0 x5_1) != (rd l1 x5_1)) = false := bne_eq_false_iff_eq.mpr c7; clear c7
        have H' := aM H
        clear H; have p319 : 0 ≤ (x5_1 : Int) := dT; have q319 : x5_1 < (l0.length : Int) := dT; obtain ⟨ad319, e319, hx319_0⟩ := Kd.at_int HR0.out x5_1 p319 q319; cases e319; replace p319 := eq_true p319; replace q319 := eq_true q319; have p320 : 0 ≤ (x5_1 : Int) := dT; have q320 : x5_1 < (l1.length : Int) := dT; obtain ⟨ad320, e320, hx320_0⟩ := Kd.at_int HR1.out x5_1 p320 q320; cases e320; replace p320 := eq_true p320; replace q320 := eq_true q320
        go_wp2
        repeat (go_quiet (fail); try go_wp2)
        go_roundg k1
        case measure => have := HK1.out; omega
        case rel => exact ⟨(wrap64 (x5_1 + 1)), eT, H', ⟨by have := HK1.out; omega⟩, by repeat (first | exact Drawn0.refl _ | apply Drawn0.step)⟩
       ·rw [if_neg c7] at H
        have c7b0 : ((rd l0 x5_1) == (rd l1 x5_1)) = false := beq_eq_false_iff_ne.mpr c7; have c7b1 : ((rd l0 x5_1) != (rd l1 x5_1)) = true := bne_iff_ne.mpr c7
        obtain rfl := Option.some.inj H
        have p319 : 0 ≤ (x5_1 : Int) := dT; have q319 : x5_1 < (l0.length : Int) := dT; obtain ⟨ad319, e319, hx319_0⟩ := Kd.at_int HR0.out x5_1 p319 q319; cases e319; replace p319 := eq_true p319; replace q319 := eq_true q319; have p320 : 0 ≤ (x5_1 : Int) := dT; have q320 : x5_1 < (l1.length : Int) := dT; obtain ⟨ad320, e320, hx320_0⟩ := Kd.at_int HR1.out x5_1 p320 q320; cases e320; replace p320 := eq_true p320; replace q320 := eq_true q320
        go_wp2
        repeat (go_quiet (fail); try go_wp2)
        go_ret
        exact ⟨by first | rfl | (simp; done) | (simp [*]; done), by repeat (first | exact Drawn0.refl _ | apply Drawn0.step)⟩
      ·rw [if_neg c6] at H
       exact absurd H (by simp)
     ·rw [if_neg c5] at H
      exact absurd H (by simp)
    ·rw [if_neg c4] at H
     have c4b0 : decide (x5_1 < (l0.length : Int)) = false := decide_eq_false c4; clear c4
     obtain rfl := Option.some.inj H
     go_wp2
     repeat (go_quiet (fail); try go_wp2)
     go_ret
     exact ⟨by first | rfl | (simp; done) | (simp [*]; done), by repeat (first | exact Drawn0.refl _ | apply Drawn0.step)⟩
 ·rw [if_neg c3] at H
  have c3b0 : ((l0.length : Int) == (l1.length : Int)) = false := beq_eq_false_iff_ne.mpr c3; have c3b1 : ((l0.length : Int) != (l1.length : Int)) = true := bne_iff_ne.mpr c3
  have c3b2 : (l0.length == l1.length) = false := by first | simpa using c3 | (simp at c3 ⊢; omega)
  obtain rfl := Option.some.inj H
  go_enter Try.func17, Try.ntmps17
  go_wp2
  repeat (go_quiet (fail); try go_wp2)
  go_ret
  exact ⟨by first | rfl | (simp; done) | (simp [*]; done), by repeat (first | exact Drawn0.refl _ | apply Drawn0.step)⟩




section
-- STUBBED 19
/-! ### r40_Holds: function 19: by hand -/
open Go.Proofs.Ytapkjfnfkalibaa.Iter

def r40_Holds.f (k : Nat) (x : List S51) (a1 : ByteArray) (b1 : List S48) (c1 : List S62) (d1 : List S111) (e1 : List S111) (l2 : List Int) : Option Bool := (r40_Check.f k x a1 b1 c1 d1 e1).bind fun e => if e = 0 then (r40_Bound.f k x a1 b1 c1 d1 e1 l2).bind fun b => if b = true then (if c1.length ≤ 1000 then holdsGo l2 c1 else none) else some false else some false
theorem r40_Holds.mono (x : List S51) (a1 : ByteArray) (b1 : List S48) (c1 : List S62) (d1 : List S111) (e1 : List S111) (l2 : List Int) (k : Nat) : LeO (r40_Holds.f k x a1 b1 c1 d1 e1 l2) (r40_Holds.f (k + 1) x a1 b1 c1 d1 e1 l2) := by
 unfold r40_Holds.f
 exact LeO.bind (r40_Check.mono _ _ _ _ _ _ _) fun e => LeO.ite (LeO.bind (r40_Bound.mono _ _ _ _ _ _ _ _) fun b => LeO.refl _) (LeO.refl _)
theorem rh5 {W : World} {g : Nat} {t : TypeId} {x y z u v : Value} (h : Blk W g t [x, y, z, u, v]) : W.cell? ⟨g, 1, none⟩ = some y ∧ W.cell? ⟨g, 2, none⟩ = some z := by
 refine ⟨?_, ?_⟩ <;> simp [World.cell?, show W.heap[g]? = _ from h]
theorem rh5all {W : World} {g : Nat} {t : TypeId} {x y z u v : Value} (h : Blk W g t [x, y, z, u, v]) : W.cell? ⟨g, 0, none⟩ = some x ∧ W.cell? ⟨g, 1, none⟩ = some y ∧ W.cell? ⟨g, 2, none⟩ = some z ∧ W.cell? ⟨g, 3, none⟩ = some u ∧ W.cell? ⟨g, 4, none⟩ = some v := by
 refine ⟨?_, ?_, ?_, ?_, ?_⟩ <;> simp [World.cell?, show W.heap[g]? = _ from h]
set_option maxHeartbeats 16000000 in
set_option maxRecDepth 100000 in
theorem r40_Holds.calls (k : Nat) (A0 : Option Addr) (c0 : Nat) (l0 : List S51) (a1_0 : ByteArray) (A1_1 : Option Addr) (c1_1 : Nat) (l1_1 : List S48) (A1_2 : Option Addr) (c1_2 : Nat) (l1_2 : List S62) (A1_3 : Option Addr) (c1_3 : Nat) (l1_3 : List S111) (A1_4 : Option Addr) (c1_4 : Nat) (l1_4 : List S111) (A2 : Option Addr) (c2 : Nat) (l2 : List Int) (r : Bool) (w : World) (hr0 : Kd.C k51 w A0 l0.length l0) (hc0 : l0.length ≤ c0) (hr1_1 : Kd.C k48 w A1_1 l1_1.length l1_1) (hc1_1 : l1_1.length ≤ c1_1) (hr1_2 : Kd.C k62 w A1_2 l1_2.length l1_2) (hc1_2 : l1_2.length ≤ c1_2) (hr1_3 : Kd.C k111 w A1_3 l1_3.length l1_3) (hc1_3 : l1_3.length ≤ c1_3) (hr1_4 : Kd.C k111 w A1_4 l1_4.length l1_4) (hc1_4 : l1_4.length ≤ c1_4) (hr2 : Kd.C (Kd.int .i64) w A2 l2.length l2) (hc2 : l2.length ≤ c2) (h : r40_Holds.f k l0 a1_0 l1_1 l1_2 l1_3 l1_4 l2 = some r) :
  Calls Try.prog 19 #[.slice A0 l0.length c0, .agg #[.string a1_0, .slice A1_1 l1_1.length c1_1, .slice A1_2 l1_2.length c1_2, .slice A1_3 l1_3.length c1_3, .slice A1_4 l1_4.length c1_4], .slice A2 l2.length c2] w fun e w' => e = .returned (.bool r) ∧ Below w.heap.size w w' := by
 unfold r40_Holds.f at h
 have K0 := Aside0.mk hr0
 have K0c := Aside0.mk hc0
 have K1 := Aside0.mk hr1_1
 have K1c := Aside0.mk hc1_1
 have HRG := Aside0.mk hr1_2
 have K2c := Aside0.mk hc1_2
 have K3 := Aside0.mk hr1_3
 have K3c := Aside0.mk hc1_3
 have K4 := Aside0.mk hr1_4
 have K4c := Aside0.mk hc1_4
 have HRB := Aside0.mk hr2
 have K5c := Aside0.mk hc2
 clear hr0 hc0 hr1_1 hc1_1 hr1_2 hc1_2 hr1_3 hc1_3 hr1_4 hc1_4 hr2 hc2
 obtain ⟨er, hk, h⟩ := Option.bind_eq_some_iff.mp h
 have HK := Aside0.mk hk
 clear hk
 by_cases her : er = 0
 ·subst her
  rw [if_pos rfl] at h
  obtain ⟨v, hv, h⟩ := Option.bind_eq_some_iff.mp h
  have HV := Aside0.mk hv
  clear hv
  cases v with
  | false =>
   rw [if_neg (by simp), Option.some.injEq] at h
   subst h
   go_enter Try.func19, Try.ntmps19
   go_wp2_with (first | (go_at_call 12; (with_reducible refine (r40_Check.calls k A0 c0 l0 _ A1_1 c1_1 l1_1 A1_2 c1_2 l1_2 A1_3 c1_3 l1_3 A1_4 c1_4 l1_4 0 _ (Kd.C_alloc K0.out _) K0c.out (Kd.C_alloc K1.out _) K1c.out (Kd.C_alloc HRG.out _) K2c.out (Kd.C_alloc K3.out _) K3c.out (Kd.C_alloc K4.out _) K4c.out HK.out).mono ?_); rintro e w1 ⟨rfl, hb1⟩; have HS1 := Aside0.mk (show Blk w1 w.heap.size 27 [.string a1_0, .slice A1_1 l1_1.length c1_1, .slice A1_2 l1_2.length c1_2, .slice A1_3 l1_3.length c1_3, .slice A1_4 l1_4.length c1_4] from blk_later (World.alloc_heap_new w (.cells #[.string a1_0, .slice A1_1 l1_1.length c1_1, .slice A1_2 l1_2.length c1_2, .slice A1_3 l1_3.length c1_3, .slice A1_4 l1_4.length c1_4] 27)) hb1); have HB1 := Aside0.mk (show Below w.heap.size w w1 from ((Below.refl _ w).alloc (Nat.le_refl _) _).trans (hb1.mono (by simp))); obtain ⟨z0, z1, z2, z3, z4⟩ := rh5all HS1.out; clear hb1) | (go_at_call 40; (with_reducible refine (r40_Bound.calls k A0 c0 l0 _ A1_1 c1_1 l1_1 A1_2 c1_2 l1_2 A1_3 c1_3 l1_3 A1_4 c1_4 l1_4 A2 c2 l2 false _ ?h0 K0c.out ?h1 K1c.out ?h2 K2c.out ?h3 K3c.out ?h4 K4c.out ?h5 K5c.out HV.out).mono ?_); (case h0 => exact Kd.C_below K0.out HB1.out); (case h1 => exact Kd.C_below K1.out HB1.out); (case h2 => exact Kd.C_below HRG.out HB1.out); (case h3 => exact Kd.C_below K3.out HB1.out); (case h4 => exact Kd.C_below K4.out HB1.out); (case h5 => exact Kd.C_below HRB.out HB1.out); rintro e w2 ⟨rfl, hb2⟩; have HS := Aside0.mk (blk_later HS1.out hb2); have HB := Aside0.mk (below_step HB1.out hb2); clear hb2))
   go_ret
   exact ⟨rfl, HB.out⟩
  | true =>
   rw [if_pos rfl] at h
   by_cases hle : l1_2.length ≤ 1000
   ·rw [if_pos hle] at h
    have HH := Aside0.mk (show holdsGo l2 (l1_2.drop 0) = some r by rw [List.drop_zero]; exact h)
    clear h
    go_enter Try.func19, Try.ntmps19
    go_wp2_with (first | (go_at_call 12; (with_reducible refine (r40_Check.calls k A0 c0 l0 _ A1_1 c1_1 l1_1 A1_2 c1_2 l1_2 A1_3 c1_3 l1_3 A1_4 c1_4 l1_4 0 _ (Kd.C_alloc K0.out _) K0c.out (Kd.C_alloc K1.out _) K1c.out (Kd.C_alloc HRG.out _) K2c.out (Kd.C_alloc K3.out _) K3c.out (Kd.C_alloc K4.out _) K4c.out HK.out).mono ?_); rintro e w1 ⟨rfl, hb1⟩; have HS1 := Aside0.mk (show Blk w1 w.heap.size 27 [.string a1_0, .slice A1_1 l1_1.length c1_1, .slice A1_2 l1_2.length c1_2, .slice A1_3 l1_3.length c1_3, .slice A1_4 l1_4.length c1_4] from blk_later (World.alloc_heap_new w (.cells #[.string a1_0, .slice A1_1 l1_1.length c1_1, .slice A1_2 l1_2.length c1_2, .slice A1_3 l1_3.length c1_3, .slice A1_4 l1_4.length c1_4] 27)) hb1); have HB1 := Aside0.mk (show Below w.heap.size w w1 from ((Below.refl _ w).alloc (Nat.le_refl _) _).trans (hb1.mono (by simp))); obtain ⟨z0, z1, z2, z3, z4⟩ := rh5all HS1.out; clear hb1) | (go_at_call 40; (with_reducible refine (r40_Bound.calls k A0 c0 l0 _ A1_1 c1_1 l1_1 A1_2 c1_2 l1_2 A1_3 c1_3 l1_3 A1_4 c1_4 l1_4 A2 c2 l2 true _ ?h0 K0c.out ?h1 K1c.out ?h2 K2c.out ?h3 K3c.out ?h4 K4c.out ?h5 K5c.out HV.out).mono ?_); (case h0 => exact Kd.C_below K0.out HB1.out); (case h1 => exact Kd.C_below K1.out HB1.out); (case h2 => exact Kd.C_below HRG.out HB1.out); (case h3 => exact Kd.C_below K3.out HB1.out); (case h4 => exact Kd.C_below K4.out HB1.out); (case h5 => exact Kd.C_below HRB.out HB1.out); rintro e w2 ⟨rfl, hb2⟩; have HS := Aside0.mk (blk_later HS1.out hb2); have HB := Aside0.mk (below_step HB1.out hb2); clear hb2))
    clear HS1 HB1 z0 z1 z2 z3 z4
    go_loopw [7] (fun v7 wr => ∃ j : Nat, v7 = .int .i64 (j : Int) ∧ j ≤ l1_2.length ∧ Aside0 (holdsGo l2 (l1_2.drop j) = some r) ∧ Aside0 (Blk wr w.heap.size 27 [.string a1_0, .slice A1_1 l1_1.length c1_1, .slice A1_2 l1_2.length c1_2, .slice A1_3 l1_3.length c1_3, .slice A1_4 l1_4.length c1_4]) ∧ Aside0 (Below w.heap.size w wr)) (fun v7 _ => l1_2.length + 1 - (intOf v7).toNat)
    case atStart => exact ⟨0, rfl, Nat.zero_le _, HH, HS, HB⟩
    case round =>
     clear HH HB HS
     obtain ⟨j, rfl, hj, HH, HS, HB⟩ := hrel
     by_cases hjl : j < l1_2.length
     ·have H := HH.out
      obtain ⟨adg, eg, hg0, hg1, hg2⟩ := at_T62 HRG.out (j : Int) (by omega) (by omega)
      obtain ⟨g, egg⟩ : ∃ g, g = l1_2[j] := ⟨_, rfl⟩
      rw [show rd_T62 l1_2 (j : Int) = g by rw [egg]; simp [rd_T62, hjl]] at hg0 hg1 hg2
      rw [Int.toNat_natCast] at hg0 hg1 hg2
      rw [List.drop_eq_getElem_cons hjl, holdsGo, ← egg] at H
      replace hg0 := (HB.out.cell (World.block_lt_of_cell? w _ hg0)).trans hg0
      replace hg1 := (HB.out.cell (World.block_lt_of_cell? w _ hg1)).trans hg1
      replace hg2 := (HB.out.cell (World.block_lt_of_cell? w _ hg2)).trans hg2
      cases eg
      clear egg
      have hv2 := (rh5 HS.out).2
      have hsr := HB.out.size
      have p1 : (0 ≤ (j : Int)) = True := eq_true (by omega)
      have qq1 : ((j : Int) < (l1_2.length : Int)) = True := eq_true (by omega)
      have qq3 : decide ((j : Int) < (l1_2.length : Int)) = true := decide_eq_true (by omega)
      by_cases hin : (0 ≤ g.f1 ∧ g.f1 < (l2.length : Int)) ∧ 0 ≤ g.f2 ∧ g.f2 < (l2.length : Int)
      ·rw [if_pos hin] at H
       obtain ⟨⟨b1, b2⟩, b3, b4⟩ := hin
       obtain ⟨adv, ev1, hy⟩ := Kd.at_int HRB.out g.f1 b1 b2
       obtain ⟨adw, ev2, hz⟩ := Kd.at_int HRB.out g.f2 b3 b4
       obtain rfl : adv = adw := by rw [ev1] at ev2; injection ev2
       obtain ⟨x, ex⟩ : ∃ x, rd l2 g.f1 = x := ⟨_, rfl⟩
       obtain ⟨y, ey⟩ : ∃ y, rd l2 g.f2 = y := ⟨_, rfl⟩
       rw [ex] at hy H
       rw [ey] at hz H
       have hY : ∀ o, (wr.alloc o).cell? _ = _ := fun o => ((below_alloc HB.out o).cell (World.block_lt_of_cell? w _ hy)).trans hy
       have hZ : ∀ o, (wr.alloc o).cell? _ = _ := fun o => ((below_alloc HB.out o).cell (World.block_lt_of_cell? w _ hz)).trans hz
       have r1 : (0 ≤ g.f1) = True := eq_true b1
       have r2 : (g.f1 < (l2.length : Int)) = True := eq_true b2
       have r3 : (0 ≤ g.f2) = True := eq_true b3
       have r4 : (g.f2 < (l2.length : Int)) = True := eq_true b4
       cases ev1
       clear ev2 hy hz b1 b2 b3 b4 ex ey
       have H2 := Aside0.mk H
       clear H
       obtain ⟨e1, q1⟩ : ∃ b, (g.f0 == 1) = b := ⟨_, rfl⟩
       obtain ⟨e2, q2⟩ : ∃ b, (g.f0 == 2) = b := ⟨_, rfl⟩
       obtain ⟨e3, q3⟩ : ∃ b, (g.f0 == 3) = b := ⟨_, rfl⟩
       obtain ⟨n1, s1⟩ : ∃ b, (x != y) = b := ⟨_, rfl⟩
       obtain ⟨n2, s2⟩ : ∃ b, (x == y) = b := ⟨_, rfl⟩
       obtain ⟨n3, s3⟩ : ∃ b, decide (y ≤ x) = b := ⟨_, rfl⟩
       have HBAD := Aside0.mk (show badG g.f0 x y = ((e1 && n1) || (e2 && n2) || (e3 && n3)) by unfold badG; rw [q1, q2, q3, s1, s2, s3])
       cases e1 with
       | true =>
        cases n1 with
        | true =>
         have H := H2.out
         rw [HBAD.out, show (_ || _ || _) = true from rfl, if_pos rfl, Option.some.injEq] at H
         subst H
         go_wp2
         go_region
         all_goals go_wp2
         all_goals go_ret
         all_goals exact ⟨rfl, by (with_reducible repeat (first | apply pw_below_drewN | apply below_drew1)); exact below_alloc HB.out _⟩
        | false =>
         cases e2 with
         | true =>
          cases n2 with
          | true =>
           have H := H2.out
           rw [HBAD.out, show (_ || _ || _) = true from rfl, if_pos rfl, Option.some.injEq] at H
           subst H
           go_wp2
           go_region
           all_goals go_wp2
           all_goals go_ret
           all_goals exact ⟨rfl, by (with_reducible repeat (first | apply pw_below_drewN | apply below_drew1)); exact below_alloc HB.out _⟩
          | false =>
           cases e3 with
           | true =>
            cases n3 with
            | true =>
             have H := H2.out
             rw [HBAD.out, show (_ || _ || _) = true from rfl, if_pos rfl, Option.some.injEq] at H
             subst H
             go_wp2
             go_region
             all_goals go_wp2
             all_goals go_ret
             all_goals exact ⟨rfl, by (with_reducible repeat (first | apply pw_below_drewN | apply below_drew1)); exact below_alloc HB.out _⟩
            | false =>
             have H := H2.out
             rw [HBAD.out, show (_ || _ || _) = false from rfl, if_neg (by simp)] at H
             have HH3 := Aside0.mk H
             clear H
             go_wp2
             go_region
             all_goals go_wp2
             go_roundw
             case rel => exact ⟨j + 1, rfl, by omega, HH3, ⟨by unfold Blk; (with_reducible repeat (first | refine blk_drewN ?_ _ | refine blk_drew ?_ | refine blk_alloc ?_ _)); exact HS.out⟩, ⟨by (with_reducible repeat (first | apply pw_below_drewN | apply below_drew1)); exact below_alloc HB.out _⟩⟩
             case measure => simp [intOf]; omega
           | false =>
            have H := H2.out
            rw [HBAD.out, show (_ || _ || _) = false from rfl, if_neg (by simp)] at H
            have HH3 := Aside0.mk H
            clear H
            go_wp2
            go_region
            all_goals go_wp2
            go_roundw
            case rel => exact ⟨j + 1, rfl, by omega, HH3, ⟨by unfold Blk; (with_reducible repeat (first | refine blk_drewN ?_ _ | refine blk_drew ?_ | refine blk_alloc ?_ _)); exact HS.out⟩, ⟨by (with_reducible repeat (first | apply pw_below_drewN | apply below_drew1)); exact below_alloc HB.out _⟩⟩
            case measure => simp [intOf]; omega
         | false =>
          cases e3 with
          | true =>
           cases n3 with
           | true =>
            have H := H2.out
            rw [HBAD.out, show (_ || _ || _) = true from rfl, if_pos rfl, Option.some.injEq] at H
            subst H
            go_wp2
            go_region
            all_goals go_wp2
            all_goals go_ret
            all_goals exact ⟨rfl, by (with_reducible repeat (first | apply pw_below_drewN | apply below_drew1)); exact below_alloc HB.out _⟩
           | false =>
            have H := H2.out
            rw [HBAD.out, show (_ || _ || _) = false from rfl, if_neg (by simp)] at H
            have HH3 := Aside0.mk H
            clear H
            go_wp2
            go_region
            all_goals go_wp2
            go_roundw
            case rel => exact ⟨j + 1, rfl, by omega, HH3, ⟨by unfold Blk; (with_reducible repeat (first | refine blk_drewN ?_ _ | refine blk_drew ?_ | refine blk_alloc ?_ _)); exact HS.out⟩, ⟨by (with_reducible repeat (first | apply pw_below_drewN | apply below_drew1)); exact below_alloc HB.out _⟩⟩
            case measure => simp [intOf]; omega
          | false =>
           have H := H2.out
           rw [HBAD.out, show (_ || _ || _) = false from rfl, if_neg (by simp)] at H
           have HH3 := Aside0.mk H
           clear H
           go_wp2
           go_region
           all_goals go_wp2
           go_roundw
           case rel => exact ⟨j + 1, rfl, by omega, HH3, ⟨by unfold Blk; (with_reducible repeat (first | refine blk_drewN ?_ _ | refine blk_drew ?_ | refine blk_alloc ?_ _)); exact HS.out⟩, ⟨by (with_reducible repeat (first | apply pw_below_drewN | apply below_drew1)); exact below_alloc HB.out _⟩⟩
           case measure => simp [intOf]; omega
       | false =>
        cases e2 with
        | true =>
         cases n2 with
         | true =>
          have H := H2.out
          rw [HBAD.out, show (_ || _ || _) = true from rfl, if_pos rfl, Option.some.injEq] at H
          subst H
          go_wp2
          go_region
          all_goals go_wp2
          all_goals go_ret
          all_goals exact ⟨rfl, by (with_reducible repeat (first | apply pw_below_drewN | apply below_drew1)); exact below_alloc HB.out _⟩
         | false =>
          cases e3 with
          | true =>
           cases n3 with
           | true =>
            have H := H2.out
            rw [HBAD.out, show (_ || _ || _) = true from rfl, if_pos rfl, Option.some.injEq] at H
            subst H
            go_wp2
            go_region
            all_goals go_wp2
            all_goals go_ret
            all_goals exact ⟨rfl, by (with_reducible repeat (first | apply pw_below_drewN | apply below_drew1)); exact below_alloc HB.out _⟩
           | false =>
            have H := H2.out
            rw [HBAD.out, show (_ || _ || _) = false from rfl, if_neg (by simp)] at H
            have HH3 := Aside0.mk H
            clear H
            go_wp2
            go_region
            all_goals go_wp2
            go_roundw
            case rel => exact ⟨j + 1, rfl, by omega, HH3, ⟨by unfold Blk; (with_reducible repeat (first | refine blk_drewN ?_ _ | refine blk_drew ?_ | refine blk_alloc ?_ _)); exact HS.out⟩, ⟨by (with_reducible repeat (first | apply pw_below_drewN | apply below_drew1)); exact below_alloc HB.out _⟩⟩
            case measure => simp [intOf]; omega
          | false =>
           have H := H2.out
           rw [HBAD.out, show (_ || _ || _) = false from rfl, if_neg (by simp)] at H
           have HH3 := Aside0.mk H
           clear H
           go_wp2
           go_region
           all_goals go_wp2
           go_roundw
           case rel => exact ⟨j + 1, rfl, by omega, HH3, ⟨by unfold Blk; (with_reducible repeat (first | refine blk_drewN ?_ _ | refine blk_drew ?_ | refine blk_alloc ?_ _)); exact HS.out⟩, ⟨by (with_reducible repeat (first | apply pw_below_drewN | apply below_drew1)); exact below_alloc HB.out _⟩⟩
           case measure => simp [intOf]; omega
        | false =>
         cases e3 with
         | true =>
          cases n3 with
          | true =>
           have H := H2.out
           rw [HBAD.out, show (_ || _ || _) = true from rfl, if_pos rfl, Option.some.injEq] at H
           subst H
           go_wp2
           go_region
           all_goals go_wp2
           all_goals go_ret
           all_goals exact ⟨rfl, by (with_reducible repeat (first | apply pw_below_drewN | apply below_drew1)); exact below_alloc HB.out _⟩
          | false =>
           have H := H2.out
           rw [HBAD.out, show (_ || _ || _) = false from rfl, if_neg (by simp)] at H
           have HH3 := Aside0.mk H
           clear H
           go_wp2
           go_region
           all_goals go_wp2
           go_roundw
           case rel => exact ⟨j + 1, rfl, by omega, HH3, ⟨by unfold Blk; (with_reducible repeat (first | refine blk_drewN ?_ _ | refine blk_drew ?_ | refine blk_alloc ?_ _)); exact HS.out⟩, ⟨by (with_reducible repeat (first | apply pw_below_drewN | apply below_drew1)); exact below_alloc HB.out _⟩⟩
           case measure => simp [intOf]; omega
         | false =>
          have H := H2.out
          rw [HBAD.out, show (_ || _ || _) = false from rfl, if_neg (by simp)] at H
          have HH3 := Aside0.mk H
          clear H
          go_wp2
          go_region
          all_goals go_wp2
          go_roundw
          case rel => exact ⟨j + 1, rfl, by omega, HH3, ⟨by unfold Blk; (with_reducible repeat (first | refine blk_drewN ?_ _ | refine blk_drew ?_ | refine blk_alloc ?_ _)); exact HS.out⟩, ⟨by (with_reducible repeat (first | apply pw_below_drewN | apply below_drew1)); exact below_alloc HB.out _⟩⟩
          case measure => simp [intOf]; omega
      ·rw [if_neg hin] at H
       cases H
     ·obtain rfl : j = l1_2.length := by omega
      have H := HH.out
      rw [List.drop_length, holdsGo, Option.some.injEq] at H
      subst H
      have hv2 := (rh5 HS.out).2
      have qq3 : decide ((l1_2.length : Int) < (l1_2.length : Int)) = false := decide_eq_false (by omega)
      clear HH
      go_wp2
      go_ret
      exact ⟨rfl, HB.out⟩
   ·rw [if_neg hle] at h
    cases h
 ·rw [if_neg her, Option.some.injEq] at h
  subst h
  have q1 : (er != 0) = true := bne_iff_ne.2 her
  clear her
  go_enter Try.func19, Try.ntmps19
  go_wp2_with (go_at_call 12; (with_reducible refine (r40_Check.calls k A0 c0 l0 _ A1_1 c1_1 l1_1 A1_2 c1_2 l1_2 A1_3 c1_3 l1_3 A1_4 c1_4 l1_4 er _ (Kd.C_alloc K0.out _) K0c.out (Kd.C_alloc K1.out _) K1c.out (Kd.C_alloc HRG.out _) K2c.out (Kd.C_alloc K3.out _) K3c.out (Kd.C_alloc K4.out _) K4c.out HK.out).mono ?_); rintro e w1 ⟨rfl, hb1⟩; have HS1 := Aside0.mk (show Blk w1 w.heap.size 27 [.string a1_0, .slice A1_1 l1_1.length c1_1, .slice A1_2 l1_2.length c1_2, .slice A1_3 l1_3.length c1_3, .slice A1_4 l1_4.length c1_4] from blk_later (World.alloc_heap_new w (.cells #[.string a1_0, .slice A1_1 l1_1.length c1_1, .slice A1_2 l1_2.length c1_2, .slice A1_3 l1_3.length c1_3, .slice A1_4 l1_4.length c1_4] 27)) hb1); have HB1 := Aside0.mk (show Below w.heap.size w w1 from ((Below.refl _ w).alloc (Nat.le_refl _) _).trans (hb1.mono (by simp))); obtain ⟨z0, z1, z2, z3, z4⟩ := rh5all HS1.out; clear hb1)
  go_ret
  exact ⟨rfl, HB1.out⟩


end



end Go.Proofs.Ytapkjfnfkalibaa.Pr
