/- Functions that the statement reaches: what each answers, and that the program answers it (written by a program of this work). -/
import Derived.Test.YtaphehdbjbogaaaProg
import Derived.Below
import Derived.Deep.Draws
import Derived.Deep.AppendLies
import Derived.Maps.AppendAt
import Derived.OwnWalk
import Derived.Laws.BytesArg
import Derived.Laws.MakeOwn
import Derived.Laws.OwnMore
import Derived.Deep.OwnRows
import Derived.Tactics
import Derived.Lib.ConvBytes
import Derived.Laws.Slices
import Derived.WalkKit
import Derived.KernelRfl
import Derived.RowKit3
import Derived.Deep.LoopGhost
import Derived.Deep.QuietTactic
import Derived.BigQuiet
import Derived.WideLaws
import Derived.Deep.DeepCutAuto
import Derived.Deep.CutBlock
import Derived.Deep.RegionHeld3
import Derived.Laws.Rows
import Derived.Lib.AppendStr
import Derived.ArgAppend
import Derived.Laws.IdiomCopy
import Derived.OrdersHeld
import Derived.Laws.BitsLemmas
import Derived.RowKit
import Derived.WalkMore
import Derived.Test.YtaphehdbjbogaaaVSiphonStays
import Derived.Test.YtaphehdbjbogaaaBSiphonStays
import Derived.Test.YtaphehdbjbogaaaQSiphonStays0
import Derived.Test.YtaphehdbjbogaaaQSiphonStays1
namespace Go.Proofs.Ytaphehdbjbogaaa.Pr
open Go.RowKit Go.Proofs.YtaphehdbjbogaaaW.PrintWords Go.Proofs.YtaphehdbjbogaaaW.PrintLast Go.Proofs.YtaphehdbjbogaaaW.PrintMore
attribute [local go_sem] Instr.field asAgg
attribute [local go_sem] max2_int min2_int max_two min_two max_three min_three max_four min_four   -- for this text's walks alone
set_option linter.unusedVariables false
set_option linter.unusedSimpArgs false
/-! ### petrinetref09_arcs: function 75 -/
mutual
def petrinetref09_arcs.l0 : Nat → List (S58) → Int → ByteArray → List (S56) → List (S40) → Option (Int)
 | 0, _, _, _, _, _ => none
 | k + 1, x1, x5, x176000, x176001, x176002 => if x5 < (x1.length : Int) then (if 0 ≤ x5 then (if ((rd_T58 x1 x5).f0) < 0 then (petrinetref09_arcs.j1 k x1 x5 true x176000 x176001 x176002) else (petrinetref09_arcs.j1 k x1 x5 (decide (((rd_T58 x1 x5).f0) ≥ (x176001.length : Int))) x176000 x176001 x176002)) else (none)) else (some 0)
def petrinetref09_arcs.j1 : Nat → List (S58) → Int → Bool → ByteArray → List (S56) → List (S40) → Option (Int)
 | 0, _, _, _, _, _, _ => none
 | k + 1, x1, x5, x28, x176000, x176001, x176002 => if x28 = true then (some 7) else (if x5 > 0 then (if 0 ≤ x5 then (if x5 < (x1.length : Int) then (if 0 ≤ (wrap64 (x5 - 1)) then (if (wrap64 (x5 - 1)) < (x1.length : Int) then (petrinetref09_arcs.j2 k x1 x5 (decide (((rd_T58 x1 x5).f0) ≤ ((rd_T58 x1 (wrap64 (x5 - 1))).f0))) x176000 x176001 x176002) else (none)) else (none)) else (none)) else (none)) else (petrinetref09_arcs.j2 k x1 x5 false x176000 x176001 x176002))
def petrinetref09_arcs.j2 : Nat → List (S58) → Int → Bool → ByteArray → List (S56) → List (S40) → Option (Int)
 | 0, _, _, _, _, _, _ => none
 | k + 1, x1, x5, x44, x176000, x176001, x176002 => if x44 = true then (some 8) else (if 0 ≤ x5 then (if x5 < (x1.length : Int) then (if ((rd_T58 x1 x5).f1) < 1 then (some 9) else (if ((rd_T58 x1 x5).f1) > 99 then (some 9) else (petrinetref09_arcs.l0 k x1 (wrap64 (x5 + 1)) x176000 x176001 x176002))) else (none)) else (none))
end
def petrinetref09_arcs.f (k : Nat) (a0_0 : ByteArray) (l0_1 : List (S56)) (l0_2 : List (S40)) (l1 : List (S58)) : Option (Int) := petrinetref09_arcs.l0 k l1 0 a0_0 l0_1 l0_2
theorem petrinetref09_arcs.mono_l : ∀ k, (∀ y0 y1 y2 y3 y4, LeO (petrinetref09_arcs.l0 k y0 y1 y2 y3 y4) (petrinetref09_arcs.l0 (k + 1) y0 y1 y2 y3 y4)) ∧ (∀ y0 y1 y2 y3 y4 y5, LeO (petrinetref09_arcs.j1 k y0 y1 y2 y3 y4 y5) (petrinetref09_arcs.j1 (k + 1) y0 y1 y2 y3 y4 y5)) ∧ (∀ y0 y1 y2 y3 y4 y5, LeO (petrinetref09_arcs.j2 k y0 y1 y2 y3 y4 y5) (petrinetref09_arcs.j2 (k + 1) y0 y1 y2 y3 y4 y5))
 | 0 => ⟨fun _ _ _ _ _ r h => by simp [petrinetref09_arcs.l0] at h, fun _ _ _ _ _ _ r h => by simp [petrinetref09_arcs.j1] at h, fun _ _ _ _ _ _ r h => by simp [petrinetref09_arcs.j2] at h⟩
 | k + 1 => by
  obtain ⟨ih0, ih1, ih2⟩ := petrinetref09_arcs.mono_l k
  refine ⟨?_, ?_, ?_⟩
  ·
   intro y0 y1 y2 y3 y4
   unfold petrinetref09_arcs.l0
   repeat' first
   | (with_reducible exact ih0 _ _ _ _ _)
   | (with_reducible exact ih1 _ _ _ _ _ _)
   | (with_reducible exact ih2 _ _ _ _ _ _)
   | (with_reducible exact LeO.refl _)
   | (with_reducible exact LeO.none _)
   | (with_reducible refine LeO.ite ?_ ?_)
   | (with_reducible refine LeO.bind ?_ (fun _ => ?_))
   | exact ih0 _ _ _ _ _
   | exact ih1 _ _ _ _ _ _
   | exact ih2 _ _ _ _ _ _
   | exact LeO.none _
   | refine LeO.ite ?_ ?_
   | refine LeO.bind ?_ (fun _ => ?_)
  ·
   intro y0 y1 y2 y3 y4 y5
   unfold petrinetref09_arcs.j1
   repeat' first
   | (with_reducible exact ih0 _ _ _ _ _)
   | (with_reducible exact ih1 _ _ _ _ _ _)
   | (with_reducible exact ih2 _ _ _ _ _ _)
   | (with_reducible exact LeO.refl _)
   | (with_reducible exact LeO.none _)
   | (with_reducible refine LeO.ite ?_ ?_)
   | (with_reducible refine LeO.bind ?_ (fun _ => ?_))
   | exact ih0 _ _ _ _ _
   | exact ih1 _ _ _ _ _ _
   | exact ih2 _ _ _ _ _ _
   | exact LeO.none _
   | refine LeO.ite ?_ ?_
   | refine LeO.bind ?_ (fun _ => ?_)
  ·
   intro y0 y1 y2 y3 y4 y5
   unfold petrinetref09_arcs.j2
   repeat' first
   | (with_reducible exact ih0 _ _ _ _ _)
   | (with_reducible exact ih1 _ _ _ _ _ _)
   | (with_reducible exact ih2 _ _ _ _ _ _)
   | (with_reducible exact LeO.refl _)
   | (with_reducible exact LeO.none _)
   | (with_reducible refine LeO.ite ?_ ?_)
   | (with_reducible refine LeO.bind ?_ (fun _ => ?_))
   | exact ih0 _ _ _ _ _
   | exact ih1 _ _ _ _ _ _
   | exact ih2 _ _ _ _ _ _
   | exact LeO.none _
   | refine LeO.ite ?_ ?_
   | refine LeO.bind ?_ (fun _ => ?_)
theorem petrinetref09_arcs.mono : ∀ a0 a1 a2 a3 k, LeO (petrinetref09_arcs.f k a0 a1 a2 a3) (petrinetref09_arcs.f (k + 1) a0 a1 a2 a3) := by
 intro a0 a1 a2 a3 k
 obtain ⟨ih0, ih1, ih2⟩ := petrinetref09_arcs.mono_l k
 unfold petrinetref09_arcs.f
 repeat' first
   | (with_reducible exact ih0 _ _ _ _ _)
   | (with_reducible exact ih1 _ _ _ _ _ _)
   | (with_reducible exact ih2 _ _ _ _ _ _)
   | (with_reducible exact LeO.refl _)
   | (with_reducible exact LeO.none _)
   | (with_reducible refine LeO.ite ?_ ?_)
   | (with_reducible refine LeO.bind ?_ (fun _ => ?_))
   | exact ih0 _ _ _ _ _
   | exact ih1 _ _ _ _ _ _
   | exact ih2 _ _ _ _ _ _
   | exact LeO.none _
   | refine LeO.ite ?_ ?_
   | refine LeO.bind ?_ (fun _ => ?_)
set_option maxHeartbeats 8000000 in
set_option maxRecDepth 100000 in
theorem petrinetref09_arcs.calls (k : Nat) (a0_0 : ByteArray) (A0_1 : Option Addr) (c0_1 : Nat) (l0_1 : List (S56)) (A0_2 : Option Addr) (c0_2 : Nat) (l0_2 : List (S40)) (A1 : Option Addr) (c1 : Nat) (l1 : List (S58)) (r : Int) (w : World) (hr0_1 : Kd.C k56 w A0_1 l0_1.length l0_1) (hc0_1 : l0_1.length ≤ c0_1) (hr0_2 : Kd.C k40 w A0_2 l0_2.length l0_2) (hc0_2 : l0_2.length ≤ c0_2) (hr1 : Kd.C k58 w A1 l1.length l1) (hc1 : l1.length ≤ c1) (h : petrinetref09_arcs.f k a0_0 l0_1 l0_2 l1 = some r) :
  Calls Try.prog 75 #[.agg #[.string a0_0, .slice A0_1 l0_1.length c0_1, .slice A0_2 l0_2.length c0_2], .slice A1 l1.length c1] w fun e w' => e = .returned (.int .i64 r) ∧ Below w.heap.size w w' := by
 have hu25 := Try.underlying25
 have hu9 := Try.underlying9
 have hu22 := Try.underlying22
 have hu23 := Try.underlying23
 have HR0_1 := Aside0.mk hr0_1
 have HC0_1 := Aside0.mk hc0_1
 clear hr0_1 hc0_1
 have HR0_2 := Aside0.mk hr0_2
 have HC0_2 := Aside0.mk hc0_2
 clear hr0_2 hc0_2
 have HR1 := Aside0.mk hr1
 have HC1 := Aside0.mk hc1
 clear hr1 hc1
 have HB := Aside0.mk (Below.refl w.heap.size w)
 have H : (petrinetref09_arcs.l0 k l1 0 a0_0 l0_1 l0_2) = some r := h
 clear h
 have H' := Aside0.mk H
 clear H
 go_enter Try.func75, Try.ntmps75
 go_wp2_with (first | ((with_reducible refine gate_dst (N := 2) rfl ?_); (try (refine gate_guard (by rfl) ?_; dsimp only)); refine box_event ?hg (N := 2) ?hd (cs := #[.string a0_0, .slice A0_1 l0_1.length c0_1, .slice A0_2 l0_2.length c0_2]) (t := 25) ?hr ?_; (case hd => rfl); (case hg => rfl); (case hr => first | (go_simp; done) | (go_simp; rfl)); intro gb175 hg w3 hbox hb; have n0_ := Aside0.mk (below_step (by repeat (first | (with_reducible first | exact HB.out | apply below_alloc | apply pw_below_drewN | apply below_drew1) | exact HB.out)) hb); have n1_ := Aside0.mk (hbox); have n2_ := Aside0.mk ((by rw [hg]; exact (below_size (by repeat (first | (with_reducible first | exact HB.out | apply below_alloc | apply pw_below_drewN | apply below_drew1) | exact HB.out))) : w.heap.size ≤ gb175)); have n3_ := Aside0.mk ((by rw [hg]; exact (below_size (by repeat (first | (with_reducible first | exact HB.out | apply below_alloc | apply pw_below_drewN | apply below_drew1) | exact HB.out))) : w.heap.size ≤ gb175)); clear HB; have HB := n0_; have BK175 := n1_; have GW175 := n2_; have GE175 := n3_; clear n0_ n1_ n2_ n3_; clear hb hbox hg))
 repeat (go_quiet (first | ((with_reducible refine gate_dst (N := 2) rfl ?_); (try (refine gate_guard (by rfl) ?_; dsimp only)); refine box_event ?hg (N := 2) ?hd (cs := #[.string a0_0, .slice A0_1 l0_1.length c0_1, .slice A0_2 l0_2.length c0_2]) (t := 25) ?hr ?_; (case hd => rfl); (case hg => rfl); (case hr => first | (go_simp; done) | (go_simp; rfl)); intro gb175 hg w3 hbox hb; have n0_ := Aside0.mk (below_step (by repeat (first | (with_reducible first | exact HB.out | apply below_alloc | apply pw_below_drewN | apply below_drew1) | exact HB.out)) hb); have n1_ := Aside0.mk (hbox); have n2_ := Aside0.mk ((by rw [hg]; exact (below_size (by repeat (first | (with_reducible first | exact HB.out | apply below_alloc | apply pw_below_drewN | apply below_drew1) | exact HB.out))) : w.heap.size ≤ gb175)); have n3_ := Aside0.mk ((by rw [hg]; exact (below_size (by repeat (first | (with_reducible first | exact HB.out | apply below_alloc | apply pw_below_drewN | apply below_drew1) | exact HB.out))) : w.heap.size ≤ gb175)); clear HB; have HB := n0_; have BK175 := n1_; have GW175 := n2_; have GE175 := n3_; clear n0_ n1_ n2_ n3_; clear hb hbox hg)); try go_wp2_with (first | ((with_reducible refine gate_dst (N := 2) rfl ?_); (try (refine gate_guard (by rfl) ?_; dsimp only)); refine box_event ?hg (N := 2) ?hd (cs := #[.string a0_0, .slice A0_1 l0_1.length c0_1, .slice A0_2 l0_2.length c0_2]) (t := 25) ?hr ?_; (case hd => rfl); (case hg => rfl); (case hr => first | (go_simp; done) | (go_simp; rfl)); intro gb175 hg w3 hbox hb; have n0_ := Aside0.mk (below_step (by repeat (first | (with_reducible first | exact HB.out | apply below_alloc | apply pw_below_drewN | apply below_drew1) | exact HB.out)) hb); have n1_ := Aside0.mk (hbox); have n2_ := Aside0.mk ((by rw [hg]; exact (below_size (by repeat (first | (with_reducible first | exact HB.out | apply below_alloc | apply pw_below_drewN | apply below_drew1) | exact HB.out))) : w.heap.size ≤ gb175)); have n3_ := Aside0.mk ((by rw [hg]; exact (below_size (by repeat (first | (with_reducible first | exact HB.out | apply below_alloc | apply pw_below_drewN | apply below_drew1) | exact HB.out))) : w.heap.size ≤ gb175)); clear HB; have HB := n0_; have BK175 := n1_; have GW175 := n2_; have GE175 := n3_; clear n0_ n1_ n2_ n3_; clear hb hbox hg)))
 go_loopg [5] k (fun kq v5 w' => ∃ (x5_1 : Int), v5 = .int .i64 x5_1 ∧ Aside0 (petrinetref09_arcs.l0 kq l1 x5_1 a0_0 l0_1 l0_2 = some r) ∧ Aside0 (kq ≤ k) ∧ Aside0 (w'.heap[gb175]? = some (.cells #[.string a0_0, (.slice A0_1 l0_1.length c0_1), (.slice A0_2 l0_2.length c0_2)] 25 (0, 0))) ∧ Aside0 (Below w.heap.size w w'))
 case atStart => exact ⟨(0), (by first | rfl | (simp; done) | (simp [*]; done) | (simp [i64_w]; done)), H', ⟨Nat.le_refl _⟩, ⟨by (with_reducible repeat (first | refine blk_drewN ?_ _ | refine blk_drew ?_ | refine blk_alloc ?_ _)); exact BK175.out⟩, ⟨by repeat (first | (with_reducible first | exact HB.out | apply below_alloc | apply pw_below_drewN | apply below_drew1 | refine below_set ?_ GE175.out) | exact HB.out)⟩⟩
 case round =>
  clear H'
  try clear c1
  try clear p2
  obtain ⟨x5_1, rfl, HA, HK1, BK175, HB⟩ := hrel
  cases gk with
  | zero => exact absurd HA.out (by simp [petrinetref09_arcs.l0])
  | succ k1 =>
   have H := HA.out
   clear HA
   simp only [petrinetref09_arcs.l0] at H
   by_cases c4 : x5_1 < (l1.length : Int)
   ·
    rw [if_pos c4] at H
    have c4b0 : decide (x5_1 < (l1.length : Int)) = true := decide_eq_true c4
    clear c4
    have HC5 := Aside0.mk H
    clear H
    go_upto_region 4 with (fail)
    repeat (go_quiet (fail); go_upto_region 4 with (fail))
    go_cut [28] (fun v28 wc => ∃ (kq : Nat) (x28_4 : Bool), v28 = .bool x28_4 ∧ Aside0 (petrinetref09_arcs.j1 kq l1 x5_1 x28_4 a0_0 l0_1 l0_2 = some r) ∧ Aside0 (kq ≤ k1) ∧ Aside0 (wc.heap[gb175]? = some (.cells #[.string a0_0, (.slice A0_1 l0_1.length c0_1), (.slice A0_2 l0_2.length c0_2)] 25 (0, 0))) ∧ Aside0 (Below w.heap.size w wc))
    case first =>
     have H := HC5.out
     clear HC5
     by_cases c6 : 0 ≤ x5_1
     ·
      rw [if_pos c6] at H
      have c6b0 : decide (0 ≤ x5_1) = true := decide_eq_true c6
      clear c6
      (first | rw [c6b0] | (simp only [i64_w, i32_w]; rw [c6b0]) | skip)
      by_cases c7 : ((rd_T58 l1 x5_1).f0) < 0
      ·
       rw [if_pos c7] at H
       have c7b0 : decide (((rd_T58 l1 x5_1).f0) < 0) = true := decide_eq_true c7
       clear c7
       have H' := Aside0.mk H
       clear H
       have p176 : 0 ≤ (x5_1 : Int) := of_decide_eq_true (by first | (with_reducible assumption) | assumption)
       have q176 : x5_1 < (l1.length : Int) := of_decide_eq_true (by first | (with_reducible assumption) | assumption)
       obtain ⟨ad176, e176, hx176_0, hx176_1⟩ := at_T58 HR1.out x5_1 p176 q176
       cases e176
       replace hx176_0 := (HB.out.cell (World.block_lt_of_cell? w _ hx176_0)).trans hx176_0
       replace hx176_1 := (HB.out.cell (World.block_lt_of_cell? w _ hx176_1)).trans hx176_1
       replace p176 := eq_true p176
       replace q176 := eq_true q176
       go_wp2
       repeat (go_quiet (fail); try go_wp2)
       go_meet
       case rel => exact ⟨_, (true), (by first | rfl | (simp; done) | (simp [*]; done) | (simp [i64_w]; done)), H', ⟨by have := HK1.out; first | omega | exact Nat.le_refl _⟩, ⟨by (with_reducible repeat (first | refine blk_drewN ?_ _ | refine blk_drew ?_ | refine blk_alloc ?_ _)); exact BK175.out⟩, ⟨by repeat (first | (with_reducible first | exact HB.out | apply below_alloc | apply pw_below_drewN | apply below_drew1 | refine below_set ?_ GE175.out) | exact HB.out)⟩⟩
      ·
       rw [if_neg c7] at H
       have c7b0 : decide (((rd_T58 l1 x5_1).f0) < 0) = false := decide_eq_false c7
       clear c7
       have H' := Aside0.mk H
       clear H
       have p176 : 0 ≤ (x5_1 : Int) := of_decide_eq_true (by first | (with_reducible assumption) | assumption)
       have q176 : x5_1 < (l1.length : Int) := of_decide_eq_true (by first | (with_reducible assumption) | assumption)
       obtain ⟨ad176, e176, hx176_0, hx176_1⟩ := at_T58 HR1.out x5_1 p176 q176
       cases e176
       replace hx176_0 := (HB.out.cell (World.block_lt_of_cell? w _ hx176_0)).trans hx176_0
       replace hx176_1 := (HB.out.cell (World.block_lt_of_cell? w _ hx176_1)).trans hx176_1
       replace p176 := eq_true p176
       replace q176 := eq_true q176
       have p177 : 0 ≤ (x5_1 : Int) := of_decide_eq_true (by first | (with_reducible assumption) | assumption)
       have q177 : x5_1 < (l1.length : Int) := of_decide_eq_true (by first | (with_reducible assumption) | assumption)
       obtain ⟨ad177, e177, hx177_0, hx177_1⟩ := at_T58 HR1.out x5_1 p177 q177
       obtain rfl : ad176 = ad177 := (by injection e177)
       replace hx177_0 := (HB.out.cell (World.block_lt_of_cell? w _ hx177_0)).trans hx177_0
       replace hx177_1 := (HB.out.cell (World.block_lt_of_cell? w _ hx177_1)).trans hx177_1
       replace p177 := eq_true p177
       replace q177 := eq_true q177
       have hcz8_0 : wr.cell? ⟨gb175, 0, none⟩ = some (.string a0_0) := (blk_cell BK175.out 0).trans rfl
       have hcz8_1 : wr.cell? ⟨gb175, 1, none⟩ = some (.slice A0_1 l0_1.length c0_1) := (blk_cell BK175.out 1).trans rfl
       have hcz8_2 : wr.cell? ⟨gb175, 2, none⟩ = some (.slice A0_2 l0_2.length c0_2) := (blk_cell BK175.out 2).trans rfl
       have hfz8_0 := blk_frozen BK175.out 0
       have hfz8_1 := blk_frozen BK175.out 1
       have hfz8_2 := blk_frozen BK175.out 2
       go_wp2
       repeat (go_quiet (fail); try go_wp2)
       go_meet
       case rel => exact ⟨_, (decide (((rd_T58 l1 x5_1).f0) ≥ (l0_1.length : Int))), (by first | rfl | (simp; done) | (simp [*]; done) | (simp [i64_w]; done)), H', ⟨by have := HK1.out; first | omega | exact Nat.le_refl _⟩, ⟨by (with_reducible repeat (first | refine blk_drewN ?_ _ | refine blk_drew ?_ | refine blk_alloc ?_ _)); exact BK175.out⟩, ⟨by repeat (first | (with_reducible first | exact HB.out | apply below_alloc | apply pw_below_drewN | apply below_drew1 | refine below_set ?_ GE175.out) | exact HB.out)⟩⟩
     ·
      rw [if_neg c6] at H
      exact absurd H (by simp)
    case rest =>
     clear HC5
     try clear c1
     try clear p1
     try clear q1
     try clear hx1
     try clear p2
     try clear c4
     try clear c4b0
     try clear c6
     try clear c6b0
     try clear c7
     try clear c7b0
     try clear hcz8_0
     try clear hcz8_1
     try clear hcz8_2
     try clear hfz8_0
     try clear hfz8_1
     try clear hfz8_2
     try clear hx176_0
     try clear hx176_1
     try clear hx177_0
     try clear hx177_1
     try clear p176
     try clear p177
     try clear p2
     try clear q176
     try clear q177
     obtain ⟨kq, x28_4, rfl, HA, HJ4, BK175, HB⟩ := hcut
     cases kq with
     | zero => exact absurd HA.out (by simp [petrinetref09_arcs.j1])
     | succ kj4 =>
      have H := HA.out
      clear HA
      simp only [petrinetref09_arcs.j1] at H
      by_cases c9 : x28_4 = true
      ·
       subst c9
       have H1 : (some 7) = some r := by rw [if_pos rfl] at H; exact H
       clear H
       have H := H1
       clear H1
       obtain rfl := Option.some.inj H
       go_wp2
       repeat (go_quiet (fail); try go_wp2)
       go_ret
       exact ⟨by first | rfl | (simp [errW_none, errW_some] <;> rfl) | (simp [*, errW_none, errW_some] <;> rfl), by repeat (first | (with_reducible first | exact HB.out | apply below_alloc | apply pw_below_drewN | apply below_drew1 | refine below_set ?_ GE175.out) | exact HB.out)⟩
      ·
       replace c9 := Bool.eq_false_iff.mpr c9
       subst c9
       have H1 : (if x5_1 > 0 then (if 0 ≤ x5_1 then (if x5_1 < (l1.length : Int) then (if 0 ≤ (wrap64 (x5_1 - 1)) then (if (wrap64 (x5_1 - 1)) < (l1.length : Int) then (petrinetref09_arcs.j2 kj4 l1 x5_1 (decide (((rd_T58 l1 x5_1).f0) ≤ ((rd_T58 l1 (wrap64 (x5_1 - 1))).f0))) a0_0 l0_1 l0_2) else (none)) else (none)) else (none)) else (none)) else (petrinetref09_arcs.j2 kj4 l1 x5_1 false a0_0 l0_1 l0_2)) = some r := by rw [if_neg (show ¬ (false = true) by decide)] at H; exact H
       clear H
       have H := H1
       clear H1
       have HC10 := Aside0.mk H
       clear H
       go_upto_region 6 with (fail)
       repeat (go_quiet (fail); go_upto_region 6 with (fail))
       go_cut [44] (fun v44 wc => ∃ (kq : Nat) (x44_9 : Bool), v44 = .bool x44_9 ∧ Aside0 (petrinetref09_arcs.j2 kq l1 x5_1 x44_9 a0_0 l0_1 l0_2 = some r) ∧ Aside0 (kq ≤ kj4) ∧ Aside0 (wc.heap[gb175]? = some (.cells #[.string a0_0, (.slice A0_1 l0_1.length c0_1), (.slice A0_2 l0_2.length c0_2)] 25 (0, 0))) ∧ Aside0 (Below w.heap.size w wc))
       case first =>
        have H := HC10.out
        clear HC10
        by_cases c11 : x5_1 > 0
        ·
         rw [if_pos c11] at H
         have c11b0 : decide (0 < x5_1) = true := decide_eq_true c11
         clear c11
         (first | rw [c11b0] | (simp only [i64_w, i32_w]; rw [c11b0]) | skip)
         by_cases c12 : 0 ≤ x5_1
         ·
          rw [if_pos c12] at H
          have c12b0 : decide (0 ≤ x5_1) = true := decide_eq_true c12
          clear c12
          by_cases c13 : x5_1 < (l1.length : Int)
          ·
           rw [if_pos c13] at H
           have c13b0 : decide (x5_1 < (l1.length : Int)) = true := decide_eq_true c13
           clear c13
           obtain ⟨ji14, hji14⟩ : ∃ j_ : Int, (wrap64 (x5_1 - 1)) = j_ := ⟨_, rfl⟩
           replace H : (if 0 ≤ (ji14) then (if (ji14) < (l1.length : Int) then (petrinetref09_arcs.j2 kj4 l1 x5_1 (decide (((rd_T58 l1 x5_1).f0) ≤ ((rd_T58 l1 (ji14)).f0))) a0_0 l0_1 l0_2) else (none)) else (none)) = some r := by first | (rw [hji14] at H; exact H) | (simp only [hji14] at H ⊢; exact H)
           have hji14w : (IntKind.i64.wrap (x5_1 - 1)) = ji14 := (i64_w _).trans hji14
           by_cases c15 : 0 ≤ (ji14)
           ·
            rw [if_pos c15] at H
            have c15b0 : decide (0 ≤ (ji14)) = true := decide_eq_true c15
            clear c15
            by_cases c16 : (ji14) < (l1.length : Int)
            ·
             rw [if_pos c16] at H
             have c16b0 : decide ((ji14) < (l1.length : Int)) = true := decide_eq_true c16
             clear c16
             have H' := Aside0.mk H
             clear H
             have p178 : 0 ≤ (x5_1 : Int) := of_decide_eq_true (by first | (with_reducible assumption) | assumption)
             have q178 : x5_1 < (l1.length : Int) := of_decide_eq_true (by first | (with_reducible assumption) | assumption)
             obtain ⟨ad178, e178, hx178_0, hx178_1⟩ := at_T58 HR1.out x5_1 p178 q178
             cases e178
             replace hx178_0 := (HB.out.cell (World.block_lt_of_cell? w _ hx178_0)).trans hx178_0
             replace hx178_1 := (HB.out.cell (World.block_lt_of_cell? w _ hx178_1)).trans hx178_1
             replace p178 := eq_true p178
             replace q178 := eq_true q178
             have p179 : 0 ≤ ((ji14) : Int) := of_decide_eq_true (by first | (with_reducible assumption) | assumption)
             have q179 : (ji14) < (l1.length : Int) := of_decide_eq_true (by first | (with_reducible assumption) | assumption)
             obtain ⟨ad179, e179, hx179_0, hx179_1⟩ := at_T58 HR1.out (ji14) p179 q179
             obtain rfl : ad178 = ad179 := (by injection e179)
             replace hx179_0 := (HB.out.cell (World.block_lt_of_cell? w _ hx179_0)).trans hx179_0
             replace hx179_1 := (HB.out.cell (World.block_lt_of_cell? w _ hx179_1)).trans hx179_1
             replace p179 := eq_true p179
             replace q179 := eq_true q179
             go_wp2
             repeat (go_quiet (fail); try go_wp2)
             go_meet
             case rel => exact ⟨_, (decide (((rd_T58 l1 x5_1).f0) ≤ ((rd_T58 l1 (ji14)).f0))), (by first | rfl | (simp; done) | (simp only [← hji14] <;> (first | rfl | simp)) | (simp [*]; done)), H', ⟨by have := HK1.out; have := HJ4.out; first | omega | exact Nat.le_refl _⟩, ⟨by (with_reducible repeat (first | refine blk_drewN ?_ _ | refine blk_drew ?_ | refine blk_alloc ?_ _)); exact BK175.out⟩, ⟨by repeat (first | (with_reducible first | exact HB.out | apply below_alloc | apply pw_below_drewN | apply below_drew1 | refine below_set ?_ GE175.out) | exact HB.out)⟩⟩
            ·
             rw [if_neg c16] at H
             exact absurd H (by simp)
           ·
            rw [if_neg c15] at H
            exact absurd H (by simp)
          ·
           rw [if_neg c13] at H
           exact absurd H (by simp)
         ·
          rw [if_neg c12] at H
          exact absurd H (by simp)
        ·
         rw [if_neg c11] at H
         have c11b0 : decide (0 < x5_1) = false := decide_eq_false c11
         clear c11
         (first | rw [c11b0] | (simp only [i64_w, i32_w]; rw [c11b0]) | skip)
         have H' := Aside0.mk H
         clear H
         go_wp2
         repeat (go_quiet (fail); try go_wp2)
         go_meet
         case rel => exact ⟨_, (false), (by first | rfl | (simp; done) | (simp [*]; done) | (simp [i64_w]; done)), H', ⟨by have := HK1.out; have := HJ4.out; first | omega | exact Nat.le_refl _⟩, ⟨by (with_reducible repeat (first | refine blk_drewN ?_ _ | refine blk_drew ?_ | refine blk_alloc ?_ _)); exact BK175.out⟩, ⟨by repeat (first | (with_reducible first | exact HB.out | apply below_alloc | apply pw_below_drewN | apply below_drew1 | refine below_set ?_ GE175.out) | exact HB.out)⟩⟩
       case rest =>
        clear HC10
        try clear c1
        try clear p1
        try clear q1
        try clear hx1
        try clear p2
        try clear c4
        try clear c4b0
        try clear c6
        try clear c6b0
        try clear p6
        try clear c7
        try clear c7b0
        try clear c9
        try clear c11
        try clear c11b0
        try clear c12
        try clear c12b0
        try clear c13
        try clear c13b0
        try clear c15
        try clear c15b0
        try clear c16
        try clear c16b0
        try clear hcz8_0
        try clear hcz8_1
        try clear hcz8_2
        try clear hfz8_0
        try clear hfz8_1
        try clear hfz8_2
        try clear hx176_0
        try clear hx176_1
        try clear hx177_0
        try clear hx177_1
        try clear hx178_0
        try clear hx178_1
        try clear hx179_0
        try clear hx179_1
        try clear p1
        try clear p176
        try clear p177
        try clear p178
        try clear p179
        try clear p2
        try clear q1
        try clear q176
        try clear q177
        try clear q178
        try clear q179
        obtain ⟨kq, x44_9, rfl, HA, HJ9, BK175, HB⟩ := hcut
        cases kq with
        | zero => exact absurd HA.out (by simp [petrinetref09_arcs.j2])
        | succ kj9 =>
         have H := HA.out
         clear HA
         simp only [petrinetref09_arcs.j2] at H
         by_cases c17 : x44_9 = true
         ·
          subst c17
          have H1 : (some 8) = some r := by rw [if_pos rfl] at H; exact H
          clear H
          have H := H1
          clear H1
          obtain rfl := Option.some.inj H
          go_wp2
          repeat (go_quiet (fail); try go_wp2)
          go_ret
          exact ⟨by first | rfl | (simp [errW_none, errW_some] <;> rfl) | (simp [*, errW_none, errW_some] <;> rfl), by repeat (first | (with_reducible first | exact HB.out | apply below_alloc | apply pw_below_drewN | apply below_drew1 | refine below_set ?_ GE175.out) | exact HB.out)⟩
         ·
          replace c17 := Bool.eq_false_iff.mpr c17
          subst c17
          have H1 : (if 0 ≤ x5_1 then (if x5_1 < (l1.length : Int) then (if ((rd_T58 l1 x5_1).f1) < 1 then (some 9) else (if ((rd_T58 l1 x5_1).f1) > 99 then (some 9) else (petrinetref09_arcs.l0 kj9 l1 (wrap64 (x5_1 + 1)) a0_0 l0_1 l0_2))) else (none)) else (none)) = some r := by rw [if_neg (show ¬ (false = true) by decide)] at H; exact H
          clear H
          have H := H1
          clear H1
          by_cases c18 : 0 ≤ x5_1
          ·
           rw [if_pos c18] at H
           have c18b0 : decide (0 ≤ x5_1) = true := decide_eq_true c18
           clear c18
           by_cases c19 : x5_1 < (l1.length : Int)
           ·
            rw [if_pos c19] at H
            have c19b0 : decide (x5_1 < (l1.length : Int)) = true := decide_eq_true c19
            clear c19
            by_cases c20 : ((rd_T58 l1 x5_1).f1) < 1
            ·
             rw [if_pos c20] at H
             have c20b0 : decide (((rd_T58 l1 x5_1).f1) < 1) = true := decide_eq_true c20
             clear c20
             obtain rfl := Option.some.inj H
             have p180 : 0 ≤ (x5_1 : Int) := of_decide_eq_true (by first | (with_reducible assumption) | assumption)
             have q180 : x5_1 < (l1.length : Int) := of_decide_eq_true (by first | (with_reducible assumption) | assumption)
             obtain ⟨ad180, e180, hx180_0, hx180_1⟩ := at_T58 HR1.out x5_1 p180 q180
             cases e180
             replace hx180_0 := (HB.out.cell (World.block_lt_of_cell? w _ hx180_0)).trans hx180_0
             replace hx180_1 := (HB.out.cell (World.block_lt_of_cell? w _ hx180_1)).trans hx180_1
             replace p180 := eq_true p180
             replace q180 := eq_true q180
             go_wp2
             repeat (go_quiet (fail); try go_wp2)
             go_ret
             exact ⟨by first | rfl | (simp [errW_none, errW_some] <;> rfl) | (simp [*, errW_none, errW_some] <;> rfl), by repeat (first | (with_reducible first | exact HB.out | apply below_alloc | apply pw_below_drewN | apply below_drew1 | refine below_set ?_ GE175.out) | exact HB.out)⟩
            ·
             rw [if_neg c20] at H
             have c20b0 : decide (((rd_T58 l1 x5_1).f1) < 1) = false := decide_eq_false c20
             clear c20
             by_cases c21 : ((rd_T58 l1 x5_1).f1) > 99
             ·
              rw [if_pos c21] at H
              have c21b0 : decide (99 < ((rd_T58 l1 x5_1).f1)) = true := decide_eq_true c21
              clear c21
              obtain rfl := Option.some.inj H
              have p180 : 0 ≤ (x5_1 : Int) := of_decide_eq_true (by first | (with_reducible assumption) | assumption)
              have q180 : x5_1 < (l1.length : Int) := of_decide_eq_true (by first | (with_reducible assumption) | assumption)
              obtain ⟨ad180, e180, hx180_0, hx180_1⟩ := at_T58 HR1.out x5_1 p180 q180
              cases e180
              replace hx180_0 := (HB.out.cell (World.block_lt_of_cell? w _ hx180_0)).trans hx180_0
              replace hx180_1 := (HB.out.cell (World.block_lt_of_cell? w _ hx180_1)).trans hx180_1
              replace p180 := eq_true p180
              replace q180 := eq_true q180
              have p181 : 0 ≤ (x5_1 : Int) := of_decide_eq_true (by first | (with_reducible assumption) | assumption)
              have q181 : x5_1 < (l1.length : Int) := of_decide_eq_true (by first | (with_reducible assumption) | assumption)
              obtain ⟨ad181, e181, hx181_0, hx181_1⟩ := at_T58 HR1.out x5_1 p181 q181
              obtain rfl : ad180 = ad181 := (by injection e181)
              replace hx181_0 := (HB.out.cell (World.block_lt_of_cell? w _ hx181_0)).trans hx181_0
              replace hx181_1 := (HB.out.cell (World.block_lt_of_cell? w _ hx181_1)).trans hx181_1
              replace p181 := eq_true p181
              replace q181 := eq_true q181
              go_wp2
              repeat (go_quiet (fail); try go_wp2)
              go_ret
              exact ⟨by first | rfl | (simp [errW_none, errW_some] <;> rfl) | (simp [*, errW_none, errW_some] <;> rfl), by repeat (first | (with_reducible first | exact HB.out | apply below_alloc | apply pw_below_drewN | apply below_drew1 | refine below_set ?_ GE175.out) | exact HB.out)⟩
             ·
              rw [if_neg c21] at H
              have c21b0 : decide (99 < ((rd_T58 l1 x5_1).f1)) = false := decide_eq_false c21
              clear c21
              have H' := Aside0.mk H
              clear H
              have p180 : 0 ≤ (x5_1 : Int) := of_decide_eq_true (by first | (with_reducible assumption) | assumption)
              have q180 : x5_1 < (l1.length : Int) := of_decide_eq_true (by first | (with_reducible assumption) | assumption)
              obtain ⟨ad180, e180, hx180_0, hx180_1⟩ := at_T58 HR1.out x5_1 p180 q180
              cases e180
              replace hx180_0 := (HB.out.cell (World.block_lt_of_cell? w _ hx180_0)).trans hx180_0
              replace hx180_1 := (HB.out.cell (World.block_lt_of_cell? w _ hx180_1)).trans hx180_1
              replace p180 := eq_true p180
              replace q180 := eq_true q180
              have p181 : 0 ≤ (x5_1 : Int) := of_decide_eq_true (by first | (with_reducible assumption) | assumption)
              have q181 : x5_1 < (l1.length : Int) := of_decide_eq_true (by first | (with_reducible assumption) | assumption)
              obtain ⟨ad181, e181, hx181_0, hx181_1⟩ := at_T58 HR1.out x5_1 p181 q181
              obtain rfl : ad180 = ad181 := (by injection e181)
              replace hx181_0 := (HB.out.cell (World.block_lt_of_cell? w _ hx181_0)).trans hx181_0
              replace hx181_1 := (HB.out.cell (World.block_lt_of_cell? w _ hx181_1)).trans hx181_1
              replace p181 := eq_true p181
              replace q181 := eq_true q181
              go_wp2
              repeat (go_quiet (fail); try go_wp2)
              go_roundg kj9
              case measure => have := HK1.out; have := HJ4.out; have := HJ9.out; omega
              case rel => exact ⟨(wrap64 (x5_1 + 1)), (by first | rfl | (simp; done) | (simp [*]; done) | (simp [i64_w]; done)), H', ⟨by have := HK1.out; have := HJ4.out; have := HJ9.out; omega⟩, ⟨by (with_reducible repeat (first | refine blk_drewN ?_ _ | refine blk_drew ?_ | refine blk_alloc ?_ _)); exact BK175.out⟩, ⟨by repeat (first | (with_reducible first | exact HB.out | apply below_alloc | apply pw_below_drewN | apply below_drew1 | refine below_set ?_ GE175.out) | exact HB.out)⟩⟩
           ·
            rw [if_neg c19] at H
            exact absurd H (by simp)
          ·
           rw [if_neg c18] at H
           exact absurd H (by simp)
   ·
    rw [if_neg c4] at H
    have c4b0 : decide (x5_1 < (l1.length : Int)) = false := decide_eq_false c4
    clear c4
    obtain rfl := Option.some.inj H
    go_wp2
    repeat (go_quiet (fail); try go_wp2)
    go_ret
    exact ⟨by first | rfl | (simp [errW_none, errW_some] <;> rfl) | (simp [*, errW_none, errW_some] <;> rfl), by repeat (first | (with_reducible first | exact HB.out | apply below_alloc | apply pw_below_drewN | apply below_drew1 | refine below_set ?_ GE175.out) | exact HB.out)⟩




section
-- STUBBED 63
/-! ### petrinetref09_trans: function 63: by hand -/
open Go.Proofs.Ytaphehdbjbogaaa.Iter
attribute [local go_sem] Instr.field asAgg

/-- The first error of transition i, behind its name. -/
def transF (k : Nat) (a0 : ByteArray) (l1 : List S56) (l2 : List S40) (t : S40) (i : Nat) : Option Int :=
  if ((l1.any fun y => y.f0.toList == t.f0.toList) || ((l2.take i).any fun y => y.f0.toList == t.f0.toList)) = true then some 6 else if t.f4 < 0 ∨ 9 < t.f4 then some 1 else (petrinetref09_arcs.f k a0 l1 l2 t.f1).bind fun e => if e = 0 then (petrinetref09_arcs.f k a0 l1 l2 t.f2).bind fun e => if e = 0 then petrinetref09_arcs.f k a0 l1 l2 t.f3 else some e else some e
def petrinetref09_trans.f (k : Nat) (a0_0 : ByteArray) (l0_1 : List S56) (l0_2 : List S40) (a1 : Int) : Option Int := if 0 ≤ a1 ∧ a1 < (l0_2.length : Int) ∧ l0_1.length ≤ 1000 ∧ l0_2.length ≤ 1000 then (petrinetref09_Name.f k (rd_T40 l0_2 a1).f0).bind fun b => if b = true then transF k a0_0 l0_1 l0_2 (rd_T40 l0_2 a1) a1.toNat else some 5 else none
theorem petrinetref09_trans.mono (a0 : ByteArray) (a1 : List S56) (a2 : List S40) (a3 : Int) (k : Nat) : LeO (petrinetref09_trans.f k a0 a1 a2 a3) (petrinetref09_trans.f (k + 1) a0 a1 a2 a3) := by
  unfold petrinetref09_trans.f transF
  split
  · refine LeO.bind (petrinetref09_Name.mono _ _) fun b => ?_
    split
    · split
      · exact LeO.refl _
      · split
        · exact LeO.refl _
        · refine LeO.bind (petrinetref09_arcs.mono _ _ _ _ _) fun e => ?_
          split
          · refine LeO.bind (petrinetref09_arcs.mono _ _ _ _ _) fun e => ?_
            split
            · exact petrinetref09_arcs.mono _ _ _ _ _
            · exact LeO.refl _
          · exact LeO.refl _
    · exact LeO.refl _
  · exact LeO.refl _
theorem nt3 {W : World} {g : Nat} {t : TypeId} {x y z : Value} (h : Blk W g t [x, y, z]) : W.cell? ⟨g, 0, none⟩ = some x ∧ W.cell? ⟨g, 1, none⟩ = some y ∧ W.cell? ⟨g, 2, none⟩ = some z := by
  refine ⟨?_, ?_, ?_⟩ <;> simp [World.cell?, show W.heap[g]? = _ from h]
theorem nt5 {W : World} {g : Nat} {t : TypeId} {x y z u v : Value} (h : Blk W g t [x, y, z, u, v]) : W.cell? ⟨g, 0, none⟩ = some x ∧ W.cell? ⟨g, 1, none⟩ = some y ∧ W.cell? ⟨g, 2, none⟩ = some z ∧ W.cell? ⟨g, 3, none⟩ = some u ∧ W.cell? ⟨g, 4, none⟩ = some v := by
  refine ⟨?_, ?_, ?_, ?_, ?_⟩ <;> simp [World.cell?, show W.heap[g]? = _ from h]

set_option maxHeartbeats 16000000 in
set_option maxRecDepth 100000 in
theorem petrinetref09_trans.calls (k : Nat) (a0_0 : ByteArray) (A0_1 : Option Addr) (c0_1 : Nat) (l0_1 : List S56) (A0_2 : Option Addr) (c0_2 : Nat) (l0_2 : List S40) (a1 : Int) (r : Int) (w : World) (hr0_1 : Kd.C k56 w A0_1 l0_1.length l0_1) (hc0_1 : l0_1.length ≤ c0_1) (hr0_2 : Kd.C k40 w A0_2 l0_2.length l0_2) (hc0_2 : l0_2.length ≤ c0_2) (h : petrinetref09_trans.f k a0_0 l0_1 l0_2 a1 = some r) :
    Calls Try.prog 63 #[.agg #[.string a0_0, .slice A0_1 l0_1.length c0_1, .slice A0_2 l0_2.length c0_2], .int .i64 a1] w fun e w' => e = .returned (.int .i64 r) ∧ Below w.heap.size w w' := by
  have HR1 := Aside0.mk hr0_1
  have HC1 := Aside0.mk hc0_1
  have HR2 := Aside0.mk hr0_2
  have HC2 := Aside0.mk hc0_2
  clear hr0_1 hc0_1 hr0_2 hc0_2
  unfold petrinetref09_trans.f at h
  by_cases hin : 0 ≤ a1 ∧ a1 < (l0_2.length : Int) ∧ l0_1.length ≤ 1000 ∧ l0_2.length ≤ 1000
  · rw [if_pos hin] at h
    obtain ⟨h0, hlt0, hn1, hn2⟩ := hin
    obtain ⟨i, rfl⟩ : ∃ i : Nat, a1 = (i : Int) := ⟨a1.toNat, by omega⟩
    have hil : i < l0_2.length := by omega
    obtain ⟨b, hb, h⟩ := Option.bind_eq_some_iff.mp h
    obtain ⟨ad, B1, d1, B2, d2, B3, d3, e1, hx0, hx1, hx2, hx3, hx4, le1, ge1, le2, ge2, le3, ge3⟩ := at_T40 HR2.out (i : Int) (by omega) (by omega)
    cases e1
    rw [Int.toNat_natCast] at hx0 hx1 hx2 hx3 hx4 h
    generalize rd_T40 l0_2 (i : Int) = p at h hb hx0 hx1 hx2 hx3 hx4 le1 ge1 le2 ge2 le3 ge3
    have HN := Aside0.mk hb
    have HG1 := Aside0.mk (And.intro le1 ge1)
    have HG2 := Aside0.mk (And.intro le2 ge2)
    have HG3 := Aside0.mk (And.intro le3 ge3)
    have HH0 := Aside0.mk h
    clear h hb le1 ge1 le2 ge2 le3 ge3 h0
    go_enter Try.func63, Try.ntmps63
    go_upto_region 2 with (first | ((with_reducible refine gate_dst (N := 2) rfl ?_); refine box_event ?hg (N := 2) ?hd (cs := #[.string a0_0, .slice A0_1 l0_1.length c0_1, .slice (some ad) l0_2.length c0_2]) (t := 25) ?hr ?_; (case hd => rfl); (case hg => rfl); (case hr => first | (go_simp; done) | (go_simp; rfl)); intro g1 hg1 w1 hbox1 hb1; have HS1 := Aside0.mk (show Blk w1 g1 25 [.string a0_0, .slice A0_1 l0_1.length c0_1, .slice (some ad) l0_2.length c0_2] from hbox1); obtain ⟨s0, s1, s2⟩ := nt3 HS1.out; have HB1 := Aside0.mk hb1; have HGA := Aside0.mk hg1; replace hx0 := (hb1.cell (World.block_lt_of_cell? w _ hx0)).trans hx0; replace hx1 := (hb1.cell (World.block_lt_of_cell? w _ hx1)).trans hx1; replace hx2 := (hb1.cell (World.block_lt_of_cell? w _ hx2)).trans hx2; replace hx3 := (hb1.cell (World.block_lt_of_cell? w _ hx3)).trans hx3; replace hx4 := (hb1.cell (World.block_lt_of_cell? w _ hx4)).trans hx4; clear hbox1 hb1 hg1) | ((with_reducible refine gate_dst (N := 5) rfl ?_); refine box_event ?hg (N := 5) ?hd (cs := #[.string ⟨#[]⟩, .slice none 0 0, .slice none 0 0, .slice none 0 0, .int .i64 0]) (t := 40) ?hr ?_; (case hd => rfl); (case hg => rfl); (case hr => first | (go_simp; done) | (go_simp; rfl)); intro g2 hg2 w4 hbox hb4; have HG4 := Aside0.mk (show Blk w4 g2 40 [.string ⟨#[]⟩, .slice none 0 0, .slice none 0 0, .slice none 0 0, .int .i64 0] from hbox); have hz0 := blk_cell hbox 0; have hz1 := blk_cell hbox 1; have hz2 := blk_cell hbox 2; have hz3 := blk_cell hbox 3; have hz4 := blk_cell hbox 4; have hq0 := blk_frozen hbox 0; have hq1 := blk_frozen hbox 1; have hq2 := blk_frozen hbox 2; have hq3 := blk_frozen hbox 3; have hq4 := blk_frozen hbox 4; have HB4 := Aside0.mk hb4; have HGB := Aside0.mk hg2; clear hbox hb4 hg2))
    obtain ⟨wr, hW5⟩ : ∃ W5, ((((w4.setCell ⟨g2, 0, none⟩ (.string p.f0)).setCell ⟨g2, 1, none⟩ (.slice B1 p.f1.length d1)).setCell ⟨g2, 2, none⟩ (.slice B2 p.f2.length d2)).setCell ⟨g2, 3, none⟩ (.slice B3 p.f3.length d3)).setCell ⟨g2, 4, none⟩ (.int .i64 p.f4) = W5 := ⟨_, rfl⟩
    have HG := Aside0.mk (show Blk wr g2 40 [.string p.f0, .slice B1 p.f1.length d1, .slice B2 p.f2.length d2, .slice B3 p.f3.length d3, .int .i64 p.f4] from hW5 ▸ blk_set 4 _ (blk_set 3 _ (blk_set 2 _ (blk_set 1 _ (blk_set 0 _ HG4.out)))))
    have hb5 : Below w1.heap.size w1 wr := by rw [← hW5]; exact ((((HB4.out.setCell (p := ⟨g2, 0, none⟩) (by rw [HGB.out]; exact Nat.le_refl _) _).setCell (p := ⟨g2, 1, none⟩) (by rw [HGB.out]; exact Nat.le_refl _) _).setCell (p := ⟨g2, 2, none⟩) (by rw [HGB.out]; exact Nat.le_refl _) _).setCell (p := ⟨g2, 3, none⟩) (by rw [HGB.out]; exact Nat.le_refl _) _).setCell (p := ⟨g2, 4, none⟩) (by rw [HGB.out]; exact Nat.le_refl _) _
    rw [hW5]
    have HS := Aside0.mk (blk_later HS1.out hb5)
    have HB := Aside0.mk (below_step HB1.out hb5)
    clear hW5 HG4 HB4 HGB hb5 HS1 HB1 HGA hz0 hz1 hz2 hz3 hz4 hq0 hq1 hq2 hq3 hq4 hx0 hx1 hx2 hx3 hx4 s0 s1 s2
    obtain ⟨s0, s1, s2⟩ := nt3 HS.out
    obtain ⟨t0, t1, t2, t3, t4⟩ := nt5 HG.out
    cases b with
    | false =>
      have h := HH0.out
      have h : some (5 : Int) = some r := h
      obtain rfl := Option.some.inj h
      clear h
      go_wp2_with (go_at_call 61; (with_reducible refine (petrinetref09_Name.calls k p.f0 false _ HN.out).mono ?_); rintro e w' ⟨rfl, ⟨nd, rfl⟩⟩)
      go_ret
      exact ⟨rfl, by (with_reducible repeat (first | apply pw_below_drewN | apply below_drew1)); exact HB.out⟩
    | true =>
      have h := HH0.out
      rw [if_pos rfl] at h
      have HH := Aside0.mk h
      clear h HH0
      go_wp2_with (go_at_call 61; (with_reducible refine (petrinetref09_Name.calls k p.f0 true _ HN.out).mono ?_); rintro e w' ⟨rfl, ⟨nd, rfl⟩⟩)
      clear s0 s1 s2 t0 t1 t2 t3 t4
      go_loopw [6] (fun v6 wr => ∃ j : Nat, v6 = .int .i64 j ∧ j ≤ l0_1.length ∧ Aside0 (((l0_1.take j).any fun y => y.f0.toList == p.f0.toList) = false) ∧ Aside0 (Blk wr g1 25 [.string a0_0, .slice A0_1 l0_1.length c0_1, .slice (some ad) l0_2.length c0_2]) ∧ Aside0 (Blk wr g2 40 [.string p.f0, .slice B1 p.f1.length d1, .slice B2 p.f2.length d2, .slice B3 p.f3.length d3, .int .i64 p.f4]) ∧ Aside0 (Below w.heap.size w wr)) (fun v6 _ => l0_1.length - (intOf v6).toNat)
      case atStart => exact ⟨0, rfl, Nat.zero_le _, ⟨rfl⟩, ⟨HS.out⟩, ⟨HG.out⟩, ⟨by (with_reducible repeat (first | apply pw_below_drewN | apply below_drew1)); exact HB.out⟩⟩
      case round =>
        clear HS HG HB
        obtain ⟨j, rfl, hj, HQ, HS, HG, HB⟩ := hrel
        obtain ⟨s0, s1, s2⟩ := nt3 HS.out
        obtain ⟨t0, t1, t2, t3, t4⟩ := nt5 HG.out
        by_cases hjl : j < l0_1.length
        · have hjm : j < l0_1.length := by omega
          obtain ⟨ad2, e2, hy0, _, _⟩ := at_T56 HR1.out (j : Int) (by omega) (by omega)
          cases e2
          rw [Int.toNat_natCast] at hy0
          replace hy0 := (HB.out.cell (World.block_lt_of_cell? w _ hy0)).trans hy0
          have hrd : rd_T56 l0_1 (j : Int) = l0_1[j] := by simp [rd_T56, hjm]
          rw [hrd] at hy0
          clear hrd
          obtain ⟨x, hx⟩ : ∃ x, x = l0_1[j] := ⟨_, rfl⟩
          rw [← hx] at hy0
          by_cases hxs : x.f0.toList = p.f0.toList
          · have hbeq : (x.f0.toList == p.f0.toList) = true := beq_iff_eq.mpr hxs
            have hr : r = 6 := by
              have e : transF k a0_0 l0_1 l0_2 p i = some 6 := by unfold transF; rw [if_pos]; rw [Bool.or_eq_true]; exact .inl (List.any_eq_true.2 ⟨x, hx ▸ List.getElem_mem hjm, hbeq⟩)
              have H := HH.out
              rw [e] at H
              exact (Option.some.inj H).symm
            subst hr
            clear hx hxs
            go_wp2
            go_region
            go_wp2
            go_ret
            exact ⟨rfl, by (with_reducible repeat (first | apply pw_below_drewN | apply below_drew1)); exact HB.out⟩
          · have hbeq : (x.f0.toList == p.f0.toList) = false := beq_eq_false_iff_ne.mpr hxs
            have HQ2 := Aside0.mk (show ((l0_1.take (j + 1)).any fun y => y.f0.toList == p.f0.toList) = false by rw [List.take_succ_eq_append_getElem hjm, List.any_append, HQ.out, ← hx]; simp [hbeq])
            clear hx hxs
            go_wp2
            go_region
            go_wp2
            go_roundw
            case rel => exact ⟨j + 1, by go_num, by omega, HQ2, ⟨HS.out⟩, ⟨HG.out⟩, ⟨by (with_reducible repeat (first | apply pw_below_drewN | apply below_drew1)); exact HB.out⟩⟩
            case measure => simp [intOf]; omega
        · obtain rfl : j = l0_1.length := by omega
          have HNP := Aside0.mk (show (l0_1.any fun y => y.f0.toList == p.f0.toList) = false by have e := HQ.out; rwa [List.take_length] at e)
          clear HQ hj hjl
          go_wp2
          clear s0 s1 s2 t0 t1 t2 t3 t4
          go_loopw [7] (fun v7 wr => ∃ j : Nat, v7 = .int .i64 j ∧ j ≤ i ∧ Aside0 (((l0_2.take j).any fun y => y.f0.toList == p.f0.toList) = false) ∧ Aside0 (Blk wr g1 25 [.string a0_0, .slice A0_1 l0_1.length c0_1, .slice (some ad) l0_2.length c0_2]) ∧ Aside0 (Blk wr g2 40 [.string p.f0, .slice B1 p.f1.length d1, .slice B2 p.f2.length d2, .slice B3 p.f3.length d3, .int .i64 p.f4]) ∧ Aside0 (Below w.heap.size w wr)) (fun v7 _ => i - (intOf v7).toNat)
          case atStart => exact ⟨0, rfl, Nat.zero_le _, ⟨rfl⟩, ⟨HS.out⟩, ⟨HG.out⟩, ⟨by (with_reducible repeat (first | apply pw_below_drewN | apply below_drew1)); exact HB.out⟩⟩
          case round =>
            clear HS HG HB
            obtain ⟨j, rfl, hj, HQ, HS, HG, HB⟩ := hrel
            obtain ⟨s0, s1, s2⟩ := nt3 HS.out
            obtain ⟨t0, t1, t2, t3, t4⟩ := nt5 HG.out
            by_cases hjl : j < i
            · have hjm : j < l0_2.length := by omega
              obtain ⟨ad2, B1', d1', B2', d2', B3', d3', e2, hy0, _, _, _, _, _, _, _, _, _, _⟩ := at_T40 HR2.out (j : Int) (by omega) (by omega)
              cases e2
              rw [Int.toNat_natCast] at hy0
              replace hy0 := (HB.out.cell (World.block_lt_of_cell? w _ hy0)).trans hy0
              have hrd : rd_T40 l0_2 (j : Int) = l0_2[j] := by simp [rd_T40, hjm]
              rw [hrd] at hy0
              clear hrd
              obtain ⟨x, hx⟩ : ∃ x, x = l0_2[j] := ⟨_, rfl⟩
              rw [← hx] at hy0
              by_cases hxs : x.f0.toList = p.f0.toList
              · have hbeq : (x.f0.toList == p.f0.toList) = true := beq_iff_eq.mpr hxs
                have hr : r = 6 := by
                  have e : transF k a0_0 l0_1 l0_2 p i = some 6 := by unfold transF; rw [if_pos]; rw [Bool.or_eq_true]; exact .inr (List.any_eq_true.2 ⟨x, (by rw [hx]; exact List.mem_iff_getElem.2 ⟨j, by rw [List.length_take]; omega, List.getElem_take⟩), hbeq⟩)
                  have H := HH.out
                  rw [e] at H
                  exact (Option.some.inj H).symm
                subst hr
                clear hx hxs
                go_wp2
                go_region
                go_wp2
                go_ret
                exact ⟨rfl, by (with_reducible repeat (first | apply pw_below_drewN | apply below_drew1)); exact HB.out⟩
              · have hbeq : (x.f0.toList == p.f0.toList) = false := beq_eq_false_iff_ne.mpr hxs
                have HQ2 := Aside0.mk (show ((l0_2.take (j + 1)).any fun y => y.f0.toList == p.f0.toList) = false by rw [List.take_succ_eq_append_getElem hjm, List.any_append, HQ.out, ← hx]; simp [hbeq])
                clear hx hxs
                go_wp2
                go_region
                go_wp2
                go_roundw
                case rel => exact ⟨j + 1, by go_num, by omega, HQ2, ⟨HS.out⟩, ⟨HG.out⟩, ⟨by (with_reducible repeat (first | apply pw_below_drewN | apply below_drew1)); exact HB.out⟩⟩
                case measure => simp [intOf]; omega
            · obtain rfl : j = i := by omega
              have HH2 := Aside0.mk (show (if p.f4 < 0 ∨ 9 < p.f4 then some 1 else (petrinetref09_arcs.f k a0_0 l0_1 l0_2 p.f1).bind fun e => if e = 0 then (petrinetref09_arcs.f k a0_0 l0_1 l0_2 p.f2).bind fun e => if e = 0 then petrinetref09_arcs.f k a0_0 l0_1 l0_2 p.f3 else some e else some e) = some r by
                have H := HH.out
                unfold transF at H
                rw [HNP.out, HQ.out, if_neg (by decide)] at H
                exact H)
              clear HH HNP HQ hj hjl
              by_cases hp4 : p.f4 < 0 ∨ 9 < p.f4
              · have h := HH2.out
                rw [if_pos hp4] at h
                obtain rfl := Option.some.inj h
                clear h HH2
                have hc4 : p.f4 < 0 ∨ (¬ p.f4 < 0 ∧ 9 < p.f4) := by omega
                clear hp4
                rcases hc4 with b1 | ⟨b1, b2⟩
                all_goals
                  go_wp2
                  go_ret
                  exact ⟨rfl, HB.out⟩
              · have b1 : ¬ p.f4 < 0 := by omega
                have b2 : ¬ 9 < p.f4 := by omega
                have h := HH2.out
                rw [if_neg hp4] at h
                clear hp4 HH2
                obtain ⟨ea, ha, h⟩ := Option.bind_eq_some_iff.mp h
                have HA1 := Aside0.mk ha
                clear ha
                by_cases hea : ea = 0
                · subst hea
                  rw [if_pos rfl] at h
                  obtain ⟨eb, hb, h⟩ := Option.bind_eq_some_iff.mp h
                  have HA2 := Aside0.mk hb
                  clear hb
                  by_cases heb : eb = 0
                  · subst heb
                    rw [if_pos rfl] at h
                    have HA3 := Aside0.mk h
                    clear h
                    go_wp2_with (first | (go_at_call 75; with_reducible refine (petrinetref09_arcs.calls k _ A0_1 c0_1 l0_1 (some ad) c0_2 l0_2 B1 d1 p.f1 0 _ (Kd.C_below HR1.out HB.out) HC1.out (Kd.C_below HR2.out HB.out) HC2.out (Kd.C_below HG1.out.2 HB.out) HG1.out.1 HA1.out).mono ?_; rintro e wx6 ⟨rfl, hbx6⟩; have HSx6 := Aside0.mk (blk_later HS.out hbx6); have HGx6 := Aside0.mk (blk_later HG.out hbx6); have HBx6 := Aside0.mk (below_step HB.out hbx6); clear hbx6 s0 s1 s2 t0 t1 t2 t3 t4; obtain ⟨s0, s1, s2⟩ := nt3 HSx6.out; obtain ⟨t0, t1, t2, t3, t4⟩ := nt5 HGx6.out) | (go_at_call 75; with_reducible refine (petrinetref09_arcs.calls k _ A0_1 c0_1 l0_1 (some ad) c0_2 l0_2 B2 d2 p.f2 0 _ (Kd.C_below HR1.out HBx6.out) HC1.out (Kd.C_below HR2.out HBx6.out) HC2.out (Kd.C_below HG2.out.2 HBx6.out) HG2.out.1 HA2.out).mono ?_; rintro e wx7 ⟨rfl, hbx7⟩; have HSx7 := Aside0.mk (blk_later HSx6.out hbx7); have HGx7 := Aside0.mk (blk_later HGx6.out hbx7); have HBx7 := Aside0.mk (below_step HBx6.out hbx7); clear hbx7 s0 s1 s2 t0 t1 t2 t3 t4; obtain ⟨s0, s1, s2⟩ := nt3 HSx7.out; obtain ⟨t0, t1, t2, t3, t4⟩ := nt5 HGx7.out) | (go_at_call 75; with_reducible refine (petrinetref09_arcs.calls k _ A0_1 c0_1 l0_1 (some ad) c0_2 l0_2 B3 d3 p.f3 r _ (Kd.C_below HR1.out HBx7.out) HC1.out (Kd.C_below HR2.out HBx7.out) HC2.out (Kd.C_below HG3.out.2 HBx7.out) HG3.out.1 HA3.out).mono ?_; rintro e wx8 ⟨rfl, hbx8⟩; have HSx8 := Aside0.mk (blk_later HSx7.out hbx8); have HGx8 := Aside0.mk (blk_later HGx7.out hbx8); have HBx8 := Aside0.mk (below_step HBx7.out hbx8); clear hbx8 s0 s1 s2 t0 t1 t2 t3 t4; obtain ⟨s0, s1, s2⟩ := nt3 HSx8.out; obtain ⟨t0, t1, t2, t3, t4⟩ := nt5 HGx8.out))
                    go_ret
                    exact ⟨rfl, HBx8.out⟩
                  · rw [if_neg heb] at h
                    obtain rfl := Option.some.inj h
                    have q1 : (eb != 0) = true := bne_iff_ne.2 heb
                    clear h heb
                    go_wp2_with (first | (go_at_call 75; with_reducible refine (petrinetref09_arcs.calls k _ A0_1 c0_1 l0_1 (some ad) c0_2 l0_2 B1 d1 p.f1 0 _ (Kd.C_below HR1.out HB.out) HC1.out (Kd.C_below HR2.out HB.out) HC2.out (Kd.C_below HG1.out.2 HB.out) HG1.out.1 HA1.out).mono ?_; rintro e wx6 ⟨rfl, hbx6⟩; have HSx6 := Aside0.mk (blk_later HS.out hbx6); have HGx6 := Aside0.mk (blk_later HG.out hbx6); have HBx6 := Aside0.mk (below_step HB.out hbx6); clear hbx6 s0 s1 s2 t0 t1 t2 t3 t4; obtain ⟨s0, s1, s2⟩ := nt3 HSx6.out; obtain ⟨t0, t1, t2, t3, t4⟩ := nt5 HGx6.out) | (go_at_call 75; with_reducible refine (petrinetref09_arcs.calls k _ A0_1 c0_1 l0_1 (some ad) c0_2 l0_2 B2 d2 p.f2 eb _ (Kd.C_below HR1.out HBx6.out) HC1.out (Kd.C_below HR2.out HBx6.out) HC2.out (Kd.C_below HG2.out.2 HBx6.out) HG2.out.1 HA2.out).mono ?_; rintro e wx7 ⟨rfl, hbx7⟩; have HSx7 := Aside0.mk (blk_later HSx6.out hbx7); have HGx7 := Aside0.mk (blk_later HGx6.out hbx7); have HBx7 := Aside0.mk (below_step HBx6.out hbx7); clear hbx7 s0 s1 s2 t0 t1 t2 t3 t4; obtain ⟨s0, s1, s2⟩ := nt3 HSx7.out; obtain ⟨t0, t1, t2, t3, t4⟩ := nt5 HGx7.out))
                    go_ret
                    exact ⟨rfl, HBx7.out⟩
                · rw [if_neg hea] at h
                  obtain rfl := Option.some.inj h
                  have q1 : (ea != 0) = true := bne_iff_ne.2 hea
                  clear h hea
                  go_wp2_with (go_at_call 75; with_reducible refine (petrinetref09_arcs.calls k _ A0_1 c0_1 l0_1 (some ad) c0_2 l0_2 B1 d1 p.f1 ea _ (Kd.C_below HR1.out HB.out) HC1.out (Kd.C_below HR2.out HB.out) HC2.out (Kd.C_below HG1.out.2 HB.out) HG1.out.1 HA1.out).mono ?_; rintro e wx6 ⟨rfl, hbx6⟩; have HSx6 := Aside0.mk (blk_later HS.out hbx6); have HGx6 := Aside0.mk (blk_later HG.out hbx6); have HBx6 := Aside0.mk (below_step HB.out hbx6); clear hbx6 s0 s1 s2 t0 t1 t2 t3 t4; obtain ⟨s0, s1, s2⟩ := nt3 HSx6.out; obtain ⟨t0, t1, t2, t3, t4⟩ := nt5 HGx6.out)
                  go_ret
                  exact ⟨rfl, HBx6.out⟩
  · rw [if_neg hin] at h
    cases h


end



/-! ### petrinetref09_Check: function 47 -/
mutual
def petrinetref09_Check.j0 : Nat → Bool → ByteArray → List (S56) → List (S40) → Option (Int × Int)
 | 0, _, _, _, _ => none
 | k + 1, x27, x183000, x183001, x183002 => if x27 = true then (some (2, 0)) else (petrinetref09_Check.l0 k 0 x183000 x183001 x183002)
def petrinetref09_Check.l0 : Nat → Int → ByteArray → List (S56) → List (S40) → Option (Int × Int)
 | 0, _, _, _, _ => none
 | k + 1, x3, x183000, x183001, x183002 => if x3 < (x183001.length : Int) then ((petrinetref09_place.f k x183000 x183001 x183002 x3).bind fun t185 => (if t185 = 0 then (petrinetref09_Check.l0 k (wrap64 (x3 + 1)) x183000 x183001 x183002) else (some (t185, x3)))) else (petrinetref09_Check.l1 k 0 x183000 x183001 x183002)
def petrinetref09_Check.l1 : Nat → Int → ByteArray → List (S56) → List (S40) → Option (Int × Int)
 | 0, _, _, _, _ => none
 | k + 1, x5, x183000, x183001, x183002 => if x5 < (x183002.length : Int) then ((petrinetref09_trans.f k x183000 x183001 x183002 x5).bind fun t186 => (if t186 = 0 then (petrinetref09_Check.l1 k (wrap64 (x5 + 1)) x183000 x183001 x183002) else (some (t186, wrap64 ((x183001.length : Int) + x5))))) else (some (0, 0))
end
def petrinetref09_Check.f (k : Nat) (a0_0 : ByteArray) (l0_1 : List (S56)) (l0_2 : List (S40)) : Option (Int × Int) := (petrinetref09_Name.f k a0_0).bind fun t184 => (if t184 = true then (if (l0_1.length : Int) < 1 then (petrinetref09_Check.j0 k true a0_0 l0_1 l0_2) else (if (l0_1.length : Int) > 24 then (petrinetref09_Check.j0 k true a0_0 l0_1 l0_2) else (petrinetref09_Check.j0 k (decide ((l0_2.length : Int) > 24)) a0_0 l0_1 l0_2))) else (some (5, 0)))
theorem petrinetref09_Check.mono_l : ∀ k, (∀ y0 y1 y2 y3, LeO (petrinetref09_Check.j0 k y0 y1 y2 y3) (petrinetref09_Check.j0 (k + 1) y0 y1 y2 y3)) ∧ (∀ y0 y1 y2 y3, LeO (petrinetref09_Check.l0 k y0 y1 y2 y3) (petrinetref09_Check.l0 (k + 1) y0 y1 y2 y3)) ∧ (∀ y0 y1 y2 y3, LeO (petrinetref09_Check.l1 k y0 y1 y2 y3) (petrinetref09_Check.l1 (k + 1) y0 y1 y2 y3))
 | 0 => ⟨fun _ _ _ _ r h => by simp [petrinetref09_Check.j0] at h, fun _ _ _ _ r h => by simp [petrinetref09_Check.l0] at h, fun _ _ _ _ r h => by simp [petrinetref09_Check.l1] at h⟩
 | k + 1 => by
  obtain ⟨ih0, ih1, ih2⟩ := petrinetref09_Check.mono_l k
  refine ⟨?_, ?_, ?_⟩
  ·
   intro y0 y1 y2 y3
   unfold petrinetref09_Check.j0
   repeat' first
   | (with_reducible exact ih0 _ _ _ _)
   | (with_reducible exact ih1 _ _ _ _)
   | (with_reducible exact ih2 _ _ _ _)
   | (with_reducible exact petrinetref09_Name.mono _ _)
   | (with_reducible exact petrinetref09_place.mono _ _ _ _ _)
   | (with_reducible exact petrinetref09_trans.mono _ _ _ _ _)
   | (with_reducible exact LeO.refl _)
   | (with_reducible exact LeO.none _)
   | (with_reducible refine LeO.ite ?_ ?_)
   | (with_reducible refine LeO.bind ?_ (fun _ => ?_))
   | exact ih0 _ _ _ _
   | exact ih1 _ _ _ _
   | exact ih2 _ _ _ _
   | exact petrinetref09_Name.mono _ _
   | exact petrinetref09_place.mono _ _ _ _ _
   | exact petrinetref09_trans.mono _ _ _ _ _
   | exact LeO.none _
   | refine LeO.ite ?_ ?_
   | refine LeO.bind ?_ (fun _ => ?_)
  ·
   intro y0 y1 y2 y3
   unfold petrinetref09_Check.l0
   repeat' first
   | (with_reducible exact ih0 _ _ _ _)
   | (with_reducible exact ih1 _ _ _ _)
   | (with_reducible exact ih2 _ _ _ _)
   | (with_reducible exact petrinetref09_Name.mono _ _)
   | (with_reducible exact petrinetref09_place.mono _ _ _ _ _)
   | (with_reducible exact petrinetref09_trans.mono _ _ _ _ _)
   | (with_reducible exact LeO.refl _)
   | (with_reducible exact LeO.none _)
   | (with_reducible refine LeO.ite ?_ ?_)
   | (with_reducible refine LeO.bind ?_ (fun _ => ?_))
   | exact ih0 _ _ _ _
   | exact ih1 _ _ _ _
   | exact ih2 _ _ _ _
   | exact petrinetref09_Name.mono _ _
   | exact petrinetref09_place.mono _ _ _ _ _
   | exact petrinetref09_trans.mono _ _ _ _ _
   | exact LeO.none _
   | refine LeO.ite ?_ ?_
   | refine LeO.bind ?_ (fun _ => ?_)
  ·
   intro y0 y1 y2 y3
   unfold petrinetref09_Check.l1
   repeat' first
   | (with_reducible exact ih0 _ _ _ _)
   | (with_reducible exact ih1 _ _ _ _)
   | (with_reducible exact ih2 _ _ _ _)
   | (with_reducible exact petrinetref09_Name.mono _ _)
   | (with_reducible exact petrinetref09_place.mono _ _ _ _ _)
   | (with_reducible exact petrinetref09_trans.mono _ _ _ _ _)
   | (with_reducible exact LeO.refl _)
   | (with_reducible exact LeO.none _)
   | (with_reducible refine LeO.ite ?_ ?_)
   | (with_reducible refine LeO.bind ?_ (fun _ => ?_))
   | exact ih0 _ _ _ _
   | exact ih1 _ _ _ _
   | exact ih2 _ _ _ _
   | exact petrinetref09_Name.mono _ _
   | exact petrinetref09_place.mono _ _ _ _ _
   | exact petrinetref09_trans.mono _ _ _ _ _
   | exact LeO.none _
   | refine LeO.ite ?_ ?_
   | refine LeO.bind ?_ (fun _ => ?_)
theorem petrinetref09_Check.mono : ∀ a0 a1 a2 k, LeO (petrinetref09_Check.f k a0 a1 a2) (petrinetref09_Check.f (k + 1) a0 a1 a2) := by
 intro a0 a1 a2 k
 obtain ⟨ih0, ih1, ih2⟩ := petrinetref09_Check.mono_l k
 unfold petrinetref09_Check.f
 repeat' first
   | (with_reducible exact ih0 _ _ _ _)
   | (with_reducible exact ih1 _ _ _ _)
   | (with_reducible exact ih2 _ _ _ _)
   | (with_reducible exact petrinetref09_Name.mono _ _)
   | (with_reducible exact petrinetref09_place.mono _ _ _ _ _)
   | (with_reducible exact petrinetref09_trans.mono _ _ _ _ _)
   | (with_reducible exact LeO.refl _)
   | (with_reducible exact LeO.none _)
   | (with_reducible refine LeO.ite ?_ ?_)
   | (with_reducible refine LeO.bind ?_ (fun _ => ?_))
   | exact ih0 _ _ _ _
   | exact ih1 _ _ _ _
   | exact ih2 _ _ _ _
   | exact petrinetref09_Name.mono _ _
   | exact petrinetref09_place.mono _ _ _ _ _
   | exact petrinetref09_trans.mono _ _ _ _ _
   | exact LeO.none _
   | refine LeO.ite ?_ ?_
   | refine LeO.bind ?_ (fun _ => ?_)
set_option maxHeartbeats 8000000 in
set_option maxRecDepth 100000 in
theorem petrinetref09_Check.calls (k : Nat) (a0_0 : ByteArray) (A0_1 : Option Addr) (c0_1 : Nat) (l0_1 : List (S56)) (A0_2 : Option Addr) (c0_2 : Nat) (l0_2 : List (S40)) (r1 : Int) (r2 : Int) (w : World) (hr0_1 : Kd.C k56 w A0_1 l0_1.length l0_1) (hc0_1 : l0_1.length ≤ c0_1) (hr0_2 : Kd.C k40 w A0_2 l0_2.length l0_2) (hc0_2 : l0_2.length ≤ c0_2) (h : petrinetref09_Check.f k a0_0 l0_1 l0_2 = some (r1, r2)) :
  Calls Try.prog 47 #[.agg #[.string a0_0, .slice A0_1 l0_1.length c0_1, .slice A0_2 l0_2.length c0_2]] w fun e w' => e = .returned (.agg #[.int .i64 r1, .int .i64 r2]) ∧ Below w.heap.size w w' := by
 have hu25 := Try.underlying25
 have hu9 := Try.underlying9
 have hu22 := Try.underlying22
 have hu23 := Try.underlying23
 have hu66 := Try.underlying66
 have hu3 := Try.underlying3
 have hu44 := Try.underlying44
 have HR0_1 := Aside0.mk hr0_1
 have HC0_1 := Aside0.mk hc0_1
 clear hr0_1 hc0_1
 have HR0_2 := Aside0.mk hr0_2
 have HC0_2 := Aside0.mk hc0_2
 clear hr0_2 hc0_2
 have HB := Aside0.mk (Below.refl w.heap.size w)
 have H : ((petrinetref09_Name.f k a0_0).bind fun t184 => (if t184 = true then (if (l0_1.length : Int) < 1 then (petrinetref09_Check.j0 k true a0_0 l0_1 l0_2) else (if (l0_1.length : Int) > 24 then (petrinetref09_Check.j0 k true a0_0 l0_1 l0_2) else (petrinetref09_Check.j0 k (decide ((l0_2.length : Int) > 24)) a0_0 l0_1 l0_2))) else (some (5, 0)))) = some (r1, r2) := h
 clear h
 replace H := Option.bind_eq_some_iff.mp H
 obtain ⟨t184, A20, H⟩ := H
 replace H : (if t184 = true then (if (l0_1.length : Int) < 1 then (petrinetref09_Check.j0 k true a0_0 l0_1 l0_2) else (if (l0_1.length : Int) > 24 then (petrinetref09_Check.j0 k true a0_0 l0_1 l0_2) else (petrinetref09_Check.j0 k (decide ((l0_2.length : Int) > 24)) a0_0 l0_1 l0_2))) else (some (5, 0))) = some (r1, r2) := H
 have A2 := Aside0.mk A20
 clear A20
 by_cases c3 : t184 = true
 ·
  subst c3
  have H1 : (if (l0_1.length : Int) < 1 then (petrinetref09_Check.j0 k true a0_0 l0_1 l0_2) else (if (l0_1.length : Int) > 24 then (petrinetref09_Check.j0 k true a0_0 l0_1 l0_2) else (petrinetref09_Check.j0 k (decide ((l0_2.length : Int) > 24)) a0_0 l0_1 l0_2))) = some (r1, r2) := by rw [if_pos rfl] at H; exact H
  clear H
  have H := H1
  clear H1
  have HC4 := Aside0.mk H
  clear H
  go_enter Try.func47, Try.ntmps47
  go_upto_region 3 with (first | ((with_reducible refine gate_dst (N := 1) rfl ?_); (try (refine gate_guard (by rfl) ?_; dsimp only)); refine box_event ?hg (N := 1) ?hd (cs := #[.string a0_0, .slice A0_1 l0_1.length c0_1, .slice A0_2 l0_2.length c0_2]) (t := 25) ?hr ?_; (case hd => rfl); (case hg => rfl); (case hr => first | (go_simp; done) | (go_simp; rfl)); intro gb182 hg w5 hbox hb; have n0_ := Aside0.mk (below_step (by repeat (first | (with_reducible first | exact HB.out | apply below_alloc | apply pw_below_drewN | apply below_drew1) | exact HB.out)) hb); have n1_ := Aside0.mk (hbox); have n2_ := Aside0.mk ((by rw [hg]; exact (below_size (by repeat (first | (with_reducible first | exact HB.out | apply below_alloc | apply pw_below_drewN | apply below_drew1) | exact HB.out))) : w.heap.size ≤ gb182)); have n3_ := Aside0.mk ((by rw [hg]; exact (below_size (by repeat (first | (with_reducible first | exact HB.out | apply below_alloc | apply pw_below_drewN | apply below_drew1) | exact HB.out))) : w.heap.size ≤ gb182)); clear HB; have HB := n0_; have BK182 := n1_; have GW182 := n2_; have GE182 := n3_; clear n0_ n1_ n2_ n3_; clear hb hbox hg) | ((with_reducible refine gate_dst (N := 2) rfl ?_); (try (refine gate_guard (by rfl) ?_; dsimp only)); refine box_event ?hg (N := 2) ?hd (cs := #[.int .i64 0, .int .i64 0]) (t := 66) ?hr ?_; (case hd => rfl); (case hg => rfl); (case hr => first | (go_simp; done) | (go_simp; rfl)); intro gb183 hg w6 hbox hb; have n0_ := Aside0.mk (blk_below (g := gb182) (o := .cells #[.string a0_0, .slice A0_1 l0_1.length c0_1, .slice A0_2 l0_2.length c0_2] 25 (0, 0)) (by (with_reducible repeat (first | refine blk_drewN ?_ _ | refine blk_drew ?_ | refine blk_alloc ?_ _)); exact BK182.out) hb); have n1_ := Aside0.mk (below_step (by repeat (first | (with_reducible first | exact HB.out | apply below_alloc | apply pw_below_drewN | apply below_drew1 | refine below_set ?_ GE182.out) | exact HB.out)) hb); have n2_ := Aside0.mk (hbox); have n3_ := Aside0.mk ((by rw [hg]; exact (below_size (by repeat (first | (with_reducible first | exact HB.out | apply below_alloc | apply pw_below_drewN | apply below_drew1 | refine below_set ?_ GE182.out) | exact HB.out))) : w.heap.size ≤ gb183)); have n4_ := Aside0.mk ((by rw [hg]; exact (below_size (by repeat (first | (with_reducible first | exact HB.out | apply below_alloc | apply pw_below_drewN | apply below_drew1 | refine below_set ?_ GE182.out) | exact HB.out))) : w.heap.size ≤ gb183)); have n5_ := Aside0.mk ((by rw [hg]; exact Nat.ne_of_lt (blk_lt (g := gb182) (o := .cells #[.string a0_0, .slice A0_1 l0_1.length c0_1, .slice A0_2 l0_2.length c0_2] 25 (0, 0)) (by (with_reducible repeat (first | refine blk_drewN ?_ _ | refine blk_drew ?_ | refine blk_alloc ?_ _)); exact BK182.out)) : gb182 ≠ gb183)); have n6_ := Aside0.mk ((by rw [hg]; exact Nat.ne_of_gt (blk_lt (g := gb182) (o := .cells #[.string a0_0, .slice A0_1 l0_1.length c0_1, .slice A0_2 l0_2.length c0_2] 25 (0, 0)) (by (with_reducible repeat (first | refine blk_drewN ?_ _ | refine blk_drew ?_ | refine blk_alloc ?_ _)); exact BK182.out)) : gb183 ≠ gb182)); clear BK182; clear HB; have BK182 := n0_; have HB := n1_; have BK183 := n2_; have GW183 := n3_; have GE183 := n4_; have NB182_183 := n5_; have NB183_182 := n6_; clear n0_ n1_ n2_ n3_ n4_ n5_ n6_; clear hb hbox hg; have hnb7 := NB182_183.out; have hnc7 := NB183_182.out; have hcz8_0 : w6.cell? ⟨gb182, 0, none⟩ = some (.string a0_0) := (blk_cell BK182.out 0).trans rfl; have hcz8_1 : w6.cell? ⟨gb182, 1, none⟩ = some (.slice A0_1 l0_1.length c0_1) := (blk_cell BK182.out 1).trans rfl; have hcz8_2 : w6.cell? ⟨gb182, 2, none⟩ = some (.slice A0_2 l0_2.length c0_2) := (blk_cell BK182.out 2).trans rfl; have hfz8_0 := blk_frozen BK182.out 0; have hfz8_1 := blk_frozen BK182.out 1; have hfz8_2 := blk_frozen BK182.out 2) | ((with_reducible refine gate_callee (f := 61) rfl ?_); refine goesL_ (some 9) rfl rfl Try.func61 (by kernel_rfl) rfl #[.string a0_0] rfl (by (try simp only [List.map_toArray, List.map_cons, List.map_nil]); first | done | rfl | (simp only [List.length_drop, List.length_take]; rfl)) ?_; (with_reducible refine (petrinetref09_Name.calls k a0_0 true _ A2.out).mono ?_); rintro e w' ⟨rfl, ⟨nd, rfl⟩⟩; refine ⟨_, rfl, ?_⟩))
  (try simp only [Act.put, List.setIfInBounds_toArray, List.set_cons_zero, List.set_cons_succ])
  go_cut [27] (fun v27 wc => ∃ (kq : Nat) (x27_3 : Bool), v27 = .bool x27_3 ∧ Aside0 (petrinetref09_Check.j0 kq x27_3 a0_0 l0_1 l0_2 = some (r1, r2)) ∧ Aside0 (kq ≤ k) ∧ Aside0 (wc.heap[gb182]? = some (.cells #[.string a0_0, (.slice A0_1 l0_1.length c0_1), (.slice A0_2 l0_2.length c0_2)] 25 (0, 0))) ∧ Aside0 (wc.heap[gb183]? = some (.cells #[.int .i64 0, .int .i64 0] 66 (0, 0))) ∧ Aside0 (Below w.heap.size w wc))
  case first =>
   have H := HC4.out
   clear HC4
   by_cases c9 : (l0_1.length : Int) < 1
   ·
    rw [if_pos c9] at H
    have c9b0 : decide ((l0_1.length : Int) < 1) = true := decide_eq_true c9
    have c9b1 : decide (l0_1.length < 1) = true := decide_eq_true (by omega)
    clear c9
    (first | rw [c9b0] | (simp only [i64_w, i32_w]; rw [c9b0]) | skip)
    have H' := Aside0.mk H
    clear H
    have hnb10 := NB182_183.out
    have hnc10 := NB183_182.out
    have hcz11_0 : w6.cell? ⟨gb182, 0, none⟩ = some (.string a0_0) := (blk_cell BK182.out 0).trans rfl
    have hcz11_1 : w6.cell? ⟨gb182, 1, none⟩ = some (.slice A0_1 l0_1.length c0_1) := (blk_cell BK182.out 1).trans rfl
    have hcz11_2 : w6.cell? ⟨gb182, 2, none⟩ = some (.slice A0_2 l0_2.length c0_2) := (blk_cell BK182.out 2).trans rfl
    have hfz11_0 := blk_frozen BK182.out 0
    have hfz11_1 := blk_frozen BK182.out 1
    have hfz11_2 := blk_frozen BK182.out 2
    go_wp2
    go_meet
    case rel => exact ⟨_, (true), (by first | rfl | (simp; done) | (simp [*]; done) | (simp [i64_w]; done)), H', ⟨by first | omega | exact Nat.le_refl _⟩, ⟨by (with_reducible repeat (first | refine blk_drewN ?_ _ | refine blk_drew ?_ | refine blk_alloc ?_ _)); exact BK182.out⟩, ⟨by (with_reducible repeat (first | refine blk_drewN ?_ _ | refine blk_drew ?_ | refine blk_alloc ?_ _)); exact BK183.out⟩, ⟨by repeat (first | (with_reducible first | exact HB.out | apply below_alloc | apply pw_below_drewN | apply below_drew1 | refine below_set ?_ GE182.out | refine below_set ?_ GE183.out) | exact HB.out)⟩⟩
   ·
    rw [if_neg c9] at H
    have c9b0 : decide ((l0_1.length : Int) < 1) = false := decide_eq_false c9
    have c9b1 : decide (l0_1.length < 1) = false := decide_eq_false (by omega)
    clear c9
    (first | rw [c9b0] | (simp only [i64_w, i32_w]; rw [c9b0]) | skip)
    by_cases c12 : (l0_1.length : Int) > 24
    ·
     rw [if_pos c12] at H
     have c12b0 : decide (24 < (l0_1.length : Int)) = true := decide_eq_true c12
     have c12b1 : decide (24 < l0_1.length) = true := decide_eq_true (by omega)
     clear c12
     have H' := Aside0.mk H
     clear H
     have hnb13 := NB182_183.out
     have hnc13 := NB183_182.out
     have hcz14_0 : w6.cell? ⟨gb182, 0, none⟩ = some (.string a0_0) := (blk_cell BK182.out 0).trans rfl
     have hcz14_1 : w6.cell? ⟨gb182, 1, none⟩ = some (.slice A0_1 l0_1.length c0_1) := (blk_cell BK182.out 1).trans rfl
     have hcz14_2 : w6.cell? ⟨gb182, 2, none⟩ = some (.slice A0_2 l0_2.length c0_2) := (blk_cell BK182.out 2).trans rfl
     have hfz14_0 := blk_frozen BK182.out 0
     have hfz14_1 := blk_frozen BK182.out 1
     have hfz14_2 := blk_frozen BK182.out 2
     go_wp2
     go_meet
     case rel => exact ⟨_, (true), (by first | rfl | (simp; done) | (simp [*]; done) | (simp [i64_w]; done)), H', ⟨by first | omega | exact Nat.le_refl _⟩, ⟨by (with_reducible repeat (first | refine blk_drewN ?_ _ | refine blk_drew ?_ | refine blk_alloc ?_ _)); exact BK182.out⟩, ⟨by (with_reducible repeat (first | refine blk_drewN ?_ _ | refine blk_drew ?_ | refine blk_alloc ?_ _)); exact BK183.out⟩, ⟨by repeat (first | (with_reducible first | exact HB.out | apply below_alloc | apply pw_below_drewN | apply below_drew1 | refine below_set ?_ GE182.out | refine below_set ?_ GE183.out) | exact HB.out)⟩⟩
    ·
     rw [if_neg c12] at H
     have c12b0 : decide (24 < (l0_1.length : Int)) = false := decide_eq_false c12
     have c12b1 : decide (24 < l0_1.length) = false := decide_eq_false (by omega)
     clear c12
     have H' := Aside0.mk H
     clear H
     have hnb15 := NB182_183.out
     have hnc15 := NB183_182.out
     have hcz16_0 : w6.cell? ⟨gb182, 0, none⟩ = some (.string a0_0) := (blk_cell BK182.out 0).trans rfl
     have hcz16_1 : w6.cell? ⟨gb182, 1, none⟩ = some (.slice A0_1 l0_1.length c0_1) := (blk_cell BK182.out 1).trans rfl
     have hcz16_2 : w6.cell? ⟨gb182, 2, none⟩ = some (.slice A0_2 l0_2.length c0_2) := (blk_cell BK182.out 2).trans rfl
     have hfz16_0 := blk_frozen BK182.out 0
     have hfz16_1 := blk_frozen BK182.out 1
     have hfz16_2 := blk_frozen BK182.out 2
     go_wp2
     go_meet
     case rel => exact ⟨_, (decide ((l0_2.length : Int) > 24)), (by first | rfl | (simp; done) | (simp [*]; done) | (simp [i64_w]; done)), H', ⟨by first | omega | exact Nat.le_refl _⟩, ⟨by (with_reducible repeat (first | refine blk_drewN ?_ _ | refine blk_drew ?_ | refine blk_alloc ?_ _)); exact BK182.out⟩, ⟨by (with_reducible repeat (first | refine blk_drewN ?_ _ | refine blk_drew ?_ | refine blk_alloc ?_ _)); exact BK183.out⟩, ⟨by repeat (first | (with_reducible first | exact HB.out | apply below_alloc | apply pw_below_drewN | apply below_drew1 | refine below_set ?_ GE182.out | refine below_set ?_ GE183.out) | exact HB.out)⟩⟩
  case rest =>
   clear HC4
   try clear c1
   try clear p2
   try clear c3
   try clear c4
   try clear c6
   try clear c7
   try clear c9
   try clear c9b0
   try clear c9b1
   try clear c10
   try clear c12
   try clear c12b0
   try clear c12b1
   try clear c13
   try clear c15
   try clear hcz11_0
   try clear hcz11_1
   try clear hcz11_2
   try clear hcz14_0
   try clear hcz14_1
   try clear hcz14_2
   try clear hcz16_0
   try clear hcz16_1
   try clear hcz16_2
   try clear hcz8_0
   try clear hcz8_1
   try clear hcz8_2
   try clear hfz11_0
   try clear hfz11_1
   try clear hfz11_2
   try clear hfz14_0
   try clear hfz14_1
   try clear hfz14_2
   try clear hfz16_0
   try clear hfz16_1
   try clear hfz16_2
   try clear hfz8_0
   try clear hfz8_1
   try clear hfz8_2
   obtain ⟨kq, x27_3, rfl, HA, HJ3, BK182, BK183, HB⟩ := hcut
   cases kq with
   | zero => exact absurd HA.out (by simp [petrinetref09_Check.j0])
   | succ kj3 =>
    have H := HA.out
    clear HA
    simp only [petrinetref09_Check.j0] at H
    by_cases c17 : x27_3 = true
    ·
     subst c17
     have H1 : (some (2, 0)) = some (r1, r2) := by rw [if_pos rfl] at H; exact H
     clear H
     have H := H1
     clear H1
     simp only [Option.some.injEq, Prod.mk.injEq] at H
     obtain ⟨rfl, rfl⟩ := H
     have hnb18 := NB183_182.out
     have hnc18 := NB182_183.out
     have hcz19_0 : wc.cell? ⟨gb183, 0, none⟩ = some (.int .i64 0) := (blk_cell BK183.out 0).trans rfl
     have hcz19_1 : wc.cell? ⟨gb183, 1, none⟩ = some (.int .i64 0) := (blk_cell BK183.out 1).trans rfl
     have hfz19_0 := blk_frozen BK183.out 0
     have hfz19_1 := blk_frozen BK183.out 1
     go_wp2
     refine bodyPost_ret (results_cell_row rfl _ _ gb183 66 #[.int .i64 2, .int .i64 0] (0, 0) _ rfl (by (with_reducible repeat (first | refine blk_drewN ?_ _ | refine blk_drew ?_ | refine blk_alloc ?_ _)); refine blk_put (cs := #[.int .i64 2, .int .i64 0]) ?_ 1 _ rfl; (with_reducible repeat (first | refine blk_drewN ?_ _ | refine blk_drew ?_ | refine blk_alloc ?_ _)); refine blk_put (cs := #[.int .i64 0, .int .i64 0]) ?_ 0 _ rfl; (with_reducible repeat (first | refine blk_drewN ?_ _ | refine blk_drew ?_ | refine blk_alloc ?_ _)); exact BK183.out) Try.underlying66 rfl (by kernel_rfl)) rfl ?_
     exact ⟨by first | rfl | (simp [errW_none, errW_some] <;> rfl) | (simp [*, errW_none, errW_some] <;> rfl), by repeat (first | (with_reducible first | exact HB.out | apply below_alloc | apply pw_below_drewN | apply below_drew1 | refine below_set ?_ GE182.out | refine below_set ?_ GE183.out) | exact HB.out)⟩
    ·
     replace c17 := Bool.eq_false_iff.mpr c17
     subst c17
     have H1 : (petrinetref09_Check.l0 kj3 0 a0_0 l0_1 l0_2) = some (r1, r2) := by rw [if_neg (show ¬ (false = true) by decide)] at H; exact H
     clear H
     have H := H1
     clear H1
     have H' := Aside0.mk H
     clear H
     go_wp2
     go_loopg [3] kj3 (fun kq v3 w' => ∃ (x3_2 : Int) (x184000_2 : Int) (x184001_2 : Int), v3 = .int .i64 x3_2 ∧ Aside0 (petrinetref09_Check.l0 kq x3_2 a0_0 l0_1 l0_2 = some (r1, r2)) ∧ Aside0 (kq ≤ kj3) ∧ Aside0 (w'.heap[gb182]? = some (.cells #[.string a0_0, (.slice A0_1 l0_1.length c0_1), (.slice A0_2 l0_2.length c0_2)] 25 (0, 0))) ∧ Aside0 (w'.heap[gb183]? = some (.cells #[.int .i64 x184000_2, .int .i64 x184001_2] 66 (0, 0))) ∧ Aside0 (Below w.heap.size w w'))
     case atStart => exact ⟨(0), (0), (0), (by first | rfl | (simp; done) | (simp [*]; done) | (simp [i64_w]; done)), H', ⟨Nat.le_refl _⟩, ⟨by (with_reducible repeat (first | refine blk_drewN ?_ _ | refine blk_drew ?_ | refine blk_alloc ?_ _)); exact BK182.out⟩, ⟨by (with_reducible repeat (first | refine blk_drewN ?_ _ | refine blk_drew ?_ | refine blk_alloc ?_ _)); exact BK183.out⟩, ⟨by repeat (first | (with_reducible first | exact HB.out | apply below_alloc | apply pw_below_drewN | apply below_drew1 | refine below_set ?_ GE182.out | refine below_set ?_ GE183.out) | exact HB.out)⟩⟩
     case round =>
      clear H'
      try clear c1
      try clear p2
      try clear c3
      try clear c4
      try clear c6
      try clear c7
      try clear c9
      try clear c9b0
      try clear c9b1
      try clear c10
      try clear c12
      try clear c12b0
      try clear c12b1
      try clear c13
      try clear c15
      try clear c17
      try clear c18
      try clear hcz11_0
      try clear hcz11_1
      try clear hcz11_2
      try clear hcz14_0
      try clear hcz14_1
      try clear hcz14_2
      try clear hcz16_0
      try clear hcz16_1
      try clear hcz16_2
      try clear hcz19_0
      try clear hcz19_1
      try clear hcz8_0
      try clear hcz8_1
      try clear hcz8_2
      try clear hfz11_0
      try clear hfz11_1
      try clear hfz11_2
      try clear hfz14_0
      try clear hfz14_1
      try clear hfz14_2
      try clear hfz16_0
      try clear hfz16_1
      try clear hfz16_2
      try clear hfz19_0
      try clear hfz19_1
      try clear hfz8_0
      try clear hfz8_1
      try clear hfz8_2
      try clear p2
      obtain ⟨x3_2, x184000_2, x184001_2, rfl, HA, HK2, BK182, BK183, HB⟩ := hrel
      cases gk with
      | zero => exact absurd HA.out (by simp [petrinetref09_Check.l0])
      | succ k2 =>
       have H := HA.out
       clear HA
       simp only [petrinetref09_Check.l0] at H
       by_cases c20 : x3_2 < (l0_1.length : Int)
       ·
        rw [if_pos c20] at H
        have c20b0 : decide (x3_2 < (l0_1.length : Int)) = true := decide_eq_true c20
        clear c20
        replace H := Option.bind_eq_some_iff.mp H
        obtain ⟨t185, A210, H⟩ := H
        replace H : (if t185 = 0 then (petrinetref09_Check.l0 k2 (wrap64 (x3_2 + 1)) a0_0 l0_1 l0_2) else (some (t185, x3_2))) = some (r1, r2) := H
        have A21 := Aside0.mk A210
        clear A210
        by_cases c22 : t185 = 0
        ·
         rw [if_pos c22] at H
         have c22b0 : (t185 == 0) = true := beq_iff_eq.mpr c22
         have c22b1 : (t185 != 0) = false := bne_eq_false_iff_eq.mpr c22
         clear c22
         have H' := Aside0.mk H
         clear H
         have hnb23 := NB182_183.out
         have hnc23 := NB183_182.out
         have hcz24_0 : wr.cell? ⟨gb182, 0, none⟩ = some (.string a0_0) := (blk_cell BK182.out 0).trans rfl
         have hcz24_1 : wr.cell? ⟨gb182, 1, none⟩ = some (.slice A0_1 l0_1.length c0_1) := (blk_cell BK182.out 1).trans rfl
         have hcz24_2 : wr.cell? ⟨gb182, 2, none⟩ = some (.slice A0_2 l0_2.length c0_2) := (blk_cell BK182.out 2).trans rfl
         have hfz24_0 := blk_frozen BK182.out 0
         have hfz24_1 := blk_frozen BK182.out 1
         have hfz24_2 := blk_frozen BK182.out 2
         go_wp2_with (first | ((with_reducible refine gate_callee (f := 62) rfl ?_); refine goesL_ (some 38) rfl rfl Try.func62 (by kernel_rfl) rfl #[.agg #[.string a0_0, .slice A0_1 l0_1.length c0_1, .slice A0_2 l0_2.length c0_2], .int .i64 x3_2] rfl (by (try simp only [List.map_toArray, List.map_cons, List.map_nil]); first | done | rfl | (simp only [List.length_drop, List.length_take]; rfl)) ?_; (with_reducible refine (petrinetref09_place.calls k2 a0_0 _ _ l0_1 _ _ l0_2 x3_2 t185 _ ?side1 ?side2 ?side3 ?side4 A21.out).mono ?_); (case side1 => repeat (first | exact (Kd.C_below HR0_1.out HB.out) | (with_reducible refine Kd.C_alloc ?_ _) | (with_reducible refine Kd.C_drewN ?_ _) | (with_reducible refine Kd.C_drew ?_))); (case side2 => exact HC0_1.out); (case side3 => repeat (first | exact (Kd.C_below HR0_2.out HB.out) | (with_reducible refine Kd.C_alloc ?_ _) | (with_reducible refine Kd.C_drewN ?_ _) | (with_reducible refine Kd.C_drew ?_))); (case side4 => exact HC0_2.out); rintro e w25 ⟨rfl, hb⟩; refine ⟨_, rfl, ?_⟩; have n0_ := Aside0.mk (blk_below (g := gb182) (o := .cells #[.string a0_0, .slice A0_1 l0_1.length c0_1, .slice A0_2 l0_2.length c0_2] 25 (0, 0)) (by (with_reducible repeat (first | refine blk_drewN ?_ _ | refine blk_drew ?_ | refine blk_alloc ?_ _)); exact BK182.out) hb); have n1_ := Aside0.mk (blk_below (g := gb183) (o := .cells #[.int .i64 x184000_2, .int .i64 x184001_2] 66 (0, 0)) (by (with_reducible repeat (first | refine blk_drewN ?_ _ | refine blk_drew ?_ | refine blk_alloc ?_ _)); exact BK183.out) hb); have n2_ := Aside0.mk (below_step (by repeat (first | (with_reducible first | exact HB.out | apply below_alloc | apply pw_below_drewN | apply below_drew1 | refine below_set ?_ GE182.out | refine below_set ?_ GE183.out) | exact HB.out)) hb); clear BK182; clear BK183; clear HB; have BK182 := n0_; have BK183 := n1_; have HB := n2_; clear n0_ n1_ n2_; (try clear hb); (try clear hb2); (try clear hk); (try clear hi)))
         go_roundg k2
         case measure => have := HJ3.out; have := HK2.out; omega
         case rel => exact ⟨(wrap64 (x3_2 + 1)), (x184000_2), (x184001_2), (by first | rfl | (simp; done) | (simp [*]; done) | (simp [i64_w]; done)), H', ⟨by have := HJ3.out; have := HK2.out; omega⟩, ⟨by (with_reducible repeat (first | refine blk_drewN ?_ _ | refine blk_drew ?_ | refine blk_alloc ?_ _)); exact BK182.out⟩, ⟨by (with_reducible repeat (first | refine blk_drewN ?_ _ | refine blk_drew ?_ | refine blk_alloc ?_ _)); exact BK183.out⟩, ⟨by repeat (first | (with_reducible first | exact HB.out | apply below_alloc | apply pw_below_drewN | apply below_drew1 | refine below_set ?_ GE182.out | refine below_set ?_ GE183.out) | exact HB.out)⟩⟩
        ·
         rw [if_neg c22] at H
         have c22b0 : (t185 == 0) = false := beq_eq_false_iff_ne.mpr c22
         have c22b1 : (t185 != 0) = true := bne_iff_ne.mpr c22
         simp only [Option.some.injEq, Prod.mk.injEq] at H
         obtain ⟨rfl, rfl⟩ := H
         have hnb26 := NB182_183.out
         have hnc26 := NB183_182.out
         have hcz27_0 : wr.cell? ⟨gb182, 0, none⟩ = some (.string a0_0) := (blk_cell BK182.out 0).trans rfl
         have hcz27_1 : wr.cell? ⟨gb182, 1, none⟩ = some (.slice A0_1 l0_1.length c0_1) := (blk_cell BK182.out 1).trans rfl
         have hcz27_2 : wr.cell? ⟨gb182, 2, none⟩ = some (.slice A0_2 l0_2.length c0_2) := (blk_cell BK182.out 2).trans rfl
         have hfz27_0 := blk_frozen BK182.out 0
         have hfz27_1 := blk_frozen BK182.out 1
         have hfz27_2 := blk_frozen BK182.out 2
         go_wp2_with (first | ((with_reducible refine gate_callee (f := 62) rfl ?_); refine goesL_ (some 38) rfl rfl Try.func62 (by kernel_rfl) rfl #[.agg #[.string a0_0, .slice A0_1 l0_1.length c0_1, .slice A0_2 l0_2.length c0_2], .int .i64 x3_2] rfl (by (try simp only [List.map_toArray, List.map_cons, List.map_nil]); first | done | rfl | (simp only [List.length_drop, List.length_take]; rfl)) ?_; (with_reducible refine (petrinetref09_place.calls k2 a0_0 _ _ l0_1 _ _ l0_2 x3_2 t185 _ ?side1 ?side2 ?side3 ?side4 A21.out).mono ?_); (case side1 => repeat (first | exact (Kd.C_below HR0_1.out HB.out) | (with_reducible refine Kd.C_alloc ?_ _) | (with_reducible refine Kd.C_drewN ?_ _) | (with_reducible refine Kd.C_drew ?_))); (case side2 => exact HC0_1.out); (case side3 => repeat (first | exact (Kd.C_below HR0_2.out HB.out) | (with_reducible refine Kd.C_alloc ?_ _) | (with_reducible refine Kd.C_drewN ?_ _) | (with_reducible refine Kd.C_drew ?_))); (case side4 => exact HC0_2.out); rintro e w28 ⟨rfl, hb⟩; refine ⟨_, rfl, ?_⟩; have n0_ := Aside0.mk (blk_below (g := gb182) (o := .cells #[.string a0_0, .slice A0_1 l0_1.length c0_1, .slice A0_2 l0_2.length c0_2] 25 (0, 0)) (by (with_reducible repeat (first | refine blk_drewN ?_ _ | refine blk_drew ?_ | refine blk_alloc ?_ _)); exact BK182.out) hb); have n1_ := Aside0.mk (blk_below (g := gb183) (o := .cells #[.int .i64 x184000_2, .int .i64 x184001_2] 66 (0, 0)) (by (with_reducible repeat (first | refine blk_drewN ?_ _ | refine blk_drew ?_ | refine blk_alloc ?_ _)); exact BK183.out) hb); have n2_ := Aside0.mk (below_step (by repeat (first | (with_reducible first | exact HB.out | apply below_alloc | apply pw_below_drewN | apply below_drew1 | refine below_set ?_ GE182.out | refine below_set ?_ GE183.out) | exact HB.out)) hb); clear BK182; clear BK183; clear HB; have BK182 := n0_; have BK183 := n1_; have HB := n2_; clear n0_ n1_ n2_; (try clear hb); (try clear hb2); (try clear hk); (try clear hi); have hcz29_0 : w28.cell? ⟨gb183, 0, none⟩ = some (.int .i64 x184000_2) := (blk_cell BK183.out 0).trans rfl; have hcz29_1 : w28.cell? ⟨gb183, 1, none⟩ = some (.int .i64 x184001_2) := (blk_cell BK183.out 1).trans rfl; have hfz29_0 := blk_frozen BK183.out 0; have hfz29_1 := blk_frozen BK183.out 1))
         refine bodyPost_ret (results_cell_row rfl _ _ gb183 66 #[.int .i64 t185, .int .i64 x3_2] (0, 0) _ rfl (by (with_reducible repeat (first | refine blk_drewN ?_ _ | refine blk_drew ?_ | refine blk_alloc ?_ _)); refine blk_put (cs := #[.int .i64 t185, .int .i64 x184001_2]) ?_ 1 _ rfl; (with_reducible repeat (first | refine blk_drewN ?_ _ | refine blk_drew ?_ | refine blk_alloc ?_ _)); refine blk_put (cs := #[.int .i64 x184000_2, .int .i64 x184001_2]) ?_ 0 _ rfl; (with_reducible repeat (first | refine blk_drewN ?_ _ | refine blk_drew ?_ | refine blk_alloc ?_ _)); exact BK183.out) Try.underlying66 rfl (by kernel_rfl)) rfl ?_
         exact ⟨by first | rfl | (simp [errW_none, errW_some] <;> rfl) | (simp [*, errW_none, errW_some] <;> rfl), by repeat (first | (with_reducible first | exact HB.out | apply below_alloc | apply pw_below_drewN | apply below_drew1 | refine below_set ?_ GE182.out | refine below_set ?_ GE183.out) | exact HB.out)⟩
       ·
        rw [if_neg c20] at H
        have c20b0 : decide (x3_2 < (l0_1.length : Int)) = false := decide_eq_false c20
        clear c20
        have H' := Aside0.mk H
        clear H
        have hnb30 := NB182_183.out
        have hnc30 := NB183_182.out
        have hcz31_0 : wr.cell? ⟨gb182, 0, none⟩ = some (.string a0_0) := (blk_cell BK182.out 0).trans rfl
        have hcz31_1 : wr.cell? ⟨gb182, 1, none⟩ = some (.slice A0_1 l0_1.length c0_1) := (blk_cell BK182.out 1).trans rfl
        have hcz31_2 : wr.cell? ⟨gb182, 2, none⟩ = some (.slice A0_2 l0_2.length c0_2) := (blk_cell BK182.out 2).trans rfl
        have hfz31_0 := blk_frozen BK182.out 0
        have hfz31_1 := blk_frozen BK182.out 1
        have hfz31_2 := blk_frozen BK182.out 2
        go_wp2
        go_loopg [5] k2 (fun kq v5 w' => ∃ (x5_3 : Int) (x184000_3 : Int) (x184001_3 : Int), v5 = .int .i64 x5_3 ∧ Aside0 (petrinetref09_Check.l1 kq x5_3 a0_0 l0_1 l0_2 = some (r1, r2)) ∧ Aside0 (kq ≤ k2) ∧ Aside0 (w'.heap[gb182]? = some (.cells #[.string a0_0, (.slice A0_1 l0_1.length c0_1), (.slice A0_2 l0_2.length c0_2)] 25 (0, 0))) ∧ Aside0 (w'.heap[gb183]? = some (.cells #[.int .i64 x184000_3, .int .i64 x184001_3] 66 (0, 0))) ∧ Aside0 (Below w.heap.size w w'))
        case atStart => exact ⟨(0), (x184000_2), (x184001_2), (by first | rfl | (simp; done) | (simp [*]; done) | (simp [i64_w]; done)), H', ⟨Nat.le_refl _⟩, ⟨by (with_reducible repeat (first | refine blk_drewN ?_ _ | refine blk_drew ?_ | refine blk_alloc ?_ _)); exact BK182.out⟩, ⟨by (with_reducible repeat (first | refine blk_drewN ?_ _ | refine blk_drew ?_ | refine blk_alloc ?_ _)); exact BK183.out⟩, ⟨by repeat (first | (with_reducible first | exact HB.out | apply below_alloc | apply pw_below_drewN | apply below_drew1 | refine below_set ?_ GE182.out | refine below_set ?_ GE183.out) | exact HB.out)⟩⟩
        case round =>
         clear H'
         try clear c1
         try clear c2
         try clear p2
         try clear c3
         try clear c4
         try clear c6
         try clear p6
         try clear c7
         try clear c9
         try clear c9b0
         try clear c9b1
         try clear c10
         try clear c12
         try clear c12b0
         try clear c12b1
         try clear c13
         try clear c15
         try clear c17
         try clear c18
         try clear c20
         try clear c20b0
         try clear c22
         try clear c22b0
         try clear c22b1
         try clear c23
         try clear c26
         try clear c30
         try clear hcz11_0
         try clear hcz11_1
         try clear hcz11_2
         try clear hcz14_0
         try clear hcz14_1
         try clear hcz14_2
         try clear hcz16_0
         try clear hcz16_1
         try clear hcz16_2
         try clear hcz19_0
         try clear hcz19_1
         try clear hcz24_0
         try clear hcz24_1
         try clear hcz24_2
         try clear hcz27_0
         try clear hcz27_1
         try clear hcz27_2
         try clear hcz29_0
         try clear hcz29_1
         try clear hcz31_0
         try clear hcz31_1
         try clear hcz31_2
         try clear hcz8_0
         try clear hcz8_1
         try clear hcz8_2
         try clear hfz11_0
         try clear hfz11_1
         try clear hfz11_2
         try clear hfz14_0
         try clear hfz14_1
         try clear hfz14_2
         try clear hfz16_0
         try clear hfz16_1
         try clear hfz16_2
         try clear hfz19_0
         try clear hfz19_1
         try clear hfz24_0
         try clear hfz24_1
         try clear hfz24_2
         try clear hfz27_0
         try clear hfz27_1
         try clear hfz27_2
         try clear hfz29_0
         try clear hfz29_1
         try clear hfz31_0
         try clear hfz31_1
         try clear hfz31_2
         try clear hfz8_0
         try clear hfz8_1
         try clear hfz8_2
         try clear p2
         obtain ⟨x5_3, x184000_3, x184001_3, rfl, HA, HK3, BK182, BK183, HB⟩ := hrel
         cases gk with
         | zero => exact absurd HA.out (by simp [petrinetref09_Check.l1])
         | succ k3 =>
          have H := HA.out
          clear HA
          simp only [petrinetref09_Check.l1] at H
          by_cases c32 : x5_3 < (l0_2.length : Int)
          ·
           rw [if_pos c32] at H
           have c32b0 : decide (x5_3 < (l0_2.length : Int)) = true := decide_eq_true c32
           clear c32
           replace H := Option.bind_eq_some_iff.mp H
           obtain ⟨t186, A330, H⟩ := H
           replace H : (if t186 = 0 then (petrinetref09_Check.l1 k3 (wrap64 (x5_3 + 1)) a0_0 l0_1 l0_2) else (some (t186, wrap64 ((l0_1.length : Int) + x5_3)))) = some (r1, r2) := H
           have A33 := Aside0.mk A330
           clear A330
           by_cases c34 : t186 = 0
           ·
            rw [if_pos c34] at H
            have c34b0 : (t186 == 0) = true := beq_iff_eq.mpr c34
            have c34b1 : (t186 != 0) = false := bne_eq_false_iff_eq.mpr c34
            clear c34
            have H' := Aside0.mk H
            clear H
            have hnb35 := NB182_183.out
            have hnc35 := NB183_182.out
            have hcz36_0 : wr.cell? ⟨gb182, 0, none⟩ = some (.string a0_0) := (blk_cell BK182.out 0).trans rfl
            have hcz36_1 : wr.cell? ⟨gb182, 1, none⟩ = some (.slice A0_1 l0_1.length c0_1) := (blk_cell BK182.out 1).trans rfl
            have hcz36_2 : wr.cell? ⟨gb182, 2, none⟩ = some (.slice A0_2 l0_2.length c0_2) := (blk_cell BK182.out 2).trans rfl
            have hfz36_0 := blk_frozen BK182.out 0
            have hfz36_1 := blk_frozen BK182.out 1
            have hfz36_2 := blk_frozen BK182.out 2
            go_wp2_with (first | ((with_reducible refine gate_callee (f := 63) rfl ?_); refine goesL_ (some 53) rfl rfl Try.func63 (by kernel_rfl) rfl #[.agg #[.string a0_0, .slice A0_1 l0_1.length c0_1, .slice A0_2 l0_2.length c0_2], .int .i64 x5_3] rfl (by (try simp only [List.map_toArray, List.map_cons, List.map_nil]); first | done | rfl | (simp only [List.length_drop, List.length_take]; rfl)) ?_; (with_reducible refine (petrinetref09_trans.calls k3 a0_0 _ _ l0_1 _ _ l0_2 x5_3 t186 _ ?side1 ?side2 ?side3 ?side4 A33.out).mono ?_); (case side1 => repeat (first | exact (Kd.C_below HR0_1.out HB.out) | (with_reducible refine Kd.C_alloc ?_ _) | (with_reducible refine Kd.C_drewN ?_ _) | (with_reducible refine Kd.C_drew ?_))); (case side2 => exact HC0_1.out); (case side3 => repeat (first | exact (Kd.C_below HR0_2.out HB.out) | (with_reducible refine Kd.C_alloc ?_ _) | (with_reducible refine Kd.C_drewN ?_ _) | (with_reducible refine Kd.C_drew ?_))); (case side4 => exact HC0_2.out); rintro e w37 ⟨rfl, hb⟩; refine ⟨_, rfl, ?_⟩; have n0_ := Aside0.mk (blk_below (g := gb182) (o := .cells #[.string a0_0, .slice A0_1 l0_1.length c0_1, .slice A0_2 l0_2.length c0_2] 25 (0, 0)) (by (with_reducible repeat (first | refine blk_drewN ?_ _ | refine blk_drew ?_ | refine blk_alloc ?_ _)); exact BK182.out) hb); have n1_ := Aside0.mk (blk_below (g := gb183) (o := .cells #[.int .i64 x184000_3, .int .i64 x184001_3] 66 (0, 0)) (by (with_reducible repeat (first | refine blk_drewN ?_ _ | refine blk_drew ?_ | refine blk_alloc ?_ _)); exact BK183.out) hb); have n2_ := Aside0.mk (below_step (by repeat (first | (with_reducible first | exact HB.out | apply below_alloc | apply pw_below_drewN | apply below_drew1 | refine below_set ?_ GE182.out | refine below_set ?_ GE183.out) | exact HB.out)) hb); clear BK182; clear BK183; clear HB; have BK182 := n0_; have BK183 := n1_; have HB := n2_; clear n0_ n1_ n2_; (try clear hb); (try clear hb2); (try clear hk); (try clear hi)))
            go_roundg k3
            case measure => have := HJ3.out; have := HK2.out; have := HK3.out; omega
            case rel => exact ⟨(wrap64 (x5_3 + 1)), (x184000_3), (x184001_3), (by first | rfl | (simp; done) | (simp [*]; done) | (simp [i64_w]; done)), H', ⟨by have := HJ3.out; have := HK2.out; have := HK3.out; omega⟩, ⟨by (with_reducible repeat (first | refine blk_drewN ?_ _ | refine blk_drew ?_ | refine blk_alloc ?_ _)); exact BK182.out⟩, ⟨by (with_reducible repeat (first | refine blk_drewN ?_ _ | refine blk_drew ?_ | refine blk_alloc ?_ _)); exact BK183.out⟩, ⟨by repeat (first | (with_reducible first | exact HB.out | apply below_alloc | apply pw_below_drewN | apply below_drew1 | refine below_set ?_ GE182.out | refine below_set ?_ GE183.out) | exact HB.out)⟩⟩
           ·
            rw [if_neg c34] at H
            have c34b0 : (t186 == 0) = false := beq_eq_false_iff_ne.mpr c34
            have c34b1 : (t186 != 0) = true := bne_iff_ne.mpr c34
            simp only [Option.some.injEq, Prod.mk.injEq] at H
            obtain ⟨rfl, rfl⟩ := H
            have hnb38 := NB182_183.out
            have hnc38 := NB183_182.out
            have hcz39_0 : wr.cell? ⟨gb182, 0, none⟩ = some (.string a0_0) := (blk_cell BK182.out 0).trans rfl
            have hcz39_1 : wr.cell? ⟨gb182, 1, none⟩ = some (.slice A0_1 l0_1.length c0_1) := (blk_cell BK182.out 1).trans rfl
            have hcz39_2 : wr.cell? ⟨gb182, 2, none⟩ = some (.slice A0_2 l0_2.length c0_2) := (blk_cell BK182.out 2).trans rfl
            have hfz39_0 := blk_frozen BK182.out 0
            have hfz39_1 := blk_frozen BK182.out 1
            have hfz39_2 := blk_frozen BK182.out 2
            go_wp2_with (first | ((with_reducible refine gate_callee (f := 63) rfl ?_); refine goesL_ (some 53) rfl rfl Try.func63 (by kernel_rfl) rfl #[.agg #[.string a0_0, .slice A0_1 l0_1.length c0_1, .slice A0_2 l0_2.length c0_2], .int .i64 x5_3] rfl (by (try simp only [List.map_toArray, List.map_cons, List.map_nil]); first | done | rfl | (simp only [List.length_drop, List.length_take]; rfl)) ?_; (with_reducible refine (petrinetref09_trans.calls k3 a0_0 _ _ l0_1 _ _ l0_2 x5_3 t186 _ ?side1 ?side2 ?side3 ?side4 A33.out).mono ?_); (case side1 => repeat (first | exact (Kd.C_below HR0_1.out HB.out) | (with_reducible refine Kd.C_alloc ?_ _) | (with_reducible refine Kd.C_drewN ?_ _) | (with_reducible refine Kd.C_drew ?_))); (case side2 => exact HC0_1.out); (case side3 => repeat (first | exact (Kd.C_below HR0_2.out HB.out) | (with_reducible refine Kd.C_alloc ?_ _) | (with_reducible refine Kd.C_drewN ?_ _) | (with_reducible refine Kd.C_drew ?_))); (case side4 => exact HC0_2.out); rintro e w40 ⟨rfl, hb⟩; refine ⟨_, rfl, ?_⟩; have n0_ := Aside0.mk (blk_below (g := gb182) (o := .cells #[.string a0_0, .slice A0_1 l0_1.length c0_1, .slice A0_2 l0_2.length c0_2] 25 (0, 0)) (by (with_reducible repeat (first | refine blk_drewN ?_ _ | refine blk_drew ?_ | refine blk_alloc ?_ _)); exact BK182.out) hb); have n1_ := Aside0.mk (blk_below (g := gb183) (o := .cells #[.int .i64 x184000_3, .int .i64 x184001_3] 66 (0, 0)) (by (with_reducible repeat (first | refine blk_drewN ?_ _ | refine blk_drew ?_ | refine blk_alloc ?_ _)); exact BK183.out) hb); have n2_ := Aside0.mk (below_step (by repeat (first | (with_reducible first | exact HB.out | apply below_alloc | apply pw_below_drewN | apply below_drew1 | refine below_set ?_ GE182.out | refine below_set ?_ GE183.out) | exact HB.out)) hb); clear BK182; clear BK183; clear HB; have BK182 := n0_; have BK183 := n1_; have HB := n2_; clear n0_ n1_ n2_; (try clear hb); (try clear hb2); (try clear hk); (try clear hi); have hcz41_0 : w40.cell? ⟨gb182, 0, none⟩ = some (.string a0_0) := (blk_cell BK182.out 0).trans rfl; have hcz41_1 : w40.cell? ⟨gb182, 1, none⟩ = some (.slice A0_1 l0_1.length c0_1) := (blk_cell BK182.out 1).trans rfl; have hcz41_2 : w40.cell? ⟨gb182, 2, none⟩ = some (.slice A0_2 l0_2.length c0_2) := (blk_cell BK182.out 2).trans rfl; have hfz41_0 := blk_frozen BK182.out 0; have hfz41_1 := blk_frozen BK182.out 1; have hfz41_2 := blk_frozen BK182.out 2; have hcz42_0 : w40.cell? ⟨gb183, 0, none⟩ = some (.int .i64 x184000_3) := (blk_cell BK183.out 0).trans rfl; have hcz42_1 : w40.cell? ⟨gb183, 1, none⟩ = some (.int .i64 x184001_3) := (blk_cell BK183.out 1).trans rfl; have hfz42_0 := blk_frozen BK183.out 0; have hfz42_1 := blk_frozen BK183.out 1))
            refine bodyPost_ret (results_cell_row rfl _ _ gb183 66 #[.int .i64 t186, .int .i64 (wrap64 ((l0_1.length : Int) + x5_3))] (0, 0) _ rfl (by (with_reducible repeat (first | refine blk_drewN ?_ _ | refine blk_drew ?_ | refine blk_alloc ?_ _)); refine blk_put (cs := #[.int .i64 t186, .int .i64 x184001_3]) ?_ 1 _ rfl; (with_reducible repeat (first | refine blk_drewN ?_ _ | refine blk_drew ?_ | refine blk_alloc ?_ _)); refine blk_put (cs := #[.int .i64 x184000_3, .int .i64 x184001_3]) ?_ 0 _ rfl; (with_reducible repeat (first | refine blk_drewN ?_ _ | refine blk_drew ?_ | refine blk_alloc ?_ _)); exact BK183.out) Try.underlying66 rfl (by kernel_rfl)) rfl ?_
            exact ⟨by first | rfl | (simp [errW_none, errW_some] <;> rfl) | (simp [*, errW_none, errW_some] <;> rfl), by repeat (first | (with_reducible first | exact HB.out | apply below_alloc | apply pw_below_drewN | apply below_drew1 | refine below_set ?_ GE182.out | refine below_set ?_ GE183.out) | exact HB.out)⟩
          ·
           rw [if_neg c32] at H
           have c32b0 : decide (x5_3 < (l0_2.length : Int)) = false := decide_eq_false c32
           clear c32
           simp only [Option.some.injEq, Prod.mk.injEq] at H
           obtain ⟨rfl, rfl⟩ := H
           have hnb43 := NB182_183.out
           have hnc43 := NB183_182.out
           have hcz44_0 : wr.cell? ⟨gb182, 0, none⟩ = some (.string a0_0) := (blk_cell BK182.out 0).trans rfl
           have hcz44_1 : wr.cell? ⟨gb182, 1, none⟩ = some (.slice A0_1 l0_1.length c0_1) := (blk_cell BK182.out 1).trans rfl
           have hcz44_2 : wr.cell? ⟨gb182, 2, none⟩ = some (.slice A0_2 l0_2.length c0_2) := (blk_cell BK182.out 2).trans rfl
           have hfz44_0 := blk_frozen BK182.out 0
           have hfz44_1 := blk_frozen BK182.out 1
           have hfz44_2 := blk_frozen BK182.out 2
           have hcz45_0 : wr.cell? ⟨gb183, 0, none⟩ = some (.int .i64 x184000_3) := (blk_cell BK183.out 0).trans rfl
           have hcz45_1 : wr.cell? ⟨gb183, 1, none⟩ = some (.int .i64 x184001_3) := (blk_cell BK183.out 1).trans rfl
           have hfz45_0 := blk_frozen BK183.out 0
           have hfz45_1 := blk_frozen BK183.out 1
           go_wp2
           refine bodyPost_ret (results_cell_row rfl _ _ gb183 66 #[.int .i64 0, .int .i64 0] (0, 0) _ rfl (by (with_reducible repeat (first | refine blk_drewN ?_ _ | refine blk_drew ?_ | refine blk_alloc ?_ _)); refine blk_put (cs := #[.int .i64 0, .int .i64 x184001_3]) ?_ 1 _ rfl; (with_reducible repeat (first | refine blk_drewN ?_ _ | refine blk_drew ?_ | refine blk_alloc ?_ _)); refine blk_put (cs := #[.int .i64 x184000_3, .int .i64 x184001_3]) ?_ 0 _ rfl; (with_reducible repeat (first | refine blk_drewN ?_ _ | refine blk_drew ?_ | refine blk_alloc ?_ _)); exact BK183.out) Try.underlying66 rfl (by kernel_rfl)) rfl ?_
           exact ⟨by first | rfl | (simp [errW_none, errW_some] <;> rfl) | (simp [*, errW_none, errW_some] <;> rfl), by repeat (first | (with_reducible first | exact HB.out | apply below_alloc | apply pw_below_drewN | apply below_drew1 | refine below_set ?_ GE182.out | refine below_set ?_ GE183.out) | exact HB.out)⟩
 ·
  replace c3 := Bool.eq_false_iff.mpr c3
  subst c3
  have H1 : (some (5, 0)) = some (r1, r2) := by rw [if_neg (show ¬ (false = true) by decide)] at H; exact H
  clear H
  have H := H1
  clear H1
  simp only [Option.some.injEq, Prod.mk.injEq] at H
  obtain ⟨rfl, rfl⟩ := H
  go_enter Try.func47, Try.ntmps47
  go_wp2_with (first | ((with_reducible refine gate_dst (N := 1) rfl ?_); (try (refine gate_guard (by rfl) ?_; dsimp only)); refine box_event ?hg (N := 1) ?hd (cs := #[.string a0_0, .slice A0_1 l0_1.length c0_1, .slice A0_2 l0_2.length c0_2]) (t := 25) ?hr ?_; (case hd => rfl); (case hg => rfl); (case hr => first | (go_simp; done) | (go_simp; rfl)); intro gb182 hg w46 hbox hb; have n0_ := Aside0.mk (below_step (by repeat (first | (with_reducible first | exact HB.out | apply below_alloc | apply pw_below_drewN | apply below_drew1) | exact HB.out)) hb); have n1_ := Aside0.mk (hbox); have n2_ := Aside0.mk ((by rw [hg]; exact (below_size (by repeat (first | (with_reducible first | exact HB.out | apply below_alloc | apply pw_below_drewN | apply below_drew1) | exact HB.out))) : w.heap.size ≤ gb182)); have n3_ := Aside0.mk ((by rw [hg]; exact (below_size (by repeat (first | (with_reducible first | exact HB.out | apply below_alloc | apply pw_below_drewN | apply below_drew1) | exact HB.out))) : w.heap.size ≤ gb182)); clear HB; have HB := n0_; have BK182 := n1_; have GW182 := n2_; have GE182 := n3_; clear n0_ n1_ n2_ n3_; clear hb hbox hg) | ((with_reducible refine gate_dst (N := 2) rfl ?_); (try (refine gate_guard (by rfl) ?_; dsimp only)); refine box_event ?hg (N := 2) ?hd (cs := #[.int .i64 0, .int .i64 0]) (t := 66) ?hr ?_; (case hd => rfl); (case hg => rfl); (case hr => first | (go_simp; done) | (go_simp; rfl)); intro gb183 hg w47 hbox hb; have n0_ := Aside0.mk (blk_below (g := gb182) (o := .cells #[.string a0_0, .slice A0_1 l0_1.length c0_1, .slice A0_2 l0_2.length c0_2] 25 (0, 0)) (by (with_reducible repeat (first | refine blk_drewN ?_ _ | refine blk_drew ?_ | refine blk_alloc ?_ _)); exact BK182.out) hb); have n1_ := Aside0.mk (below_step (by repeat (first | (with_reducible first | exact HB.out | apply below_alloc | apply pw_below_drewN | apply below_drew1 | refine below_set ?_ GE182.out) | exact HB.out)) hb); have n2_ := Aside0.mk (hbox); have n3_ := Aside0.mk ((by rw [hg]; exact (below_size (by repeat (first | (with_reducible first | exact HB.out | apply below_alloc | apply pw_below_drewN | apply below_drew1 | refine below_set ?_ GE182.out) | exact HB.out))) : w.heap.size ≤ gb183)); have n4_ := Aside0.mk ((by rw [hg]; exact (below_size (by repeat (first | (with_reducible first | exact HB.out | apply below_alloc | apply pw_below_drewN | apply below_drew1 | refine below_set ?_ GE182.out) | exact HB.out))) : w.heap.size ≤ gb183)); have n5_ := Aside0.mk ((by rw [hg]; exact Nat.ne_of_lt (blk_lt (g := gb182) (o := .cells #[.string a0_0, .slice A0_1 l0_1.length c0_1, .slice A0_2 l0_2.length c0_2] 25 (0, 0)) (by (with_reducible repeat (first | refine blk_drewN ?_ _ | refine blk_drew ?_ | refine blk_alloc ?_ _)); exact BK182.out)) : gb182 ≠ gb183)); have n6_ := Aside0.mk ((by rw [hg]; exact Nat.ne_of_gt (blk_lt (g := gb182) (o := .cells #[.string a0_0, .slice A0_1 l0_1.length c0_1, .slice A0_2 l0_2.length c0_2] 25 (0, 0)) (by (with_reducible repeat (first | refine blk_drewN ?_ _ | refine blk_drew ?_ | refine blk_alloc ?_ _)); exact BK182.out)) : gb183 ≠ gb182)); clear BK182; clear HB; have BK182 := n0_; have HB := n1_; have BK183 := n2_; have GW183 := n3_; have GE183 := n4_; have NB182_183 := n5_; have NB183_182 := n6_; clear n0_ n1_ n2_ n3_ n4_ n5_ n6_; clear hb hbox hg; have hnb48 := NB182_183.out; have hnc48 := NB183_182.out; have hcz49_0 : w47.cell? ⟨gb182, 0, none⟩ = some (.string a0_0) := (blk_cell BK182.out 0).trans rfl; have hcz49_1 : w47.cell? ⟨gb182, 1, none⟩ = some (.slice A0_1 l0_1.length c0_1) := (blk_cell BK182.out 1).trans rfl; have hcz49_2 : w47.cell? ⟨gb182, 2, none⟩ = some (.slice A0_2 l0_2.length c0_2) := (blk_cell BK182.out 2).trans rfl; have hfz49_0 := blk_frozen BK182.out 0; have hfz49_1 := blk_frozen BK182.out 1; have hfz49_2 := blk_frozen BK182.out 2) | ((with_reducible refine gate_callee (f := 61) rfl ?_); refine goesL_ (some 9) rfl rfl Try.func61 (by kernel_rfl) rfl #[.string a0_0] rfl (by (try simp only [List.map_toArray, List.map_cons, List.map_nil]); first | done | rfl | (simp only [List.length_drop, List.length_take]; rfl)) ?_; (with_reducible refine (petrinetref09_Name.calls k a0_0 false _ A2.out).mono ?_); rintro e w' ⟨rfl, ⟨nd, rfl⟩⟩; refine ⟨_, rfl, ?_⟩; (try (rw [drewN_self w47]; generalize hq_ : World.drewN w47 _ = w47; have n0_ : Aside0 (w47.heap[gb182]? = some (.cells #[.string a0_0, .slice A0_1 l0_1.length c0_1, .slice A0_2 l0_2.length c0_2] 25 (0, 0))) := ⟨by rw [← hq_]; exact (by (with_reducible repeat (first | refine blk_drewN ?_ _ | refine blk_drew ?_ | refine blk_alloc ?_ _)); exact BK182.out)⟩; have n1_ : Aside0 (w47.heap[gb183]? = some (.cells #[.int .i64 0, .int .i64 0] 66 (0, 0))) := ⟨by rw [← hq_]; exact (by (with_reducible repeat (first | refine blk_drewN ?_ _ | refine blk_drew ?_ | refine blk_alloc ?_ _)); exact BK183.out)⟩; have n2_ : Aside0 (Below w.heap.size w w47) := ⟨by rw [← hq_]; exact (by repeat (first | (with_reducible first | exact HB.out | apply below_alloc | apply pw_below_drewN | apply below_drew1 | refine below_set ?_ GE182.out | refine below_set ?_ GE183.out) | exact HB.out))⟩; clear BK182 BK183 HB hq_; have BK182 := n0_; have BK183 := n1_; have HB := n2_; clear n0_ n1_ n2_)); have hcz50_0 : w47.cell? ⟨gb183, 0, none⟩ = some (.int .i64 0) := (blk_cell BK183.out 0).trans rfl; have hcz50_1 : w47.cell? ⟨gb183, 1, none⟩ = some (.int .i64 0) := (blk_cell BK183.out 1).trans rfl; have hfz50_0 := blk_frozen BK183.out 0; have hfz50_1 := blk_frozen BK183.out 1))
  refine bodyPost_ret (results_cell_row rfl _ _ gb183 66 #[.int .i64 5, .int .i64 0] (0, 0) _ rfl (by (with_reducible repeat (first | refine blk_drewN ?_ _ | refine blk_drew ?_ | refine blk_alloc ?_ _)); refine blk_put (cs := #[.int .i64 5, .int .i64 0]) ?_ 1 _ rfl; (with_reducible repeat (first | refine blk_drewN ?_ _ | refine blk_drew ?_ | refine blk_alloc ?_ _)); refine blk_put (cs := #[.int .i64 0, .int .i64 0]) ?_ 0 _ rfl; (with_reducible repeat (first | refine blk_drewN ?_ _ | refine blk_drew ?_ | refine blk_alloc ?_ _)); exact BK183.out) Try.underlying66 rfl (by kernel_rfl)) rfl ?_
  exact ⟨by first | rfl | (simp [errW_none, errW_some] <;> rfl) | (simp [*, errW_none, errW_some] <;> rfl), by repeat (first | (with_reducible first | exact HB.out | apply below_alloc | apply pw_below_drewN | apply below_drew1 | refine below_set ?_ GE182.out | refine below_set ?_ GE183.out) | exact HB.out)⟩


/-! ### petrinetref09_Valid: function 24 -/
def petrinetref09_Valid.f (k : Nat) (a0_0 : ByteArray) (l0_1 : List (S56)) (l0_2 : List (S40)) : Option (Bool) := (petrinetref09_Check.f k a0_0 l0_1 l0_2).bind fun bt188 => (some (bt188.1 == 0))
theorem petrinetref09_Valid.mono : ∀ a0 a1 a2 k, LeO (petrinetref09_Valid.f k a0 a1 a2) (petrinetref09_Valid.f (k + 1) a0 a1 a2) := by
 intro a0 a1 a2 k
 unfold petrinetref09_Valid.f
 repeat' first
   | (with_reducible exact petrinetref09_Check.mono _ _ _ _)
   | (with_reducible exact LeO.refl _)
   | (with_reducible exact LeO.none _)
   | (with_reducible refine LeO.ite ?_ ?_)
   | (with_reducible refine LeO.bind ?_ (fun _ => ?_))
   | exact petrinetref09_Check.mono _ _ _ _
   | exact LeO.none _
   | refine LeO.ite ?_ ?_
   | refine LeO.bind ?_ (fun _ => ?_)
set_option maxHeartbeats 8000000 in
set_option maxRecDepth 100000 in
theorem petrinetref09_Valid.calls (k : Nat) (a0_0 : ByteArray) (A0_1 : Option Addr) (c0_1 : Nat) (l0_1 : List (S56)) (A0_2 : Option Addr) (c0_2 : Nat) (l0_2 : List (S40)) (r : Bool) (w : World) (hr0_1 : Kd.C k56 w A0_1 l0_1.length l0_1) (hc0_1 : l0_1.length ≤ c0_1) (hr0_2 : Kd.C k40 w A0_2 l0_2.length l0_2) (hc0_2 : l0_2.length ≤ c0_2) (h : petrinetref09_Valid.f k a0_0 l0_1 l0_2 = some r) :
  Calls Try.prog 24 #[.agg #[.string a0_0, .slice A0_1 l0_1.length c0_1, .slice A0_2 l0_2.length c0_2]] w fun e w' => e = .returned (.bool r) ∧ Below w.heap.size w w' := by
 have hu25 := Try.underlying25
 have hu9 := Try.underlying9
 have hu22 := Try.underlying22
 have hu23 := Try.underlying23
 have HR0_1 := Aside0.mk hr0_1
 have HC0_1 := Aside0.mk hc0_1
 clear hr0_1 hc0_1
 have HR0_2 := Aside0.mk hr0_2
 have HC0_2 := Aside0.mk hc0_2
 clear hr0_2 hc0_2
 have HB := Aside0.mk (Below.refl w.heap.size w)
 have H : ((petrinetref09_Check.f k a0_0 l0_1 l0_2).bind fun bt188 => (some (bt188.1 == 0))) = some r := h
 clear h
 replace H := Option.bind_eq_some_iff.mp H
 obtain ⟨⟨t188, t189⟩, A20, H⟩ := H
 replace H : (some (t188 == 0)) = some r := H
 have A2 := Aside0.mk A20
 clear A20
 obtain rfl := Option.some.inj H
 go_enter Try.func24, Try.ntmps24
 go_wp2_with (first | ((with_reducible refine gate_dst (N := 1) rfl ?_); refine box_event ?hg (N := 1) ?hd (cs := #[.string a0_0, .slice A0_1 l0_1.length c0_1, .slice A0_2 l0_2.length c0_2]) (t := 25) ?hr ?_; (case hd => rfl); (case hg => rfl); (case hr => first | (go_simp; done) | (go_simp; rfl)); intro gb187 hg w3 hbox hb; have n0_ := Aside0.mk (below_step (by repeat (first | (with_reducible first | exact HB.out | apply below_alloc | apply pw_below_drewN | apply below_drew1) | exact HB.out)) hb); have n1_ := Aside0.mk (hbox); have n2_ := Aside0.mk ((by rw [hg]; exact (below_size (by repeat (first | (with_reducible first | exact HB.out | apply below_alloc | apply pw_below_drewN | apply below_drew1) | exact HB.out))) : w.heap.size ≤ gb187)); have n3_ := Aside0.mk ((by rw [hg]; exact (below_size (by repeat (first | (with_reducible first | exact HB.out | apply below_alloc | apply pw_below_drewN | apply below_drew1) | exact HB.out))) : w.heap.size ≤ gb187)); clear HB; have HB := n0_; have BK187 := n1_; have GW187 := n2_; have GE187 := n3_; clear n0_ n1_ n2_ n3_; clear hb hbox hg; have hcz4_0 : w3.cell? ⟨gb187, 0, none⟩ = some (.string a0_0) := (blk_cell BK187.out 0).trans rfl; have hcz4_1 : w3.cell? ⟨gb187, 1, none⟩ = some (.slice A0_1 l0_1.length c0_1) := (blk_cell BK187.out 1).trans rfl; have hcz4_2 : w3.cell? ⟨gb187, 2, none⟩ = some (.slice A0_2 l0_2.length c0_2) := (blk_cell BK187.out 2).trans rfl; have hfz4_0 := blk_frozen BK187.out 0; have hfz4_1 := blk_frozen BK187.out 1; have hfz4_2 := blk_frozen BK187.out 2) | ((with_reducible refine gate_callee (f := 47) rfl ?_); refine goesL_ (some 4) rfl rfl Try.func47 (by kernel_rfl) rfl #[.agg #[.string a0_0, .slice A0_1 l0_1.length c0_1, .slice A0_2 l0_2.length c0_2]] rfl (by (try simp only [List.map_toArray, List.map_cons, List.map_nil]); first | done | rfl | (simp only [List.length_drop, List.length_take]; rfl)) ?_; (with_reducible refine (petrinetref09_Check.calls k a0_0 _ _ l0_1 _ _ l0_2 t188 t189 _ ?side1 ?side2 ?side3 ?side4 A2.out).mono ?_); (case side1 => repeat (first | exact (Kd.C_below HR0_1.out HB.out) | (with_reducible refine Kd.C_alloc ?_ _) | (with_reducible refine Kd.C_drewN ?_ _) | (with_reducible refine Kd.C_drew ?_))); (case side2 => exact HC0_1.out); (case side3 => repeat (first | exact (Kd.C_below HR0_2.out HB.out) | (with_reducible refine Kd.C_alloc ?_ _) | (with_reducible refine Kd.C_drewN ?_ _) | (with_reducible refine Kd.C_drew ?_))); (case side4 => exact HC0_2.out); rintro e w5 ⟨rfl, hb⟩; refine ⟨_, rfl, ?_⟩; have n0_ := Aside0.mk (blk_below (g := gb187) (o := .cells #[.string a0_0, .slice A0_1 l0_1.length c0_1, .slice A0_2 l0_2.length c0_2] 25 (0, 0)) (by (with_reducible repeat (first | refine blk_drewN ?_ _ | refine blk_drew ?_ | refine blk_alloc ?_ _)); exact BK187.out) hb); have n1_ := Aside0.mk (below_step (by repeat (first | (with_reducible first | exact HB.out | apply below_alloc | apply pw_below_drewN | apply below_drew1 | refine below_set ?_ GE187.out) | exact HB.out)) hb); clear BK187; clear HB; have BK187 := n0_; have HB := n1_; clear n0_ n1_; (try clear hb); (try clear hb2); (try clear hk); (try clear hi)))
 go_ret
 exact ⟨by first | rfl | (simp [errW_none, errW_some] <;> rfl) | (simp [*, errW_none, errW_some] <;> rfl), by repeat (first | (with_reducible first | exact HB.out | apply below_alloc | apply pw_below_drewN | apply below_drew1 | refine below_set ?_ GE187.out) | exact HB.out)⟩


/-! ### petrinetref06_bit: function 46 -/
def petrinetref06_bit.l0 : Nat → Int → Int → Int → Option (Int)
 | 0, _, _, _ => none
 | k + 1, x0, x3, x4 => if x4 < x0 then (petrinetref06_bit.l0 k x0 (IntKind.u64.wrap (x3 * 2)) (wrap64 (x4 + 1))) else (some x3)
def petrinetref06_bit.f (k : Nat) (a0 : Int) : Option (Int) := petrinetref06_bit.l0 k a0 1 0
theorem petrinetref06_bit.mono_l : ∀ k, (∀ y0 y1 y2, LeO (petrinetref06_bit.l0 k y0 y1 y2) (petrinetref06_bit.l0 (k + 1) y0 y1 y2))
 | 0 => fun _ _ _ r h => by simp [petrinetref06_bit.l0] at h
 | k + 1 => by
  have ih0 := petrinetref06_bit.mono_l k
  ·
   intro y0 y1 y2
   unfold petrinetref06_bit.l0
   repeat' first
   | (with_reducible exact ih0 _ _ _)
   | (with_reducible exact LeO.refl _)
   | (with_reducible exact LeO.none _)
   | (with_reducible refine LeO.ite ?_ ?_)
   | (with_reducible refine LeO.bind ?_ (fun _ => ?_))
   | exact ih0 _ _ _
   | exact LeO.none _
   | refine LeO.ite ?_ ?_
   | refine LeO.bind ?_ (fun _ => ?_)
theorem petrinetref06_bit.mono : ∀ a0 k, LeO (petrinetref06_bit.f k a0) (petrinetref06_bit.f (k + 1) a0) := by
 intro a0 k
 have ih0 := petrinetref06_bit.mono_l k
 unfold petrinetref06_bit.f
 repeat' first
   | (with_reducible exact ih0 _ _ _)
   | (with_reducible exact LeO.refl _)
   | (with_reducible exact LeO.none _)
   | (with_reducible refine LeO.ite ?_ ?_)
   | (with_reducible refine LeO.bind ?_ (fun _ => ?_))
   | exact ih0 _ _ _
   | exact LeO.none _
   | refine LeO.ite ?_ ?_
   | refine LeO.bind ?_ (fun _ => ?_)
set_option maxHeartbeats 8000000 in
set_option maxRecDepth 100000 in
theorem petrinetref06_bit.calls (k : Nat) (a0 : Int) (r : Int) (w : World) (h : petrinetref06_bit.f k a0 = some r) :
  Calls Try.prog 46 #[.int .i64 a0] w fun e w' => e = .returned (.int .u64 r) ∧ Drawn0 w w' := by
 have H : (petrinetref06_bit.l0 k a0 1 0) = some r := h
 clear h
 have H' := Aside0.mk H
 clear H
 go_enter Try.func46, Try.ntmps46
 go_wp2
 go_loopg [3, 4] k (fun kq v3 v4 w' => ∃ (x3_1 : Int) (x4_1 : Int), v3 = .int .u64 x3_1 ∧ v4 = .int .i64 x4_1 ∧ Aside0 (petrinetref06_bit.l0 kq a0 x3_1 x4_1 = some r) ∧ Aside0 (kq ≤ k) ∧ Drawn0 w w')
 case atStart => exact ⟨(1), (0), (by first | rfl | (simp; done) | (simp [*]; done) | (simp [i64_w]; done)), (by first | rfl | (simp; done) | (simp [*]; done) | (simp [i64_w]; done)), H', ⟨Nat.le_refl _⟩, by repeat (first | exact Drawn0.refl _ | apply Drawn0.step)⟩
 case round =>
  clear H'
  obtain ⟨x3_1, x4_1, rfl, rfl, HA, HK1, ⟨m1, rfl⟩⟩ := hrel
  cases gk with
  | zero => exact absurd HA.out (by simp [petrinetref06_bit.l0])
  | succ k1 =>
   have H := HA.out
   clear HA
   simp only [petrinetref06_bit.l0] at H
   by_cases c2 : x4_1 < a0
   ·
    rw [if_pos c2] at H
    have c2b0 : decide (x4_1 < a0) = true := decide_eq_true c2
    clear c2
    have H' := Aside0.mk H
    clear H
    go_wp2
    go_roundg k1
    case measure => have := HK1.out; omega
    case rel => exact ⟨(IntKind.u64.wrap (x3_1 * 2)), (wrap64 (x4_1 + 1)), (by first | rfl | (simp; done) | (simp [*]; done) | (simp [i64_w]; done)), (by first | rfl | (simp; done) | (simp [*]; done) | (simp [i64_w]; done)), H', ⟨by have := HK1.out; omega⟩, by repeat (first | exact Drawn0.refl _ | apply Drawn0.step)⟩
   ·
    rw [if_neg c2] at H
    have c2b0 : decide (x4_1 < a0) = false := decide_eq_false c2
    clear c2
    obtain rfl := Option.some.inj H
    go_wp2
    go_ret
    exact ⟨by first | rfl | (simp; done) | (simp [*]; done), by repeat (first | exact Drawn0.refl _ | apply Drawn0.step)⟩


/-! ### petrinetref06_Has: function 39 -/
def petrinetref06_Has.f (k : Nat) (a0 : Int) (a1 : Int) : Option (Bool) := if a1 ≥ 0 then (if a1 < 64 then ((petrinetref06_bit.f k a1).bind fun t190 => (if t190 = 0 then (none) else (some ((Int.tmod (IntKind.u64.wrap (Int.tdiv a0 t190)) 2) == 1)))) else (some false)) else (some false)
theorem petrinetref06_Has.mono : ∀ a0 a1 k, LeO (petrinetref06_Has.f k a0 a1) (petrinetref06_Has.f (k + 1) a0 a1) := by
 intro a0 a1 k
 unfold petrinetref06_Has.f
 repeat' first
   | (with_reducible exact petrinetref06_bit.mono _ _)
   | (with_reducible exact LeO.refl _)
   | (with_reducible exact LeO.none _)
   | (with_reducible refine LeO.ite ?_ ?_)
   | (with_reducible refine LeO.bind ?_ (fun _ => ?_))
   | exact petrinetref06_bit.mono _ _
   | exact LeO.none _
   | refine LeO.ite ?_ ?_
   | refine LeO.bind ?_ (fun _ => ?_)
set_option maxHeartbeats 8000000 in
set_option maxRecDepth 100000 in
theorem petrinetref06_Has.calls (k : Nat) (a0 : Int) (a1 : Int) (r : Bool) (w : World) (h : petrinetref06_Has.f k a0 a1 = some r) :
  Calls Try.prog 39 #[.int .u64 a0, .int .i64 a1] w fun e w' => e = .returned (.bool r) ∧ Drawn0 w w' := by
 have H : (if a1 ≥ 0 then (if a1 < 64 then ((petrinetref06_bit.f k a1).bind fun t190 => (if t190 = 0 then (none) else (some ((Int.tmod (IntKind.u64.wrap (Int.tdiv a0 t190)) 2) == 1)))) else (some false)) else (some false)) = some r := h
 clear h
 by_cases c3 : a1 ≥ 0
 ·
  rw [if_pos c3] at H
  have c3b0 : decide (0 ≤ a1) = true := decide_eq_true c3
  clear c3
  by_cases c4 : a1 < 64
  ·
   rw [if_pos c4] at H
   have c4b0 : decide (a1 < 64) = true := decide_eq_true c4
   clear c4
   replace H := Option.bind_eq_some_iff.mp H
   obtain ⟨t190, A50, H⟩ := H
   replace H : (if t190 = 0 then (none) else (some ((Int.tmod (IntKind.u64.wrap (Int.tdiv a0 t190)) 2) == 1))) = some r := H
   have A5 := Aside0.mk A50
   clear A50
   by_cases c6 : t190 = 0
   ·
    rw [if_pos c6] at H
    exact absurd H (by simp)
   ·
    rw [if_neg c6] at H
    have c6b0 : (t190 == 0) = false := beq_eq_false_iff_ne.mpr c6
    have c6b1 : (t190 != 0) = true := bne_iff_ne.mpr c6
    obtain rfl := Option.some.inj H
    go_enter Try.func39, Try.ntmps39
    go_wp2_with (first | (go_at_call 46; (with_reducible refine (petrinetref06_bit.calls k a1 t190 _ A5.out).mono ?_); rintro e w' ⟨rfl, ⟨nd, rfl⟩⟩))
    go_ret
    exact ⟨by first | rfl | (simp; done) | (simp [*]; done), by repeat (first | exact Drawn0.refl _ | apply Drawn0.step)⟩
  ·
   rw [if_neg c4] at H
   have c4b0 : decide (a1 < 64) = false := decide_eq_false c4
   clear c4
   obtain rfl := Option.some.inj H
   go_enter Try.func39, Try.ntmps39
   go_wp2
   go_ret
   exact ⟨by first | rfl | (simp; done) | (simp [*]; done), by repeat (first | exact Drawn0.refl _ | apply Drawn0.step)⟩
 ·
  rw [if_neg c3] at H
  have c3b0 : decide (0 ≤ a1) = false := decide_eq_false c3
  clear c3
  obtain rfl := Option.some.inj H
  go_enter Try.func39, Try.ntmps39
  go_wp2
  go_ret
  exact ⟨by first | rfl | (simp; done) | (simp [*]; done), by repeat (first | exact Drawn0.refl _ | apply Drawn0.step)⟩


/-! ### petrinetref06_List: function 58 -/
def petrinetref06_List.l0 : Nat → Int → List Int → Int → Option (List Int)
 | 0, _, _, _ => none
 | k + 1, x0, x3, x4 => if x4 < 64 then ((petrinetref06_Has.f k x0 x4).bind fun t191 => (if t191 = true then (if x3.length < 17592186044416 then (petrinetref06_List.l0 k x0 (x3 ++ [x4]) (wrap64 (x4 + 1))) else (none)) else (petrinetref06_List.l0 k x0 x3 (wrap64 (x4 + 1))))) else (some x3)
def petrinetref06_List.f (k : Nat) (a0 : Int) : Option (List Int) := petrinetref06_List.l0 k a0 ([] : List Int) 0
theorem petrinetref06_List.mono_l : ∀ k, (∀ y0 y1 y2, LeO (petrinetref06_List.l0 k y0 y1 y2) (petrinetref06_List.l0 (k + 1) y0 y1 y2))
 | 0 => fun _ _ _ r h => by simp [petrinetref06_List.l0] at h
 | k + 1 => by
  have ih0 := petrinetref06_List.mono_l k
  ·
   intro y0 y1 y2
   unfold petrinetref06_List.l0
   repeat' first
   | (with_reducible exact ih0 _ _ _)
   | (with_reducible exact petrinetref06_Has.mono _ _ _)
   | (with_reducible exact LeO.refl _)
   | (with_reducible exact LeO.none _)
   | (with_reducible refine LeO.ite ?_ ?_)
   | (with_reducible refine LeO.bind ?_ (fun _ => ?_))
   | exact ih0 _ _ _
   | exact petrinetref06_Has.mono _ _ _
   | exact LeO.none _
   | refine LeO.ite ?_ ?_
   | refine LeO.bind ?_ (fun _ => ?_)
theorem petrinetref06_List.mono : ∀ a0 k, LeO (petrinetref06_List.f k a0) (petrinetref06_List.f (k + 1) a0) := by
 intro a0 k
 have ih0 := petrinetref06_List.mono_l k
 unfold petrinetref06_List.f
 repeat' first
   | (with_reducible exact ih0 _ _ _)
   | (with_reducible exact petrinetref06_Has.mono _ _ _)
   | (with_reducible exact LeO.refl _)
   | (with_reducible exact LeO.none _)
   | (with_reducible refine LeO.ite ?_ ?_)
   | (with_reducible refine LeO.bind ?_ (fun _ => ?_))
   | exact ih0 _ _ _
   | exact petrinetref06_Has.mono _ _ _
   | exact LeO.none _
   | refine LeO.ite ?_ ?_
   | refine LeO.bind ?_ (fun _ => ?_)

/-! ### petrinetref06_Subset: function 35 -/
def petrinetref06_Subset.l0 : Nat → Int → List Int → Int → Option (Bool)
 | 0, _, _, _ => none
 | k + 1, x1, x5, x6 => if x6 < (x5.length : Int) then (if 0 ≤ x6 then ((petrinetref06_Has.f k x1 (rd x5 x6)).bind fun t199 => (if t199 = true then (petrinetref06_Subset.l0 k x1 x5 (wrap64 (x6 + 1))) else (some false))) else (none)) else (some true)
def petrinetref06_Subset.f (k : Nat) (a0 : Int) (a1 : Int) : Option (Bool) := (petrinetref06_List.f k a0).bind fun t195 => (petrinetref06_Subset.l0 k a1 t195 0)
theorem petrinetref06_Subset.mono_l : ∀ k, (∀ y0 y1 y2, LeO (petrinetref06_Subset.l0 k y0 y1 y2) (petrinetref06_Subset.l0 (k + 1) y0 y1 y2))
 | 0 => fun _ _ _ r h => by simp [petrinetref06_Subset.l0] at h
 | k + 1 => by
  have ih0 := petrinetref06_Subset.mono_l k
  ·
   intro y0 y1 y2
   unfold petrinetref06_Subset.l0
   repeat' first
   | (with_reducible exact ih0 _ _ _)
   | (with_reducible exact petrinetref06_Has.mono _ _ _)
   | (with_reducible exact petrinetref06_List.mono _ _)
   | (with_reducible exact LeO.refl _)
   | (with_reducible exact LeO.none _)
   | (with_reducible refine LeO.ite ?_ ?_)
   | (with_reducible refine LeO.bind ?_ (fun _ => ?_))
   | exact ih0 _ _ _
   | exact petrinetref06_Has.mono _ _ _
   | exact petrinetref06_List.mono _ _
   | exact LeO.none _
   | refine LeO.ite ?_ ?_
   | refine LeO.bind ?_ (fun _ => ?_)
theorem petrinetref06_Subset.mono : ∀ a0 a1 k, LeO (petrinetref06_Subset.f k a0 a1) (petrinetref06_Subset.f (k + 1) a0 a1) := by
 intro a0 a1 k
 have ih0 := petrinetref06_Subset.mono_l k
 unfold petrinetref06_Subset.f
 repeat' first
   | (with_reducible exact ih0 _ _ _)
   | (with_reducible exact petrinetref06_Has.mono _ _ _)
   | (with_reducible exact petrinetref06_List.mono _ _)
   | (with_reducible exact LeO.refl _)
   | (with_reducible exact LeO.none _)
   | (with_reducible refine LeO.ite ?_ ?_)
   | (with_reducible refine LeO.bind ?_ (fun _ => ?_))
   | exact ih0 _ _ _
   | exact petrinetref06_Has.mono _ _ _
   | exact petrinetref06_List.mono _ _
   | exact LeO.none _
   | refine LeO.ite ?_ ?_
   | refine LeO.bind ?_ (fun _ => ?_)

/-! ### petrinetref06_All: function 36 -/
def petrinetref06_All.l0 : Nat → Int → Int → Int → Option (Int)
 | 0, _, _, _ => none
 | k + 1, x0, x3, x4 => if x4 < 64 then (if x4 < x0 then ((petrinetref06_bit.f k x4).bind fun t200 => (petrinetref06_All.l0 k x0 (IntKind.u64.wrap (x3 + t200)) (wrap64 (x4 + 1)))) else (some x3)) else (some x3)
def petrinetref06_All.f (k : Nat) (a0 : Int) : Option (Int) := petrinetref06_All.l0 k a0 0 0
theorem petrinetref06_All.mono_l : ∀ k, (∀ y0 y1 y2, LeO (petrinetref06_All.l0 k y0 y1 y2) (petrinetref06_All.l0 (k + 1) y0 y1 y2))
 | 0 => fun _ _ _ r h => by simp [petrinetref06_All.l0] at h
 | k + 1 => by
  have ih0 := petrinetref06_All.mono_l k
  ·
   intro y0 y1 y2
   unfold petrinetref06_All.l0
   repeat' first
   | (with_reducible exact ih0 _ _ _)
   | (with_reducible exact petrinetref06_bit.mono _ _)
   | (with_reducible exact LeO.refl _)
   | (with_reducible exact LeO.none _)
   | (with_reducible refine LeO.ite ?_ ?_)
   | (with_reducible refine LeO.bind ?_ (fun _ => ?_))
   | exact ih0 _ _ _
   | exact petrinetref06_bit.mono _ _
   | exact LeO.none _
   | refine LeO.ite ?_ ?_
   | refine LeO.bind ?_ (fun _ => ?_)
theorem petrinetref06_All.mono : ∀ a0 k, LeO (petrinetref06_All.f k a0) (petrinetref06_All.f (k + 1) a0) := by
 intro a0 k
 have ih0 := petrinetref06_All.mono_l k
 unfold petrinetref06_All.f
 repeat' first
   | (with_reducible exact ih0 _ _ _)
   | (with_reducible exact petrinetref06_bit.mono _ _)
   | (with_reducible exact LeO.refl _)
   | (with_reducible exact LeO.none _)
   | (with_reducible refine LeO.ite ?_ ?_)
   | (with_reducible refine LeO.bind ?_ (fun _ => ?_))
   | exact ih0 _ _ _
   | exact petrinetref06_bit.mono _ _
   | exact LeO.none _
   | refine LeO.ite ?_ ?_
   | refine LeO.bind ?_ (fun _ => ?_)



/-! ### petrinetref33_meets: function 41 -/
def petrinetref33_meets.l0 : Nat → List (S58) → Int → Int → Option (Bool)
 | 0, _, _, _ => none
 | k + 1, x0, x1, x5 => if x5 < (x0.length : Int) then (if 0 ≤ x5 then ((petrinetref06_Has.f k x1 ((rd_T58 x0 x5).f0)).bind fun t202 => (if t202 = true then (some true) else (petrinetref33_meets.l0 k x0 x1 (wrap64 (x5 + 1))))) else (none)) else (some false)
def petrinetref33_meets.f (k : Nat) (l0 : List (S58)) (a1 : Int) : Option (Bool) := petrinetref33_meets.l0 k l0 a1 0
theorem petrinetref33_meets.mono_l : ∀ k, (∀ y0 y1 y2, LeO (petrinetref33_meets.l0 k y0 y1 y2) (petrinetref33_meets.l0 (k + 1) y0 y1 y2))
 | 0 => fun _ _ _ r h => by simp [petrinetref33_meets.l0] at h
 | k + 1 => by
  have ih0 := petrinetref33_meets.mono_l k
  ·
   intro y0 y1 y2
   unfold petrinetref33_meets.l0
   repeat' first
   | (with_reducible exact ih0 _ _ _)
   | (with_reducible exact petrinetref06_Has.mono _ _ _)
   | (with_reducible exact LeO.refl _)
   | (with_reducible exact LeO.none _)
   | (with_reducible refine LeO.ite ?_ ?_)
   | (with_reducible refine LeO.bind ?_ (fun _ => ?_))
   | exact ih0 _ _ _
   | exact petrinetref06_Has.mono _ _ _
   | exact LeO.none _
   | refine LeO.ite ?_ ?_
   | refine LeO.bind ?_ (fun _ => ?_)
theorem petrinetref33_meets.mono : ∀ a0 a1 k, LeO (petrinetref33_meets.f k a0 a1) (petrinetref33_meets.f (k + 1) a0 a1) := by
 intro a0 a1 k
 have ih0 := petrinetref33_meets.mono_l k
 unfold petrinetref33_meets.f
 repeat' first
   | (with_reducible exact ih0 _ _ _)
   | (with_reducible exact petrinetref06_Has.mono _ _ _)
   | (with_reducible exact LeO.refl _)
   | (with_reducible exact LeO.none _)
   | (with_reducible refine LeO.ite ?_ ?_)
   | (with_reducible refine LeO.bind ?_ (fun _ => ?_))
   | exact ih0 _ _ _
   | exact petrinetref06_Has.mono _ _ _
   | exact LeO.none _
   | refine LeO.ite ?_ ?_
   | refine LeO.bind ?_ (fun _ => ?_)

/-! ### petrinetref33_closed: function 37 -/
def petrinetref33_closed.l0 : Nat → Int → Bool → Int → ByteArray → List (S56) → List (S40) → Option (Bool)
 | 0, _, _, _, _, _, _ => none
 | k + 1, x1, x2, x7, x204000, x204001, x204002 => if x7 < (x204002.length : Int) then (if 0 ≤ x7 then ((petrinetref33_meets.f k ((rd_T40 x204002 x7).f1) x1).bind fun t205 => ((petrinetref33_meets.f k ((rd_T40 x204002 x7).f2) x1).bind fun t207 => (if x2 = true then (if t207 = true then (if t205 = true then (petrinetref33_closed.l0 k x1 x2 (wrap64 (x7 + 1)) x204000 x204001 x204002) else (some false)) else (petrinetref33_closed.l0 k x1 x2 (wrap64 (x7 + 1)) x204000 x204001 x204002)) else (if t205 = true then (if t207 = true then (petrinetref33_closed.l0 k x1 x2 (wrap64 (x7 + 1)) x204000 x204001 x204002) else (some false)) else (petrinetref33_closed.l0 k x1 x2 (wrap64 (x7 + 1)) x204000 x204001 x204002))))) else (none)) else (some true)
def petrinetref33_closed.f (k : Nat) (a0_0 : ByteArray) (l0_1 : List (S56)) (l0_2 : List (S40)) (a1 : Int) (a2 : Bool) : Option (Bool) := petrinetref33_closed.l0 k a1 a2 0 a0_0 l0_1 l0_2
theorem petrinetref33_closed.mono_l : ∀ k, (∀ y0 y1 y2 y3 y4 y5, LeO (petrinetref33_closed.l0 k y0 y1 y2 y3 y4 y5) (petrinetref33_closed.l0 (k + 1) y0 y1 y2 y3 y4 y5))
 | 0 => fun _ _ _ _ _ _ r h => by simp [petrinetref33_closed.l0] at h
 | k + 1 => by
  have ih0 := petrinetref33_closed.mono_l k
  ·
   intro y0 y1 y2 y3 y4 y5
   unfold petrinetref33_closed.l0
   repeat' first
   | (with_reducible exact ih0 _ _ _ _ _ _)
   | (with_reducible exact petrinetref33_meets.mono _ _ _)
   | (with_reducible exact LeO.refl _)
   | (with_reducible exact LeO.none _)
   | (with_reducible refine LeO.ite ?_ ?_)
   | (with_reducible refine LeO.bind ?_ (fun _ => ?_))
   | exact ih0 _ _ _ _ _ _
   | exact petrinetref33_meets.mono _ _ _
   | exact LeO.none _
   | refine LeO.ite ?_ ?_
   | refine LeO.bind ?_ (fun _ => ?_)
theorem petrinetref33_closed.mono : ∀ a0 a1 a2 a3 a4 k, LeO (petrinetref33_closed.f k a0 a1 a2 a3 a4) (petrinetref33_closed.f (k + 1) a0 a1 a2 a3 a4) := by
 intro a0 a1 a2 a3 a4 k
 have ih0 := petrinetref33_closed.mono_l k
 unfold petrinetref33_closed.f
 repeat' first
   | (with_reducible exact ih0 _ _ _ _ _ _)
   | (with_reducible exact petrinetref33_meets.mono _ _ _)
   | (with_reducible exact LeO.refl _)
   | (with_reducible exact LeO.none _)
   | (with_reducible refine LeO.ite ?_ ?_)
   | (with_reducible refine LeO.bind ?_ (fun _ => ?_))
   | exact ih0 _ _ _ _ _ _
   | exact petrinetref33_meets.mono _ _ _
   | exact LeO.none _
   | refine LeO.ite ?_ ?_
   | refine LeO.bind ?_ (fun _ => ?_)

/-! ### petrinetref33_Is: function 13 -/
def petrinetref33_Is.f (k : Nat) (a0_0 : ByteArray) (l0_1 : List (S56)) (l0_2 : List (S40)) (a1 : Int) (a2 : Bool) : Option (Bool) := (petrinetref09_Valid.f k a0_0 l0_1 l0_2).bind fun t209 => (if t209 = true then ((petrinetref06_All.f k (l0_1.length : Int)).bind fun t210 => ((petrinetref06_Subset.f k a1 t210).bind fun t211 => (if t211 = true then ((petrinetref33_closed.f k a0_0 l0_1 l0_2 a1 a2).bind fun t212 => (some t212)) else (some false)))) else (some false))
theorem petrinetref33_Is.mono : ∀ a0 a1 a2 a3 a4 k, LeO (petrinetref33_Is.f k a0 a1 a2 a3 a4) (petrinetref33_Is.f (k + 1) a0 a1 a2 a3 a4) := by
 intro a0 a1 a2 a3 a4 k
 unfold petrinetref33_Is.f
 repeat' first
   | (with_reducible exact petrinetref06_All.mono _ _)
   | (with_reducible exact petrinetref06_Subset.mono _ _ _)
   | (with_reducible exact petrinetref09_Valid.mono _ _ _ _)
   | (with_reducible exact petrinetref33_closed.mono _ _ _ _ _ _)
   | (with_reducible exact LeO.refl _)
   | (with_reducible exact LeO.none _)
   | (with_reducible refine LeO.ite ?_ ?_)
   | (with_reducible refine LeO.bind ?_ (fun _ => ?_))
   | exact petrinetref06_All.mono _ _
   | exact petrinetref06_Subset.mono _ _ _
   | exact petrinetref09_Valid.mono _ _ _ _
   | exact petrinetref33_closed.mono _ _ _ _ _ _
   | exact LeO.none _
   | refine LeO.ite ?_ ?_
   | refine LeO.bind ?_ (fun _ => ?_)

/-! ### bitset_Has: function 38 -/
def bitset_Has.f (a0 : Int) (a1 : Int) : Option (Bool) := if a1 ≥ 0 then (if a1 < 64 then (if 0 ≤ (IntKind.u64.wrap (a1)) then (some ((Go.bits .and .u64 (shr .u64 a0 (IntKind.u64.wrap (a1))) 1) == 1)) else (none)) else (some false)) else (some false)
set_option maxHeartbeats 8000000 in
set_option maxRecDepth 100000 in
theorem bitset_Has.calls (a0 : Int) (a1 : Int) (r : Bool) (w : World) (h : bitset_Has.f a0 a1 = some r) :
  Calls Try.prog 38 #[.int .u64 a0, .int .i64 a1] w fun e w' => e = .returned (.bool r) ∧ Drawn0 w w' := by
 have H : (if a1 ≥ 0 then (if a1 < 64 then (if 0 ≤ (IntKind.u64.wrap (a1)) then (some ((Go.bits .and .u64 (shr .u64 a0 (IntKind.u64.wrap (a1))) 1) == 1)) else (none)) else (some false)) else (some false)) = some r := h
 clear h
 by_cases c3 : a1 ≥ 0
 ·
  rw [if_pos c3] at H
  have c3b0 : decide (0 ≤ a1) = true := decide_eq_true c3
  clear c3
  by_cases c4 : a1 < 64
  ·
   rw [if_pos c4] at H
   have c4b0 : decide (a1 < 64) = true := decide_eq_true c4
   clear c4
   obtain ⟨ji5, hji5⟩ : ∃ j_ : Int, (IntKind.u64.wrap (a1)) = j_ := ⟨_, rfl⟩
   replace H : (if 0 ≤ (ji5) then (some ((Go.bits .and .u64 (shr .u64 a0 (ji5)) 1) == 1)) else (none)) = some r := by first | (rw [hji5] at H; exact H) | (simp only [hji5] at H ⊢; exact H)
   by_cases c6 : 0 ≤ (ji5)
   ·
    rw [if_pos c6] at H
    have c6b0 := eq_true c6
    have c6b1 : decide (0 ≤ (ji5)) = true := decide_eq_true c6
    clear c6
    obtain ⟨ji7, hji7⟩ : ∃ j_ : Int, (shr .u64 a0 (ji5)) = j_ := ⟨_, rfl⟩
    replace H : (some ((Go.bits .and .u64 (ji7) 1) == 1)) = some r := by first | (rw [hji7] at H; exact H) | (simp only [hji7] at H ⊢; exact H)
    have hji7_ : (a0 / 2 ^ min (ji5).toNat 64) = ji7 := hji7
    have hji7z : (ji5) ≤ 64 → (a0 / 2 ^ (ji5).toNat) = ji7 := shr_small hji7
    obtain rfl := Option.some.inj H
    go_enter Try.func38, Try.ntmps38
    go_wp2
    go_ret
    exact ⟨by first | rfl | (simp; done) | (simp only [← hji5, ← hji7] <;> (first | rfl | simp)) | (simp [*]; done), by repeat (first | exact Drawn0.refl _ | apply Drawn0.step)⟩
   ·
    rw [if_neg c6] at H
    exact absurd H (by simp)
  ·
   rw [if_neg c4] at H
   have c4b0 : decide (a1 < 64) = false := decide_eq_false c4
   clear c4
   obtain rfl := Option.some.inj H
   go_enter Try.func38, Try.ntmps38
   go_wp2
   go_ret
   exact ⟨by first | rfl | (simp; done) | (simp [*]; done), by repeat (first | exact Drawn0.refl _ | apply Drawn0.step)⟩
 ·
  rw [if_neg c3] at H
  have c3b0 : decide (0 ≤ a1) = false := decide_eq_false c3
  clear c3
  obtain rfl := Option.some.inj H
  go_enter Try.func38, Try.ntmps38
  go_wp2
  go_ret
  exact ⟨by first | rfl | (simp; done) | (simp [*]; done), by repeat (first | exact Drawn0.refl _ | apply Drawn0.step)⟩




/-! ### siphon_Marked: function 15 -/
def siphon_Marked.l0 : Nat → Int → List Int → Int → Int → Option (Bool)
 | 0, _, _, _, _ => none
 | k + 1, x0, x7, x8, x9 => if x9 < x8 then (if 0 ≤ x9 then (if x9 < (x7.length : Int) then (if (rd x7 x9) > 0 then ((bitset_Has.f x0 x9).bind fun t226 => (if t226 = true then (some true) else (siphon_Marked.l0 k x0 x7 x8 (wrap64 (x9 + 1))))) else (siphon_Marked.l0 k x0 x7 x8 (wrap64 (x9 + 1)))) else (none)) else (none)) else (some false)
def siphon_Marked.f (k : Nat) (a0 : Int) (l1 : List Int) : Option (Bool) := siphon_Marked.l0 k a0 l1 (l1.length : Int) 0
theorem siphon_Marked.mono_l : ∀ k, (∀ y0 y1 y2 y3, LeO (siphon_Marked.l0 k y0 y1 y2 y3) (siphon_Marked.l0 (k + 1) y0 y1 y2 y3))
 | 0 => fun _ _ _ _ r h => by simp [siphon_Marked.l0] at h
 | k + 1 => by
  have ih0 := siphon_Marked.mono_l k
  ·
   intro y0 y1 y2 y3
   unfold siphon_Marked.l0
   repeat' first
   | (with_reducible exact ih0 _ _ _ _)
   | (with_reducible exact LeO.refl _)
   | (with_reducible exact LeO.none _)
   | (with_reducible refine LeO.ite ?_ ?_)
   | (with_reducible refine LeO.bind ?_ (fun _ => ?_))
   | exact ih0 _ _ _ _
   | exact LeO.none _
   | refine LeO.ite ?_ ?_
   | refine LeO.bind ?_ (fun _ => ?_)
theorem siphon_Marked.mono : ∀ a0 a1 k, LeO (siphon_Marked.f k a0 a1) (siphon_Marked.f (k + 1) a0 a1) := by
 intro a0 a1 k
 have ih0 := siphon_Marked.mono_l k
 unfold siphon_Marked.f
 repeat' first
   | (with_reducible exact ih0 _ _ _ _)
   | (with_reducible exact LeO.refl _)
   | (with_reducible exact LeO.none _)
   | (with_reducible refine LeO.ite ?_ ?_)
   | (with_reducible refine LeO.bind ?_ (fun _ => ?_))
   | exact ih0 _ _ _ _
   | exact LeO.none _
   | refine LeO.ite ?_ ?_
   | refine LeO.bind ?_ (fun _ => ?_)
set_option maxHeartbeats 8000000 in
set_option maxRecDepth 100000 in
theorem siphon_Marked.calls (k : Nat) (a0 : Int) (A1 : Option Addr) (c1 : Nat) (l1 : List Int) (r : Bool) (w : World) (hr1 : Kd.C (Kd.int .i64) w A1 l1.length l1) (hc1 : l1.length ≤ c1) (h : siphon_Marked.f k a0 l1 = some r) :
  Calls Try.prog 15 #[.int .u64 a0, .slice A1 l1.length c1] w fun e w' => e = .returned (.bool r) ∧ Drawn0 w w' := by
 have HR1 := Aside0.mk hr1
 have HC1 := Aside0.mk hc1
 clear hr1 hc1
 have H : (siphon_Marked.l0 k a0 l1 (l1.length : Int) 0) = some r := h
 clear h
 have H' := Aside0.mk H
 clear H
 go_enter Try.func15, Try.ntmps15
 go_wp2
 go_loopg [9] k (fun kq v9 w' => ∃ (x9_1 : Int), v9 = .int .i64 x9_1 ∧ Aside0 (siphon_Marked.l0 kq a0 l1 (l1.length : Int) x9_1 = some r) ∧ Aside0 (kq ≤ k) ∧ Drawn0 w w')
 case atStart => exact ⟨(0), (by first | rfl | (simp; done) | (simp [*]; done) | (simp [i64_w]; done)), H', ⟨Nat.le_refl _⟩, by repeat (first | exact Drawn0.refl _ | apply Drawn0.step)⟩
 case round =>
  clear H'
  try clear c1
  try clear p2
  obtain ⟨x9_1, rfl, HA, HK1, ⟨m1, rfl⟩⟩ := hrel
  cases gk with
  | zero => exact absurd HA.out (by simp [siphon_Marked.l0])
  | succ k1 =>
   have H := HA.out
   clear HA
   simp only [siphon_Marked.l0] at H
   by_cases c3 : x9_1 < (l1.length : Int)
   ·
    rw [if_pos c3] at H
    have c3b0 : decide (x9_1 < (l1.length : Int)) = true := decide_eq_true c3
    clear c3
    by_cases c4 : 0 ≤ x9_1
    ·
     rw [if_pos c4] at H
     have c4b0 : decide (0 ≤ x9_1) = true := decide_eq_true c4
     clear c4
     by_cases c5 : x9_1 < (l1.length : Int)
     ·
      rw [if_pos c5] at H
      have c5b0 : decide (x9_1 < (l1.length : Int)) = true := decide_eq_true c5
      clear c5
      by_cases c6 : (rd l1 x9_1) > 0
      ·
       rw [if_pos c6] at H
       have c6b0 : decide (0 < (rd l1 x9_1)) = true := decide_eq_true c6
       clear c6
       replace H := Option.bind_eq_some_iff.mp H
       obtain ⟨t226, A70, H⟩ := H
       replace H : (if t226 = true then (some true) else (siphon_Marked.l0 k1 a0 l1 (l1.length : Int) (wrap64 (x9_1 + 1)))) = some r := H
       have A7 := Aside0.mk A70
       clear A70
       by_cases c8 : t226 = true
       ·
        subst c8
        have H1 : (some true) = some r := by rw [if_pos rfl] at H; exact H
        clear H
        have H := H1
        clear H1
        obtain rfl := Option.some.inj H
        have p225 : 0 ≤ (x9_1 : Int) := of_decide_eq_true (by first | (with_reducible assumption) | assumption)
        have q225 : x9_1 < (l1.length : Int) := of_decide_eq_true (by first | (with_reducible assumption) | assumption)
        obtain ⟨ad225, e225, hx225_0⟩ := Kd.at_int HR1.out x9_1 p225 q225
        cases e225
        replace p225 := eq_true p225
        replace q225 := eq_true q225
        go_wp2_with (first | (go_at_call 38; (with_reducible refine (bitset_Has.calls a0 x9_1 true _ A7.out).mono ?_); rintro e w' ⟨rfl, ⟨nd, rfl⟩⟩))
        go_ret
        exact ⟨by first | rfl | (simp; done) | (simp [*]; done), by repeat (first | exact Drawn0.refl _ | apply Drawn0.step)⟩
       ·
        replace c8 := Bool.eq_false_iff.mpr c8
        subst c8
        have H1 : (siphon_Marked.l0 k1 a0 l1 (l1.length : Int) (wrap64 (x9_1 + 1))) = some r := by rw [if_neg (show ¬ (false = true) by decide)] at H; exact H
        clear H
        have H := H1
        clear H1
        have H' := Aside0.mk H
        clear H
        have p225 : 0 ≤ (x9_1 : Int) := of_decide_eq_true (by first | (with_reducible assumption) | assumption)
        have q225 : x9_1 < (l1.length : Int) := of_decide_eq_true (by first | (with_reducible assumption) | assumption)
        obtain ⟨ad225, e225, hx225_0⟩ := Kd.at_int HR1.out x9_1 p225 q225
        cases e225
        replace p225 := eq_true p225
        replace q225 := eq_true q225
        go_wp2_with (first | (go_at_call 38; (with_reducible refine (bitset_Has.calls a0 x9_1 false _ A7.out).mono ?_); rintro e w' ⟨rfl, ⟨nd, rfl⟩⟩))
        go_roundg k1
        case measure => have := HK1.out; omega
        case rel => exact ⟨(wrap64 (x9_1 + 1)), (by first | rfl | (simp; done) | (simp [*]; done) | (simp [i64_w]; done)), H', ⟨by have := HK1.out; omega⟩, by repeat (first | exact Drawn0.refl _ | apply Drawn0.step)⟩
      ·
       rw [if_neg c6] at H
       have c6b0 : decide (0 < (rd l1 x9_1)) = false := decide_eq_false c6
       clear c6
       have H' := Aside0.mk H
       clear H
       have p225 : 0 ≤ (x9_1 : Int) := of_decide_eq_true (by first | (with_reducible assumption) | assumption)
       have q225 : x9_1 < (l1.length : Int) := of_decide_eq_true (by first | (with_reducible assumption) | assumption)
       obtain ⟨ad225, e225, hx225_0⟩ := Kd.at_int HR1.out x9_1 p225 q225
       cases e225
       replace p225 := eq_true p225
       replace q225 := eq_true q225
       go_wp2
       go_roundg k1
       case measure => have := HK1.out; omega
       case rel => exact ⟨(wrap64 (x9_1 + 1)), (by first | rfl | (simp; done) | (simp [*]; done) | (simp [i64_w]; done)), H', ⟨by have := HK1.out; omega⟩, by repeat (first | exact Drawn0.refl _ | apply Drawn0.step)⟩
     ·
      rw [if_neg c5] at H
      exact absurd H (by simp)
    ·
     rw [if_neg c4] at H
     exact absurd H (by simp)
   ·
    rw [if_neg c3] at H
    have c3b0 : decide (x9_1 < (l1.length : Int)) = false := decide_eq_false c3
    clear c3
    obtain rfl := Option.some.inj H
    go_wp2
    go_ret
    exact ⟨by first | rfl | (simp; done) | (simp [*]; done), by repeat (first | exact Drawn0.refl _ | apply Drawn0.step)⟩


/-! ### siphon_greatest: function 40 -/
mutual
def siphon_greatest.l0 : Nat → Bool → Int → ByteArray → List (S56) → List (S40) → Option (Int)
 | 0, _, _, _, _, _ => none
 | k + 1, x2, x7, x233000, x233001, x233002 => siphon_greatest.l1 k x2 x7 x233002 (x233002.length : Int) 0 x233000 x233001 x233002
def siphon_greatest.l1 : Nat → Bool → Int → List (S40) → Int → Int → ByteArray → List (S56) → List (S40) → Option (Int)
 | 0, _, _, _, _, _, _, _, _ => none
 | k + 1, x2, x7, x23, x24, x25, x233000, x233001, x233002 => if x25 < x24 then (if 0 ≤ x25 then (if x25 < (x23.length : Int) then ((siphon_side.f k ((rd_T40 x23 x25).f0) ((rd_T40 x23 x25).f1) ((rd_T40 x23 x25).f2) ((rd_T40 x23 x25).f3) ((rd_T40 x23 x25).f4) x2).bind fun bt238 => (if (Go.bits .and .u64 bt238.1 x7) = 0 then (siphon_greatest.l1 k x2 x7 x23 x24 (wrap64 (x25 + 1)) x233000 x233001 x233002) else (if (Go.bits .and .u64 bt238.2 x7) = 0 then (siphon_greatest.l0 k x2 (Go.bits .andNot .u64 x7 bt238.1) x233000 x233001 x233002) else (siphon_greatest.l1 k x2 x7 x23 x24 (wrap64 (x25 + 1)) x233000 x233001 x233002)))) else (none)) else (none)) else (some x7)
end
def siphon_greatest.f (k : Nat) (a0_0 : ByteArray) (l0_1 : List (S56)) (l0_2 : List (S40)) (a1 : Int) (a2 : Bool) : Option (Int) := (net_Check.f k a0_0 l0_1 l0_2).bind fun bt233 => (if bt233.1 = 0 then ((bitset_All.f k (l0_1.length : Int)).bind fun t235 => (siphon_greatest.l0 k a2 (Go.bits .and .u64 a1 t235) a0_0 l0_1 l0_2)) else (some 0))
theorem siphon_greatest.mono_l : ∀ k, (∀ y0 y1 y2 y3 y4, LeO (siphon_greatest.l0 k y0 y1 y2 y3 y4) (siphon_greatest.l0 (k + 1) y0 y1 y2 y3 y4)) ∧ (∀ y0 y1 y2 y3 y4 y5 y6 y7, LeO (siphon_greatest.l1 k y0 y1 y2 y3 y4 y5 y6 y7) (siphon_greatest.l1 (k + 1) y0 y1 y2 y3 y4 y5 y6 y7))
 | 0 => ⟨fun _ _ _ _ _ r h => by simp [siphon_greatest.l0] at h, fun _ _ _ _ _ _ _ _ r h => by simp [siphon_greatest.l1] at h⟩
 | k + 1 => by
  obtain ⟨ih0, ih1⟩ := siphon_greatest.mono_l k
  refine ⟨?_, ?_⟩
  ·
   intro y0 y1 y2 y3 y4
   unfold siphon_greatest.l0
   repeat' first
   | (with_reducible exact ih0 _ _ _ _ _)
   | (with_reducible exact ih1 _ _ _ _ _ _ _ _)
   | (with_reducible exact bitset_All.mono _ _)
   | (with_reducible exact net_Check.mono _ _ _ _)
   | (with_reducible exact siphon_side.mono _ _ _ _ _ _ _)
   | (with_reducible exact LeO.refl _)
   | (with_reducible exact LeO.none _)
   | (with_reducible refine LeO.ite ?_ ?_)
   | (with_reducible refine LeO.bind ?_ (fun _ => ?_))
   | exact ih0 _ _ _ _ _
   | exact ih1 _ _ _ _ _ _ _ _
   | exact bitset_All.mono _ _
   | exact net_Check.mono _ _ _ _
   | exact siphon_side.mono _ _ _ _ _ _ _
   | exact LeO.none _
   | refine LeO.ite ?_ ?_
   | refine LeO.bind ?_ (fun _ => ?_)
  ·
   intro y0 y1 y2 y3 y4 y5 y6 y7
   unfold siphon_greatest.l1
   repeat' first
   | (with_reducible exact ih0 _ _ _ _ _)
   | (with_reducible exact ih1 _ _ _ _ _ _ _ _)
   | (with_reducible exact bitset_All.mono _ _)
   | (with_reducible exact net_Check.mono _ _ _ _)
   | (with_reducible exact siphon_side.mono _ _ _ _ _ _ _)
   | (with_reducible exact LeO.refl _)
   | (with_reducible exact LeO.none _)
   | (with_reducible refine LeO.ite ?_ ?_)
   | (with_reducible refine LeO.bind ?_ (fun _ => ?_))
   | exact ih0 _ _ _ _ _
   | exact ih1 _ _ _ _ _ _ _ _
   | exact bitset_All.mono _ _
   | exact net_Check.mono _ _ _ _
   | exact siphon_side.mono _ _ _ _ _ _ _
   | exact LeO.none _
   | refine LeO.ite ?_ ?_
   | refine LeO.bind ?_ (fun _ => ?_)
theorem siphon_greatest.mono : ∀ a0 a1 a2 a3 a4 k, LeO (siphon_greatest.f k a0 a1 a2 a3 a4) (siphon_greatest.f (k + 1) a0 a1 a2 a3 a4) := by
 intro a0 a1 a2 a3 a4 k
 obtain ⟨ih0, ih1⟩ := siphon_greatest.mono_l k
 unfold siphon_greatest.f
 repeat' first
   | (with_reducible exact ih0 _ _ _ _ _)
   | (with_reducible exact ih1 _ _ _ _ _ _ _ _)
   | (with_reducible exact bitset_All.mono _ _)
   | (with_reducible exact net_Check.mono _ _ _ _)
   | (with_reducible exact siphon_side.mono _ _ _ _ _ _ _)
   | (with_reducible exact LeO.refl _)
   | (with_reducible exact LeO.none _)
   | (with_reducible refine LeO.ite ?_ ?_)
   | (with_reducible refine LeO.bind ?_ (fun _ => ?_))
   | exact ih0 _ _ _ _ _
   | exact ih1 _ _ _ _ _ _ _ _
   | exact bitset_All.mono _ _
   | exact net_Check.mono _ _ _ _
   | exact siphon_side.mono _ _ _ _ _ _ _
   | exact LeO.none _
   | refine LeO.ite ?_ ?_
   | refine LeO.bind ?_ (fun _ => ?_)
set_option maxHeartbeats 8000000 in
set_option maxRecDepth 100000 in
theorem siphon_greatest.calls (k : Nat) (a0_0 : ByteArray) (A0_1 : Option Addr) (c0_1 : Nat) (l0_1 : List (S56)) (A0_2 : Option Addr) (c0_2 : Nat) (l0_2 : List (S40)) (a1 : Int) (a2 : Bool) (r : Int) (w : World) (hr0_1 : Kd.C k56 w A0_1 l0_1.length l0_1) (hc0_1 : l0_1.length ≤ c0_1) (hr0_2 : Kd.C k40 w A0_2 l0_2.length l0_2) (hc0_2 : l0_2.length ≤ c0_2) (h : siphon_greatest.f k a0_0 l0_1 l0_2 a1 a2 = some r) :
  Calls Try.prog 40 #[.agg #[.string a0_0, .slice A0_1 l0_1.length c0_1, .slice A0_2 l0_2.length c0_2], .int .u64 a1, .bool a2] w fun e w' => e = .returned (.int .u64 r) ∧ Below w.heap.size w w' := by
 have hu25 := Try.underlying25
 have hu9 := Try.underlying9
 have hu22 := Try.underlying22
 have hu23 := Try.underlying23
 have hu40 := Try.underlying40
 have hu3 := Try.underlying3
 have hu9 := Try.underlying9
 have hu38 := Try.underlying38
 have HR0_1 := Aside0.mk hr0_1
 have HC0_1 := Aside0.mk hc0_1
 clear hr0_1 hc0_1
 have HR0_2 := Aside0.mk hr0_2
 have HC0_2 := Aside0.mk hc0_2
 clear hr0_2 hc0_2
 have HB := Aside0.mk (Below.refl w.heap.size w)
 have H : ((net_Check.f k a0_0 l0_1 l0_2).bind fun bt233 => (if bt233.1 = 0 then ((bitset_All.f k (l0_1.length : Int)).bind fun t235 => (siphon_greatest.l0 k a2 (Go.bits .and .u64 a1 t235) a0_0 l0_1 l0_2)) else (some 0))) = some r := h
 clear h
 replace H := Option.bind_eq_some_iff.mp H
 obtain ⟨⟨t233, t234⟩, A40, H⟩ := H
 replace H : (if t233 = 0 then ((bitset_All.f k (l0_1.length : Int)).bind fun t235 => (siphon_greatest.l0 k a2 (Go.bits .and .u64 a1 t235) a0_0 l0_1 l0_2)) else (some 0)) = some r := H
 have A4 := Aside0.mk A40
 clear A40
 by_cases c5 : t233 = 0
 ·
  rw [if_pos c5] at H
  have c5b0 : (t233 == 0) = true := beq_iff_eq.mpr c5
  have c5b1 : (t233 != 0) = false := bne_eq_false_iff_eq.mpr c5
  clear c5
  replace H := Option.bind_eq_some_iff.mp H
  obtain ⟨t235, A60, H⟩ := H
  replace H : (siphon_greatest.l0 k a2 (Go.bits .and .u64 a1 t235) a0_0 l0_1 l0_2) = some r := H
  have A6 := Aside0.mk A60
  clear A60
  have H' := Aside0.mk H
  clear H
  go_enter Try.func40, Try.ntmps40
  try apply wp_scope_straight
  go_wp2_with (first | ((with_reducible refine gate_dst (N := 3) rfl ?_); refine box_event ?hg (N := 3) ?hd (cs := #[.string a0_0, .slice A0_1 l0_1.length c0_1, .slice A0_2 l0_2.length c0_2]) (t := 25) ?hr ?_; (case hd => rfl); (case hg => rfl); (case hr => first | (go_simp; done) | (go_simp; rfl)); intro gb232 hg w7 hbox hb; have n0_ := Aside0.mk (below_step (by repeat (first | (with_reducible first | exact HB.out | apply below_alloc | apply pw_below_drewN | apply below_drew1) | exact HB.out)) hb); have n1_ := Aside0.mk (hbox); have n2_ := Aside0.mk ((by rw [hg]; exact (below_size (by repeat (first | (with_reducible first | exact HB.out | apply below_alloc | apply pw_below_drewN | apply below_drew1) | exact HB.out))) : w.heap.size ≤ gb232)); have n3_ := Aside0.mk ((by rw [hg]; exact (below_size (by repeat (first | (with_reducible first | exact HB.out | apply below_alloc | apply pw_below_drewN | apply below_drew1) | exact HB.out))) : w.heap.size ≤ gb232)); clear HB; have HB := n0_; have BK232 := n1_; have GW232 := n2_; have GE232 := n3_; clear n0_ n1_ n2_ n3_; clear hb hbox hg; have hcz8_0 : w7.cell? ⟨gb232, 0, none⟩ = some (.string a0_0) := (blk_cell BK232.out 0).trans rfl; have hcz8_1 : w7.cell? ⟨gb232, 1, none⟩ = some (.slice A0_1 l0_1.length c0_1) := (blk_cell BK232.out 1).trans rfl; have hcz8_2 : w7.cell? ⟨gb232, 2, none⟩ = some (.slice A0_2 l0_2.length c0_2) := (blk_cell BK232.out 2).trans rfl; have hfz8_0 := blk_frozen BK232.out 0; have hfz8_1 := blk_frozen BK232.out 1; have hfz8_2 := blk_frozen BK232.out 2) | ((with_reducible refine gate_callee (f := 54) rfl ?_); refine goesL_ (some 13) rfl rfl Try.func54 (by kernel_rfl) rfl #[.agg #[.string a0_0, .slice A0_1 l0_1.length c0_1, .slice A0_2 l0_2.length c0_2]] rfl (by (try simp only [List.map_toArray, List.map_cons, List.map_nil]); first | done | rfl | (simp only [List.length_drop, List.length_take]; rfl)) ?_; (with_reducible refine (net_Check.calls k a0_0 _ _ l0_1 _ _ l0_2 t233 t234 _ ?side1 ?side2 ?side3 ?side4 A4.out).mono ?_); (case side1 => repeat (first | exact (Kd.C_below HR0_1.out HB.out) | (with_reducible refine Kd.C_alloc ?_ _) | (with_reducible refine Kd.C_drewN ?_ _) | (with_reducible refine Kd.C_drew ?_))); (case side2 => exact HC0_1.out); (case side3 => repeat (first | exact (Kd.C_below HR0_2.out HB.out) | (with_reducible refine Kd.C_alloc ?_ _) | (with_reducible refine Kd.C_drewN ?_ _) | (with_reducible refine Kd.C_drew ?_))); (case side4 => exact HC0_2.out); rintro e w9 ⟨rfl, hb⟩; refine ⟨_, rfl, ?_⟩; have n0_ := Aside0.mk (blk_below (g := gb232) (o := .cells #[.string a0_0, .slice A0_1 l0_1.length c0_1, .slice A0_2 l0_2.length c0_2] 25 (0, 0)) (by (with_reducible repeat (first | refine blk_drewN ?_ _ | refine blk_drew ?_ | refine blk_alloc ?_ _)); exact BK232.out) hb); have n1_ := Aside0.mk (below_step (by repeat (first | (with_reducible first | exact HB.out | apply below_alloc | apply pw_below_drewN | apply below_drew1 | refine below_set ?_ GE232.out) | exact HB.out)) hb); clear BK232; clear HB; have BK232 := n0_; have HB := n1_; clear n0_ n1_; (try clear hb); (try clear hb2); (try clear hk); (try clear hi); have hcz10_0 : w9.cell? ⟨gb232, 0, none⟩ = some (.string a0_0) := (blk_cell BK232.out 0).trans rfl; have hcz10_1 : w9.cell? ⟨gb232, 1, none⟩ = some (.slice A0_1 l0_1.length c0_1) := (blk_cell BK232.out 1).trans rfl; have hcz10_2 : w9.cell? ⟨gb232, 2, none⟩ = some (.slice A0_2 l0_2.length c0_2) := (blk_cell BK232.out 2).trans rfl; have hfz10_0 := blk_frozen BK232.out 0; have hfz10_1 := blk_frozen BK232.out 1; have hfz10_2 := blk_frozen BK232.out 2) | ((with_reducible refine gate_callee (f := 56) rfl ?_); refine goesL_ (some 20) rfl rfl Try.func56 (by kernel_rfl) rfl #[.int .i64 (l0_1.length : Int)] rfl (by (try simp only [List.map_toArray, List.map_cons, List.map_nil]); first | done | rfl | (simp only [List.length_drop, List.length_take]; rfl)) ?_; (with_reducible refine (bitset_All.calls k (l0_1.length : Int) t235 _ A6.out).mono ?_); rintro e w' ⟨rfl, ⟨nd, rfl⟩⟩; refine ⟨_, rfl, ?_⟩))
  repeat (go_step3; (first | (go_simp; go_wp2_with (first | ((with_reducible refine gate_dst (N := 3) rfl ?_); refine box_event ?hg (N := 3) ?hd (cs := #[.string a0_0, .slice A0_1 l0_1.length c0_1, .slice A0_2 l0_2.length c0_2]) (t := 25) ?hr ?_; (case hd => rfl); (case hg => rfl); (case hr => first | (go_simp; done) | (go_simp; rfl)); intro gb232 hg w7 hbox hb; have n0_ := Aside0.mk (below_step (by repeat (first | (with_reducible first | exact HB.out | apply below_alloc | apply pw_below_drewN | apply below_drew1) | exact HB.out)) hb); have n1_ := Aside0.mk (hbox); have n2_ := Aside0.mk ((by rw [hg]; exact (below_size (by repeat (first | (with_reducible first | exact HB.out | apply below_alloc | apply pw_below_drewN | apply below_drew1) | exact HB.out))) : w.heap.size ≤ gb232)); have n3_ := Aside0.mk ((by rw [hg]; exact (below_size (by repeat (first | (with_reducible first | exact HB.out | apply below_alloc | apply pw_below_drewN | apply below_drew1) | exact HB.out))) : w.heap.size ≤ gb232)); clear HB; have HB := n0_; have BK232 := n1_; have GW232 := n2_; have GE232 := n3_; clear n0_ n1_ n2_ n3_; clear hb hbox hg; have hcz8_0 : w7.cell? ⟨gb232, 0, none⟩ = some (.string a0_0) := (blk_cell BK232.out 0).trans rfl; have hcz8_1 : w7.cell? ⟨gb232, 1, none⟩ = some (.slice A0_1 l0_1.length c0_1) := (blk_cell BK232.out 1).trans rfl; have hcz8_2 : w7.cell? ⟨gb232, 2, none⟩ = some (.slice A0_2 l0_2.length c0_2) := (blk_cell BK232.out 2).trans rfl; have hfz8_0 := blk_frozen BK232.out 0; have hfz8_1 := blk_frozen BK232.out 1; have hfz8_2 := blk_frozen BK232.out 2) | ((with_reducible refine gate_callee (f := 54) rfl ?_); refine goesL_ (some 13) rfl rfl Try.func54 (by kernel_rfl) rfl #[.agg #[.string a0_0, .slice A0_1 l0_1.length c0_1, .slice A0_2 l0_2.length c0_2]] rfl (by (try simp only [List.map_toArray, List.map_cons, List.map_nil]); first | done | rfl | (simp only [List.length_drop, List.length_take]; rfl)) ?_; (with_reducible refine (net_Check.calls k a0_0 _ _ l0_1 _ _ l0_2 t233 t234 _ ?side1 ?side2 ?side3 ?side4 A4.out).mono ?_); (case side1 => repeat (first | exact (Kd.C_below HR0_1.out HB.out) | (with_reducible refine Kd.C_alloc ?_ _) | (with_reducible refine Kd.C_drewN ?_ _) | (with_reducible refine Kd.C_drew ?_))); (case side2 => exact HC0_1.out); (case side3 => repeat (first | exact (Kd.C_below HR0_2.out HB.out) | (with_reducible refine Kd.C_alloc ?_ _) | (with_reducible refine Kd.C_drewN ?_ _) | (with_reducible refine Kd.C_drew ?_))); (case side4 => exact HC0_2.out); rintro e w9 ⟨rfl, hb⟩; refine ⟨_, rfl, ?_⟩; have n0_ := Aside0.mk (blk_below (g := gb232) (o := .cells #[.string a0_0, .slice A0_1 l0_1.length c0_1, .slice A0_2 l0_2.length c0_2] 25 (0, 0)) (by (with_reducible repeat (first | refine blk_drewN ?_ _ | refine blk_drew ?_ | refine blk_alloc ?_ _)); exact BK232.out) hb); have n1_ := Aside0.mk (below_step (by repeat (first | (with_reducible first | exact HB.out | apply below_alloc | apply pw_below_drewN | apply below_drew1 | refine below_set ?_ GE232.out) | exact HB.out)) hb); clear BK232; clear HB; have BK232 := n0_; have HB := n1_; clear n0_ n1_; (try clear hb); (try clear hb2); (try clear hk); (try clear hi); have hcz10_0 : w9.cell? ⟨gb232, 0, none⟩ = some (.string a0_0) := (blk_cell BK232.out 0).trans rfl; have hcz10_1 : w9.cell? ⟨gb232, 1, none⟩ = some (.slice A0_1 l0_1.length c0_1) := (blk_cell BK232.out 1).trans rfl; have hcz10_2 : w9.cell? ⟨gb232, 2, none⟩ = some (.slice A0_2 l0_2.length c0_2) := (blk_cell BK232.out 2).trans rfl; have hfz10_0 := blk_frozen BK232.out 0; have hfz10_1 := blk_frozen BK232.out 1; have hfz10_2 := blk_frozen BK232.out 2) | ((with_reducible refine gate_callee (f := 56) rfl ?_); refine goesL_ (some 20) rfl rfl Try.func56 (by kernel_rfl) rfl #[.int .i64 (l0_1.length : Int)] rfl (by (try simp only [List.map_toArray, List.map_cons, List.map_nil]); first | done | rfl | (simp only [List.length_drop, List.length_take]; rfl)) ?_; (with_reducible refine (bitset_All.calls k (l0_1.length : Int) t235 _ A6.out).mono ?_); rintro e w' ⟨rfl, ⟨nd, rfl⟩⟩; refine ⟨_, rfl, ?_⟩))) | go_wp2))
  try simp only [Exit.noGoto_ret, Exit.noGoto_normal, Exit.noGoto_exit]
  go_loopg [7] k (fun kq v7 w' => ∃ (x7_1 : Int), v7 = .int .u64 x7_1 ∧ Aside0 (siphon_greatest.l0 kq a2 x7_1 a0_0 l0_1 l0_2 = some r) ∧ Aside0 (kq ≤ k) ∧ Aside0 (w'.heap[gb232]? = some (.cells #[.string a0_0, (.slice A0_1 l0_1.length c0_1), (.slice A0_2 l0_2.length c0_2)] 25 (0, 0))) ∧ Aside0 (Below w.heap.size w w'))
  case atStart => exact ⟨(Go.bits .and .u64 a1 t235), (by first | rfl | (simp; done) | (simp [*]; done) | (simp [i64_w]; done)), H', ⟨Nat.le_refl _⟩, ⟨by (with_reducible repeat (first | refine blk_drewN ?_ _ | refine blk_drew ?_ | refine blk_alloc ?_ _)); exact BK232.out⟩, ⟨by repeat (first | (with_reducible first | exact HB.out | apply below_alloc | apply pw_below_drewN | apply below_drew1 | refine below_set ?_ GE232.out) | exact HB.out)⟩⟩
  case round =>
   clear H'
   try clear p2
   try clear c4
   try clear c5
   try clear c5b0
   try clear c5b1
   try clear hcz10_0
   try clear hcz10_1
   try clear hcz10_2
   try clear hcz8_0
   try clear hcz8_1
   try clear hcz8_2
   try clear hfz10_0
   try clear hfz10_1
   try clear hfz10_2
   try clear hfz8_0
   try clear hfz8_1
   try clear hfz8_2
   obtain ⟨x7_1, rfl, HA, HK1, BK232, HB⟩ := hrel
   cases gk with
   | zero => exact absurd HA.out (by simp [siphon_greatest.l0])
   | succ k1 =>
    have H := HA.out
    clear HA
    simp only [siphon_greatest.l0] at H
    have H' := Aside0.mk H
    clear H
    have hcz11_0 : wr.cell? ⟨gb232, 0, none⟩ = some (.string a0_0) := (blk_cell BK232.out 0).trans rfl
    have hcz11_1 : wr.cell? ⟨gb232, 1, none⟩ = some (.slice A0_1 l0_1.length c0_1) := (blk_cell BK232.out 1).trans rfl
    have hcz11_2 : wr.cell? ⟨gb232, 2, none⟩ = some (.slice A0_2 l0_2.length c0_2) := (blk_cell BK232.out 2).trans rfl
    have hfz11_0 := blk_frozen BK232.out 0
    have hfz11_1 := blk_frozen BK232.out 1
    have hfz11_2 := blk_frozen BK232.out 2
    (go_wp2; (repeat (go_step3; go_wp2)); try simp only [Exit.noGoto_ret, Exit.noGoto_normal, Exit.noGoto_exit])
    go_loopg [7, 25] k1 (fun kq v7 v25 w' => ∃ (x7_2 : Int) (x25_2 : Int), v7 = .int .u64 x7_2 ∧ v25 = .int .i64 x25_2 ∧ Aside0 (siphon_greatest.l1 kq a2 x7_2 l0_2 (l0_2.length : Int) x25_2 a0_0 l0_1 l0_2 = some r) ∧ Aside0 (kq ≤ k1) ∧ Aside0 (w'.heap[gb232]? = some (.cells #[.string a0_0, (.slice A0_1 l0_1.length c0_1), (.slice A0_2 l0_2.length c0_2)] 25 (0, 0))) ∧ Aside0 (Below w.heap.size w w'))
    case atStart => exact ⟨(x7_1), (0), (by first | rfl | (simp; done) | (simp [*]; done) | (simp [i64_w]; done)), (by first | rfl | (simp; done) | (simp [*]; done) | (simp [i64_w]; done)), H', ⟨Nat.le_refl _⟩, ⟨by (with_reducible repeat (first | refine blk_drewN ?_ _ | refine blk_drew ?_ | refine blk_alloc ?_ _)); exact BK232.out⟩, ⟨by repeat (first | (with_reducible first | exact HB.out | apply below_alloc | apply pw_below_drewN | apply below_drew1 | refine below_set ?_ GE232.out) | exact HB.out)⟩⟩
    case round =>
     clear H'
     try clear p2
     try clear c4
     try clear c5
     try clear c5b0
     try clear c5b1
     try clear hcz10_0
     try clear hcz10_1
     try clear hcz10_2
     try clear hcz11_0
     try clear hcz11_1
     try clear hcz11_2
     try clear hcz8_0
     try clear hcz8_1
     try clear hcz8_2
     try clear hfz10_0
     try clear hfz10_1
     try clear hfz10_2
     try clear hfz11_0
     try clear hfz11_1
     try clear hfz11_2
     try clear hfz8_0
     try clear hfz8_1
     try clear hfz8_2
     try clear p2
     obtain ⟨x7_2, x25_2, rfl, rfl, HA, HK2, BK232, HB⟩ := hrel
     cases gk with
     | zero => exact absurd HA.out (by simp [siphon_greatest.l1])
     | succ k2 =>
      have H := HA.out
      clear HA
      simp only [siphon_greatest.l1] at H
      by_cases c12 : x25_2 < (l0_2.length : Int)
      ·
       rw [if_pos c12] at H
       have c12b0 : decide (x25_2 < (l0_2.length : Int)) = true := decide_eq_true c12
       clear c12
       by_cases c13 : 0 ≤ x25_2
       ·
        rw [if_pos c13] at H
        have c13b0 : decide (0 ≤ x25_2) = true := decide_eq_true c13
        clear c13
        by_cases c14 : x25_2 < (l0_2.length : Int)
        ·
         rw [if_pos c14] at H
         have c14b0 : decide (x25_2 < (l0_2.length : Int)) = true := decide_eq_true c14
         clear c14
         replace H := Option.bind_eq_some_iff.mp H
         obtain ⟨⟨t238, t239⟩, A150, H⟩ := H
         replace H : (if (Go.bits .and .u64 t238 x7_2) = 0 then (siphon_greatest.l1 k2 a2 x7_2 l0_2 (l0_2.length : Int) (wrap64 (x25_2 + 1)) a0_0 l0_1 l0_2) else (if (Go.bits .and .u64 t239 x7_2) = 0 then (siphon_greatest.l0 k2 a2 (Go.bits .andNot .u64 x7_2 t238) a0_0 l0_1 l0_2) else (siphon_greatest.l1 k2 a2 x7_2 l0_2 (l0_2.length : Int) (wrap64 (x25_2 + 1)) a0_0 l0_1 l0_2))) = some r := H
         have A15 := Aside0.mk A150
         clear A150
         by_cases c16 : (Go.bits .and .u64 t238 x7_2) = 0
         ·
          rw [if_pos c16] at H
          have c16b0 : ((Go.bits .and .u64 t238 x7_2) == 0) = true := beq_iff_eq.mpr c16
          have c16b1 : ((Go.bits .and .u64 t238 x7_2) != 0) = false := bne_eq_false_iff_eq.mpr c16
          clear c16
          have H' := Aside0.mk H
          clear H
          have p236 : 0 ≤ (x25_2 : Int) := of_decide_eq_true (by first | (with_reducible assumption) | assumption)
          have q236 : x25_2 < (l0_2.length : Int) := of_decide_eq_true (by first | (with_reducible assumption) | assumption)
          obtain ⟨ad236, A236_1, c236_1, A236_2, c236_2, A236_3, c236_3, e236, hx236_0, hx236_1, hx236_2, hx236_3, hx236_4, hl236_1, hi236_1, hl236_2, hi236_2, hl236_3, hi236_3⟩ := at_T40 HR0_2.out x25_2 p236 q236
          cases e236
          replace hx236_0 := (HB.out.cell (World.block_lt_of_cell? w _ hx236_0)).trans hx236_0
          replace hx236_1 := (HB.out.cell (World.block_lt_of_cell? w _ hx236_1)).trans hx236_1
          replace hx236_2 := (HB.out.cell (World.block_lt_of_cell? w _ hx236_2)).trans hx236_2
          replace hx236_3 := (HB.out.cell (World.block_lt_of_cell? w _ hx236_3)).trans hx236_3
          replace hx236_4 := (HB.out.cell (World.block_lt_of_cell? w _ hx236_4)).trans hx236_4
          have HR236_1 := Aside0.mk hi236_1
          have HC236_1 := Aside0.mk hl236_1
          clear hi236_1 hl236_1
          have HR236_2 := Aside0.mk hi236_2
          have HC236_2 := Aside0.mk hl236_2
          clear hi236_2 hl236_2
          have HR236_3 := Aside0.mk hi236_3
          have HC236_3 := Aside0.mk hl236_3
          clear hi236_3 hl236_3
          replace p236 := eq_true p236
          replace q236 := eq_true q236
          go_wp2_with (first | ((with_reducible refine gate_dst (N := 9) rfl ?_); refine box_event ?hg (N := 9) ?hd (cs := #[.string (⟨#[]⟩ : ByteArray), .slice none 0 0, .slice none 0 0, .slice none 0 0, .int .i64 0]) (t := 40) ?hr ?_; (case hd => rfl); (case hg => rfl); (case hr => first | (go_simp; done) | (go_simp; rfl)); intro gb237 hg w17 hbox hb; have n0_ := Aside0.mk (blk_below (g := gb232) (o := .cells #[.string a0_0, .slice A0_1 l0_1.length c0_1, .slice (some ad236) l0_2.length c0_2] 25 (0, 0)) (by (with_reducible repeat (first | refine blk_drewN ?_ _ | refine blk_drew ?_ | refine blk_alloc ?_ _)); exact BK232.out) hb); have n1_ := Aside0.mk (below_step (by repeat (first | (with_reducible first | exact HB.out | apply below_alloc | apply pw_below_drewN | apply below_drew1 | refine below_set ?_ GE232.out) | exact HB.out)) hb); have n2_ := Aside0.mk (hbox); have n3_ := Aside0.mk ((by rw [hg]; exact (below_size (by repeat (first | (with_reducible first | exact HB.out | apply below_alloc | apply pw_below_drewN | apply below_drew1 | refine below_set ?_ GE232.out) | exact HB.out))) : w.heap.size ≤ gb237)); have n4_ := Aside0.mk ((by rw [hg]; exact (below_size (by repeat (first | (with_reducible first | exact HB.out | apply below_alloc | apply pw_below_drewN | apply below_drew1 | refine below_set ?_ GE232.out) | exact HB.out))) : w.heap.size ≤ gb237)); have n5_ := Aside0.mk ((by rw [hg]; exact Nat.ne_of_lt (blk_lt (g := gb232) (o := .cells #[.string a0_0, .slice A0_1 l0_1.length c0_1, .slice (some ad236) l0_2.length c0_2] 25 (0, 0)) (by (with_reducible repeat (first | refine blk_drewN ?_ _ | refine blk_drew ?_ | refine blk_alloc ?_ _)); exact BK232.out)) : gb232 ≠ gb237)); have n6_ := Aside0.mk ((by rw [hg]; exact Nat.ne_of_gt (blk_lt (g := gb232) (o := .cells #[.string a0_0, .slice A0_1 l0_1.length c0_1, .slice (some ad236) l0_2.length c0_2] 25 (0, 0)) (by (with_reducible repeat (first | refine blk_drewN ?_ _ | refine blk_drew ?_ | refine blk_alloc ?_ _)); exact BK232.out)) : gb237 ≠ gb232)); clear BK232; clear HB; have BK232 := n0_; have HB := n1_; have BK237 := n2_; have GW237 := n3_; have GE237 := n4_; have NB232_237 := n5_; have NB237_232 := n6_; clear n0_ n1_ n2_ n3_ n4_ n5_ n6_; clear hb hbox hg; have hnb18 := NB237_232.out; have hnc18 := NB232_237.out; have hcz19_0 : w17.cell? ⟨gb237, 0, none⟩ = some (.string (⟨#[]⟩ : ByteArray)) := (blk_cell BK237.out 0).trans rfl; have hcz19_1 : w17.cell? ⟨gb237, 1, none⟩ = some (.slice none 0 0) := (blk_cell BK237.out 1).trans rfl; have hcz19_2 : w17.cell? ⟨gb237, 2, none⟩ = some (.slice none 0 0) := (blk_cell BK237.out 2).trans rfl; have hcz19_3 : w17.cell? ⟨gb237, 3, none⟩ = some (.slice none 0 0) := (blk_cell BK237.out 3).trans rfl; have hcz19_4 : w17.cell? ⟨gb237, 4, none⟩ = some (.int .i64 0) := (blk_cell BK237.out 4).trans rfl; have hfz19_0 := blk_frozen BK237.out 0; have hfz19_1 := blk_frozen BK237.out 1; have hfz19_2 := blk_frozen BK237.out 2; have hfz19_3 := blk_frozen BK237.out 3; have hfz19_4 := blk_frozen BK237.out 4) | ((with_reducible refine gate_callee (f := 59) rfl ?_); refine goesL_ (some 32) rfl rfl Try.func59 (by kernel_rfl) rfl #[.agg #[.string ((rd_T40 l0_2 x25_2).f0), .slice A236_1 ((rd_T40 l0_2 x25_2).f1).length c236_1, .slice A236_2 ((rd_T40 l0_2 x25_2).f2).length c236_2, .slice A236_3 ((rd_T40 l0_2 x25_2).f3).length c236_3, .int .i64 ((rd_T40 l0_2 x25_2).f4)], .bool a2] rfl (by (try simp only [List.map_toArray, List.map_cons, List.map_nil]); first | done | rfl | (simp only [List.length_drop, List.length_take]; rfl)) ?_; (with_reducible refine (siphon_side.calls k2 ((rd_T40 l0_2 x25_2).f0) _ _ ((rd_T40 l0_2 x25_2).f1) _ _ ((rd_T40 l0_2 x25_2).f2) _ _ ((rd_T40 l0_2 x25_2).f3) ((rd_T40 l0_2 x25_2).f4) a2 t238 t239 _ ?side1 ?side2 ?side3 ?side4 ?side5 ?side6 A15.out).mono ?_); (case side1 => exact Kd.C_below HR236_1.out (by repeat (first | (with_reducible first | exact HB.out | apply below_alloc | apply pw_below_drewN | apply below_drew1 | refine below_set ?_ GE232.out | refine below_set ?_ GE237.out) | exact HB.out))); (case side2 => exact HC236_1.out); (case side3 => exact Kd.C_below HR236_2.out (by repeat (first | (with_reducible first | exact HB.out | apply below_alloc | apply pw_below_drewN | apply below_drew1 | refine below_set ?_ GE232.out | refine below_set ?_ GE237.out) | exact HB.out))); (case side4 => exact HC236_2.out); (case side5 => exact Kd.C_below HR236_3.out (by repeat (first | (with_reducible first | exact HB.out | apply below_alloc | apply pw_below_drewN | apply below_drew1 | refine below_set ?_ GE232.out | refine below_set ?_ GE237.out) | exact HB.out))); (case side6 => exact HC236_3.out); rintro e w20 ⟨rfl, hb⟩; refine ⟨_, rfl, ?_⟩; have n0_ := Aside0.mk (blk_below (g := gb232) (o := .cells #[.string a0_0, .slice A0_1 l0_1.length c0_1, .slice (some ad236) l0_2.length c0_2] 25 (0, 0)) (by (with_reducible repeat (first | refine blk_drewN ?_ _ | refine blk_drew ?_ | refine blk_alloc ?_ _)); refine blk_far ?_ NB232_237.out _; (with_reducible repeat (first | refine blk_drewN ?_ _ | refine blk_drew ?_ | refine blk_alloc ?_ _)); refine blk_far ?_ NB232_237.out _; (with_reducible repeat (first | refine blk_drewN ?_ _ | refine blk_drew ?_ | refine blk_alloc ?_ _)); refine blk_far ?_ NB232_237.out _; (with_reducible repeat (first | refine blk_drewN ?_ _ | refine blk_drew ?_ | refine blk_alloc ?_ _)); refine blk_far ?_ NB232_237.out _; (with_reducible repeat (first | refine blk_drewN ?_ _ | refine blk_drew ?_ | refine blk_alloc ?_ _)); refine blk_far ?_ NB232_237.out _; (with_reducible repeat (first | refine blk_drewN ?_ _ | refine blk_drew ?_ | refine blk_alloc ?_ _)); exact BK232.out) hb); have n1_ := Aside0.mk (blk_below (g := gb237) (o := .cells #[.string ((rd_T40 l0_2 x25_2).f0), .slice A236_1 ((rd_T40 l0_2 x25_2).f1).length c236_1, .slice A236_2 ((rd_T40 l0_2 x25_2).f2).length c236_2, .slice A236_3 ((rd_T40 l0_2 x25_2).f3).length c236_3, .int .i64 ((rd_T40 l0_2 x25_2).f4)] 40 (0, 0)) (by (with_reducible repeat (first | refine blk_drewN ?_ _ | refine blk_drew ?_ | refine blk_alloc ?_ _)); refine blk_put (cs := #[.string ((rd_T40 l0_2 x25_2).f0), .slice A236_1 ((rd_T40 l0_2 x25_2).f1).length c236_1, .slice A236_2 ((rd_T40 l0_2 x25_2).f2).length c236_2, .slice A236_3 ((rd_T40 l0_2 x25_2).f3).length c236_3, .int .i64 0]) ?_ 4 _ rfl; (with_reducible repeat (first | refine blk_drewN ?_ _ | refine blk_drew ?_ | refine blk_alloc ?_ _)); refine blk_put (cs := #[.string ((rd_T40 l0_2 x25_2).f0), .slice A236_1 ((rd_T40 l0_2 x25_2).f1).length c236_1, .slice A236_2 ((rd_T40 l0_2 x25_2).f2).length c236_2, .slice none 0 0, .int .i64 0]) ?_ 3 _ rfl; (with_reducible repeat (first | refine blk_drewN ?_ _ | refine blk_drew ?_ | refine blk_alloc ?_ _)); refine blk_put (cs := #[.string ((rd_T40 l0_2 x25_2).f0), .slice A236_1 ((rd_T40 l0_2 x25_2).f1).length c236_1, .slice none 0 0, .slice none 0 0, .int .i64 0]) ?_ 2 _ rfl; (with_reducible repeat (first | refine blk_drewN ?_ _ | refine blk_drew ?_ | refine blk_alloc ?_ _)); refine blk_put (cs := #[.string ((rd_T40 l0_2 x25_2).f0), .slice none 0 0, .slice none 0 0, .slice none 0 0, .int .i64 0]) ?_ 1 _ rfl; (with_reducible repeat (first | refine blk_drewN ?_ _ | refine blk_drew ?_ | refine blk_alloc ?_ _)); refine blk_put (cs := #[.string (⟨#[]⟩ : ByteArray), .slice none 0 0, .slice none 0 0, .slice none 0 0, .int .i64 0]) ?_ 0 _ rfl; (with_reducible repeat (first | refine blk_drewN ?_ _ | refine blk_drew ?_ | refine blk_alloc ?_ _)); exact BK237.out) hb); have n2_ := Aside0.mk (below_step (by repeat (first | (with_reducible first | exact HB.out | apply below_alloc | apply pw_below_drewN | apply below_drew1 | refine below_set ?_ GE232.out | refine below_set ?_ GE237.out) | exact HB.out)) hb); clear BK232; clear BK237; clear HB; have BK232 := n0_; have BK237 := n1_; have HB := n2_; clear n0_ n1_ n2_; (try clear hb); (try clear hb2); (try clear hk); (try clear hi)))
          repeat (go_step3; (first | (go_simp; go_wp2_with (first | ((with_reducible refine gate_dst (N := 9) rfl ?_); refine box_event ?hg (N := 9) ?hd (cs := #[.string (⟨#[]⟩ : ByteArray), .slice none 0 0, .slice none 0 0, .slice none 0 0, .int .i64 0]) (t := 40) ?hr ?_; (case hd => rfl); (case hg => rfl); (case hr => first | (go_simp; done) | (go_simp; rfl)); intro gb237 hg w17 hbox hb; have n0_ := Aside0.mk (blk_below (g := gb232) (o := .cells #[.string a0_0, .slice A0_1 l0_1.length c0_1, .slice (some ad236) l0_2.length c0_2] 25 (0, 0)) (by (with_reducible repeat (first | refine blk_drewN ?_ _ | refine blk_drew ?_ | refine blk_alloc ?_ _)); exact BK232.out) hb); have n1_ := Aside0.mk (below_step (by repeat (first | (with_reducible first | exact HB.out | apply below_alloc | apply pw_below_drewN | apply below_drew1 | refine below_set ?_ GE232.out) | exact HB.out)) hb); have n2_ := Aside0.mk (hbox); have n3_ := Aside0.mk ((by rw [hg]; exact (below_size (by repeat (first | (with_reducible first | exact HB.out | apply below_alloc | apply pw_below_drewN | apply below_drew1 | refine below_set ?_ GE232.out) | exact HB.out))) : w.heap.size ≤ gb237)); have n4_ := Aside0.mk ((by rw [hg]; exact (below_size (by repeat (first | (with_reducible first | exact HB.out | apply below_alloc | apply pw_below_drewN | apply below_drew1 | refine below_set ?_ GE232.out) | exact HB.out))) : w.heap.size ≤ gb237)); have n5_ := Aside0.mk ((by rw [hg]; exact Nat.ne_of_lt (blk_lt (g := gb232) (o := .cells #[.string a0_0, .slice A0_1 l0_1.length c0_1, .slice (some ad236) l0_2.length c0_2] 25 (0, 0)) (by (with_reducible repeat (first | refine blk_drewN ?_ _ | refine blk_drew ?_ | refine blk_alloc ?_ _)); exact BK232.out)) : gb232 ≠ gb237)); have n6_ := Aside0.mk ((by rw [hg]; exact Nat.ne_of_gt (blk_lt (g := gb232) (o := .cells #[.string a0_0, .slice A0_1 l0_1.length c0_1, .slice (some ad236) l0_2.length c0_2] 25 (0, 0)) (by (with_reducible repeat (first | refine blk_drewN ?_ _ | refine blk_drew ?_ | refine blk_alloc ?_ _)); exact BK232.out)) : gb237 ≠ gb232)); clear BK232; clear HB; have BK232 := n0_; have HB := n1_; have BK237 := n2_; have GW237 := n3_; have GE237 := n4_; have NB232_237 := n5_; have NB237_232 := n6_; clear n0_ n1_ n2_ n3_ n4_ n5_ n6_; clear hb hbox hg; have hnb18 := NB237_232.out; have hnc18 := NB232_237.out; have hcz19_0 : w17.cell? ⟨gb237, 0, none⟩ = some (.string (⟨#[]⟩ : ByteArray)) := (blk_cell BK237.out 0).trans rfl; have hcz19_1 : w17.cell? ⟨gb237, 1, none⟩ = some (.slice none 0 0) := (blk_cell BK237.out 1).trans rfl; have hcz19_2 : w17.cell? ⟨gb237, 2, none⟩ = some (.slice none 0 0) := (blk_cell BK237.out 2).trans rfl; have hcz19_3 : w17.cell? ⟨gb237, 3, none⟩ = some (.slice none 0 0) := (blk_cell BK237.out 3).trans rfl; have hcz19_4 : w17.cell? ⟨gb237, 4, none⟩ = some (.int .i64 0) := (blk_cell BK237.out 4).trans rfl; have hfz19_0 := blk_frozen BK237.out 0; have hfz19_1 := blk_frozen BK237.out 1; have hfz19_2 := blk_frozen BK237.out 2; have hfz19_3 := blk_frozen BK237.out 3; have hfz19_4 := blk_frozen BK237.out 4) | ((with_reducible refine gate_callee (f := 59) rfl ?_); refine goesL_ (some 32) rfl rfl Try.func59 (by kernel_rfl) rfl #[.agg #[.string ((rd_T40 l0_2 x25_2).f0), .slice A236_1 ((rd_T40 l0_2 x25_2).f1).length c236_1, .slice A236_2 ((rd_T40 l0_2 x25_2).f2).length c236_2, .slice A236_3 ((rd_T40 l0_2 x25_2).f3).length c236_3, .int .i64 ((rd_T40 l0_2 x25_2).f4)], .bool a2] rfl (by (try simp only [List.map_toArray, List.map_cons, List.map_nil]); first | done | rfl | (simp only [List.length_drop, List.length_take]; rfl)) ?_; (with_reducible refine (siphon_side.calls k2 ((rd_T40 l0_2 x25_2).f0) _ _ ((rd_T40 l0_2 x25_2).f1) _ _ ((rd_T40 l0_2 x25_2).f2) _ _ ((rd_T40 l0_2 x25_2).f3) ((rd_T40 l0_2 x25_2).f4) a2 t238 t239 _ ?side1 ?side2 ?side3 ?side4 ?side5 ?side6 A15.out).mono ?_); (case side1 => exact Kd.C_below HR236_1.out (by repeat (first | (with_reducible first | exact HB.out | apply below_alloc | apply pw_below_drewN | apply below_drew1 | refine below_set ?_ GE232.out | refine below_set ?_ GE237.out) | exact HB.out))); (case side2 => exact HC236_1.out); (case side3 => exact Kd.C_below HR236_2.out (by repeat (first | (with_reducible first | exact HB.out | apply below_alloc | apply pw_below_drewN | apply below_drew1 | refine below_set ?_ GE232.out | refine below_set ?_ GE237.out) | exact HB.out))); (case side4 => exact HC236_2.out); (case side5 => exact Kd.C_below HR236_3.out (by repeat (first | (with_reducible first | exact HB.out | apply below_alloc | apply pw_below_drewN | apply below_drew1 | refine below_set ?_ GE232.out | refine below_set ?_ GE237.out) | exact HB.out))); (case side6 => exact HC236_3.out); rintro e w20 ⟨rfl, hb⟩; refine ⟨_, rfl, ?_⟩; have n0_ := Aside0.mk (blk_below (g := gb232) (o := .cells #[.string a0_0, .slice A0_1 l0_1.length c0_1, .slice (some ad236) l0_2.length c0_2] 25 (0, 0)) (by (with_reducible repeat (first | refine blk_drewN ?_ _ | refine blk_drew ?_ | refine blk_alloc ?_ _)); refine blk_far ?_ NB232_237.out _; (with_reducible repeat (first | refine blk_drewN ?_ _ | refine blk_drew ?_ | refine blk_alloc ?_ _)); refine blk_far ?_ NB232_237.out _; (with_reducible repeat (first | refine blk_drewN ?_ _ | refine blk_drew ?_ | refine blk_alloc ?_ _)); refine blk_far ?_ NB232_237.out _; (with_reducible repeat (first | refine blk_drewN ?_ _ | refine blk_drew ?_ | refine blk_alloc ?_ _)); refine blk_far ?_ NB232_237.out _; (with_reducible repeat (first | refine blk_drewN ?_ _ | refine blk_drew ?_ | refine blk_alloc ?_ _)); refine blk_far ?_ NB232_237.out _; (with_reducible repeat (first | refine blk_drewN ?_ _ | refine blk_drew ?_ | refine blk_alloc ?_ _)); exact BK232.out) hb); have n1_ := Aside0.mk (blk_below (g := gb237) (o := .cells #[.string ((rd_T40 l0_2 x25_2).f0), .slice A236_1 ((rd_T40 l0_2 x25_2).f1).length c236_1, .slice A236_2 ((rd_T40 l0_2 x25_2).f2).length c236_2, .slice A236_3 ((rd_T40 l0_2 x25_2).f3).length c236_3, .int .i64 ((rd_T40 l0_2 x25_2).f4)] 40 (0, 0)) (by (with_reducible repeat (first | refine blk_drewN ?_ _ | refine blk_drew ?_ | refine blk_alloc ?_ _)); refine blk_put (cs := #[.string ((rd_T40 l0_2 x25_2).f0), .slice A236_1 ((rd_T40 l0_2 x25_2).f1).length c236_1, .slice A236_2 ((rd_T40 l0_2 x25_2).f2).length c236_2, .slice A236_3 ((rd_T40 l0_2 x25_2).f3).length c236_3, .int .i64 0]) ?_ 4 _ rfl; (with_reducible repeat (first | refine blk_drewN ?_ _ | refine blk_drew ?_ | refine blk_alloc ?_ _)); refine blk_put (cs := #[.string ((rd_T40 l0_2 x25_2).f0), .slice A236_1 ((rd_T40 l0_2 x25_2).f1).length c236_1, .slice A236_2 ((rd_T40 l0_2 x25_2).f2).length c236_2, .slice none 0 0, .int .i64 0]) ?_ 3 _ rfl; (with_reducible repeat (first | refine blk_drewN ?_ _ | refine blk_drew ?_ | refine blk_alloc ?_ _)); refine blk_put (cs := #[.string ((rd_T40 l0_2 x25_2).f0), .slice A236_1 ((rd_T40 l0_2 x25_2).f1).length c236_1, .slice none 0 0, .slice none 0 0, .int .i64 0]) ?_ 2 _ rfl; (with_reducible repeat (first | refine blk_drewN ?_ _ | refine blk_drew ?_ | refine blk_alloc ?_ _)); refine blk_put (cs := #[.string ((rd_T40 l0_2 x25_2).f0), .slice none 0 0, .slice none 0 0, .slice none 0 0, .int .i64 0]) ?_ 1 _ rfl; (with_reducible repeat (first | refine blk_drewN ?_ _ | refine blk_drew ?_ | refine blk_alloc ?_ _)); refine blk_put (cs := #[.string (⟨#[]⟩ : ByteArray), .slice none 0 0, .slice none 0 0, .slice none 0 0, .int .i64 0]) ?_ 0 _ rfl; (with_reducible repeat (first | refine blk_drewN ?_ _ | refine blk_drew ?_ | refine blk_alloc ?_ _)); exact BK237.out) hb); have n2_ := Aside0.mk (below_step (by repeat (first | (with_reducible first | exact HB.out | apply below_alloc | apply pw_below_drewN | apply below_drew1 | refine below_set ?_ GE232.out | refine below_set ?_ GE237.out) | exact HB.out)) hb); clear BK232; clear BK237; clear HB; have BK232 := n0_; have BK237 := n1_; have HB := n2_; clear n0_ n1_ n2_; (try clear hb); (try clear hb2); (try clear hk); (try clear hi)))) | go_wp2))
          try simp only [Exit.noGoto_ret, Exit.noGoto_normal, Exit.noGoto_exit]
          go_roundg k2
          case measure => have := HK1.out; have := HK2.out; omega
          case rel => exact ⟨(x7_2), (wrap64 (x25_2 + 1)), (by first | rfl | (simp; done) | (simp [*]; done) | (simp [i64_w]; done)), (by first | rfl | (simp; done) | (simp [*]; done) | (simp [i64_w]; done)), H', ⟨by have := HK1.out; have := HK2.out; omega⟩, ⟨by (with_reducible repeat (first | refine blk_drewN ?_ _ | refine blk_drew ?_ | refine blk_alloc ?_ _)); exact BK232.out⟩, ⟨by repeat (first | (with_reducible first | exact HB.out | apply below_alloc | apply pw_below_drewN | apply below_drew1 | refine below_set ?_ GE232.out | refine below_set ?_ GE237.out) | exact HB.out)⟩⟩
         ·
          rw [if_neg c16] at H
          have c16b0 : ((Go.bits .and .u64 t238 x7_2) == 0) = false := beq_eq_false_iff_ne.mpr c16
          have c16b1 : ((Go.bits .and .u64 t238 x7_2) != 0) = true := bne_iff_ne.mpr c16
          by_cases c21 : (Go.bits .and .u64 t239 x7_2) = 0
          ·
           rw [if_pos c21] at H
           have c21b0 : ((Go.bits .and .u64 t239 x7_2) == 0) = true := beq_iff_eq.mpr c21
           have c21b1 : ((Go.bits .and .u64 t239 x7_2) != 0) = false := bne_eq_false_iff_eq.mpr c21
           clear c21
           have H' := Aside0.mk H
           clear H
           have p236 : 0 ≤ (x25_2 : Int) := of_decide_eq_true (by first | (with_reducible assumption) | assumption)
           have q236 : x25_2 < (l0_2.length : Int) := of_decide_eq_true (by first | (with_reducible assumption) | assumption)
           obtain ⟨ad236, A236_1, c236_1, A236_2, c236_2, A236_3, c236_3, e236, hx236_0, hx236_1, hx236_2, hx236_3, hx236_4, hl236_1, hi236_1, hl236_2, hi236_2, hl236_3, hi236_3⟩ := at_T40 HR0_2.out x25_2 p236 q236
           cases e236
           replace hx236_0 := (HB.out.cell (World.block_lt_of_cell? w _ hx236_0)).trans hx236_0
           replace hx236_1 := (HB.out.cell (World.block_lt_of_cell? w _ hx236_1)).trans hx236_1
           replace hx236_2 := (HB.out.cell (World.block_lt_of_cell? w _ hx236_2)).trans hx236_2
           replace hx236_3 := (HB.out.cell (World.block_lt_of_cell? w _ hx236_3)).trans hx236_3
           replace hx236_4 := (HB.out.cell (World.block_lt_of_cell? w _ hx236_4)).trans hx236_4
           have HR236_1 := Aside0.mk hi236_1
           have HC236_1 := Aside0.mk hl236_1
           clear hi236_1 hl236_1
           have HR236_2 := Aside0.mk hi236_2
           have HC236_2 := Aside0.mk hl236_2
           clear hi236_2 hl236_2
           have HR236_3 := Aside0.mk hi236_3
           have HC236_3 := Aside0.mk hl236_3
           clear hi236_3 hl236_3
           replace p236 := eq_true p236
           replace q236 := eq_true q236
           go_wp2_with (first | ((with_reducible refine gate_dst (N := 9) rfl ?_); refine box_event ?hg (N := 9) ?hd (cs := #[.string (⟨#[]⟩ : ByteArray), .slice none 0 0, .slice none 0 0, .slice none 0 0, .int .i64 0]) (t := 40) ?hr ?_; (case hd => rfl); (case hg => rfl); (case hr => first | (go_simp; done) | (go_simp; rfl)); intro gb237 hg w22 hbox hb; have n0_ := Aside0.mk (blk_below (g := gb232) (o := .cells #[.string a0_0, .slice A0_1 l0_1.length c0_1, .slice (some ad236) l0_2.length c0_2] 25 (0, 0)) (by (with_reducible repeat (first | refine blk_drewN ?_ _ | refine blk_drew ?_ | refine blk_alloc ?_ _)); exact BK232.out) hb); have n1_ := Aside0.mk (below_step (by repeat (first | (with_reducible first | exact HB.out | apply below_alloc | apply pw_below_drewN | apply below_drew1 | refine below_set ?_ GE232.out) | exact HB.out)) hb); have n2_ := Aside0.mk (hbox); have n3_ := Aside0.mk ((by rw [hg]; exact (below_size (by repeat (first | (with_reducible first | exact HB.out | apply below_alloc | apply pw_below_drewN | apply below_drew1 | refine below_set ?_ GE232.out) | exact HB.out))) : w.heap.size ≤ gb237)); have n4_ := Aside0.mk ((by rw [hg]; exact (below_size (by repeat (first | (with_reducible first | exact HB.out | apply below_alloc | apply pw_below_drewN | apply below_drew1 | refine below_set ?_ GE232.out) | exact HB.out))) : w.heap.size ≤ gb237)); have n5_ := Aside0.mk ((by rw [hg]; exact Nat.ne_of_lt (blk_lt (g := gb232) (o := .cells #[.string a0_0, .slice A0_1 l0_1.length c0_1, .slice (some ad236) l0_2.length c0_2] 25 (0, 0)) (by (with_reducible repeat (first | refine blk_drewN ?_ _ | refine blk_drew ?_ | refine blk_alloc ?_ _)); exact BK232.out)) : gb232 ≠ gb237)); have n6_ := Aside0.mk ((by rw [hg]; exact Nat.ne_of_gt (blk_lt (g := gb232) (o := .cells #[.string a0_0, .slice A0_1 l0_1.length c0_1, .slice (some ad236) l0_2.length c0_2] 25 (0, 0)) (by (with_reducible repeat (first | refine blk_drewN ?_ _ | refine blk_drew ?_ | refine blk_alloc ?_ _)); exact BK232.out)) : gb237 ≠ gb232)); clear BK232; clear HB; have BK232 := n0_; have HB := n1_; have BK237 := n2_; have GW237 := n3_; have GE237 := n4_; have NB232_237 := n5_; have NB237_232 := n6_; clear n0_ n1_ n2_ n3_ n4_ n5_ n6_; clear hb hbox hg; have hnb23 := NB237_232.out; have hnc23 := NB232_237.out; have hcz24_0 : w22.cell? ⟨gb237, 0, none⟩ = some (.string (⟨#[]⟩ : ByteArray)) := (blk_cell BK237.out 0).trans rfl; have hcz24_1 : w22.cell? ⟨gb237, 1, none⟩ = some (.slice none 0 0) := (blk_cell BK237.out 1).trans rfl; have hcz24_2 : w22.cell? ⟨gb237, 2, none⟩ = some (.slice none 0 0) := (blk_cell BK237.out 2).trans rfl; have hcz24_3 : w22.cell? ⟨gb237, 3, none⟩ = some (.slice none 0 0) := (blk_cell BK237.out 3).trans rfl; have hcz24_4 : w22.cell? ⟨gb237, 4, none⟩ = some (.int .i64 0) := (blk_cell BK237.out 4).trans rfl; have hfz24_0 := blk_frozen BK237.out 0; have hfz24_1 := blk_frozen BK237.out 1; have hfz24_2 := blk_frozen BK237.out 2; have hfz24_3 := blk_frozen BK237.out 3; have hfz24_4 := blk_frozen BK237.out 4) | ((with_reducible refine gate_callee (f := 59) rfl ?_); refine goesL_ (some 32) rfl rfl Try.func59 (by kernel_rfl) rfl #[.agg #[.string ((rd_T40 l0_2 x25_2).f0), .slice A236_1 ((rd_T40 l0_2 x25_2).f1).length c236_1, .slice A236_2 ((rd_T40 l0_2 x25_2).f2).length c236_2, .slice A236_3 ((rd_T40 l0_2 x25_2).f3).length c236_3, .int .i64 ((rd_T40 l0_2 x25_2).f4)], .bool a2] rfl (by (try simp only [List.map_toArray, List.map_cons, List.map_nil]); first | done | rfl | (simp only [List.length_drop, List.length_take]; rfl)) ?_; (with_reducible refine (siphon_side.calls k2 ((rd_T40 l0_2 x25_2).f0) _ _ ((rd_T40 l0_2 x25_2).f1) _ _ ((rd_T40 l0_2 x25_2).f2) _ _ ((rd_T40 l0_2 x25_2).f3) ((rd_T40 l0_2 x25_2).f4) a2 t238 t239 _ ?side1 ?side2 ?side3 ?side4 ?side5 ?side6 A15.out).mono ?_); (case side1 => exact Kd.C_below HR236_1.out (by repeat (first | (with_reducible first | exact HB.out | apply below_alloc | apply pw_below_drewN | apply below_drew1 | refine below_set ?_ GE232.out | refine below_set ?_ GE237.out) | exact HB.out))); (case side2 => exact HC236_1.out); (case side3 => exact Kd.C_below HR236_2.out (by repeat (first | (with_reducible first | exact HB.out | apply below_alloc | apply pw_below_drewN | apply below_drew1 | refine below_set ?_ GE232.out | refine below_set ?_ GE237.out) | exact HB.out))); (case side4 => exact HC236_2.out); (case side5 => exact Kd.C_below HR236_3.out (by repeat (first | (with_reducible first | exact HB.out | apply below_alloc | apply pw_below_drewN | apply below_drew1 | refine below_set ?_ GE232.out | refine below_set ?_ GE237.out) | exact HB.out))); (case side6 => exact HC236_3.out); rintro e w25 ⟨rfl, hb⟩; refine ⟨_, rfl, ?_⟩; have n0_ := Aside0.mk (blk_below (g := gb232) (o := .cells #[.string a0_0, .slice A0_1 l0_1.length c0_1, .slice (some ad236) l0_2.length c0_2] 25 (0, 0)) (by (with_reducible repeat (first | refine blk_drewN ?_ _ | refine blk_drew ?_ | refine blk_alloc ?_ _)); refine blk_far ?_ NB232_237.out _; (with_reducible repeat (first | refine blk_drewN ?_ _ | refine blk_drew ?_ | refine blk_alloc ?_ _)); refine blk_far ?_ NB232_237.out _; (with_reducible repeat (first | refine blk_drewN ?_ _ | refine blk_drew ?_ | refine blk_alloc ?_ _)); refine blk_far ?_ NB232_237.out _; (with_reducible repeat (first | refine blk_drewN ?_ _ | refine blk_drew ?_ | refine blk_alloc ?_ _)); refine blk_far ?_ NB232_237.out _; (with_reducible repeat (first | refine blk_drewN ?_ _ | refine blk_drew ?_ | refine blk_alloc ?_ _)); refine blk_far ?_ NB232_237.out _; (with_reducible repeat (first | refine blk_drewN ?_ _ | refine blk_drew ?_ | refine blk_alloc ?_ _)); exact BK232.out) hb); have n1_ := Aside0.mk (blk_below (g := gb237) (o := .cells #[.string ((rd_T40 l0_2 x25_2).f0), .slice A236_1 ((rd_T40 l0_2 x25_2).f1).length c236_1, .slice A236_2 ((rd_T40 l0_2 x25_2).f2).length c236_2, .slice A236_3 ((rd_T40 l0_2 x25_2).f3).length c236_3, .int .i64 ((rd_T40 l0_2 x25_2).f4)] 40 (0, 0)) (by (with_reducible repeat (first | refine blk_drewN ?_ _ | refine blk_drew ?_ | refine blk_alloc ?_ _)); refine blk_put (cs := #[.string ((rd_T40 l0_2 x25_2).f0), .slice A236_1 ((rd_T40 l0_2 x25_2).f1).length c236_1, .slice A236_2 ((rd_T40 l0_2 x25_2).f2).length c236_2, .slice A236_3 ((rd_T40 l0_2 x25_2).f3).length c236_3, .int .i64 0]) ?_ 4 _ rfl; (with_reducible repeat (first | refine blk_drewN ?_ _ | refine blk_drew ?_ | refine blk_alloc ?_ _)); refine blk_put (cs := #[.string ((rd_T40 l0_2 x25_2).f0), .slice A236_1 ((rd_T40 l0_2 x25_2).f1).length c236_1, .slice A236_2 ((rd_T40 l0_2 x25_2).f2).length c236_2, .slice none 0 0, .int .i64 0]) ?_ 3 _ rfl; (with_reducible repeat (first | refine blk_drewN ?_ _ | refine blk_drew ?_ | refine blk_alloc ?_ _)); refine blk_put (cs := #[.string ((rd_T40 l0_2 x25_2).f0), .slice A236_1 ((rd_T40 l0_2 x25_2).f1).length c236_1, .slice none 0 0, .slice none 0 0, .int .i64 0]) ?_ 2 _ rfl; (with_reducible repeat (first | refine blk_drewN ?_ _ | refine blk_drew ?_ | refine blk_alloc ?_ _)); refine blk_put (cs := #[.string ((rd_T40 l0_2 x25_2).f0), .slice none 0 0, .slice none 0 0, .slice none 0 0, .int .i64 0]) ?_ 1 _ rfl; (with_reducible repeat (first | refine blk_drewN ?_ _ | refine blk_drew ?_ | refine blk_alloc ?_ _)); refine blk_put (cs := #[.string (⟨#[]⟩ : ByteArray), .slice none 0 0, .slice none 0 0, .slice none 0 0, .int .i64 0]) ?_ 0 _ rfl; (with_reducible repeat (first | refine blk_drewN ?_ _ | refine blk_drew ?_ | refine blk_alloc ?_ _)); exact BK237.out) hb); have n2_ := Aside0.mk (below_step (by repeat (first | (with_reducible first | exact HB.out | apply below_alloc | apply pw_below_drewN | apply below_drew1 | refine below_set ?_ GE232.out | refine below_set ?_ GE237.out) | exact HB.out)) hb); clear BK232; clear BK237; clear HB; have BK232 := n0_; have BK237 := n1_; have HB := n2_; clear n0_ n1_ n2_; (try clear hb); (try clear hb2); (try clear hk); (try clear hi)))
           repeat (go_step3; (first | (go_simp; go_wp2_with (first | ((with_reducible refine gate_dst (N := 9) rfl ?_); refine box_event ?hg (N := 9) ?hd (cs := #[.string (⟨#[]⟩ : ByteArray), .slice none 0 0, .slice none 0 0, .slice none 0 0, .int .i64 0]) (t := 40) ?hr ?_; (case hd => rfl); (case hg => rfl); (case hr => first | (go_simp; done) | (go_simp; rfl)); intro gb237 hg w22 hbox hb; have n0_ := Aside0.mk (blk_below (g := gb232) (o := .cells #[.string a0_0, .slice A0_1 l0_1.length c0_1, .slice (some ad236) l0_2.length c0_2] 25 (0, 0)) (by (with_reducible repeat (first | refine blk_drewN ?_ _ | refine blk_drew ?_ | refine blk_alloc ?_ _)); exact BK232.out) hb); have n1_ := Aside0.mk (below_step (by repeat (first | (with_reducible first | exact HB.out | apply below_alloc | apply pw_below_drewN | apply below_drew1 | refine below_set ?_ GE232.out) | exact HB.out)) hb); have n2_ := Aside0.mk (hbox); have n3_ := Aside0.mk ((by rw [hg]; exact (below_size (by repeat (first | (with_reducible first | exact HB.out | apply below_alloc | apply pw_below_drewN | apply below_drew1 | refine below_set ?_ GE232.out) | exact HB.out))) : w.heap.size ≤ gb237)); have n4_ := Aside0.mk ((by rw [hg]; exact (below_size (by repeat (first | (with_reducible first | exact HB.out | apply below_alloc | apply pw_below_drewN | apply below_drew1 | refine below_set ?_ GE232.out) | exact HB.out))) : w.heap.size ≤ gb237)); have n5_ := Aside0.mk ((by rw [hg]; exact Nat.ne_of_lt (blk_lt (g := gb232) (o := .cells #[.string a0_0, .slice A0_1 l0_1.length c0_1, .slice (some ad236) l0_2.length c0_2] 25 (0, 0)) (by (with_reducible repeat (first | refine blk_drewN ?_ _ | refine blk_drew ?_ | refine blk_alloc ?_ _)); exact BK232.out)) : gb232 ≠ gb237)); have n6_ := Aside0.mk ((by rw [hg]; exact Nat.ne_of_gt (blk_lt (g := gb232) (o := .cells #[.string a0_0, .slice A0_1 l0_1.length c0_1, .slice (some ad236) l0_2.length c0_2] 25 (0, 0)) (by (with_reducible repeat (first | refine blk_drewN ?_ _ | refine blk_drew ?_ | refine blk_alloc ?_ _)); exact BK232.out)) : gb237 ≠ gb232)); clear BK232; clear HB; have BK232 := n0_; have HB := n1_; have BK237 := n2_; have GW237 := n3_; have GE237 := n4_; have NB232_237 := n5_; have NB237_232 := n6_; clear n0_ n1_ n2_ n3_ n4_ n5_ n6_; clear hb hbox hg; have hnb23 := NB237_232.out; have hnc23 := NB232_237.out; have hcz24_0 : w22.cell? ⟨gb237, 0, none⟩ = some (.string (⟨#[]⟩ : ByteArray)) := (blk_cell BK237.out 0).trans rfl; have hcz24_1 : w22.cell? ⟨gb237, 1, none⟩ = some (.slice none 0 0) := (blk_cell BK237.out 1).trans rfl; have hcz24_2 : w22.cell? ⟨gb237, 2, none⟩ = some (.slice none 0 0) := (blk_cell BK237.out 2).trans rfl; have hcz24_3 : w22.cell? ⟨gb237, 3, none⟩ = some (.slice none 0 0) := (blk_cell BK237.out 3).trans rfl; have hcz24_4 : w22.cell? ⟨gb237, 4, none⟩ = some (.int .i64 0) := (blk_cell BK237.out 4).trans rfl; have hfz24_0 := blk_frozen BK237.out 0; have hfz24_1 := blk_frozen BK237.out 1; have hfz24_2 := blk_frozen BK237.out 2; have hfz24_3 := blk_frozen BK237.out 3; have hfz24_4 := blk_frozen BK237.out 4) | ((with_reducible refine gate_callee (f := 59) rfl ?_); refine goesL_ (some 32) rfl rfl Try.func59 (by kernel_rfl) rfl #[.agg #[.string ((rd_T40 l0_2 x25_2).f0), .slice A236_1 ((rd_T40 l0_2 x25_2).f1).length c236_1, .slice A236_2 ((rd_T40 l0_2 x25_2).f2).length c236_2, .slice A236_3 ((rd_T40 l0_2 x25_2).f3).length c236_3, .int .i64 ((rd_T40 l0_2 x25_2).f4)], .bool a2] rfl (by (try simp only [List.map_toArray, List.map_cons, List.map_nil]); first | done | rfl | (simp only [List.length_drop, List.length_take]; rfl)) ?_; (with_reducible refine (siphon_side.calls k2 ((rd_T40 l0_2 x25_2).f0) _ _ ((rd_T40 l0_2 x25_2).f1) _ _ ((rd_T40 l0_2 x25_2).f2) _ _ ((rd_T40 l0_2 x25_2).f3) ((rd_T40 l0_2 x25_2).f4) a2 t238 t239 _ ?side1 ?side2 ?side3 ?side4 ?side5 ?side6 A15.out).mono ?_); (case side1 => exact Kd.C_below HR236_1.out (by repeat (first | (with_reducible first | exact HB.out | apply below_alloc | apply pw_below_drewN | apply below_drew1 | refine below_set ?_ GE232.out | refine below_set ?_ GE237.out) | exact HB.out))); (case side2 => exact HC236_1.out); (case side3 => exact Kd.C_below HR236_2.out (by repeat (first | (with_reducible first | exact HB.out | apply below_alloc | apply pw_below_drewN | apply below_drew1 | refine below_set ?_ GE232.out | refine below_set ?_ GE237.out) | exact HB.out))); (case side4 => exact HC236_2.out); (case side5 => exact Kd.C_below HR236_3.out (by repeat (first | (with_reducible first | exact HB.out | apply below_alloc | apply pw_below_drewN | apply below_drew1 | refine below_set ?_ GE232.out | refine below_set ?_ GE237.out) | exact HB.out))); (case side6 => exact HC236_3.out); rintro e w25 ⟨rfl, hb⟩; refine ⟨_, rfl, ?_⟩; have n0_ := Aside0.mk (blk_below (g := gb232) (o := .cells #[.string a0_0, .slice A0_1 l0_1.length c0_1, .slice (some ad236) l0_2.length c0_2] 25 (0, 0)) (by (with_reducible repeat (first | refine blk_drewN ?_ _ | refine blk_drew ?_ | refine blk_alloc ?_ _)); refine blk_far ?_ NB232_237.out _; (with_reducible repeat (first | refine blk_drewN ?_ _ | refine blk_drew ?_ | refine blk_alloc ?_ _)); refine blk_far ?_ NB232_237.out _; (with_reducible repeat (first | refine blk_drewN ?_ _ | refine blk_drew ?_ | refine blk_alloc ?_ _)); refine blk_far ?_ NB232_237.out _; (with_reducible repeat (first | refine blk_drewN ?_ _ | refine blk_drew ?_ | refine blk_alloc ?_ _)); refine blk_far ?_ NB232_237.out _; (with_reducible repeat (first | refine blk_drewN ?_ _ | refine blk_drew ?_ | refine blk_alloc ?_ _)); refine blk_far ?_ NB232_237.out _; (with_reducible repeat (first | refine blk_drewN ?_ _ | refine blk_drew ?_ | refine blk_alloc ?_ _)); exact BK232.out) hb); have n1_ := Aside0.mk (blk_below (g := gb237) (o := .cells #[.string ((rd_T40 l0_2 x25_2).f0), .slice A236_1 ((rd_T40 l0_2 x25_2).f1).length c236_1, .slice A236_2 ((rd_T40 l0_2 x25_2).f2).length c236_2, .slice A236_3 ((rd_T40 l0_2 x25_2).f3).length c236_3, .int .i64 ((rd_T40 l0_2 x25_2).f4)] 40 (0, 0)) (by (with_reducible repeat (first | refine blk_drewN ?_ _ | refine blk_drew ?_ | refine blk_alloc ?_ _)); refine blk_put (cs := #[.string ((rd_T40 l0_2 x25_2).f0), .slice A236_1 ((rd_T40 l0_2 x25_2).f1).length c236_1, .slice A236_2 ((rd_T40 l0_2 x25_2).f2).length c236_2, .slice A236_3 ((rd_T40 l0_2 x25_2).f3).length c236_3, .int .i64 0]) ?_ 4 _ rfl; (with_reducible repeat (first | refine blk_drewN ?_ _ | refine blk_drew ?_ | refine blk_alloc ?_ _)); refine blk_put (cs := #[.string ((rd_T40 l0_2 x25_2).f0), .slice A236_1 ((rd_T40 l0_2 x25_2).f1).length c236_1, .slice A236_2 ((rd_T40 l0_2 x25_2).f2).length c236_2, .slice none 0 0, .int .i64 0]) ?_ 3 _ rfl; (with_reducible repeat (first | refine blk_drewN ?_ _ | refine blk_drew ?_ | refine blk_alloc ?_ _)); refine blk_put (cs := #[.string ((rd_T40 l0_2 x25_2).f0), .slice A236_1 ((rd_T40 l0_2 x25_2).f1).length c236_1, .slice none 0 0, .slice none 0 0, .int .i64 0]) ?_ 2 _ rfl; (with_reducible repeat (first | refine blk_drewN ?_ _ | refine blk_drew ?_ | refine blk_alloc ?_ _)); refine blk_put (cs := #[.string ((rd_T40 l0_2 x25_2).f0), .slice none 0 0, .slice none 0 0, .slice none 0 0, .int .i64 0]) ?_ 1 _ rfl; (with_reducible repeat (first | refine blk_drewN ?_ _ | refine blk_drew ?_ | refine blk_alloc ?_ _)); refine blk_put (cs := #[.string (⟨#[]⟩ : ByteArray), .slice none 0 0, .slice none 0 0, .slice none 0 0, .int .i64 0]) ?_ 0 _ rfl; (with_reducible repeat (first | refine blk_drewN ?_ _ | refine blk_drew ?_ | refine blk_alloc ?_ _)); exact BK237.out) hb); have n2_ := Aside0.mk (below_step (by repeat (first | (with_reducible first | exact HB.out | apply below_alloc | apply pw_below_drewN | apply below_drew1 | refine below_set ?_ GE232.out | refine below_set ?_ GE237.out) | exact HB.out)) hb); clear BK232; clear BK237; clear HB; have BK232 := n0_; have BK237 := n1_; have HB := n2_; clear n0_ n1_ n2_; (try clear hb); (try clear hb2); (try clear hk); (try clear hi)))) | go_wp2))
           try simp only [Exit.noGoto_ret, Exit.noGoto_normal, Exit.noGoto_exit]
           go_roundg k2
           case measure => have := HK1.out; have := HK2.out; omega
           case rel => exact ⟨(Go.bits .andNot .u64 x7_2 t238), (by first | rfl | (simp; done) | (simp [*]; done) | (simp [i64_w]; done)), H', ⟨by have := HK1.out; have := HK2.out; omega⟩, ⟨by (with_reducible repeat (first | refine blk_drewN ?_ _ | refine blk_drew ?_ | refine blk_alloc ?_ _)); exact BK232.out⟩, ⟨by repeat (first | (with_reducible first | exact HB.out | apply below_alloc | apply pw_below_drewN | apply below_drew1 | refine below_set ?_ GE232.out | refine below_set ?_ GE237.out) | exact HB.out)⟩⟩
          ·
           rw [if_neg c21] at H
           have c21b0 : ((Go.bits .and .u64 t239 x7_2) == 0) = false := beq_eq_false_iff_ne.mpr c21
           have c21b1 : ((Go.bits .and .u64 t239 x7_2) != 0) = true := bne_iff_ne.mpr c21
           have H' := Aside0.mk H
           clear H
           have p236 : 0 ≤ (x25_2 : Int) := of_decide_eq_true (by first | (with_reducible assumption) | assumption)
           have q236 : x25_2 < (l0_2.length : Int) := of_decide_eq_true (by first | (with_reducible assumption) | assumption)
           obtain ⟨ad236, A236_1, c236_1, A236_2, c236_2, A236_3, c236_3, e236, hx236_0, hx236_1, hx236_2, hx236_3, hx236_4, hl236_1, hi236_1, hl236_2, hi236_2, hl236_3, hi236_3⟩ := at_T40 HR0_2.out x25_2 p236 q236
           cases e236
           replace hx236_0 := (HB.out.cell (World.block_lt_of_cell? w _ hx236_0)).trans hx236_0
           replace hx236_1 := (HB.out.cell (World.block_lt_of_cell? w _ hx236_1)).trans hx236_1
           replace hx236_2 := (HB.out.cell (World.block_lt_of_cell? w _ hx236_2)).trans hx236_2
           replace hx236_3 := (HB.out.cell (World.block_lt_of_cell? w _ hx236_3)).trans hx236_3
           replace hx236_4 := (HB.out.cell (World.block_lt_of_cell? w _ hx236_4)).trans hx236_4
           have HR236_1 := Aside0.mk hi236_1
           have HC236_1 := Aside0.mk hl236_1
           clear hi236_1 hl236_1
           have HR236_2 := Aside0.mk hi236_2
           have HC236_2 := Aside0.mk hl236_2
           clear hi236_2 hl236_2
           have HR236_3 := Aside0.mk hi236_3
           have HC236_3 := Aside0.mk hl236_3
           clear hi236_3 hl236_3
           replace p236 := eq_true p236
           replace q236 := eq_true q236
           go_wp2_with (first | ((with_reducible refine gate_dst (N := 9) rfl ?_); refine box_event ?hg (N := 9) ?hd (cs := #[.string (⟨#[]⟩ : ByteArray), .slice none 0 0, .slice none 0 0, .slice none 0 0, .int .i64 0]) (t := 40) ?hr ?_; (case hd => rfl); (case hg => rfl); (case hr => first | (go_simp; done) | (go_simp; rfl)); intro gb237 hg w26 hbox hb; have n0_ := Aside0.mk (blk_below (g := gb232) (o := .cells #[.string a0_0, .slice A0_1 l0_1.length c0_1, .slice (some ad236) l0_2.length c0_2] 25 (0, 0)) (by (with_reducible repeat (first | refine blk_drewN ?_ _ | refine blk_drew ?_ | refine blk_alloc ?_ _)); exact BK232.out) hb); have n1_ := Aside0.mk (below_step (by repeat (first | (with_reducible first | exact HB.out | apply below_alloc | apply pw_below_drewN | apply below_drew1 | refine below_set ?_ GE232.out) | exact HB.out)) hb); have n2_ := Aside0.mk (hbox); have n3_ := Aside0.mk ((by rw [hg]; exact (below_size (by repeat (first | (with_reducible first | exact HB.out | apply below_alloc | apply pw_below_drewN | apply below_drew1 | refine below_set ?_ GE232.out) | exact HB.out))) : w.heap.size ≤ gb237)); have n4_ := Aside0.mk ((by rw [hg]; exact (below_size (by repeat (first | (with_reducible first | exact HB.out | apply below_alloc | apply pw_below_drewN | apply below_drew1 | refine below_set ?_ GE232.out) | exact HB.out))) : w.heap.size ≤ gb237)); have n5_ := Aside0.mk ((by rw [hg]; exact Nat.ne_of_lt (blk_lt (g := gb232) (o := .cells #[.string a0_0, .slice A0_1 l0_1.length c0_1, .slice (some ad236) l0_2.length c0_2] 25 (0, 0)) (by (with_reducible repeat (first | refine blk_drewN ?_ _ | refine blk_drew ?_ | refine blk_alloc ?_ _)); exact BK232.out)) : gb232 ≠ gb237)); have n6_ := Aside0.mk ((by rw [hg]; exact Nat.ne_of_gt (blk_lt (g := gb232) (o := .cells #[.string a0_0, .slice A0_1 l0_1.length c0_1, .slice (some ad236) l0_2.length c0_2] 25 (0, 0)) (by (with_reducible repeat (first | refine blk_drewN ?_ _ | refine blk_drew ?_ | refine blk_alloc ?_ _)); exact BK232.out)) : gb237 ≠ gb232)); clear BK232; clear HB; have BK232 := n0_; have HB := n1_; have BK237 := n2_; have GW237 := n3_; have GE237 := n4_; have NB232_237 := n5_; have NB237_232 := n6_; clear n0_ n1_ n2_ n3_ n4_ n5_ n6_; clear hb hbox hg; have hnb27 := NB237_232.out; have hnc27 := NB232_237.out; have hcz28_0 : w26.cell? ⟨gb237, 0, none⟩ = some (.string (⟨#[]⟩ : ByteArray)) := (blk_cell BK237.out 0).trans rfl; have hcz28_1 : w26.cell? ⟨gb237, 1, none⟩ = some (.slice none 0 0) := (blk_cell BK237.out 1).trans rfl; have hcz28_2 : w26.cell? ⟨gb237, 2, none⟩ = some (.slice none 0 0) := (blk_cell BK237.out 2).trans rfl; have hcz28_3 : w26.cell? ⟨gb237, 3, none⟩ = some (.slice none 0 0) := (blk_cell BK237.out 3).trans rfl; have hcz28_4 : w26.cell? ⟨gb237, 4, none⟩ = some (.int .i64 0) := (blk_cell BK237.out 4).trans rfl; have hfz28_0 := blk_frozen BK237.out 0; have hfz28_1 := blk_frozen BK237.out 1; have hfz28_2 := blk_frozen BK237.out 2; have hfz28_3 := blk_frozen BK237.out 3; have hfz28_4 := blk_frozen BK237.out 4) | ((with_reducible refine gate_callee (f := 59) rfl ?_); refine goesL_ (some 32) rfl rfl Try.func59 (by kernel_rfl) rfl #[.agg #[.string ((rd_T40 l0_2 x25_2).f0), .slice A236_1 ((rd_T40 l0_2 x25_2).f1).length c236_1, .slice A236_2 ((rd_T40 l0_2 x25_2).f2).length c236_2, .slice A236_3 ((rd_T40 l0_2 x25_2).f3).length c236_3, .int .i64 ((rd_T40 l0_2 x25_2).f4)], .bool a2] rfl (by (try simp only [List.map_toArray, List.map_cons, List.map_nil]); first | done | rfl | (simp only [List.length_drop, List.length_take]; rfl)) ?_; (with_reducible refine (siphon_side.calls k2 ((rd_T40 l0_2 x25_2).f0) _ _ ((rd_T40 l0_2 x25_2).f1) _ _ ((rd_T40 l0_2 x25_2).f2) _ _ ((rd_T40 l0_2 x25_2).f3) ((rd_T40 l0_2 x25_2).f4) a2 t238 t239 _ ?side1 ?side2 ?side3 ?side4 ?side5 ?side6 A15.out).mono ?_); (case side1 => exact Kd.C_below HR236_1.out (by repeat (first | (with_reducible first | exact HB.out | apply below_alloc | apply pw_below_drewN | apply below_drew1 | refine below_set ?_ GE232.out | refine below_set ?_ GE237.out) | exact HB.out))); (case side2 => exact HC236_1.out); (case side3 => exact Kd.C_below HR236_2.out (by repeat (first | (with_reducible first | exact HB.out | apply below_alloc | apply pw_below_drewN | apply below_drew1 | refine below_set ?_ GE232.out | refine below_set ?_ GE237.out) | exact HB.out))); (case side4 => exact HC236_2.out); (case side5 => exact Kd.C_below HR236_3.out (by repeat (first | (with_reducible first | exact HB.out | apply below_alloc | apply pw_below_drewN | apply below_drew1 | refine below_set ?_ GE232.out | refine below_set ?_ GE237.out) | exact HB.out))); (case side6 => exact HC236_3.out); rintro e w29 ⟨rfl, hb⟩; refine ⟨_, rfl, ?_⟩; have n0_ := Aside0.mk (blk_below (g := gb232) (o := .cells #[.string a0_0, .slice A0_1 l0_1.length c0_1, .slice (some ad236) l0_2.length c0_2] 25 (0, 0)) (by (with_reducible repeat (first | refine blk_drewN ?_ _ | refine blk_drew ?_ | refine blk_alloc ?_ _)); refine blk_far ?_ NB232_237.out _; (with_reducible repeat (first | refine blk_drewN ?_ _ | refine blk_drew ?_ | refine blk_alloc ?_ _)); refine blk_far ?_ NB232_237.out _; (with_reducible repeat (first | refine blk_drewN ?_ _ | refine blk_drew ?_ | refine blk_alloc ?_ _)); refine blk_far ?_ NB232_237.out _; (with_reducible repeat (first | refine blk_drewN ?_ _ | refine blk_drew ?_ | refine blk_alloc ?_ _)); refine blk_far ?_ NB232_237.out _; (with_reducible repeat (first | refine blk_drewN ?_ _ | refine blk_drew ?_ | refine blk_alloc ?_ _)); refine blk_far ?_ NB232_237.out _; (with_reducible repeat (first | refine blk_drewN ?_ _ | refine blk_drew ?_ | refine blk_alloc ?_ _)); exact BK232.out) hb); have n1_ := Aside0.mk (blk_below (g := gb237) (o := .cells #[.string ((rd_T40 l0_2 x25_2).f0), .slice A236_1 ((rd_T40 l0_2 x25_2).f1).length c236_1, .slice A236_2 ((rd_T40 l0_2 x25_2).f2).length c236_2, .slice A236_3 ((rd_T40 l0_2 x25_2).f3).length c236_3, .int .i64 ((rd_T40 l0_2 x25_2).f4)] 40 (0, 0)) (by (with_reducible repeat (first | refine blk_drewN ?_ _ | refine blk_drew ?_ | refine blk_alloc ?_ _)); refine blk_put (cs := #[.string ((rd_T40 l0_2 x25_2).f0), .slice A236_1 ((rd_T40 l0_2 x25_2).f1).length c236_1, .slice A236_2 ((rd_T40 l0_2 x25_2).f2).length c236_2, .slice A236_3 ((rd_T40 l0_2 x25_2).f3).length c236_3, .int .i64 0]) ?_ 4 _ rfl; (with_reducible repeat (first | refine blk_drewN ?_ _ | refine blk_drew ?_ | refine blk_alloc ?_ _)); refine blk_put (cs := #[.string ((rd_T40 l0_2 x25_2).f0), .slice A236_1 ((rd_T40 l0_2 x25_2).f1).length c236_1, .slice A236_2 ((rd_T40 l0_2 x25_2).f2).length c236_2, .slice none 0 0, .int .i64 0]) ?_ 3 _ rfl; (with_reducible repeat (first | refine blk_drewN ?_ _ | refine blk_drew ?_ | refine blk_alloc ?_ _)); refine blk_put (cs := #[.string ((rd_T40 l0_2 x25_2).f0), .slice A236_1 ((rd_T40 l0_2 x25_2).f1).length c236_1, .slice none 0 0, .slice none 0 0, .int .i64 0]) ?_ 2 _ rfl; (with_reducible repeat (first | refine blk_drewN ?_ _ | refine blk_drew ?_ | refine blk_alloc ?_ _)); refine blk_put (cs := #[.string ((rd_T40 l0_2 x25_2).f0), .slice none 0 0, .slice none 0 0, .slice none 0 0, .int .i64 0]) ?_ 1 _ rfl; (with_reducible repeat (first | refine blk_drewN ?_ _ | refine blk_drew ?_ | refine blk_alloc ?_ _)); refine blk_put (cs := #[.string (⟨#[]⟩ : ByteArray), .slice none 0 0, .slice none 0 0, .slice none 0 0, .int .i64 0]) ?_ 0 _ rfl; (with_reducible repeat (first | refine blk_drewN ?_ _ | refine blk_drew ?_ | refine blk_alloc ?_ _)); exact BK237.out) hb); have n2_ := Aside0.mk (below_step (by repeat (first | (with_reducible first | exact HB.out | apply below_alloc | apply pw_below_drewN | apply below_drew1 | refine below_set ?_ GE232.out | refine below_set ?_ GE237.out) | exact HB.out)) hb); clear BK232; clear BK237; clear HB; have BK232 := n0_; have BK237 := n1_; have HB := n2_; clear n0_ n1_ n2_; (try clear hb); (try clear hb2); (try clear hk); (try clear hi)))
           repeat (go_step3; (first | (go_simp; go_wp2_with (first | ((with_reducible refine gate_dst (N := 9) rfl ?_); refine box_event ?hg (N := 9) ?hd (cs := #[.string (⟨#[]⟩ : ByteArray), .slice none 0 0, .slice none 0 0, .slice none 0 0, .int .i64 0]) (t := 40) ?hr ?_; (case hd => rfl); (case hg => rfl); (case hr => first | (go_simp; done) | (go_simp; rfl)); intro gb237 hg w26 hbox hb; have n0_ := Aside0.mk (blk_below (g := gb232) (o := .cells #[.string a0_0, .slice A0_1 l0_1.length c0_1, .slice (some ad236) l0_2.length c0_2] 25 (0, 0)) (by (with_reducible repeat (first | refine blk_drewN ?_ _ | refine blk_drew ?_ | refine blk_alloc ?_ _)); exact BK232.out) hb); have n1_ := Aside0.mk (below_step (by repeat (first | (with_reducible first | exact HB.out | apply below_alloc | apply pw_below_drewN | apply below_drew1 | refine below_set ?_ GE232.out) | exact HB.out)) hb); have n2_ := Aside0.mk (hbox); have n3_ := Aside0.mk ((by rw [hg]; exact (below_size (by repeat (first | (with_reducible first | exact HB.out | apply below_alloc | apply pw_below_drewN | apply below_drew1 | refine below_set ?_ GE232.out) | exact HB.out))) : w.heap.size ≤ gb237)); have n4_ := Aside0.mk ((by rw [hg]; exact (below_size (by repeat (first | (with_reducible first | exact HB.out | apply below_alloc | apply pw_below_drewN | apply below_drew1 | refine below_set ?_ GE232.out) | exact HB.out))) : w.heap.size ≤ gb237)); have n5_ := Aside0.mk ((by rw [hg]; exact Nat.ne_of_lt (blk_lt (g := gb232) (o := .cells #[.string a0_0, .slice A0_1 l0_1.length c0_1, .slice (some ad236) l0_2.length c0_2] 25 (0, 0)) (by (with_reducible repeat (first | refine blk_drewN ?_ _ | refine blk_drew ?_ | refine blk_alloc ?_ _)); exact BK232.out)) : gb232 ≠ gb237)); have n6_ := Aside0.mk ((by rw [hg]; exact Nat.ne_of_gt (blk_lt (g := gb232) (o := .cells #[.string a0_0, .slice A0_1 l0_1.length c0_1, .slice (some ad236) l0_2.length c0_2] 25 (0, 0)) (by (with_reducible repeat (first | refine blk_drewN ?_ _ | refine blk_drew ?_ | refine blk_alloc ?_ _)); exact BK232.out)) : gb237 ≠ gb232)); clear BK232; clear HB; have BK232 := n0_; have HB := n1_; have BK237 := n2_; have GW237 := n3_; have GE237 := n4_; have NB232_237 := n5_; have NB237_232 := n6_; clear n0_ n1_ n2_ n3_ n4_ n5_ n6_; clear hb hbox hg; have hnb27 := NB237_232.out; have hnc27 := NB232_237.out; have hcz28_0 : w26.cell? ⟨gb237, 0, none⟩ = some (.string (⟨#[]⟩ : ByteArray)) := (blk_cell BK237.out 0).trans rfl; have hcz28_1 : w26.cell? ⟨gb237, 1, none⟩ = some (.slice none 0 0) := (blk_cell BK237.out 1).trans rfl; have hcz28_2 : w26.cell? ⟨gb237, 2, none⟩ = some (.slice none 0 0) := (blk_cell BK237.out 2).trans rfl; have hcz28_3 : w26.cell? ⟨gb237, 3, none⟩ = some (.slice none 0 0) := (blk_cell BK237.out 3).trans rfl; have hcz28_4 : w26.cell? ⟨gb237, 4, none⟩ = some (.int .i64 0) := (blk_cell BK237.out 4).trans rfl; have hfz28_0 := blk_frozen BK237.out 0; have hfz28_1 := blk_frozen BK237.out 1; have hfz28_2 := blk_frozen BK237.out 2; have hfz28_3 := blk_frozen BK237.out 3; have hfz28_4 := blk_frozen BK237.out 4) | ((with_reducible refine gate_callee (f := 59) rfl ?_); refine goesL_ (some 32) rfl rfl Try.func59 (by kernel_rfl) rfl #[.agg #[.string ((rd_T40 l0_2 x25_2).f0), .slice A236_1 ((rd_T40 l0_2 x25_2).f1).length c236_1, .slice A236_2 ((rd_T40 l0_2 x25_2).f2).length c236_2, .slice A236_3 ((rd_T40 l0_2 x25_2).f3).length c236_3, .int .i64 ((rd_T40 l0_2 x25_2).f4)], .bool a2] rfl (by (try simp only [List.map_toArray, List.map_cons, List.map_nil]); first | done | rfl | (simp only [List.length_drop, List.length_take]; rfl)) ?_; (with_reducible refine (siphon_side.calls k2 ((rd_T40 l0_2 x25_2).f0) _ _ ((rd_T40 l0_2 x25_2).f1) _ _ ((rd_T40 l0_2 x25_2).f2) _ _ ((rd_T40 l0_2 x25_2).f3) ((rd_T40 l0_2 x25_2).f4) a2 t238 t239 _ ?side1 ?side2 ?side3 ?side4 ?side5 ?side6 A15.out).mono ?_); (case side1 => exact Kd.C_below HR236_1.out (by repeat (first | (with_reducible first | exact HB.out | apply below_alloc | apply pw_below_drewN | apply below_drew1 | refine below_set ?_ GE232.out | refine below_set ?_ GE237.out) | exact HB.out))); (case side2 => exact HC236_1.out); (case side3 => exact Kd.C_below HR236_2.out (by repeat (first | (with_reducible first | exact HB.out | apply below_alloc | apply pw_below_drewN | apply below_drew1 | refine below_set ?_ GE232.out | refine below_set ?_ GE237.out) | exact HB.out))); (case side4 => exact HC236_2.out); (case side5 => exact Kd.C_below HR236_3.out (by repeat (first | (with_reducible first | exact HB.out | apply below_alloc | apply pw_below_drewN | apply below_drew1 | refine below_set ?_ GE232.out | refine below_set ?_ GE237.out) | exact HB.out))); (case side6 => exact HC236_3.out); rintro e w29 ⟨rfl, hb⟩; refine ⟨_, rfl, ?_⟩; have n0_ := Aside0.mk (blk_below (g := gb232) (o := .cells #[.string a0_0, .slice A0_1 l0_1.length c0_1, .slice (some ad236) l0_2.length c0_2] 25 (0, 0)) (by (with_reducible repeat (first | refine blk_drewN ?_ _ | refine blk_drew ?_ | refine blk_alloc ?_ _)); refine blk_far ?_ NB232_237.out _; (with_reducible repeat (first | refine blk_drewN ?_ _ | refine blk_drew ?_ | refine blk_alloc ?_ _)); refine blk_far ?_ NB232_237.out _; (with_reducible repeat (first | refine blk_drewN ?_ _ | refine blk_drew ?_ | refine blk_alloc ?_ _)); refine blk_far ?_ NB232_237.out _; (with_reducible repeat (first | refine blk_drewN ?_ _ | refine blk_drew ?_ | refine blk_alloc ?_ _)); refine blk_far ?_ NB232_237.out _; (with_reducible repeat (first | refine blk_drewN ?_ _ | refine blk_drew ?_ | refine blk_alloc ?_ _)); refine blk_far ?_ NB232_237.out _; (with_reducible repeat (first | refine blk_drewN ?_ _ | refine blk_drew ?_ | refine blk_alloc ?_ _)); exact BK232.out) hb); have n1_ := Aside0.mk (blk_below (g := gb237) (o := .cells #[.string ((rd_T40 l0_2 x25_2).f0), .slice A236_1 ((rd_T40 l0_2 x25_2).f1).length c236_1, .slice A236_2 ((rd_T40 l0_2 x25_2).f2).length c236_2, .slice A236_3 ((rd_T40 l0_2 x25_2).f3).length c236_3, .int .i64 ((rd_T40 l0_2 x25_2).f4)] 40 (0, 0)) (by (with_reducible repeat (first | refine blk_drewN ?_ _ | refine blk_drew ?_ | refine blk_alloc ?_ _)); refine blk_put (cs := #[.string ((rd_T40 l0_2 x25_2).f0), .slice A236_1 ((rd_T40 l0_2 x25_2).f1).length c236_1, .slice A236_2 ((rd_T40 l0_2 x25_2).f2).length c236_2, .slice A236_3 ((rd_T40 l0_2 x25_2).f3).length c236_3, .int .i64 0]) ?_ 4 _ rfl; (with_reducible repeat (first | refine blk_drewN ?_ _ | refine blk_drew ?_ | refine blk_alloc ?_ _)); refine blk_put (cs := #[.string ((rd_T40 l0_2 x25_2).f0), .slice A236_1 ((rd_T40 l0_2 x25_2).f1).length c236_1, .slice A236_2 ((rd_T40 l0_2 x25_2).f2).length c236_2, .slice none 0 0, .int .i64 0]) ?_ 3 _ rfl; (with_reducible repeat (first | refine blk_drewN ?_ _ | refine blk_drew ?_ | refine blk_alloc ?_ _)); refine blk_put (cs := #[.string ((rd_T40 l0_2 x25_2).f0), .slice A236_1 ((rd_T40 l0_2 x25_2).f1).length c236_1, .slice none 0 0, .slice none 0 0, .int .i64 0]) ?_ 2 _ rfl; (with_reducible repeat (first | refine blk_drewN ?_ _ | refine blk_drew ?_ | refine blk_alloc ?_ _)); refine blk_put (cs := #[.string ((rd_T40 l0_2 x25_2).f0), .slice none 0 0, .slice none 0 0, .slice none 0 0, .int .i64 0]) ?_ 1 _ rfl; (with_reducible repeat (first | refine blk_drewN ?_ _ | refine blk_drew ?_ | refine blk_alloc ?_ _)); refine blk_put (cs := #[.string (⟨#[]⟩ : ByteArray), .slice none 0 0, .slice none 0 0, .slice none 0 0, .int .i64 0]) ?_ 0 _ rfl; (with_reducible repeat (first | refine blk_drewN ?_ _ | refine blk_drew ?_ | refine blk_alloc ?_ _)); exact BK237.out) hb); have n2_ := Aside0.mk (below_step (by repeat (first | (with_reducible first | exact HB.out | apply below_alloc | apply pw_below_drewN | apply below_drew1 | refine below_set ?_ GE232.out | refine below_set ?_ GE237.out) | exact HB.out)) hb); clear BK232; clear BK237; clear HB; have BK232 := n0_; have BK237 := n1_; have HB := n2_; clear n0_ n1_ n2_; (try clear hb); (try clear hb2); (try clear hk); (try clear hi)))) | go_wp2))
           try simp only [Exit.noGoto_ret, Exit.noGoto_normal, Exit.noGoto_exit]
           go_roundg k2
           case measure => have := HK1.out; have := HK2.out; omega
           case rel => exact ⟨(x7_2), (wrap64 (x25_2 + 1)), (by first | rfl | (simp; done) | (simp [*]; done) | (simp [i64_w]; done)), (by first | rfl | (simp; done) | (simp [*]; done) | (simp [i64_w]; done)), H', ⟨by have := HK1.out; have := HK2.out; omega⟩, ⟨by (with_reducible repeat (first | refine blk_drewN ?_ _ | refine blk_drew ?_ | refine blk_alloc ?_ _)); exact BK232.out⟩, ⟨by repeat (first | (with_reducible first | exact HB.out | apply below_alloc | apply pw_below_drewN | apply below_drew1 | refine below_set ?_ GE232.out | refine below_set ?_ GE237.out) | exact HB.out)⟩⟩
        ·
         rw [if_neg c14] at H
         exact absurd H (by simp)
       ·
        rw [if_neg c13] at H
        exact absurd H (by simp)
      ·
       rw [if_neg c12] at H
       have c12b0 : decide (x25_2 < (l0_2.length : Int)) = false := decide_eq_false c12
       clear c12
       obtain rfl := Option.some.inj H
       (go_wp2; (repeat (go_step3; go_wp2)); try simp only [Exit.noGoto_ret, Exit.noGoto_normal, Exit.noGoto_exit])
       go_ret
       exact ⟨by first | rfl | (simp [errW_none, errW_some] <;> rfl) | (simp [*, errW_none, errW_some] <;> rfl), by repeat (first | (with_reducible first | exact HB.out | apply below_alloc | apply pw_below_drewN | apply below_drew1 | refine below_set ?_ GE232.out) | exact HB.out)⟩
 ·
  rw [if_neg c5] at H
  have c5b0 : (t233 == 0) = false := beq_eq_false_iff_ne.mpr c5
  have c5b1 : (t233 != 0) = true := bne_iff_ne.mpr c5
  obtain rfl := Option.some.inj H
  go_enter Try.func40, Try.ntmps40
  try apply wp_scope_straight
  go_wp2_with (first | ((with_reducible refine gate_dst (N := 3) rfl ?_); refine box_event ?hg (N := 3) ?hd (cs := #[.string a0_0, .slice A0_1 l0_1.length c0_1, .slice A0_2 l0_2.length c0_2]) (t := 25) ?hr ?_; (case hd => rfl); (case hg => rfl); (case hr => first | (go_simp; done) | (go_simp; rfl)); intro gb232 hg w30 hbox hb; have n0_ := Aside0.mk (below_step (by repeat (first | (with_reducible first | exact HB.out | apply below_alloc | apply pw_below_drewN | apply below_drew1) | exact HB.out)) hb); have n1_ := Aside0.mk (hbox); have n2_ := Aside0.mk ((by rw [hg]; exact (below_size (by repeat (first | (with_reducible first | exact HB.out | apply below_alloc | apply pw_below_drewN | apply below_drew1) | exact HB.out))) : w.heap.size ≤ gb232)); have n3_ := Aside0.mk ((by rw [hg]; exact (below_size (by repeat (first | (with_reducible first | exact HB.out | apply below_alloc | apply pw_below_drewN | apply below_drew1) | exact HB.out))) : w.heap.size ≤ gb232)); clear HB; have HB := n0_; have BK232 := n1_; have GW232 := n2_; have GE232 := n3_; clear n0_ n1_ n2_ n3_; clear hb hbox hg; have hcz31_0 : w30.cell? ⟨gb232, 0, none⟩ = some (.string a0_0) := (blk_cell BK232.out 0).trans rfl; have hcz31_1 : w30.cell? ⟨gb232, 1, none⟩ = some (.slice A0_1 l0_1.length c0_1) := (blk_cell BK232.out 1).trans rfl; have hcz31_2 : w30.cell? ⟨gb232, 2, none⟩ = some (.slice A0_2 l0_2.length c0_2) := (blk_cell BK232.out 2).trans rfl; have hfz31_0 := blk_frozen BK232.out 0; have hfz31_1 := blk_frozen BK232.out 1; have hfz31_2 := blk_frozen BK232.out 2) | ((with_reducible refine gate_callee (f := 54) rfl ?_); refine goesL_ (some 13) rfl rfl Try.func54 (by kernel_rfl) rfl #[.agg #[.string a0_0, .slice A0_1 l0_1.length c0_1, .slice A0_2 l0_2.length c0_2]] rfl (by (try simp only [List.map_toArray, List.map_cons, List.map_nil]); first | done | rfl | (simp only [List.length_drop, List.length_take]; rfl)) ?_; (with_reducible refine (net_Check.calls k a0_0 _ _ l0_1 _ _ l0_2 t233 t234 _ ?side1 ?side2 ?side3 ?side4 A4.out).mono ?_); (case side1 => repeat (first | exact (Kd.C_below HR0_1.out HB.out) | (with_reducible refine Kd.C_alloc ?_ _) | (with_reducible refine Kd.C_drewN ?_ _) | (with_reducible refine Kd.C_drew ?_))); (case side2 => exact HC0_1.out); (case side3 => repeat (first | exact (Kd.C_below HR0_2.out HB.out) | (with_reducible refine Kd.C_alloc ?_ _) | (with_reducible refine Kd.C_drewN ?_ _) | (with_reducible refine Kd.C_drew ?_))); (case side4 => exact HC0_2.out); rintro e w32 ⟨rfl, hb⟩; refine ⟨_, rfl, ?_⟩; have n0_ := Aside0.mk (blk_below (g := gb232) (o := .cells #[.string a0_0, .slice A0_1 l0_1.length c0_1, .slice A0_2 l0_2.length c0_2] 25 (0, 0)) (by (with_reducible repeat (first | refine blk_drewN ?_ _ | refine blk_drew ?_ | refine blk_alloc ?_ _)); exact BK232.out) hb); have n1_ := Aside0.mk (below_step (by repeat (first | (with_reducible first | exact HB.out | apply below_alloc | apply pw_below_drewN | apply below_drew1 | refine below_set ?_ GE232.out) | exact HB.out)) hb); clear BK232; clear HB; have BK232 := n0_; have HB := n1_; clear n0_ n1_; (try clear hb); (try clear hb2); (try clear hk); (try clear hi)))
  repeat (go_step3; (first | (go_simp; go_wp2_with (first | ((with_reducible refine gate_dst (N := 3) rfl ?_); refine box_event ?hg (N := 3) ?hd (cs := #[.string a0_0, .slice A0_1 l0_1.length c0_1, .slice A0_2 l0_2.length c0_2]) (t := 25) ?hr ?_; (case hd => rfl); (case hg => rfl); (case hr => first | (go_simp; done) | (go_simp; rfl)); intro gb232 hg w30 hbox hb; have n0_ := Aside0.mk (below_step (by repeat (first | (with_reducible first | exact HB.out | apply below_alloc | apply pw_below_drewN | apply below_drew1) | exact HB.out)) hb); have n1_ := Aside0.mk (hbox); have n2_ := Aside0.mk ((by rw [hg]; exact (below_size (by repeat (first | (with_reducible first | exact HB.out | apply below_alloc | apply pw_below_drewN | apply below_drew1) | exact HB.out))) : w.heap.size ≤ gb232)); have n3_ := Aside0.mk ((by rw [hg]; exact (below_size (by repeat (first | (with_reducible first | exact HB.out | apply below_alloc | apply pw_below_drewN | apply below_drew1) | exact HB.out))) : w.heap.size ≤ gb232)); clear HB; have HB := n0_; have BK232 := n1_; have GW232 := n2_; have GE232 := n3_; clear n0_ n1_ n2_ n3_; clear hb hbox hg; have hcz31_0 : w30.cell? ⟨gb232, 0, none⟩ = some (.string a0_0) := (blk_cell BK232.out 0).trans rfl; have hcz31_1 : w30.cell? ⟨gb232, 1, none⟩ = some (.slice A0_1 l0_1.length c0_1) := (blk_cell BK232.out 1).trans rfl; have hcz31_2 : w30.cell? ⟨gb232, 2, none⟩ = some (.slice A0_2 l0_2.length c0_2) := (blk_cell BK232.out 2).trans rfl; have hfz31_0 := blk_frozen BK232.out 0; have hfz31_1 := blk_frozen BK232.out 1; have hfz31_2 := blk_frozen BK232.out 2) | ((with_reducible refine gate_callee (f := 54) rfl ?_); refine goesL_ (some 13) rfl rfl Try.func54 (by kernel_rfl) rfl #[.agg #[.string a0_0, .slice A0_1 l0_1.length c0_1, .slice A0_2 l0_2.length c0_2]] rfl (by (try simp only [List.map_toArray, List.map_cons, List.map_nil]); first | done | rfl | (simp only [List.length_drop, List.length_take]; rfl)) ?_; (with_reducible refine (net_Check.calls k a0_0 _ _ l0_1 _ _ l0_2 t233 t234 _ ?side1 ?side2 ?side3 ?side4 A4.out).mono ?_); (case side1 => repeat (first | exact (Kd.C_below HR0_1.out HB.out) | (with_reducible refine Kd.C_alloc ?_ _) | (with_reducible refine Kd.C_drewN ?_ _) | (with_reducible refine Kd.C_drew ?_))); (case side2 => exact HC0_1.out); (case side3 => repeat (first | exact (Kd.C_below HR0_2.out HB.out) | (with_reducible refine Kd.C_alloc ?_ _) | (with_reducible refine Kd.C_drewN ?_ _) | (with_reducible refine Kd.C_drew ?_))); (case side4 => exact HC0_2.out); rintro e w32 ⟨rfl, hb⟩; refine ⟨_, rfl, ?_⟩; have n0_ := Aside0.mk (blk_below (g := gb232) (o := .cells #[.string a0_0, .slice A0_1 l0_1.length c0_1, .slice A0_2 l0_2.length c0_2] 25 (0, 0)) (by (with_reducible repeat (first | refine blk_drewN ?_ _ | refine blk_drew ?_ | refine blk_alloc ?_ _)); exact BK232.out) hb); have n1_ := Aside0.mk (below_step (by repeat (first | (with_reducible first | exact HB.out | apply below_alloc | apply pw_below_drewN | apply below_drew1 | refine below_set ?_ GE232.out) | exact HB.out)) hb); clear BK232; clear HB; have BK232 := n0_; have HB := n1_; clear n0_ n1_; (try clear hb); (try clear hb2); (try clear hk); (try clear hi)))) | go_wp2))
  try simp only [Exit.noGoto_ret, Exit.noGoto_normal, Exit.noGoto_exit]
  go_ret
  exact ⟨by first | rfl | (simp [errW_none, errW_some] <;> rfl) | (simp [*, errW_none, errW_some] <;> rfl), by repeat (first | (with_reducible first | exact HB.out | apply below_alloc | apply pw_below_drewN | apply below_drew1 | refine below_set ?_ GE232.out) | exact HB.out)⟩


/-! ### siphon_MaxSiphon: function 17 -/
def siphon_MaxSiphon.f (k : Nat) (a0_0 : ByteArray) (l0_1 : List (S56)) (l0_2 : List (S40)) (a1 : Int) : Option (Int) := (siphon_greatest.f k a0_0 l0_1 l0_2 a1 false).bind fun t241 => (some t241)
theorem siphon_MaxSiphon.mono : ∀ a0 a1 a2 a3 k, LeO (siphon_MaxSiphon.f k a0 a1 a2 a3) (siphon_MaxSiphon.f (k + 1) a0 a1 a2 a3) := by
 intro a0 a1 a2 a3 k
 unfold siphon_MaxSiphon.f
 repeat' first
   | (with_reducible exact siphon_greatest.mono _ _ _ _ _ _)
   | (with_reducible exact LeO.refl _)
   | (with_reducible exact LeO.none _)
   | (with_reducible refine LeO.ite ?_ ?_)
   | (with_reducible refine LeO.bind ?_ (fun _ => ?_))
   | exact siphon_greatest.mono _ _ _ _ _ _
   | exact LeO.none _
   | refine LeO.ite ?_ ?_
   | refine LeO.bind ?_ (fun _ => ?_)
set_option maxHeartbeats 8000000 in
set_option maxRecDepth 100000 in
theorem siphon_MaxSiphon.calls (k : Nat) (a0_0 : ByteArray) (A0_1 : Option Addr) (c0_1 : Nat) (l0_1 : List (S56)) (A0_2 : Option Addr) (c0_2 : Nat) (l0_2 : List (S40)) (a1 : Int) (r : Int) (w : World) (hr0_1 : Kd.C k56 w A0_1 l0_1.length l0_1) (hc0_1 : l0_1.length ≤ c0_1) (hr0_2 : Kd.C k40 w A0_2 l0_2.length l0_2) (hc0_2 : l0_2.length ≤ c0_2) (h : siphon_MaxSiphon.f k a0_0 l0_1 l0_2 a1 = some r) :
  Calls Try.prog 17 #[.agg #[.string a0_0, .slice A0_1 l0_1.length c0_1, .slice A0_2 l0_2.length c0_2], .int .u64 a1] w fun e w' => e = .returned (.int .u64 r) ∧ Below w.heap.size w w' := by
 have hu25 := Try.underlying25
 have hu9 := Try.underlying9
 have hu22 := Try.underlying22
 have hu23 := Try.underlying23
 have HR0_1 := Aside0.mk hr0_1
 have HC0_1 := Aside0.mk hc0_1
 clear hr0_1 hc0_1
 have HR0_2 := Aside0.mk hr0_2
 have HC0_2 := Aside0.mk hc0_2
 clear hr0_2 hc0_2
 have HB := Aside0.mk (Below.refl w.heap.size w)
 have H : ((siphon_greatest.f k a0_0 l0_1 l0_2 a1 false).bind fun t241 => (some t241)) = some r := h
 clear h
 replace H := Option.bind_eq_some_iff.mp H
 obtain ⟨t241, A30, H⟩ := H
 replace H : (some t241) = some r := H
 have A3 := Aside0.mk A30
 clear A30
 obtain rfl := Option.some.inj H
 go_enter Try.func17, Try.ntmps17
 go_wp2_with (first | ((with_reducible refine gate_dst (N := 2) rfl ?_); refine box_event ?hg (N := 2) ?hd (cs := #[.string a0_0, .slice A0_1 l0_1.length c0_1, .slice A0_2 l0_2.length c0_2]) (t := 25) ?hr ?_; (case hd => rfl); (case hg => rfl); (case hr => first | (go_simp; done) | (go_simp; rfl)); intro gb240 hg w4 hbox hb; have n0_ := Aside0.mk (below_step (by repeat (first | (with_reducible first | exact HB.out | apply below_alloc | apply pw_below_drewN | apply below_drew1) | exact HB.out)) hb); have n1_ := Aside0.mk (hbox); have n2_ := Aside0.mk ((by rw [hg]; exact (below_size (by repeat (first | (with_reducible first | exact HB.out | apply below_alloc | apply pw_below_drewN | apply below_drew1) | exact HB.out))) : w.heap.size ≤ gb240)); have n3_ := Aside0.mk ((by rw [hg]; exact (below_size (by repeat (first | (with_reducible first | exact HB.out | apply below_alloc | apply pw_below_drewN | apply below_drew1) | exact HB.out))) : w.heap.size ≤ gb240)); clear HB; have HB := n0_; have BK240 := n1_; have GW240 := n2_; have GE240 := n3_; clear n0_ n1_ n2_ n3_; clear hb hbox hg; have hcz5_0 : w4.cell? ⟨gb240, 0, none⟩ = some (.string a0_0) := (blk_cell BK240.out 0).trans rfl; have hcz5_1 : w4.cell? ⟨gb240, 1, none⟩ = some (.slice A0_1 l0_1.length c0_1) := (blk_cell BK240.out 1).trans rfl; have hcz5_2 : w4.cell? ⟨gb240, 2, none⟩ = some (.slice A0_2 l0_2.length c0_2) := (blk_cell BK240.out 2).trans rfl; have hfz5_0 := blk_frozen BK240.out 0; have hfz5_1 := blk_frozen BK240.out 1; have hfz5_2 := blk_frozen BK240.out 2) | ((with_reducible refine gate_callee (f := 40) rfl ?_); refine goesL_ (some 7) rfl rfl Try.func40 (by kernel_rfl) rfl #[.agg #[.string a0_0, .slice A0_1 l0_1.length c0_1, .slice A0_2 l0_2.length c0_2], .int .u64 a1, .bool false] rfl (by (try simp only [List.map_toArray, List.map_cons, List.map_nil]); first | done | rfl | (simp only [List.length_drop, List.length_take]; rfl)) ?_; (with_reducible refine (siphon_greatest.calls k a0_0 _ _ l0_1 _ _ l0_2 a1 false t241 _ ?side1 ?side2 ?side3 ?side4 A3.out).mono ?_); (case side1 => repeat (first | exact (Kd.C_below HR0_1.out HB.out) | (with_reducible refine Kd.C_alloc ?_ _) | (with_reducible refine Kd.C_drewN ?_ _) | (with_reducible refine Kd.C_drew ?_))); (case side2 => exact HC0_1.out); (case side3 => repeat (first | exact (Kd.C_below HR0_2.out HB.out) | (with_reducible refine Kd.C_alloc ?_ _) | (with_reducible refine Kd.C_drewN ?_ _) | (with_reducible refine Kd.C_drew ?_))); (case side4 => exact HC0_2.out); rintro e w6 ⟨rfl, hb⟩; refine ⟨_, rfl, ?_⟩; have n0_ := Aside0.mk (blk_below (g := gb240) (o := .cells #[.string a0_0, .slice A0_1 l0_1.length c0_1, .slice A0_2 l0_2.length c0_2] 25 (0, 0)) (by (with_reducible repeat (first | refine blk_drewN ?_ _ | refine blk_drew ?_ | refine blk_alloc ?_ _)); exact BK240.out) hb); have n1_ := Aside0.mk (below_step (by repeat (first | (with_reducible first | exact HB.out | apply below_alloc | apply pw_below_drewN | apply below_drew1 | refine below_set ?_ GE240.out) | exact HB.out)) hb); clear BK240; clear HB; have BK240 := n0_; have HB := n1_; clear n0_ n1_; (try clear hb); (try clear hb2); (try clear hk); (try clear hi)))
 go_ret
 exact ⟨by first | rfl | (simp [errW_none, errW_some] <;> rfl) | (simp [*, errW_none, errW_some] <;> rfl), by repeat (first | (with_reducible first | exact HB.out | apply below_alloc | apply pw_below_drewN | apply below_drew1 | refine below_set ?_ GE240.out) | exact HB.out)⟩


end Go.Proofs.Ytaphehdbjbogaaa.Pr
