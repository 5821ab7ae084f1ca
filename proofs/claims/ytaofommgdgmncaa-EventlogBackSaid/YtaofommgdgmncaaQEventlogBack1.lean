/- Functions that the statement reaches: what each answers, and that the program answers it (written by a program of this work). -/
import Derived.Test.YtaofommgdgmncaaProg
import Derived.Below
import Derived.Deep.Draws
import Derived.Deep.AppendLies
import Derived.Maps.AppendAt
import Derived.OwnWalk
import Derived.Laws.BytesArg
import Derived.Laws.MakeOwn
import Derived.Laws.OwnMore
import Derived.Deep.OwnRows
import Derived.Tactics
import Derived.Lib.ConvBytes
import Derived.Laws.Slices
import Derived.WalkKit
import Derived.KernelRfl
import Derived.RowKit3
import Derived.Deep.LoopGhost
import Derived.Deep.QuietTactic
import Derived.BigQuiet
import Derived.WideLaws
import Derived.Deep.DeepCutAuto
import Derived.Deep.CutBlock
import Derived.Deep.RegionHeld3
import Derived.Laws.Rows
import Derived.Lib.AppendStr
import Derived.ArgAppend
import Derived.Laws.IdiomCopy
import Derived.OrdersHeld
import Derived.Laws.BitsLemmas
import Derived.RowKit
import Derived.WalkMore
import Derived.Test.YtaofommgdgmncaaVEventlogBack
import Derived.Maps.OwnSet
import Derived.Maps.Views
import Derived.Test.YtaofommgdgmncaaQEventlogBack0
namespace Go.Proofs.Ytaofommgdgmncaa.Pr
open Go.RowKit Go.Proofs.YtaofommgdgmncaaW.PrintWords Go.Proofs.YtaofommgdgmncaaW.PrintLast Go.Proofs.YtaofommgdgmncaaW.PrintMore
attribute [local go_sem] Instr.field asAgg
attribute [local go_sem] max2_int min2_int max_two min_two max_three min_three max_four min_four   -- for this text's walks alone
set_option linter.unusedVariables false
set_option linter.unusedSimpArgs false
/-! ### eventlog_Check: function 24 -/
mutual
def eventlog_Check.l0 : Nat → List (List ByteArray) → Int → Int → Option (Int × Int)
 | 0, _, _, _ => none
 | k + 1, x11, x12, x13 => if x13 < x12 then (if 0 ≤ x13 then (if x13 < (x11.length : Int) then (if ((rd_L1 x11 x13).length : Int) > 64 then (some (2, x13)) else (eventlog_Check.l1 k x13 x11 x12 x13 (rd_L1 x11 x13) ((rd_L1 x11 x13).length : Int) 0)) else (none)) else (none)) else (some (0, 0))
def eventlog_Check.l1 : Nat → Int → List (List ByteArray) → Int → Int → List ByteArray → Int → Int → Option (Int × Int)
 | 0, _, _, _, _, _, _, _ => none
 | k + 1, x3, x11, x12, x13, x23, x24, x25 => if x25 < x24 then (if 0 ≤ x25 then (if x25 < (x23.length : Int) then ((eventlog_Name.f (rdOf ByteArray.empty x23 x25)).bind fun t236 => (if t236 = true then (eventlog_Check.l1 k x3 x11 x12 x13 x23 x24 (wrap64 (x25 + 1))) else (some (5, x3)))) else (none)) else (none)) else (eventlog_Check.l0 k x11 x12 (wrap64 (x13 + 1)))
end
def eventlog_Check.f (k : Nat) (l0 : List (List ByteArray)) : Option (Int × Int) := if (l0.length : Int) > 64 then (some (2, 0)) else (eventlog_Check.l0 k l0 (l0.length : Int) 0)
theorem eventlog_Check.mono_l : ∀ k, (∀ y0 y1 y2, LeO (eventlog_Check.l0 k y0 y1 y2) (eventlog_Check.l0 (k + 1) y0 y1 y2)) ∧ (∀ y0 y1 y2 y3 y4 y5 y6, LeO (eventlog_Check.l1 k y0 y1 y2 y3 y4 y5 y6) (eventlog_Check.l1 (k + 1) y0 y1 y2 y3 y4 y5 y6))
 | 0 => ⟨fun _ _ _ r h => by simp [eventlog_Check.l0] at h, fun _ _ _ _ _ _ _ r h => by simp [eventlog_Check.l1] at h⟩
 | k + 1 => by
  obtain ⟨ih0, ih1⟩ := eventlog_Check.mono_l k
  refine ⟨?_, ?_⟩
  ·
   intro y0 y1 y2
   unfold eventlog_Check.l0
   repeat' first
   | (with_reducible exact ih0 _ _ _)
   | (with_reducible exact ih1 _ _ _ _ _ _ _)
   | (with_reducible exact LeO.refl _)
   | (with_reducible exact LeO.none _)
   | (with_reducible refine LeO.ite ?_ ?_)
   | (with_reducible refine LeO.bind ?_ (fun _ => ?_))
   | exact ih0 _ _ _
   | exact ih1 _ _ _ _ _ _ _
   | exact LeO.none _
   | refine LeO.ite ?_ ?_
   | refine LeO.bind ?_ (fun _ => ?_)
  ·
   intro y0 y1 y2 y3 y4 y5 y6
   unfold eventlog_Check.l1
   repeat' first
   | (with_reducible exact ih0 _ _ _)
   | (with_reducible exact ih1 _ _ _ _ _ _ _)
   | (with_reducible exact LeO.refl _)
   | (with_reducible exact LeO.none _)
   | (with_reducible refine LeO.ite ?_ ?_)
   | (with_reducible refine LeO.bind ?_ (fun _ => ?_))
   | exact ih0 _ _ _
   | exact ih1 _ _ _ _ _ _ _
   | exact LeO.none _
   | refine LeO.ite ?_ ?_
   | refine LeO.bind ?_ (fun _ => ?_)
theorem eventlog_Check.mono : ∀ a0 k, LeO (eventlog_Check.f k a0) (eventlog_Check.f (k + 1) a0) := by
 intro a0 k
 obtain ⟨ih0, ih1⟩ := eventlog_Check.mono_l k
 unfold eventlog_Check.f
 repeat' first
   | (with_reducible exact ih0 _ _ _)
   | (with_reducible exact ih1 _ _ _ _ _ _ _)
   | (with_reducible exact LeO.refl _)
   | (with_reducible exact LeO.none _)
   | (with_reducible refine LeO.ite ?_ ?_)
   | (with_reducible refine LeO.bind ?_ (fun _ => ?_))
   | exact ih0 _ _ _
   | exact ih1 _ _ _ _ _ _ _
   | exact LeO.none _
   | refine LeO.ite ?_ ?_
   | refine LeO.bind ?_ (fun _ => ?_)
set_option maxHeartbeats 8000000 in
set_option maxRecDepth 100000 in
theorem eventlog_Check.calls (k : Nat) (A0 : Option Addr) (c0 : Nat) (l0 : List (List ByteArray)) (r1 : Int) (r2 : Int) (w : World) (hr0 : Kd.C (Kd.slice 9 Kd.string) w A0 l0.length l0) (hc0 : l0.length ≤ c0) (h : eventlog_Check.f k l0 = some (r1, r2)) :
  Calls Try.prog 24 #[.slice A0 l0.length c0] w fun e w' => e = .returned (.agg #[.int .i64 r1, .int .i64 r2]) ∧ Below w.heap.size w w' := by
 have hu26 := Try.underlying26
 have hu3 := Try.underlying3
 have hu24 := Try.underlying24
 have HR0 := Aside0.mk hr0
 have HC0 := Aside0.mk hc0
 clear hr0 hc0
 have HB := Aside0.mk (Below.refl w.heap.size w)
 have H : (if (l0.length : Int) > 64 then (some (2, 0)) else (eventlog_Check.l0 k l0 (l0.length : Int) 0)) = some (r1, r2) := h
 clear h
 by_cases c2 : (l0.length : Int) > 64
 ·
  rw [if_pos c2] at H
  have c2b0 : decide (64 < (l0.length : Int)) = true := decide_eq_true c2
  have c2b1 : decide (64 < l0.length) = true := decide_eq_true (by omega)
  clear c2
  simp only [Option.some.injEq, Prod.mk.injEq] at H
  obtain ⟨rfl, rfl⟩ := H
  go_enter Try.func24, Try.ntmps24
  go_wp2_with (first | ((with_reducible refine gate_dst (N := 2) rfl ?_); refine box_event ?hg (N := 2) ?hd (cs := #[.int .i64 0, .int .i64 0]) (t := 26) ?hr ?_; (case hd => rfl); (case hg => rfl); (case hr => first | (go_simp; done) | (go_simp; rfl)); intro gb233 hg w3 hbox hb; have n0_ := Aside0.mk (below_step (by repeat (first | (with_reducible first | exact HB.out | apply below_alloc | apply pw_below_drewN | apply below_drew1) | exact HB.out)) hb); have n1_ := Aside0.mk (hbox); have n2_ := Aside0.mk ((by rw [hg]; exact (below_size (by repeat (first | (with_reducible first | exact HB.out | apply below_alloc | apply pw_below_drewN | apply below_drew1) | exact HB.out))) : w.heap.size ≤ gb233)); have n3_ := Aside0.mk ((by rw [hg]; exact (below_size (by repeat (first | (with_reducible first | exact HB.out | apply below_alloc | apply pw_below_drewN | apply below_drew1) | exact HB.out))) : w.heap.size ≤ gb233)); clear HB; have HB := n0_; have BK233 := n1_; have GW233 := n2_; have GE233 := n3_; clear n0_ n1_ n2_ n3_; clear hb hbox hg; have hcz4_0 : w3.cell? ⟨gb233, 0, none⟩ = some (.int .i64 0) := (blk_cell BK233.out 0).trans rfl; have hcz4_1 : w3.cell? ⟨gb233, 1, none⟩ = some (.int .i64 0) := (blk_cell BK233.out 1).trans rfl; have hfz4_0 := blk_frozen BK233.out 0; have hfz4_1 := blk_frozen BK233.out 1))
  refine bodyPost_ret (results_cell_row rfl _ _ gb233 26 #[.int .i64 2, .int .i64 0] (0, 0) _ rfl (by (with_reducible repeat (first | refine blk_drewN ?_ _ | refine blk_drew ?_ | refine blk_alloc ?_ _)); refine blk_put (cs := #[.int .i64 2, .int .i64 0]) ?_ 1 _ rfl; (with_reducible repeat (first | refine blk_drewN ?_ _ | refine blk_drew ?_ | refine blk_alloc ?_ _)); refine blk_put (cs := #[.int .i64 0, .int .i64 0]) ?_ 0 _ rfl; (with_reducible repeat (first | refine blk_drewN ?_ _ | refine blk_drew ?_ | refine blk_alloc ?_ _)); exact BK233.out) Try.underlying26 rfl (by kernel_rfl)) rfl ?_
  exact ⟨by first | rfl | (simp [errW_none, errW_some] <;> rfl) | (simp [*, errW_none, errW_some] <;> rfl), by repeat (first | (with_reducible first | exact HB.out | apply below_alloc | apply pw_below_drewN | apply below_drew1 | refine below_set ?_ GE233.out) | exact HB.out)⟩
 ·
  rw [if_neg c2] at H
  have c2b0 : decide (64 < (l0.length : Int)) = false := decide_eq_false c2
  have c2b1 : decide (64 < l0.length) = false := decide_eq_false (by omega)
  clear c2
  have H' := Aside0.mk H
  clear H
  go_enter Try.func24, Try.ntmps24
  go_wp2_with (first | ((with_reducible refine gate_dst (N := 2) rfl ?_); refine box_event ?hg (N := 2) ?hd (cs := #[.int .i64 0, .int .i64 0]) (t := 26) ?hr ?_; (case hd => rfl); (case hg => rfl); (case hr => first | (go_simp; done) | (go_simp; rfl)); intro gb233 hg w5 hbox hb; have n0_ := Aside0.mk (below_step (by repeat (first | (with_reducible first | exact HB.out | apply below_alloc | apply pw_below_drewN | apply below_drew1) | exact HB.out)) hb); have n1_ := Aside0.mk (hbox); have n2_ := Aside0.mk ((by rw [hg]; exact (below_size (by repeat (first | (with_reducible first | exact HB.out | apply below_alloc | apply pw_below_drewN | apply below_drew1) | exact HB.out))) : w.heap.size ≤ gb233)); have n3_ := Aside0.mk ((by rw [hg]; exact (below_size (by repeat (first | (with_reducible first | exact HB.out | apply below_alloc | apply pw_below_drewN | apply below_drew1) | exact HB.out))) : w.heap.size ≤ gb233)); clear HB; have HB := n0_; have BK233 := n1_; have GW233 := n2_; have GE233 := n3_; clear n0_ n1_ n2_ n3_; clear hb hbox hg))
  go_loopg [13] k (fun kq v13 w' => ∃ (x13_1 : Int) (x234000_1 : Int) (x234001_1 : Int), v13 = .int .i64 x13_1 ∧ Aside0 (eventlog_Check.l0 kq l0 (l0.length : Int) x13_1 = some (r1, r2)) ∧ Aside0 (kq ≤ k) ∧ Aside0 (w'.heap[gb233]? = some (.cells #[.int .i64 x234000_1, .int .i64 x234001_1] 26 (0, 0))) ∧ Aside0 (Below w.heap.size w w'))
  case atStart => exact ⟨(0), (0), (0), (by first | rfl | (simp; done) | (simp [*]; done) | (simp [i64_w]; done)), H', ⟨Nat.le_refl _⟩, ⟨by (with_reducible repeat (first | refine blk_drewN ?_ _ | refine blk_drew ?_ | refine blk_alloc ?_ _)); exact BK233.out⟩, ⟨by repeat (first | (with_reducible first | exact HB.out | apply below_alloc | apply pw_below_drewN | apply below_drew1 | refine below_set ?_ GE233.out) | exact HB.out)⟩⟩
  case round =>
   clear H'
   try clear c2
   try clear c2b0
   try clear c2b1
   try clear p2
   try clear hcz4_0
   try clear hcz4_1
   try clear hfz4_0
   try clear hfz4_1
   obtain ⟨x13_1, x234000_1, x234001_1, rfl, HA, HK1, BK233, HB⟩ := hrel
   cases gk with
   | zero => exact absurd HA.out (by simp [eventlog_Check.l0])
   | succ k1 =>
    have H := HA.out
    clear HA
    simp only [eventlog_Check.l0] at H
    by_cases c6 : x13_1 < (l0.length : Int)
    ·
     rw [if_pos c6] at H
     have c6b0 : decide (x13_1 < (l0.length : Int)) = true := decide_eq_true c6
     clear c6
     by_cases c7 : 0 ≤ x13_1
     ·
      rw [if_pos c7] at H
      have c7b0 : decide (0 ≤ x13_1) = true := decide_eq_true c7
      clear c7
      by_cases c8 : x13_1 < (l0.length : Int)
      ·
       rw [if_pos c8] at H
       have c8b0 : decide (x13_1 < (l0.length : Int)) = true := decide_eq_true c8
       clear c8
       by_cases c9 : ((rd_L1 l0 x13_1).length : Int) > 64
       ·
        rw [if_pos c9] at H
        have c9b0 : decide (64 < ((rd_L1 l0 x13_1).length : Int)) = true := decide_eq_true c9
        have c9b1 : decide (64 < (rd_L1 l0 x13_1).length) = true := decide_eq_true (by omega)
        clear c9
        simp only [Option.some.injEq, Prod.mk.injEq] at H
        obtain ⟨rfl, rfl⟩ := H
        have p234 : 0 ≤ (x13_1 : Int) := of_decide_eq_true (by first | (with_reducible assumption) | assumption)
        have q234 : x13_1 < (l0.length : Int) := of_decide_eq_true (by first | (with_reducible assumption) | assumption)
        obtain ⟨ad234, A234_0, c234_0, e234, hx234_0, hl234_0, hi234_0⟩ := at_L1 HR0.out x13_1 p234 q234
        cases e234
        replace hx234_0 := (HB.out.cell (World.block_lt_of_cell? w _ hx234_0)).trans hx234_0
        have HR234_0 := Aside0.mk hi234_0
        have HC234_0 := Aside0.mk hl234_0
        clear hi234_0 hl234_0
        replace p234 := eq_true p234
        replace q234 := eq_true q234
        have hcz10_0 : wr.cell? ⟨gb233, 0, none⟩ = some (.int .i64 x234000_1) := (blk_cell BK233.out 0).trans rfl
        have hcz10_1 : wr.cell? ⟨gb233, 1, none⟩ = some (.int .i64 x234001_1) := (blk_cell BK233.out 1).trans rfl
        have hfz10_0 := blk_frozen BK233.out 0
        have hfz10_1 := blk_frozen BK233.out 1
        go_wp2
        refine bodyPost_ret (results_cell_row rfl _ _ gb233 26 #[.int .i64 2, .int .i64 x13_1] (0, 0) _ rfl (by (with_reducible repeat (first | refine blk_drewN ?_ _ | refine blk_drew ?_ | refine blk_alloc ?_ _)); refine blk_put (cs := #[.int .i64 2, .int .i64 x234001_1]) ?_ 1 _ rfl; (with_reducible repeat (first | refine blk_drewN ?_ _ | refine blk_drew ?_ | refine blk_alloc ?_ _)); refine blk_put (cs := #[.int .i64 x234000_1, .int .i64 x234001_1]) ?_ 0 _ rfl; (with_reducible repeat (first | refine blk_drewN ?_ _ | refine blk_drew ?_ | refine blk_alloc ?_ _)); exact BK233.out) Try.underlying26 rfl (by kernel_rfl)) rfl ?_
        exact ⟨by first | rfl | (simp [errW_none, errW_some] <;> rfl) | (simp [*, errW_none, errW_some] <;> rfl), by repeat (first | (with_reducible first | exact HB.out | apply below_alloc | apply pw_below_drewN | apply below_drew1 | refine below_set ?_ GE233.out) | exact HB.out)⟩
       ·
        rw [if_neg c9] at H
        have c9b0 : decide (64 < ((rd_L1 l0 x13_1).length : Int)) = false := decide_eq_false c9
        have c9b1 : decide (64 < (rd_L1 l0 x13_1).length) = false := decide_eq_false (by omega)
        clear c9
        have H' := Aside0.mk H
        clear H
        have p234 : 0 ≤ (x13_1 : Int) := of_decide_eq_true (by first | (with_reducible assumption) | assumption)
        have q234 : x13_1 < (l0.length : Int) := of_decide_eq_true (by first | (with_reducible assumption) | assumption)
        obtain ⟨ad234, A234_0, c234_0, e234, hx234_0, hl234_0, hi234_0⟩ := at_L1 HR0.out x13_1 p234 q234
        cases e234
        replace hx234_0 := (HB.out.cell (World.block_lt_of_cell? w _ hx234_0)).trans hx234_0
        have HR234_0 := Aside0.mk hi234_0
        have HC234_0 := Aside0.mk hl234_0
        clear hi234_0 hl234_0
        replace p234 := eq_true p234
        replace q234 := eq_true q234
        go_wp2
        go_loopg [25] k1 (fun kq v25 w' => ∃ (x25_2 : Int) (x234000_2 : Int) (x234001_2 : Int), v25 = .int .i64 x25_2 ∧ Aside0 (eventlog_Check.l1 kq x13_1 l0 (l0.length : Int) x13_1 (rd_L1 l0 x13_1) ((rd_L1 l0 x13_1).length : Int) x25_2 = some (r1, r2)) ∧ Aside0 (kq ≤ k1) ∧ Aside0 (w'.heap[gb233]? = some (.cells #[.int .i64 x234000_2, .int .i64 x234001_2] 26 (0, 0))) ∧ Aside0 (Below w.heap.size w w'))
        case atStart => exact ⟨(0), (x234000_1), (x234001_1), (by first | rfl | (simp; done) | (simp [*]; done) | (simp [i64_w]; done)), H', ⟨Nat.le_refl _⟩, ⟨by (with_reducible repeat (first | refine blk_drewN ?_ _ | refine blk_drew ?_ | refine blk_alloc ?_ _)); exact BK233.out⟩, ⟨by repeat (first | (with_reducible first | exact HB.out | apply below_alloc | apply pw_below_drewN | apply below_drew1 | refine below_set ?_ GE233.out) | exact HB.out)⟩⟩
        case round =>
         clear H'
         try clear c2
         try clear c2b0
         try clear c2b1
         try clear p2
         try clear q2
         try clear hx2
         try clear c6
         try clear c6b0
         try clear c7
         try clear c7b0
         try clear c8
         try clear c8b0
         try clear c9
         try clear c9b0
         try clear c9b1
         try clear hcz10_0
         try clear hcz10_1
         try clear hcz4_0
         try clear hcz4_1
         try clear hfz10_0
         try clear hfz10_1
         try clear hfz4_0
         try clear hfz4_1
         try clear hx234_0
         try clear p2
         try clear p234
         try clear q234
         obtain ⟨x25_2, x234000_2, x234001_2, rfl, HA, HK2, BK233, HB⟩ := hrel
         cases gk with
         | zero => exact absurd HA.out (by simp [eventlog_Check.l1])
         | succ k2 =>
          have H := HA.out
          clear HA
          simp only [eventlog_Check.l1] at H
          by_cases c11 : x25_2 < ((rd_L1 l0 x13_1).length : Int)
          ·
           rw [if_pos c11] at H
           have c11b0 : decide (x25_2 < ((rd_L1 l0 x13_1).length : Int)) = true := decide_eq_true c11
           clear c11
           by_cases c12 : 0 ≤ x25_2
           ·
            rw [if_pos c12] at H
            have c12b0 : decide (0 ≤ x25_2) = true := decide_eq_true c12
            clear c12
            by_cases c13 : x25_2 < ((rd_L1 l0 x13_1).length : Int)
            ·
             rw [if_pos c13] at H
             have c13b0 : decide (x25_2 < ((rd_L1 l0 x13_1).length : Int)) = true := decide_eq_true c13
             clear c13
             replace H := Option.bind_eq_some_iff.mp H
             obtain ⟨t236, A140, H⟩ := H
             replace H : (if t236 = true then (eventlog_Check.l1 k2 x13_1 l0 (l0.length : Int) x13_1 (rd_L1 l0 x13_1) ((rd_L1 l0 x13_1).length : Int) (wrap64 (x25_2 + 1))) else (some (5, x13_1))) = some (r1, r2) := H
             have A14 := Aside0.mk A140
             clear A140
             by_cases c15 : t236 = true
             ·
              subst c15
              have H1 : (eventlog_Check.l1 k2 x13_1 l0 (l0.length : Int) x13_1 (rd_L1 l0 x13_1) ((rd_L1 l0 x13_1).length : Int) (wrap64 (x25_2 + 1))) = some (r1, r2) := by rw [if_pos rfl] at H; exact H
              clear H
              have H := H1
              clear H1
              have H' := Aside0.mk H
              clear H
              have p235 : 0 ≤ (x25_2 : Int) := of_decide_eq_true (by first | (with_reducible assumption) | assumption)
              have q235 : x25_2 < ((rd_L1 l0 x13_1).length : Int) := of_decide_eq_true (by first | (with_reducible assumption) | assumption)
              obtain ⟨ad235, e235, hx235_0⟩ := Kd.at_string HR234_0.out x25_2 p235 q235
              cases e235
              replace hx235_0 := (HB.out.cell (World.block_lt_of_cell? w _ hx235_0)).trans hx235_0
              replace p235 := eq_true p235
              replace q235 := eq_true q235
              go_wp2_with (first | ((with_reducible refine gate_callee (f := 22) rfl ?_); refine goesL_ (some 30) rfl rfl Try.func22 (by kernel_rfl) rfl #[.string (rdOf ByteArray.empty (rd_L1 l0 x13_1) x25_2)] rfl (by (try simp only [List.map_toArray, List.map_cons, List.map_nil]); first | done | rfl | (simp only [List.length_drop, List.length_take]; rfl)) ?_; (with_reducible refine (eventlog_Name.calls (rdOf ByteArray.empty (rd_L1 l0 x13_1) x25_2) true _ A14.out).mono ?_); rintro e w16 ⟨rfl, hb⟩; refine ⟨_, rfl, ?_⟩; have n0_ := Aside0.mk (blk_below (g := gb233) (o := .cells #[.int .i64 x234000_2, .int .i64 x234001_2] 26 (0, 0)) (by (with_reducible repeat (first | refine blk_drewN ?_ _ | refine blk_drew ?_ | refine blk_alloc ?_ _)); exact BK233.out) hb); have n1_ := Aside0.mk (below_step (by repeat (first | (with_reducible first | exact HB.out | apply below_alloc | apply pw_below_drewN | apply below_drew1 | refine below_set ?_ GE233.out) | exact HB.out)) hb); clear BK233; clear HB; have BK233 := n0_; have HB := n1_; clear n0_ n1_; (try clear hb); (try clear hb2); (try clear hk); (try clear hi)))
              go_roundg k2
              case measure => have := HK1.out; have := HK2.out; omega
              case rel => exact ⟨(wrap64 (x25_2 + 1)), (x234000_2), (x234001_2), (by first | rfl | (simp; done) | (simp [*]; done) | (simp [i64_w]; done)), H', ⟨by have := HK1.out; have := HK2.out; omega⟩, ⟨by (with_reducible repeat (first | refine blk_drewN ?_ _ | refine blk_drew ?_ | refine blk_alloc ?_ _)); exact BK233.out⟩, ⟨by repeat (first | (with_reducible first | exact HB.out | apply below_alloc | apply pw_below_drewN | apply below_drew1 | refine below_set ?_ GE233.out) | exact HB.out)⟩⟩
             ·
              replace c15 := Bool.eq_false_iff.mpr c15
              subst c15
              have H1 : (some (5, x13_1)) = some (r1, r2) := by rw [if_neg (show ¬ (false = true) by decide)] at H; exact H
              clear H
              have H := H1
              clear H1
              simp only [Option.some.injEq, Prod.mk.injEq] at H
              obtain ⟨rfl, rfl⟩ := H
              have p235 : 0 ≤ (x25_2 : Int) := of_decide_eq_true (by first | (with_reducible assumption) | assumption)
              have q235 : x25_2 < ((rd_L1 l0 x13_1).length : Int) := of_decide_eq_true (by first | (with_reducible assumption) | assumption)
              obtain ⟨ad235, e235, hx235_0⟩ := Kd.at_string HR234_0.out x25_2 p235 q235
              cases e235
              replace hx235_0 := (HB.out.cell (World.block_lt_of_cell? w _ hx235_0)).trans hx235_0
              replace p235 := eq_true p235
              replace q235 := eq_true q235
              go_wp2_with (first | ((with_reducible refine gate_callee (f := 22) rfl ?_); refine goesL_ (some 30) rfl rfl Try.func22 (by kernel_rfl) rfl #[.string (rdOf ByteArray.empty (rd_L1 l0 x13_1) x25_2)] rfl (by (try simp only [List.map_toArray, List.map_cons, List.map_nil]); first | done | rfl | (simp only [List.length_drop, List.length_take]; rfl)) ?_; (with_reducible refine (eventlog_Name.calls (rdOf ByteArray.empty (rd_L1 l0 x13_1) x25_2) false _ A14.out).mono ?_); rintro e w17 ⟨rfl, hb⟩; refine ⟨_, rfl, ?_⟩; have n0_ := Aside0.mk (blk_below (g := gb233) (o := .cells #[.int .i64 x234000_2, .int .i64 x234001_2] 26 (0, 0)) (by (with_reducible repeat (first | refine blk_drewN ?_ _ | refine blk_drew ?_ | refine blk_alloc ?_ _)); exact BK233.out) hb); have n1_ := Aside0.mk (below_step (by repeat (first | (with_reducible first | exact HB.out | apply below_alloc | apply pw_below_drewN | apply below_drew1 | refine below_set ?_ GE233.out) | exact HB.out)) hb); clear BK233; clear HB; have BK233 := n0_; have HB := n1_; clear n0_ n1_; (try clear hb); (try clear hb2); (try clear hk); (try clear hi); have hcz18_0 : w17.cell? ⟨gb233, 0, none⟩ = some (.int .i64 x234000_2) := (blk_cell BK233.out 0).trans rfl; have hcz18_1 : w17.cell? ⟨gb233, 1, none⟩ = some (.int .i64 x234001_2) := (blk_cell BK233.out 1).trans rfl; have hfz18_0 := blk_frozen BK233.out 0; have hfz18_1 := blk_frozen BK233.out 1))
              refine bodyPost_ret (results_cell_row rfl _ _ gb233 26 #[.int .i64 5, .int .i64 x13_1] (0, 0) _ rfl (by (with_reducible repeat (first | refine blk_drewN ?_ _ | refine blk_drew ?_ | refine blk_alloc ?_ _)); refine blk_put (cs := #[.int .i64 5, .int .i64 x234001_2]) ?_ 1 _ rfl; (with_reducible repeat (first | refine blk_drewN ?_ _ | refine blk_drew ?_ | refine blk_alloc ?_ _)); refine blk_put (cs := #[.int .i64 x234000_2, .int .i64 x234001_2]) ?_ 0 _ rfl; (with_reducible repeat (first | refine blk_drewN ?_ _ | refine blk_drew ?_ | refine blk_alloc ?_ _)); exact BK233.out) Try.underlying26 rfl (by kernel_rfl)) rfl ?_
              exact ⟨by first | rfl | (simp [errW_none, errW_some] <;> rfl) | (simp [*, errW_none, errW_some] <;> rfl), by repeat (first | (with_reducible first | exact HB.out | apply below_alloc | apply pw_below_drewN | apply below_drew1 | refine below_set ?_ GE233.out) | exact HB.out)⟩
            ·
             rw [if_neg c13] at H
             exact absurd H (by simp)
           ·
            rw [if_neg c12] at H
            exact absurd H (by simp)
          ·
           rw [if_neg c11] at H
           have c11b0 : decide (x25_2 < ((rd_L1 l0 x13_1).length : Int)) = false := decide_eq_false c11
           clear c11
           have H' := Aside0.mk H
           clear H
           go_wp2
           go_roundg k2
           case measure => have := HK1.out; have := HK2.out; omega
           case rel => exact ⟨(wrap64 (x13_1 + 1)), (x234000_2), (x234001_2), (by first | rfl | (simp; done) | (simp [*]; done) | (simp [i64_w]; done)), H', ⟨by have := HK1.out; have := HK2.out; omega⟩, ⟨by (with_reducible repeat (first | refine blk_drewN ?_ _ | refine blk_drew ?_ | refine blk_alloc ?_ _)); exact BK233.out⟩, ⟨by repeat (first | (with_reducible first | exact HB.out | apply below_alloc | apply pw_below_drewN | apply below_drew1 | refine below_set ?_ GE233.out) | exact HB.out)⟩⟩
      ·
       rw [if_neg c8] at H
       exact absurd H (by simp)
     ·
      rw [if_neg c7] at H
      exact absurd H (by simp)
    ·
     rw [if_neg c6] at H
     have c6b0 : decide (x13_1 < (l0.length : Int)) = false := decide_eq_false c6
     clear c6
     simp only [Option.some.injEq, Prod.mk.injEq] at H
     obtain ⟨rfl, rfl⟩ := H
     have hcz19_0 : wr.cell? ⟨gb233, 0, none⟩ = some (.int .i64 x234000_1) := (blk_cell BK233.out 0).trans rfl
     have hcz19_1 : wr.cell? ⟨gb233, 1, none⟩ = some (.int .i64 x234001_1) := (blk_cell BK233.out 1).trans rfl
     have hfz19_0 := blk_frozen BK233.out 0
     have hfz19_1 := blk_frozen BK233.out 1
     go_wp2
     refine bodyPost_ret (results_cell_row rfl _ _ gb233 26 #[.int .i64 0, .int .i64 0] (0, 0) _ rfl (by (with_reducible repeat (first | refine blk_drewN ?_ _ | refine blk_drew ?_ | refine blk_alloc ?_ _)); refine blk_put (cs := #[.int .i64 0, .int .i64 x234001_1]) ?_ 1 _ rfl; (with_reducible repeat (first | refine blk_drewN ?_ _ | refine blk_drew ?_ | refine blk_alloc ?_ _)); refine blk_put (cs := #[.int .i64 x234000_1, .int .i64 x234001_1]) ?_ 0 _ rfl; (with_reducible repeat (first | refine blk_drewN ?_ _ | refine blk_drew ?_ | refine blk_alloc ?_ _)); exact BK233.out) Try.underlying26 rfl (by kernel_rfl)) rfl ?_
     exact ⟨by first | rfl | (simp [errW_none, errW_some] <;> rfl) | (simp [*, errW_none, errW_some] <;> rfl), by repeat (first | (with_reducible first | exact HB.out | apply below_alloc | apply pw_below_drewN | apply below_drew1 | refine below_set ?_ GE233.out) | exact HB.out)⟩


/-! ### eventlog_text: function 41 -/
def eventlog_text.l0 : Nat → ByteArray → List ByteArray → Int → Int → Option (ByteArray)
 | 0, _, _, _, _ => none
 | k + 1, x3, x13, x14, x15 => if x15 < x14 then (if 0 ≤ x15 then (if x15 < (x13.length : Int) then (if 1 + (rdOf ByteArray.empty x13 x15).size ≤ 9223372036854775807 then (if x3.size + ((⟨#[32]⟩ : ByteArray) ++ (rdOf ByteArray.empty x13 x15)).size ≤ 9223372036854775807 then (eventlog_text.l0 k (x3 ++ ((⟨#[32]⟩ : ByteArray) ++ (rdOf ByteArray.empty x13 x15))) x13 x14 (wrap64 (x15 + 1))) else (none)) else (none)) else (none)) else (none)) else (some x3)
def eventlog_text.f (k : Nat) (l0 : List ByteArray) : Option (ByteArray) := if (l0.length : Int) = 0 then (some (⟨#[45]⟩ : ByteArray)) else (if 0 < (l0.length : Int) then (if 1 ≤ (l0.length : Int) then (eventlog_text.l0 k (rdOf ByteArray.empty l0 0) (l0.drop 1) ((l0.drop 1).length : Int) 0) else (none)) else (none))
theorem eventlog_text.mono_l : ∀ k, (∀ y0 y1 y2 y3, LeO (eventlog_text.l0 k y0 y1 y2 y3) (eventlog_text.l0 (k + 1) y0 y1 y2 y3))
 | 0 => fun _ _ _ _ r h => by simp [eventlog_text.l0] at h
 | k + 1 => by
  have ih0 := eventlog_text.mono_l k
  ·
   intro y0 y1 y2 y3
   unfold eventlog_text.l0
   repeat' first
   | (with_reducible exact ih0 _ _ _ _)
   | (with_reducible exact LeO.refl _)
   | (with_reducible exact LeO.none _)
   | (with_reducible refine LeO.ite ?_ ?_)
   | (with_reducible refine LeO.bind ?_ (fun _ => ?_))
   | exact ih0 _ _ _ _
   | exact LeO.none _
   | refine LeO.ite ?_ ?_
   | refine LeO.bind ?_ (fun _ => ?_)
theorem eventlog_text.mono : ∀ a0 k, LeO (eventlog_text.f k a0) (eventlog_text.f (k + 1) a0) := by
 intro a0 k
 have ih0 := eventlog_text.mono_l k
 unfold eventlog_text.f
 repeat' first
   | (with_reducible exact ih0 _ _ _ _)
   | (with_reducible exact LeO.refl _)
   | (with_reducible exact LeO.none _)
   | (with_reducible refine LeO.ite ?_ ?_)
   | (with_reducible refine LeO.bind ?_ (fun _ => ?_))
   | exact ih0 _ _ _ _
   | exact LeO.none _
   | refine LeO.ite ?_ ?_
   | refine LeO.bind ?_ (fun _ => ?_)
set_option maxHeartbeats 8000000 in
set_option maxRecDepth 100000 in
theorem eventlog_text.calls (k : Nat) (A0 : Option Addr) (c0 : Nat) (l0 : List ByteArray) (r : ByteArray) (w : World) (hr0 : Kd.C Kd.string w A0 l0.length l0) (hc0 : l0.length ≤ c0) (h : eventlog_text.f k l0 = some r) :
  Calls Try.prog 41 #[.slice A0 l0.length c0] w fun e w' => e = .returned (.string r) ∧ Drawn0 w w' := by
 have HR0 := Aside0.mk hr0
 have HC0 := Aside0.mk hc0
 clear hr0 hc0
 have H : (if (l0.length : Int) = 0 then (some (⟨#[45]⟩ : ByteArray)) else (if 0 < (l0.length : Int) then (if 1 ≤ (l0.length : Int) then (eventlog_text.l0 k (rdOf ByteArray.empty l0 0) (l0.drop 1) ((l0.drop 1).length : Int) 0) else (none)) else (none))) = some r := h
 clear h
 by_cases c2 : (l0.length : Int) = 0
 ·
  rw [if_pos c2] at H
  have c2b0 : ((l0.length : Int) == 0) = true := beq_iff_eq.mpr c2
  have c2b1 : ((l0.length : Int) != 0) = false := bne_eq_false_iff_eq.mpr c2
  clear c2
  obtain rfl := Option.some.inj H
  go_enter Try.func41, Try.ntmps41
  go_wp2
  go_ret
  exact ⟨by first | rfl | (simp; done) | (simp [*]; done), by repeat (first | exact Drawn0.refl _ | apply Drawn0.step)⟩
 ·
  rw [if_neg c2] at H
  have c2b0 : ((l0.length : Int) == 0) = false := beq_eq_false_iff_ne.mpr c2
  have c2b1 : ((l0.length : Int) != 0) = true := bne_iff_ne.mpr c2
  have c2b2 : ¬ (l0 = []) := fun h_ => c2 (by rw [h_]; rfl)
  by_cases c3 : 0 < (l0.length : Int)
  ·
   rw [if_pos c3] at H
   have c3b0 : decide (0 < (l0.length : Int)) = true := decide_eq_true c3
   have c3b1 : decide (0 < l0.length) = true := decide_eq_true (by omega)
   clear c3
   by_cases c4 : 1 ≤ (l0.length : Int)
   ·
    rw [if_pos c4] at H
    have c4b0 := eq_true c4
    have c4b1 : decide (1 ≤ (l0.length : Int)) = true := decide_eq_true c4
    clear c4
    have H' := Aside0.mk H
    clear H
    have p237 : 0 ≤ (0 : Int) := (by omega)
    have q237 : 0 < (l0.length : Int) := of_decide_eq_true (by first | (with_reducible assumption) | assumption)
    obtain ⟨ad237, e237, hx237_0⟩ := Kd.at_string HR0.out 0 p237 q237
    cases e237
    have qi237 : (0 < l0.length) = True := eq_true (by omega)
    (try rw [show ((0 : Int)).toNat = 0 from rfl] at hx237_0)
    (try rw [Addr.add_zero'] at hx237_0)
    replace p237 := eq_true p237
    replace q237 := eq_true q237
    obtain ⟨i05, hi05, _, hsz5, _⟩ := info_parts info9
    obtain ⟨A5, hcut5, hA5, hC5⟩ := print_drop_of (P := Try.prog) Value.string (⟨#[]⟩ : ByteArray) 34 9 .i64 Try.underlying34 hi05 hsz5 (some ad237) c0 l0 1 (by omega) (of_decide_eq_true (by first | (with_reducible assumption) | assumption)) HC0.out
    have HR238 := Aside0.mk (Kd.C_of_reads (h1 := fun _ => rfl) (hA5 _ (Kd.reads_of_C HR0.out)))
    have HC238 := Aside0.mk hC5
    clear hA5 hC5 hi05 hsz5
    go_enter Try.func41, Try.ntmps41
    go_wp2
    go_loopg [3, 15] k (fun kq v3 v15 w' => ∃ (x3_1 : ByteArray) (x15_1 : Int), v3 = .string x3_1 ∧ v15 = .int .i64 x15_1 ∧ Aside0 (eventlog_text.l0 kq x3_1 (l0.drop 1) ((l0.drop 1).length : Int) x15_1 = some r) ∧ Aside0 (kq ≤ k) ∧ Drawn0 w w')
    case atStart => exact ⟨(rdOf ByteArray.empty l0 0), (0), (by first | rfl | (simp; done) | (simp [*]; done) | (simp [i64_w]; done)), (by first | rfl | (simp; done) | (simp [*]; done) | (simp [i64_w]; done)), H', ⟨Nat.le_refl _⟩, by repeat (first | exact Drawn0.refl _ | apply Drawn0.step)⟩
    case round =>
     clear H'
     try clear c2
     try clear c2b0
     try clear c2b1
     try clear c2b2
     try clear p2
     try clear q2
     try clear hx2
     try clear qi2
     try clear c3
     try clear c3b0
     try clear c3b1
     try clear c4
     try clear c4b0
     try clear c4b1
     try clear hx237_0
     try clear p237
     try clear q237
     obtain ⟨x3_1, x15_1, rfl, rfl, HA, HK1, ⟨m1, rfl⟩⟩ := hrel
     cases gk with
     | zero => exact absurd HA.out (by simp [eventlog_text.l0])
     | succ k1 =>
      have H := HA.out
      clear HA
      simp only [eventlog_text.l0] at H
      by_cases c6 : x15_1 < ((l0.drop 1).length : Int)
      ·
       rw [if_pos c6] at H
       have c6b0 : decide (x15_1 < ((l0.drop 1).length : Int)) = true := decide_eq_true c6
       try have c6b3 : decide (x15_1 < ((l0.length - 1 : Nat) : Int)) = true := by have e_ := c6b0; rw [List.length_drop] at e_; exact e_
       clear c6
       by_cases c7 : 0 ≤ x15_1
       ·
        rw [if_pos c7] at H
        have c7b0 : decide (0 ≤ x15_1) = true := decide_eq_true c7
        clear c7
        by_cases c8 : x15_1 < ((l0.drop 1).length : Int)
        ·
         rw [if_pos c8] at H
         have c8b0 : decide (x15_1 < ((l0.drop 1).length : Int)) = true := decide_eq_true c8
         try have c8b3 : decide (x15_1 < ((l0.length - 1 : Nat) : Int)) = true := by have e_ := c8b0; rw [List.length_drop] at e_; exact e_
         clear c8
         by_cases c9 : 1 + (rdOf ByteArray.empty (l0.drop 1) x15_1).size ≤ 9223372036854775807
         ·
          rw [if_pos c9] at H
          have c9b0 := eq_true c9
          have c9b1 : decide (1 + (rdOf ByteArray.empty (l0.drop 1) x15_1).size ≤ 9223372036854775807) = true := decide_eq_true c9
          try have c9b2 : (9223372036854775807 < 1 + (rdOf ByteArray.empty (l0.drop 1) x15_1).size) = False := eq_false (Nat.not_lt.2 c9)
          try have c9b3 : (9223372036854775807 < 1 + (rdOf ByteArray.empty l0.tail x15_1).size) = False := eq_false (Nat.not_lt.2 (by simpa using c9))
          by_cases c10 : x3_1.size + ((⟨#[32]⟩ : ByteArray) ++ (rdOf ByteArray.empty (l0.drop 1) x15_1)).size ≤ 9223372036854775807
          ·
           rw [if_pos c10] at H
           have c10b0 := eq_true c10
           have c10b1 : decide (x3_1.size + ((⟨#[32]⟩ : ByteArray) ++ (rdOf ByteArray.empty (l0.drop 1) x15_1)).size ≤ 9223372036854775807) = true := decide_eq_true c10
           try have c10b2 : (9223372036854775807 < x3_1.size + ((⟨#[32]⟩ : ByteArray) ++ (rdOf ByteArray.empty (l0.drop 1) x15_1)).size) = False := eq_false (Nat.not_lt.2 c10)
           try have c10b3 : (9223372036854775807 < x3_1.size + ((⟨#[32]⟩ : ByteArray) ++ (rdOf ByteArray.empty l0.tail x15_1)).size) = False := eq_false (Nat.not_lt.2 (by simpa using c10))
           try have c10b4 := c10b3
           try simp only [ByteArray.size_append, show (⟨#[32]⟩ : ByteArray).size = 1 from rfl] at c10b4
           have H' := Aside0.mk H
           clear H
           have p239 : 0 ≤ (x15_1 : Int) := of_decide_eq_true (by first | (with_reducible assumption) | assumption)
           have q239 : x15_1 < ((l0.drop 1).length : Int) := of_decide_eq_true (by first | (with_reducible assumption) | assumption)
           obtain ⟨ad239, e239, hx239_0⟩ := Kd.at_string HR238.out x15_1 p239 q239
           cases e239
           replace p239 := eq_true p239
           replace q239 := eq_true q239
           try have q239b := q239
           try rw [List.length_drop] at q239b
           go_wp2
           go_roundg k1
           case measure => have := HK1.out; omega
           case rel => exact ⟨(x3_1 ++ ((⟨#[32]⟩ : ByteArray) ++ (rdOf ByteArray.empty (l0.drop 1) x15_1))), (wrap64 (x15_1 + 1)), (by first | rfl | (simp; done) | (simp [*]; done) | (simp [i64_w]; done)), (by first | rfl | (simp; done) | (simp [*]; done) | (simp [i64_w]; done)), H', ⟨by have := HK1.out; omega⟩, by repeat (first | exact Drawn0.refl _ | apply Drawn0.step)⟩
          ·
           rw [if_neg c10] at H
           exact absurd H (by simp)
         ·
          rw [if_neg c9] at H
          exact absurd H (by simp)
        ·
         rw [if_neg c8] at H
         exact absurd H (by simp)
       ·
        rw [if_neg c7] at H
        exact absurd H (by simp)
      ·
       rw [if_neg c6] at H
       have c6b0 : decide (x15_1 < ((l0.drop 1).length : Int)) = false := decide_eq_false c6
       try have c6b3 : decide (x15_1 < ((l0.length - 1 : Nat) : Int)) = false := by have e_ := c6b0; rw [List.length_drop] at e_; exact e_
       clear c6
       obtain rfl := Option.some.inj H
       go_wp2
       go_ret
       exact ⟨by first | rfl | (simp; done) | (simp [*]; done), by repeat (first | exact Drawn0.refl _ | apply Drawn0.step)⟩
   ·
    rw [if_neg c4] at H
    exact absurd H (by simp)
  ·
   rw [if_neg c3] at H
   exact absurd H (by simp)




/-! ### eventlog_Text: function 20 -/
def eventlog_Text.l0 : Nat → ByteArray → List (List ByteArray) → Int → Int → Option (ByteArray × Int × Int)
 | 0, _, _, _, _ => none
 | k + 1, x5, x14, x15, x16 => if x16 < x15 then (if 0 ≤ x16 then (if x16 < (x14.length : Int) then ((eventlog_text.f k (rd_L1 x14 x16)).bind fun t245 => (if t245.size + 1 ≤ 9223372036854775807 then (if x5.size + (t245 ++ (⟨#[10]⟩ : ByteArray)).size ≤ 9223372036854775807 then (eventlog_Text.l0 k (x5 ++ (t245 ++ (⟨#[10]⟩ : ByteArray))) x14 x15 (wrap64 (x16 + 1))) else (none)) else (none))) else (none)) else (none)) else (some (x5, 0, 0))
def eventlog_Text.f (k : Nat) (l0 : List (List ByteArray)) : Option (ByteArray × Int × Int) := (eventlog_Check.f k l0).bind fun bt241 => (if bt241.1 = 0 then (eventlog_Text.l0 k (⟨#[]⟩ : ByteArray) l0 (l0.length : Int) 0) else (some ((⟨#[]⟩ : ByteArray), bt241.1, bt241.2)))
theorem eventlog_Text.mono_l : ∀ k, (∀ y0 y1 y2 y3, LeO (eventlog_Text.l0 k y0 y1 y2 y3) (eventlog_Text.l0 (k + 1) y0 y1 y2 y3))
 | 0 => fun _ _ _ _ r h => by simp [eventlog_Text.l0] at h
 | k + 1 => by
  have ih0 := eventlog_Text.mono_l k
  ·
   intro y0 y1 y2 y3
   unfold eventlog_Text.l0
   repeat' first
   | (with_reducible exact ih0 _ _ _ _)
   | (with_reducible exact eventlog_Check.mono _ _)
   | (with_reducible exact eventlog_text.mono _ _)
   | (with_reducible exact LeO.refl _)
   | (with_reducible exact LeO.none _)
   | (with_reducible refine LeO.ite ?_ ?_)
   | (with_reducible refine LeO.bind ?_ (fun _ => ?_))
   | exact ih0 _ _ _ _
   | exact eventlog_Check.mono _ _
   | exact eventlog_text.mono _ _
   | exact LeO.none _
   | refine LeO.ite ?_ ?_
   | refine LeO.bind ?_ (fun _ => ?_)
theorem eventlog_Text.mono : ∀ a0 k, LeO (eventlog_Text.f k a0) (eventlog_Text.f (k + 1) a0) := by
 intro a0 k
 have ih0 := eventlog_Text.mono_l k
 unfold eventlog_Text.f
 repeat' first
   | (with_reducible exact ih0 _ _ _ _)
   | (with_reducible exact eventlog_Check.mono _ _)
   | (with_reducible exact eventlog_text.mono _ _)
   | (with_reducible exact LeO.refl _)
   | (with_reducible exact LeO.none _)
   | (with_reducible refine LeO.ite ?_ ?_)
   | (with_reducible refine LeO.bind ?_ (fun _ => ?_))
   | exact ih0 _ _ _ _
   | exact eventlog_Check.mono _ _
   | exact eventlog_text.mono _ _
   | exact LeO.none _
   | refine LeO.ite ?_ ?_
   | refine LeO.bind ?_ (fun _ => ?_)
set_option maxHeartbeats 8000000 in
set_option maxRecDepth 100000 in
theorem eventlog_Text.calls (k : Nat) (A0 : Option Addr) (c0 : Nat) (l0 : List (List ByteArray)) (r1 : ByteArray) (r2 : Int) (r3 : Int) (w : World) (hr0 : Kd.C (Kd.slice 9 Kd.string) w A0 l0.length l0) (hc0 : l0.length ≤ c0) (h : eventlog_Text.f k l0 = some (r1, r2, r3)) :
  Calls Try.prog 20 #[.slice A0 l0.length c0] w fun e w' => e = .returned (.tuple #[.string r1, .agg #[.int .i64 r2, .int .i64 r3]]) ∧ Below w.heap.size w w' := by
 have hu26 := Try.underlying26
 have hu3 := Try.underlying3
 have hu24 := Try.underlying24
 have HR0 := Aside0.mk hr0
 have HC0 := Aside0.mk hc0
 clear hr0 hc0
 have HB := Aside0.mk (Below.refl w.heap.size w)
 have H : ((eventlog_Check.f k l0).bind fun bt241 => (if bt241.1 = 0 then (eventlog_Text.l0 k (⟨#[]⟩ : ByteArray) l0 (l0.length : Int) 0) else (some ((⟨#[]⟩ : ByteArray), bt241.1, bt241.2)))) = some (r1, r2, r3) := h
 clear h
 replace H := Option.bind_eq_some_iff.mp H
 obtain ⟨⟨t241, t242⟩, A20, H⟩ := H
 replace H : (if t241 = 0 then (eventlog_Text.l0 k (⟨#[]⟩ : ByteArray) l0 (l0.length : Int) 0) else (some ((⟨#[]⟩ : ByteArray), t241, t242))) = some (r1, r2, r3) := H
 have A2 := Aside0.mk A20
 clear A20
 by_cases c3 : t241 = 0
 ·
  rw [if_pos c3] at H
  have c3b0 : (t241 == 0) = true := beq_iff_eq.mpr c3
  have c3b1 : (t241 != 0) = false := bne_eq_false_iff_eq.mpr c3
  clear c3
  have H' := Aside0.mk H
  clear H
  go_enter Try.func20, Try.ntmps20
  go_wp2_with (first | ((with_reducible refine gate_dst (N := 3) rfl ?_); refine box_event ?hg (N := 3) ?hd (cs := #[.int .i64 0, .int .i64 0]) (t := 26) ?hr ?_; (case hd => rfl); (case hg => rfl); (case hr => first | (go_simp; done) | (go_simp; rfl)); intro gb240 hg w4 hbox hb; have n0_ := Aside0.mk (below_step (by repeat (first | (with_reducible first | exact HB.out | apply below_alloc | apply pw_below_drewN | apply below_drew1) | exact HB.out)) hb); have n1_ := Aside0.mk (hbox); have n2_ := Aside0.mk ((by rw [hg]; exact (below_size (by repeat (first | (with_reducible first | exact HB.out | apply below_alloc | apply pw_below_drewN | apply below_drew1) | exact HB.out))) : w.heap.size ≤ gb240)); have n3_ := Aside0.mk ((by rw [hg]; exact (below_size (by repeat (first | (with_reducible first | exact HB.out | apply below_alloc | apply pw_below_drewN | apply below_drew1) | exact HB.out))) : w.heap.size ≤ gb240)); clear HB; have HB := n0_; have BK240 := n1_; have GW240 := n2_; have GE240 := n3_; clear n0_ n1_ n2_ n3_; clear hb hbox hg) | ((with_reducible refine gate_callee (f := 24) rfl ?_); refine goesL_ (some 9) rfl rfl Try.func24 (by kernel_rfl) rfl #[.slice A0 l0.length c0] rfl (by (try simp only [List.map_toArray, List.map_cons, List.map_nil]); first | done | rfl | (simp only [List.length_drop, List.length_take]; rfl)) ?_; (with_reducible refine (eventlog_Check.calls k _ _ l0 t241 t242 _ ?side1 ?side2 A2.out).mono ?_); (case side1 => repeat (first | exact (Kd.C_below HR0.out HB.out) | (with_reducible refine Kd.C_alloc ?_ _) | (with_reducible refine Kd.C_drewN ?_ _) | (with_reducible refine Kd.C_drew ?_))); (case side2 => exact HC0.out); rintro e w5 ⟨rfl, hb⟩; refine ⟨_, rfl, ?_⟩; have n0_ := Aside0.mk (blk_below (g := gb240) (o := .cells #[.int .i64 0, .int .i64 0] 26 (0, 0)) (by (with_reducible repeat (first | refine blk_drewN ?_ _ | refine blk_drew ?_ | refine blk_alloc ?_ _)); exact BK240.out) hb); have n1_ := Aside0.mk (below_step (by repeat (first | (with_reducible first | exact HB.out | apply below_alloc | apply pw_below_drewN | apply below_drew1 | refine below_set ?_ GE240.out) | exact HB.out)) hb); clear BK240; clear HB; have BK240 := n0_; have HB := n1_; clear n0_ n1_; (try clear hb); (try clear hb2); (try clear hk); (try clear hi)) | ((with_reducible refine gate_dst (N := 4) rfl ?_); refine box_event ?hg (N := 4) ?hd (cs := #[.int .i64 0, .int .i64 0]) (t := 26) ?hr ?_; (case hd => rfl); (case hg => rfl); (case hr => first | (go_simp; done) | (go_simp; rfl)); intro gb243 hg w6 hbox hb; have n0_ := Aside0.mk (blk_below (g := gb240) (o := .cells #[.int .i64 0, .int .i64 0] 26 (0, 0)) (by (with_reducible repeat (first | refine blk_drewN ?_ _ | refine blk_drew ?_ | refine blk_alloc ?_ _)); exact BK240.out) hb); have n1_ := Aside0.mk (below_step (by repeat (first | (with_reducible first | exact HB.out | apply below_alloc | apply pw_below_drewN | apply below_drew1 | refine below_set ?_ GE240.out) | exact HB.out)) hb); have n2_ := Aside0.mk (hbox); have n3_ := Aside0.mk ((by rw [hg]; exact (below_size (by repeat (first | (with_reducible first | exact HB.out | apply below_alloc | apply pw_below_drewN | apply below_drew1 | refine below_set ?_ GE240.out) | exact HB.out))) : w.heap.size ≤ gb243)); have n4_ := Aside0.mk ((by rw [hg]; exact (below_size (by repeat (first | (with_reducible first | exact HB.out | apply below_alloc | apply pw_below_drewN | apply below_drew1 | refine below_set ?_ GE240.out) | exact HB.out))) : w.heap.size ≤ gb243)); have n5_ := Aside0.mk ((by rw [hg]; exact Nat.ne_of_lt (blk_lt (g := gb240) (o := .cells #[.int .i64 0, .int .i64 0] 26 (0, 0)) (by (with_reducible repeat (first | refine blk_drewN ?_ _ | refine blk_drew ?_ | refine blk_alloc ?_ _)); exact BK240.out)) : gb240 ≠ gb243)); have n6_ := Aside0.mk ((by rw [hg]; exact Nat.ne_of_gt (blk_lt (g := gb240) (o := .cells #[.int .i64 0, .int .i64 0] 26 (0, 0)) (by (with_reducible repeat (first | refine blk_drewN ?_ _ | refine blk_drew ?_ | refine blk_alloc ?_ _)); exact BK240.out)) : gb243 ≠ gb240)); clear BK240; clear HB; have BK240 := n0_; have HB := n1_; have BK243 := n2_; have GW243 := n3_; have GE243 := n4_; have NB240_243 := n5_; have NB243_240 := n6_; clear n0_ n1_ n2_ n3_ n4_ n5_ n6_; clear hb hbox hg; have hnb7 := NB243_240.out; have hnc7 := NB240_243.out; have hcz8_0 : w6.cell? ⟨gb243, 0, none⟩ = some (.int .i64 0) := (blk_cell BK243.out 0).trans rfl; have hcz8_1 : w6.cell? ⟨gb243, 1, none⟩ = some (.int .i64 0) := (blk_cell BK243.out 1).trans rfl; have hfz8_0 := blk_frozen BK243.out 0; have hfz8_1 := blk_frozen BK243.out 1))
  go_loopg [5, 16] k (fun kq v5 v16 w' => ∃ (x5_1 : ByteArray) (x16_1 : Int), v5 = .string x5_1 ∧ v16 = .int .i64 x16_1 ∧ Aside0 (eventlog_Text.l0 kq x5_1 l0 (l0.length : Int) x16_1 = some (r1, r2, r3)) ∧ Aside0 (kq ≤ k) ∧ Aside0 (w'.heap[gb240]? = some (.cells #[.int .i64 0, .int .i64 0] 26 (0, 0))) ∧ Aside0 (w'.heap[gb243]? = some (.cells #[.int .i64 t241, .int .i64 t242] 26 (0, 0))) ∧ Aside0 (Below w.heap.size w w'))
  case atStart => exact ⟨((⟨#[]⟩ : ByteArray)), (0), (by first | rfl | (simp; done) | (simp [*]; done) | (simp [i64_w]; done)), (by first | rfl | (simp; done) | (simp [*]; done) | (simp [i64_w]; done)), H', ⟨Nat.le_refl _⟩, ⟨by (with_reducible repeat (first | refine blk_drewN ?_ _ | refine blk_drew ?_ | refine blk_alloc ?_ _)); refine blk_far ?_ NB240_243.out _; (with_reducible repeat (first | refine blk_drewN ?_ _ | refine blk_drew ?_ | refine blk_alloc ?_ _)); refine blk_far ?_ NB240_243.out _; (with_reducible repeat (first | refine blk_drewN ?_ _ | refine blk_drew ?_ | refine blk_alloc ?_ _)); exact BK240.out⟩, ⟨by (with_reducible repeat (first | refine blk_drewN ?_ _ | refine blk_drew ?_ | refine blk_alloc ?_ _)); refine blk_put (cs := #[.int .i64 t241, .int .i64 0]) ?_ 1 _ rfl; (with_reducible repeat (first | refine blk_drewN ?_ _ | refine blk_drew ?_ | refine blk_alloc ?_ _)); refine blk_put (cs := #[.int .i64 0, .int .i64 0]) ?_ 0 _ rfl; (with_reducible repeat (first | refine blk_drewN ?_ _ | refine blk_drew ?_ | refine blk_alloc ?_ _)); exact BK243.out⟩, ⟨by repeat (first | (with_reducible first | exact HB.out | apply below_alloc | apply pw_below_drewN | apply below_drew1 | refine below_set ?_ GE240.out | refine below_set ?_ GE243.out) | exact HB.out)⟩⟩
  case round =>
   clear H'
   try clear c2
   try clear p2
   try clear c3
   try clear c3b0
   try clear c3b1
   try clear c7
   try clear hcz8_0
   try clear hcz8_1
   try clear hfz8_0
   try clear hfz8_1
   obtain ⟨x5_1, x16_1, rfl, rfl, HA, HK1, BK240, BK243, HB⟩ := hrel
   cases gk with
   | zero => exact absurd HA.out (by simp [eventlog_Text.l0])
   | succ k1 =>
    have H := HA.out
    clear HA
    simp only [eventlog_Text.l0] at H
    by_cases c9 : x16_1 < (l0.length : Int)
    ·
     rw [if_pos c9] at H
     have c9b0 : decide (x16_1 < (l0.length : Int)) = true := decide_eq_true c9
     clear c9
     by_cases c10 : 0 ≤ x16_1
     ·
      rw [if_pos c10] at H
      have c10b0 : decide (0 ≤ x16_1) = true := decide_eq_true c10
      clear c10
      by_cases c11 : x16_1 < (l0.length : Int)
      ·
       rw [if_pos c11] at H
       have c11b0 : decide (x16_1 < (l0.length : Int)) = true := decide_eq_true c11
       clear c11
       replace H := Option.bind_eq_some_iff.mp H
       obtain ⟨t245, A120, H⟩ := H
       replace H : (if t245.size + 1 ≤ 9223372036854775807 then (if x5_1.size + (t245 ++ (⟨#[10]⟩ : ByteArray)).size ≤ 9223372036854775807 then (eventlog_Text.l0 k1 (x5_1 ++ (t245 ++ (⟨#[10]⟩ : ByteArray))) l0 (l0.length : Int) (wrap64 (x16_1 + 1))) else (none)) else (none)) = some (r1, r2, r3) := H
       have A12 := Aside0.mk A120
       clear A120
       by_cases c13 : t245.size + 1 ≤ 9223372036854775807
       ·
        rw [if_pos c13] at H
        have c13b0 := eq_true c13
        have c13b1 : decide (t245.size + 1 ≤ 9223372036854775807) = true := decide_eq_true c13
        try have c13b2 : (9223372036854775807 < t245.size + 1) = False := eq_false (Nat.not_lt.2 c13)
        by_cases c14 : x5_1.size + (t245 ++ (⟨#[10]⟩ : ByteArray)).size ≤ 9223372036854775807
        ·
         rw [if_pos c14] at H
         have c14b0 := eq_true c14
         have c14b1 : decide (x5_1.size + (t245 ++ (⟨#[10]⟩ : ByteArray)).size ≤ 9223372036854775807) = true := decide_eq_true c14
         try have c14b2 : (9223372036854775807 < x5_1.size + (t245 ++ (⟨#[10]⟩ : ByteArray)).size) = False := eq_false (Nat.not_lt.2 c14)
         have H' := Aside0.mk H
         clear H
         have p244 : 0 ≤ (x16_1 : Int) := of_decide_eq_true (by first | (with_reducible assumption) | assumption)
         have q244 : x16_1 < (l0.length : Int) := of_decide_eq_true (by first | (with_reducible assumption) | assumption)
         obtain ⟨ad244, A244_0, c244_0, e244, hx244_0, hl244_0, hi244_0⟩ := at_L1 HR0.out x16_1 p244 q244
         cases e244
         replace hx244_0 := (HB.out.cell (World.block_lt_of_cell? w _ hx244_0)).trans hx244_0
         have HR244_0 := Aside0.mk hi244_0
         have HC244_0 := Aside0.mk hl244_0
         clear hi244_0 hl244_0
         replace p244 := eq_true p244
         replace q244 := eq_true q244
         go_wp2_with (first | ((with_reducible refine gate_callee (f := 41) rfl ?_); refine goesL_ (some 22) rfl rfl Try.func41 (by kernel_rfl) rfl #[.slice A244_0 (rd_L1 l0 x16_1).length c244_0] rfl (by (try simp only [List.map_toArray, List.map_cons, List.map_nil]); first | done | rfl | (simp only [List.length_drop, List.length_take]; rfl)) ?_; (with_reducible refine (eventlog_text.calls k1 _ _ (rd_L1 l0 x16_1) t245 _ ?side1 ?side2 A12.out).mono ?_); (case side1 => repeat (first | exact (Kd.C_below HR244_0.out HB.out) | (with_reducible refine Kd.C_alloc ?_ _) | (with_reducible refine Kd.C_drewN ?_ _) | (with_reducible refine Kd.C_drew ?_))); (case side2 => exact HC244_0.out); rintro e w' ⟨rfl, ⟨nd, rfl⟩⟩; refine ⟨_, rfl, ?_⟩))
         go_roundg k1
         case measure => have := HK1.out; omega
         case rel => exact ⟨(x5_1 ++ (t245 ++ (⟨#[10]⟩ : ByteArray))), (wrap64 (x16_1 + 1)), (by first | rfl | (simp; done) | (simp [*]; done) | (simp [i64_w]; done)), (by first | rfl | (simp; done) | (simp [*]; done) | (simp [i64_w]; done)), H', ⟨by have := HK1.out; omega⟩, ⟨by (with_reducible repeat (first | refine blk_drewN ?_ _ | refine blk_drew ?_ | refine blk_alloc ?_ _)); exact BK240.out⟩, ⟨by (with_reducible repeat (first | refine blk_drewN ?_ _ | refine blk_drew ?_ | refine blk_alloc ?_ _)); exact BK243.out⟩, ⟨by repeat (first | (with_reducible first | exact HB.out | apply below_alloc | apply pw_below_drewN | apply below_drew1 | refine below_set ?_ GE240.out | refine below_set ?_ GE243.out) | exact HB.out)⟩⟩
        ·
         rw [if_neg c14] at H
         exact absurd H (by simp)
       ·
        rw [if_neg c13] at H
        exact absurd H (by simp)
      ·
       rw [if_neg c11] at H
       exact absurd H (by simp)
     ·
      rw [if_neg c10] at H
      exact absurd H (by simp)
    ·
     rw [if_neg c9] at H
     have c9b0 : decide (x16_1 < (l0.length : Int)) = false := decide_eq_false c9
     clear c9
     simp only [Option.some.injEq, Prod.mk.injEq] at H
     obtain ⟨rfl, rfl, rfl⟩ := H
     have hnb15 := NB240_243.out
     have hnc15 := NB243_240.out
     have hcz16_0 : wr.cell? ⟨gb240, 0, none⟩ = some (.int .i64 0) := (blk_cell BK240.out 0).trans rfl
     have hcz16_1 : wr.cell? ⟨gb240, 1, none⟩ = some (.int .i64 0) := (blk_cell BK240.out 1).trans rfl
     have hfz16_0 := blk_frozen BK240.out 0
     have hfz16_1 := blk_frozen BK240.out 1
     go_wp2
     refine bodyPost_ret (results_tc rfl _ _ gb240 26 #[.int .i64 0, .int .i64 0] (0, 0) _ rfl (by (with_reducible repeat (first | refine blk_drewN ?_ _ | refine blk_drew ?_ | refine blk_alloc ?_ _)); refine blk_put (cs := #[.int .i64 0, .int .i64 0]) ?_ 1 _ rfl; (with_reducible repeat (first | refine blk_drewN ?_ _ | refine blk_drew ?_ | refine blk_alloc ?_ _)); refine blk_put (cs := #[.int .i64 0, .int .i64 0]) ?_ 0 _ rfl; (with_reducible repeat (first | refine blk_drewN ?_ _ | refine blk_drew ?_ | refine blk_alloc ?_ _)); exact BK240.out) Try.underlying26 rfl (by kernel_rfl)) rfl ?_
     exact ⟨by first | rfl | (simp [errW_none, errW_some] <;> rfl) | (simp [*, errW_none, errW_some] <;> rfl), by repeat (first | (with_reducible first | exact HB.out | apply below_alloc | apply pw_below_drewN | apply below_drew1 | refine below_set ?_ GE240.out | refine below_set ?_ GE243.out) | exact HB.out)⟩
 ·
  rw [if_neg c3] at H
  have c3b0 : (t241 == 0) = false := beq_eq_false_iff_ne.mpr c3
  have c3b1 : (t241 != 0) = true := bne_iff_ne.mpr c3
  simp only [Option.some.injEq, Prod.mk.injEq] at H
  obtain ⟨rfl, rfl, rfl⟩ := H
  go_enter Try.func20, Try.ntmps20
  try go_wp2_with (first | ((with_reducible refine gate_dst (N := 3) rfl ?_); refine box_event ?hg (N := 3) ?hd (cs := #[.int .i64 0, .int .i64 0]) (t := 26) ?hr ?_; (case hd => rfl); (case hg => rfl); (case hr => first | (go_simp; done) | (go_simp; rfl)); intro gb240 hg w17 hbox hb; have n0_ := Aside0.mk (below_step (by repeat (first | (with_reducible first | exact HB.out | apply below_alloc | apply pw_below_drewN | apply below_drew1) | exact HB.out)) hb); have n1_ := Aside0.mk (hbox); have n2_ := Aside0.mk ((by rw [hg]; exact (below_size (by repeat (first | (with_reducible first | exact HB.out | apply below_alloc | apply pw_below_drewN | apply below_drew1) | exact HB.out))) : w.heap.size ≤ gb240)); have n3_ := Aside0.mk ((by rw [hg]; exact (below_size (by repeat (first | (with_reducible first | exact HB.out | apply below_alloc | apply pw_below_drewN | apply below_drew1) | exact HB.out))) : w.heap.size ≤ gb240)); clear HB; have HB := n0_; have BK240 := n1_; have GW240 := n2_; have GE240 := n3_; clear n0_ n1_ n2_ n3_; clear hb hbox hg) | ((with_reducible refine gate_callee (f := 24) rfl ?_); refine goesL_ (some 9) rfl rfl Try.func24 (by kernel_rfl) rfl #[.slice A0 l0.length c0] rfl (by (try simp only [List.map_toArray, List.map_cons, List.map_nil]); first | done | rfl | (simp only [List.length_drop, List.length_take]; rfl)) ?_; (with_reducible refine (eventlog_Check.calls k _ _ l0 t241 t242 _ ?side1 ?side2 A2.out).mono ?_); (case side1 => repeat (first | exact (Kd.C_below HR0.out HB.out) | (with_reducible refine Kd.C_alloc ?_ _) | (with_reducible refine Kd.C_drewN ?_ _) | (with_reducible refine Kd.C_drew ?_))); (case side2 => exact HC0.out); rintro e w18 ⟨rfl, hb⟩; refine ⟨_, rfl, ?_⟩; have n0_ := Aside0.mk (blk_below (g := gb240) (o := .cells #[.int .i64 0, .int .i64 0] 26 (0, 0)) (by (with_reducible repeat (first | refine blk_drewN ?_ _ | refine blk_drew ?_ | refine blk_alloc ?_ _)); exact BK240.out) hb); have n1_ := Aside0.mk (below_step (by repeat (first | (with_reducible first | exact HB.out | apply below_alloc | apply pw_below_drewN | apply below_drew1 | refine below_set ?_ GE240.out) | exact HB.out)) hb); clear BK240; clear HB; have BK240 := n0_; have HB := n1_; clear n0_ n1_; (try clear hb); (try clear hb2); (try clear hk); (try clear hi)) | ((with_reducible refine gate_dst (N := 4) rfl ?_); refine box_event ?hg (N := 4) ?hd (cs := #[.int .i64 0, .int .i64 0]) (t := 26) ?hr ?_; (case hd => rfl); (case hg => rfl); (case hr => first | (go_simp; done) | (go_simp; rfl)); intro gb243 hg w19 hbox hb; have n0_ := Aside0.mk (blk_below (g := gb240) (o := .cells #[.int .i64 0, .int .i64 0] 26 (0, 0)) (by (with_reducible repeat (first | refine blk_drewN ?_ _ | refine blk_drew ?_ | refine blk_alloc ?_ _)); exact BK240.out) hb); have n1_ := Aside0.mk (below_step (by repeat (first | (with_reducible first | exact HB.out | apply below_alloc | apply pw_below_drewN | apply below_drew1 | refine below_set ?_ GE240.out) | exact HB.out)) hb); have n2_ := Aside0.mk (hbox); have n3_ := Aside0.mk ((by rw [hg]; exact (below_size (by repeat (first | (with_reducible first | exact HB.out | apply below_alloc | apply pw_below_drewN | apply below_drew1 | refine below_set ?_ GE240.out) | exact HB.out))) : w.heap.size ≤ gb243)); have n4_ := Aside0.mk ((by rw [hg]; exact (below_size (by repeat (first | (with_reducible first | exact HB.out | apply below_alloc | apply pw_below_drewN | apply below_drew1 | refine below_set ?_ GE240.out) | exact HB.out))) : w.heap.size ≤ gb243)); have n5_ := Aside0.mk ((by rw [hg]; exact Nat.ne_of_lt (blk_lt (g := gb240) (o := .cells #[.int .i64 0, .int .i64 0] 26 (0, 0)) (by (with_reducible repeat (first | refine blk_drewN ?_ _ | refine blk_drew ?_ | refine blk_alloc ?_ _)); exact BK240.out)) : gb240 ≠ gb243)); have n6_ := Aside0.mk ((by rw [hg]; exact Nat.ne_of_gt (blk_lt (g := gb240) (o := .cells #[.int .i64 0, .int .i64 0] 26 (0, 0)) (by (with_reducible repeat (first | refine blk_drewN ?_ _ | refine blk_drew ?_ | refine blk_alloc ?_ _)); exact BK240.out)) : gb243 ≠ gb240)); clear BK240; clear HB; have BK240 := n0_; have HB := n1_; have BK243 := n2_; have GW243 := n3_; have GE243 := n4_; have NB240_243 := n5_; have NB243_240 := n6_; clear n0_ n1_ n2_ n3_ n4_ n5_ n6_; clear hb hbox hg; have hnb20 := NB243_240.out; have hnc20 := NB240_243.out; have hcz21_0 : w19.cell? ⟨gb243, 0, none⟩ = some (.int .i64 0) := (blk_cell BK243.out 0).trans rfl; have hcz21_1 : w19.cell? ⟨gb243, 1, none⟩ = some (.int .i64 0) := (blk_cell BK243.out 1).trans rfl; have hfz21_0 := blk_frozen BK243.out 0; have hfz21_1 := blk_frozen BK243.out 1))
  have n0_ : Aside0 (((w19.setCell ⟨gb243, 0, none⟩ (.int .i64 t241)).setCell ⟨gb243, 1, none⟩ (.int .i64 t242)).heap[gb240]? = some (.cells #[.int .i64 0, .int .i64 0] 26 (0, 0))) := ⟨by (with_reducible repeat (first | refine blk_drewN ?_ _ | refine blk_drew ?_ | refine blk_alloc ?_ _)); refine blk_far ?_ NB240_243.out _; (with_reducible repeat (first | refine blk_drewN ?_ _ | refine blk_drew ?_ | refine blk_alloc ?_ _)); refine blk_far ?_ NB240_243.out _; (with_reducible repeat (first | refine blk_drewN ?_ _ | refine blk_drew ?_ | refine blk_alloc ?_ _)); exact BK240.out⟩
  have n1_ : Aside0 (((w19.setCell ⟨gb243, 0, none⟩ (.int .i64 t241)).setCell ⟨gb243, 1, none⟩ (.int .i64 t242)).heap[gb243]? = some (.cells #[.int .i64 t241, .int .i64 t242] 26 (0, 0))) := ⟨by (with_reducible repeat (first | refine blk_drewN ?_ _ | refine blk_drew ?_ | refine blk_alloc ?_ _)); refine blk_put (cs := #[.int .i64 t241, .int .i64 0]) ?_ 1 _ rfl; (with_reducible repeat (first | refine blk_drewN ?_ _ | refine blk_drew ?_ | refine blk_alloc ?_ _)); refine blk_put (cs := #[.int .i64 0, .int .i64 0]) ?_ 0 _ rfl; (with_reducible repeat (first | refine blk_drewN ?_ _ | refine blk_drew ?_ | refine blk_alloc ?_ _)); exact BK243.out⟩
  have n2_ : Aside0 (Below w.heap.size w ((w19.setCell ⟨gb243, 0, none⟩ (.int .i64 t241)).setCell ⟨gb243, 1, none⟩ (.int .i64 t242))) := ⟨by repeat (first | (with_reducible first | exact HB.out | apply below_alloc | apply pw_below_drewN | apply below_drew1 | refine below_set ?_ GE240.out | refine below_set ?_ GE243.out) | exact HB.out)⟩
  (try clear BK240)
  (try clear BK243)
  (try clear HB)
  generalize ((w19.setCell ⟨gb243, 0, none⟩ (.int .i64 t241)).setCell ⟨gb243, 1, none⟩ (.int .i64 t242)) = w22 at n0_ n1_ n2_ ⊢
  have BK240 := n0_
  have BK243 := n1_
  have HB := n2_
  clear n0_ n1_ n2_
  have n0_ := Aside0.mk (blk_drew BK240.out)
  have n1_ := Aside0.mk (blk_drew BK243.out)
  have n2_ := Aside0.mk (below_drew1 HB.out)
  clear BK240
  clear BK243
  clear HB
  have BK240 := n0_
  have BK243 := n1_
  have HB := n2_
  clear n0_ n1_ n2_
  refine start_ (n := 3) (S := fun w' => w'.cell? ⟨gb243, 0, none⟩ = some (.int .i64 t241) ∧ w'.cell? ⟨gb243, 1, none⟩ = some (.int .i64 t242)) (ds := []) #[false, false, false] (by kernel_rfl) rfl rfl ⟨(blk_cell BK243.out 0).trans rfl, (blk_cell BK243.out 1).trans rfl⟩ (fun hHeld => ?_)
  generalize w22.drew = w23 at BK240 BK243 HB hHeld ⊢
  refine pure_ (i := 1) (N := some 2) (v := ?_) (a' := ?_) #[false, true, false] rfl rfl (by kernel_rfl) (fun _ _ _ h => h) (Or.inl ⟨by rfl, ?_⟩) ?_ ?_
  rotate_left
  ·
   intro w'
   go_simp
   with_reducible rfl
  rotate_left
  ·
   simp only [Act.put, List.setIfInBounds_toArray, List.set_cons_zero, List.set_cons_succ, i64_w, i32_w]
   rfl
  refine take_ (i := 0) (N := some 13) (v := ?_) (a' := ?_) #[true, true, false] rfl rfl (by kernel_rfl) (fun _ _ _ h => h) (Or.inl ⟨by rfl, ?_⟩) hHeld ?_ ?_
  rotate_left
  ·
   rintro w' ⟨s0, s1⟩
   go_simp
   with_reducible rfl
  rotate_left
  ·
   simp only [Act.put, List.setIfInBounds_toArray, List.set_cons_zero, List.set_cons_succ, i64_w, i32_w]
   rfl
  refine one_ (i := 2) (N := none) #[true, true, true] rfl rfl (by kernel_rfl) (by decide) (fun K hK => ?_)
  have hs24 : w23.cell? ⟨gb240, 0, none⟩ = some (.int .i64 0) := (blk_cell BK240.out 0).trans rfl
  have hfs24 := blk_frozen BK240.out 0
  have hns24_1 := NB243_240.out
  have hms24_1 := NB240_243.out
  have hs25 : w23.cell? ⟨gb240, 1, none⟩ = some (.int .i64 0) := (blk_cell BK240.out 1).trans rfl
  have hfs25 := blk_frozen BK240.out 1
  have hns25_1 := NB243_240.out
  have hms25_1 := NB240_243.out
  refine skip_ (w1 := ?_) (by rfl) rfl ?_ ?_
  rotate_left
  ·
   go_simp
   rfl
  refine hK.out _ _ ⟨((cell_far (p := ⟨gb240, _, none⟩) NB243_240.out _).trans (((cell_far (p := ⟨gb240, _, none⟩) NB243_240.out _).trans (hHeld.1)))), ((cell_far (p := ⟨gb240, _, none⟩) NB243_240.out _).trans (((cell_far (p := ⟨gb240, _, none⟩) NB243_240.out _).trans (hHeld.2))))⟩ (fun hHeld => ?_)
  clear hK K
  refine done_ (by kernel_rfl) ?_
  try go_wp2
  refine bodyPost_ret (results_tc rfl _ _ gb240 26 #[.int .i64 t241, .int .i64 t242] (0, 0) _ rfl (by (with_reducible repeat (first | refine blk_drewN ?_ _ | refine blk_drew ?_ | refine blk_alloc ?_ _)); refine blk_put (cs := #[.int .i64 t241, .int .i64 0]) ?_ 1 _ rfl; (with_reducible repeat (first | refine blk_drewN ?_ _ | refine blk_drew ?_ | refine blk_alloc ?_ _)); refine blk_put (cs := #[.int .i64 0, .int .i64 0]) ?_ 0 _ rfl; (with_reducible repeat (first | refine blk_drewN ?_ _ | refine blk_drew ?_ | refine blk_alloc ?_ _)); exact BK240.out) Try.underlying26 rfl (by kernel_rfl)) rfl ?_
  exact ⟨by first | rfl | (simp [errW_none, errW_some] <;> rfl) | (simp [*, errW_none, errW_some] <;> rfl), by repeat (first | (with_reducible first | exact HB.out | apply below_alloc | apply pw_below_drewN | apply below_drew1 | refine below_set ?_ GE240.out | refine below_set ?_ GE243.out) | exact HB.out)⟩


/-! ### petrinetref48_Check: function 25 -/
mutual
def petrinetref48_Check.l0 : Nat → List (List ByteArray) → Int → Option (Int × Int)
 | 0, _, _ => none
 | k + 1, x0, x3 => if x3 < (x0.length : Int) then (if 0 ≤ x3 then (if ((rd_L1 x0 x3).length : Int) > 64 then (some (2, x3)) else (petrinetref48_Check.l1 k x0 x3 0)) else (none)) else (some (0, 0))
def petrinetref48_Check.l1 : Nat → List (List ByteArray) → Int → Int → Option (Int × Int)
 | 0, _, _, _ => none
 | k + 1, x0, x3, x4 => if 0 ≤ x3 then (if x3 < (x0.length : Int) then (if x4 < ((rd_L1 x0 x3).length : Int) then (if 0 ≤ x4 then ((petrinetref48_Name.f k (rdOf ByteArray.empty (rd_L1 x0 x3) x4)).bind fun t251 => (if t251 = true then (petrinetref48_Check.l1 k x0 x3 (wrap64 (x4 + 1))) else (some (5, x3)))) else (none)) else (petrinetref48_Check.l0 k x0 (wrap64 (x3 + 1)))) else (none)) else (none)
end
def petrinetref48_Check.f (k : Nat) (l0 : List (List ByteArray)) : Option (Int × Int) := if (l0.length : Int) > 64 then (some (2, 0)) else (petrinetref48_Check.l0 k l0 0)
theorem petrinetref48_Check.mono_l : ∀ k, (∀ y0 y1, LeO (petrinetref48_Check.l0 k y0 y1) (petrinetref48_Check.l0 (k + 1) y0 y1)) ∧ (∀ y0 y1 y2, LeO (petrinetref48_Check.l1 k y0 y1 y2) (petrinetref48_Check.l1 (k + 1) y0 y1 y2))
 | 0 => ⟨fun _ _ r h => by simp [petrinetref48_Check.l0] at h, fun _ _ _ r h => by simp [petrinetref48_Check.l1] at h⟩
 | k + 1 => by
  obtain ⟨ih0, ih1⟩ := petrinetref48_Check.mono_l k
  refine ⟨?_, ?_⟩
  ·
   intro y0 y1
   unfold petrinetref48_Check.l0
   repeat' first
   | (with_reducible exact ih0 _ _)
   | (with_reducible exact ih1 _ _ _)
   | (with_reducible exact petrinetref48_Name.mono _ _)
   | (with_reducible exact LeO.refl _)
   | (with_reducible exact LeO.none _)
   | (with_reducible refine LeO.ite ?_ ?_)
   | (with_reducible refine LeO.bind ?_ (fun _ => ?_))
   | exact ih0 _ _
   | exact ih1 _ _ _
   | exact petrinetref48_Name.mono _ _
   | exact LeO.none _
   | refine LeO.ite ?_ ?_
   | refine LeO.bind ?_ (fun _ => ?_)
  ·
   intro y0 y1 y2
   unfold petrinetref48_Check.l1
   repeat' first
   | (with_reducible exact ih0 _ _)
   | (with_reducible exact ih1 _ _ _)
   | (with_reducible exact petrinetref48_Name.mono _ _)
   | (with_reducible exact LeO.refl _)
   | (with_reducible exact LeO.none _)
   | (with_reducible refine LeO.ite ?_ ?_)
   | (with_reducible refine LeO.bind ?_ (fun _ => ?_))
   | exact ih0 _ _
   | exact ih1 _ _ _
   | exact petrinetref48_Name.mono _ _
   | exact LeO.none _
   | refine LeO.ite ?_ ?_
   | refine LeO.bind ?_ (fun _ => ?_)
theorem petrinetref48_Check.mono : ∀ a0 k, LeO (petrinetref48_Check.f k a0) (petrinetref48_Check.f (k + 1) a0) := by
 intro a0 k
 obtain ⟨ih0, ih1⟩ := petrinetref48_Check.mono_l k
 unfold petrinetref48_Check.f
 repeat' first
   | (with_reducible exact ih0 _ _)
   | (with_reducible exact ih1 _ _ _)
   | (with_reducible exact petrinetref48_Name.mono _ _)
   | (with_reducible exact LeO.refl _)
   | (with_reducible exact LeO.none _)
   | (with_reducible refine LeO.ite ?_ ?_)
   | (with_reducible refine LeO.bind ?_ (fun _ => ?_))
   | exact ih0 _ _
   | exact ih1 _ _ _
   | exact petrinetref48_Name.mono _ _
   | exact LeO.none _
   | refine LeO.ite ?_ ?_
   | refine LeO.bind ?_ (fun _ => ?_)
set_option maxHeartbeats 8000000 in
set_option maxRecDepth 100000 in
theorem petrinetref48_Check.calls (k : Nat) (A0 : Option Addr) (c0 : Nat) (l0 : List (List ByteArray)) (r1 : Int) (r2 : Int) (w : World) (hr0 : Kd.C (Kd.slice 9 Kd.string) w A0 l0.length l0) (hc0 : l0.length ≤ c0) (h : petrinetref48_Check.f k l0 = some (r1, r2)) :
  Calls Try.prog 25 #[.slice A0 l0.length c0] w fun e w' => e = .returned (.agg #[.int .i64 r1, .int .i64 r2]) ∧ Below w.heap.size w w' := by
 have hu26 := Try.underlying26
 have hu3 := Try.underlying3
 have hu24 := Try.underlying24
 have HR0 := Aside0.mk hr0
 have HC0 := Aside0.mk hc0
 clear hr0 hc0
 have HB := Aside0.mk (Below.refl w.heap.size w)
 have H : (if (l0.length : Int) > 64 then (some (2, 0)) else (petrinetref48_Check.l0 k l0 0)) = some (r1, r2) := h
 clear h
 by_cases c2 : (l0.length : Int) > 64
 ·
  rw [if_pos c2] at H
  have c2b0 : decide (64 < (l0.length : Int)) = true := decide_eq_true c2
  have c2b1 : decide (64 < l0.length) = true := decide_eq_true (by omega)
  clear c2
  simp only [Option.some.injEq, Prod.mk.injEq] at H
  obtain ⟨rfl, rfl⟩ := H
  go_enter Try.func25, Try.ntmps25
  go_wp2_with (first | ((with_reducible refine gate_dst (N := 2) rfl ?_); refine box_event ?hg (N := 2) ?hd (cs := #[.int .i64 0, .int .i64 0]) (t := 26) ?hr ?_; (case hd => rfl); (case hg => rfl); (case hr => first | (go_simp; done) | (go_simp; rfl)); intro gb246 hg w3 hbox hb; have n0_ := Aside0.mk (below_step (by repeat (first | (with_reducible first | exact HB.out | apply below_alloc | apply pw_below_drewN | apply below_drew1) | exact HB.out)) hb); have n1_ := Aside0.mk (hbox); have n2_ := Aside0.mk ((by rw [hg]; exact (below_size (by repeat (first | (with_reducible first | exact HB.out | apply below_alloc | apply pw_below_drewN | apply below_drew1) | exact HB.out))) : w.heap.size ≤ gb246)); have n3_ := Aside0.mk ((by rw [hg]; exact (below_size (by repeat (first | (with_reducible first | exact HB.out | apply below_alloc | apply pw_below_drewN | apply below_drew1) | exact HB.out))) : w.heap.size ≤ gb246)); clear HB; have HB := n0_; have BK246 := n1_; have GW246 := n2_; have GE246 := n3_; clear n0_ n1_ n2_ n3_; clear hb hbox hg; have hcz4_0 : w3.cell? ⟨gb246, 0, none⟩ = some (.int .i64 0) := (blk_cell BK246.out 0).trans rfl; have hcz4_1 : w3.cell? ⟨gb246, 1, none⟩ = some (.int .i64 0) := (blk_cell BK246.out 1).trans rfl; have hfz4_0 := blk_frozen BK246.out 0; have hfz4_1 := blk_frozen BK246.out 1))
  refine bodyPost_ret (results_cell_row rfl _ _ gb246 26 #[.int .i64 2, .int .i64 0] (0, 0) _ rfl (by (with_reducible repeat (first | refine blk_drewN ?_ _ | refine blk_drew ?_ | refine blk_alloc ?_ _)); refine blk_put (cs := #[.int .i64 2, .int .i64 0]) ?_ 1 _ rfl; (with_reducible repeat (first | refine blk_drewN ?_ _ | refine blk_drew ?_ | refine blk_alloc ?_ _)); refine blk_put (cs := #[.int .i64 0, .int .i64 0]) ?_ 0 _ rfl; (with_reducible repeat (first | refine blk_drewN ?_ _ | refine blk_drew ?_ | refine blk_alloc ?_ _)); exact BK246.out) Try.underlying26 rfl (by kernel_rfl)) rfl ?_
  exact ⟨by first | rfl | (simp [errW_none, errW_some] <;> rfl) | (simp [*, errW_none, errW_some] <;> rfl), by repeat (first | (with_reducible first | exact HB.out | apply below_alloc | apply pw_below_drewN | apply below_drew1 | refine below_set ?_ GE246.out) | exact HB.out)⟩
 ·
  rw [if_neg c2] at H
  have c2b0 : decide (64 < (l0.length : Int)) = false := decide_eq_false c2
  have c2b1 : decide (64 < l0.length) = false := decide_eq_false (by omega)
  clear c2
  have H' := Aside0.mk H
  clear H
  go_enter Try.func25, Try.ntmps25
  go_wp2_with (first | ((with_reducible refine gate_dst (N := 2) rfl ?_); refine box_event ?hg (N := 2) ?hd (cs := #[.int .i64 0, .int .i64 0]) (t := 26) ?hr ?_; (case hd => rfl); (case hg => rfl); (case hr => first | (go_simp; done) | (go_simp; rfl)); intro gb246 hg w5 hbox hb; have n0_ := Aside0.mk (below_step (by repeat (first | (with_reducible first | exact HB.out | apply below_alloc | apply pw_below_drewN | apply below_drew1) | exact HB.out)) hb); have n1_ := Aside0.mk (hbox); have n2_ := Aside0.mk ((by rw [hg]; exact (below_size (by repeat (first | (with_reducible first | exact HB.out | apply below_alloc | apply pw_below_drewN | apply below_drew1) | exact HB.out))) : w.heap.size ≤ gb246)); have n3_ := Aside0.mk ((by rw [hg]; exact (below_size (by repeat (first | (with_reducible first | exact HB.out | apply below_alloc | apply pw_below_drewN | apply below_drew1) | exact HB.out))) : w.heap.size ≤ gb246)); clear HB; have HB := n0_; have BK246 := n1_; have GW246 := n2_; have GE246 := n3_; clear n0_ n1_ n2_ n3_; clear hb hbox hg))
  go_loopg [3] k (fun kq v3 w' => ∃ (x3_1 : Int) (x247000_1 : Int) (x247001_1 : Int), v3 = .int .i64 x3_1 ∧ Aside0 (petrinetref48_Check.l0 kq l0 x3_1 = some (r1, r2)) ∧ Aside0 (kq ≤ k) ∧ Aside0 (w'.heap[gb246]? = some (.cells #[.int .i64 x247000_1, .int .i64 x247001_1] 26 (0, 0))) ∧ Aside0 (Below w.heap.size w w'))
  case atStart => exact ⟨(0), (0), (0), (by first | rfl | (simp; done) | (simp [*]; done) | (simp [i64_w]; done)), H', ⟨Nat.le_refl _⟩, ⟨by (with_reducible repeat (first | refine blk_drewN ?_ _ | refine blk_drew ?_ | refine blk_alloc ?_ _)); exact BK246.out⟩, ⟨by repeat (first | (with_reducible first | exact HB.out | apply below_alloc | apply pw_below_drewN | apply below_drew1 | refine below_set ?_ GE246.out) | exact HB.out)⟩⟩
  case round =>
   clear H'
   try clear c2
   try clear c2b0
   try clear c2b1
   try clear p2
   try clear hcz4_0
   try clear hcz4_1
   try clear hfz4_0
   try clear hfz4_1
   obtain ⟨x3_1, x247000_1, x247001_1, rfl, HA, HK1, BK246, HB⟩ := hrel
   cases gk with
   | zero => exact absurd HA.out (by simp [petrinetref48_Check.l0])
   | succ k1 =>
    have H := HA.out
    clear HA
    simp only [petrinetref48_Check.l0] at H
    by_cases c6 : x3_1 < (l0.length : Int)
    ·
     rw [if_pos c6] at H
     have c6b0 : decide (x3_1 < (l0.length : Int)) = true := decide_eq_true c6
     clear c6
     by_cases c7 : 0 ≤ x3_1
     ·
      rw [if_pos c7] at H
      have c7b0 : decide (0 ≤ x3_1) = true := decide_eq_true c7
      clear c7
      by_cases c8 : ((rd_L1 l0 x3_1).length : Int) > 64
      ·
       rw [if_pos c8] at H
       have c8b0 : decide (64 < ((rd_L1 l0 x3_1).length : Int)) = true := decide_eq_true c8
       have c8b1 : decide (64 < (rd_L1 l0 x3_1).length) = true := decide_eq_true (by omega)
       clear c8
       simp only [Option.some.injEq, Prod.mk.injEq] at H
       obtain ⟨rfl, rfl⟩ := H
       have p247 : 0 ≤ (x3_1 : Int) := of_decide_eq_true (by first | (with_reducible assumption) | assumption)
       have q247 : x3_1 < (l0.length : Int) := of_decide_eq_true (by first | (with_reducible assumption) | assumption)
       obtain ⟨ad247, A247_0, c247_0, e247, hx247_0, hl247_0, hi247_0⟩ := at_L1 HR0.out x3_1 p247 q247
       cases e247
       replace hx247_0 := (HB.out.cell (World.block_lt_of_cell? w _ hx247_0)).trans hx247_0
       have HR247_0 := Aside0.mk hi247_0
       have HC247_0 := Aside0.mk hl247_0
       clear hi247_0 hl247_0
       replace p247 := eq_true p247
       replace q247 := eq_true q247
       have hcz9_0 : wr.cell? ⟨gb246, 0, none⟩ = some (.int .i64 x247000_1) := (blk_cell BK246.out 0).trans rfl
       have hcz9_1 : wr.cell? ⟨gb246, 1, none⟩ = some (.int .i64 x247001_1) := (blk_cell BK246.out 1).trans rfl
       have hfz9_0 := blk_frozen BK246.out 0
       have hfz9_1 := blk_frozen BK246.out 1
       go_wp2
       refine bodyPost_ret (results_cell_row rfl _ _ gb246 26 #[.int .i64 2, .int .i64 x3_1] (0, 0) _ rfl (by (with_reducible repeat (first | refine blk_drewN ?_ _ | refine blk_drew ?_ | refine blk_alloc ?_ _)); refine blk_put (cs := #[.int .i64 2, .int .i64 x247001_1]) ?_ 1 _ rfl; (with_reducible repeat (first | refine blk_drewN ?_ _ | refine blk_drew ?_ | refine blk_alloc ?_ _)); refine blk_put (cs := #[.int .i64 x247000_1, .int .i64 x247001_1]) ?_ 0 _ rfl; (with_reducible repeat (first | refine blk_drewN ?_ _ | refine blk_drew ?_ | refine blk_alloc ?_ _)); exact BK246.out) Try.underlying26 rfl (by kernel_rfl)) rfl ?_
       exact ⟨by first | rfl | (simp [errW_none, errW_some] <;> rfl) | (simp [*, errW_none, errW_some] <;> rfl), by repeat (first | (with_reducible first | exact HB.out | apply below_alloc | apply pw_below_drewN | apply below_drew1 | refine below_set ?_ GE246.out) | exact HB.out)⟩
      ·
       rw [if_neg c8] at H
       have c8b0 : decide (64 < ((rd_L1 l0 x3_1).length : Int)) = false := decide_eq_false c8
       have c8b1 : decide (64 < (rd_L1 l0 x3_1).length) = false := decide_eq_false (by omega)
       clear c8
       have H' := Aside0.mk H
       clear H
       have p247 : 0 ≤ (x3_1 : Int) := of_decide_eq_true (by first | (with_reducible assumption) | assumption)
       have q247 : x3_1 < (l0.length : Int) := of_decide_eq_true (by first | (with_reducible assumption) | assumption)
       obtain ⟨ad247, A247_0, c247_0, e247, hx247_0, hl247_0, hi247_0⟩ := at_L1 HR0.out x3_1 p247 q247
       cases e247
       replace hx247_0 := (HB.out.cell (World.block_lt_of_cell? w _ hx247_0)).trans hx247_0
       have HR247_0 := Aside0.mk hi247_0
       have HC247_0 := Aside0.mk hl247_0
       clear hi247_0 hl247_0
       replace p247 := eq_true p247
       replace q247 := eq_true q247
       go_wp2
       go_loopg [4] k1 (fun kq v4 w' => ∃ (x4_2 : Int) (x247000_2 : Int) (x247001_2 : Int), v4 = .int .i64 x4_2 ∧ Aside0 (petrinetref48_Check.l1 kq l0 x3_1 x4_2 = some (r1, r2)) ∧ Aside0 (kq ≤ k1) ∧ Aside0 (w'.heap[gb246]? = some (.cells #[.int .i64 x247000_2, .int .i64 x247001_2] 26 (0, 0))) ∧ Aside0 (Below w.heap.size w w'))
       case atStart => exact ⟨(0), (x247000_1), (x247001_1), (by first | rfl | (simp; done) | (simp [*]; done) | (simp [i64_w]; done)), H', ⟨Nat.le_refl _⟩, ⟨by (with_reducible repeat (first | refine blk_drewN ?_ _ | refine blk_drew ?_ | refine blk_alloc ?_ _)); exact BK246.out⟩, ⟨by repeat (first | (with_reducible first | exact HB.out | apply below_alloc | apply pw_below_drewN | apply below_drew1 | refine below_set ?_ GE246.out) | exact HB.out)⟩⟩
       case round =>
        clear H'
        try clear c2
        try clear c2b0
        try clear c2b1
        try clear p2
        try clear q2
        try clear hx2
        try clear c6
        try clear c6b0
        try clear c7
        try clear c7b0
        try clear c8
        try clear c8b0
        try clear c8b1
        try clear hcz4_0
        try clear hcz4_1
        try clear hcz9_0
        try clear hcz9_1
        try clear hfz4_0
        try clear hfz4_1
        try clear hfz9_0
        try clear hfz9_1
        try clear hx247_0
        try clear p2
        try clear p247
        try clear q247
        obtain ⟨x4_2, x247000_2, x247001_2, rfl, HA, HK2, BK246, HB⟩ := hrel
        cases gk with
        | zero => exact absurd HA.out (by simp [petrinetref48_Check.l1])
        | succ k2 =>
         have H := HA.out
         clear HA
         simp only [petrinetref48_Check.l1] at H
         by_cases c10 : 0 ≤ x3_1
         ·
          rw [if_pos c10] at H
          have c10b0 : decide (0 ≤ x3_1) = true := decide_eq_true c10
          clear c10
          by_cases c11 : x3_1 < (l0.length : Int)
          ·
           rw [if_pos c11] at H
           have c11b0 : decide (x3_1 < (l0.length : Int)) = true := decide_eq_true c11
           clear c11
           by_cases c12 : x4_2 < ((rd_L1 l0 x3_1).length : Int)
           ·
            rw [if_pos c12] at H
            have c12b0 : decide (x4_2 < ((rd_L1 l0 x3_1).length : Int)) = true := decide_eq_true c12
            clear c12
            by_cases c13 : 0 ≤ x4_2
            ·
             rw [if_pos c13] at H
             have c13b0 : decide (0 ≤ x4_2) = true := decide_eq_true c13
             clear c13
             replace H := Option.bind_eq_some_iff.mp H
             obtain ⟨t251, A140, H⟩ := H
             replace H : (if t251 = true then (petrinetref48_Check.l1 k2 l0 x3_1 (wrap64 (x4_2 + 1))) else (some (5, x3_1))) = some (r1, r2) := H
             have A14 := Aside0.mk A140
             clear A140
             by_cases c15 : t251 = true
             ·
              subst c15
              have H1 : (petrinetref48_Check.l1 k2 l0 x3_1 (wrap64 (x4_2 + 1))) = some (r1, r2) := by rw [if_pos rfl] at H; exact H
              clear H
              have H := H1
              clear H1
              have H' := Aside0.mk H
              clear H
              have p248 : 0 ≤ (x3_1 : Int) := of_decide_eq_true (by first | (with_reducible assumption) | assumption)
              have q248 : x3_1 < (l0.length : Int) := of_decide_eq_true (by first | (with_reducible assumption) | assumption)
              obtain ⟨ad248, A248_0, c248_0, e248, hx248_0, hl248_0, hi248_0⟩ := at_L1 HR0.out x3_1 p248 q248
              obtain rfl : ad247 = ad248 := (by injection e248)
              replace hx248_0 := (HB.out.cell (World.block_lt_of_cell? w _ hx248_0)).trans hx248_0
              have HR248_0 := Aside0.mk hi248_0
              have HC248_0 := Aside0.mk hl248_0
              clear hi248_0 hl248_0
              replace p248 := eq_true p248
              replace q248 := eq_true q248
              have p249 : 0 ≤ (x3_1 : Int) := of_decide_eq_true (by first | (with_reducible assumption) | assumption)
              have q249 : x3_1 < (l0.length : Int) := of_decide_eq_true (by first | (with_reducible assumption) | assumption)
              obtain ⟨ad249, A249_0, c249_0, e249, hx249_0, hl249_0, hi249_0⟩ := at_L1 HR0.out x3_1 p249 q249
              obtain rfl : ad247 = ad249 := (by injection e249)
              replace hx249_0 := (HB.out.cell (World.block_lt_of_cell? w _ hx249_0)).trans hx249_0
              have HR249_0 := Aside0.mk hi249_0
              have HC249_0 := Aside0.mk hl249_0
              clear hi249_0 hl249_0
              replace p249 := eq_true p249
              replace q249 := eq_true q249
              have ea_ := Option.some.inj (hx248_0.symm.trans hx249_0)
              injection ea_ with ea_ en_ ec_
              subst ea_
              subst ec_
              clear en_
              have p250 : 0 ≤ (x4_2 : Int) := of_decide_eq_true (by first | (with_reducible assumption) | assumption)
              have q250 : x4_2 < ((rd_L1 l0 x3_1).length : Int) := of_decide_eq_true (by first | (with_reducible assumption) | assumption)
              obtain ⟨ad250, e250, hx250_0⟩ := Kd.at_string HR249_0.out x4_2 p250 q250
              cases e250
              replace hx250_0 := (HB.out.cell (World.block_lt_of_cell? w _ hx250_0)).trans hx250_0
              replace p250 := eq_true p250
              replace q250 := eq_true q250
              go_wp2_with (first | ((with_reducible refine gate_callee (f := 23) rfl ?_); refine goesL_ (some 39) rfl rfl Try.func23 (by kernel_rfl) rfl #[.string (rdOf ByteArray.empty (rd_L1 l0 x3_1) x4_2)] rfl (by (try simp only [List.map_toArray, List.map_cons, List.map_nil]); first | done | rfl | (simp only [List.length_drop, List.length_take]; rfl)) ?_; (with_reducible refine (petrinetref48_Name.calls k2 (rdOf ByteArray.empty (rd_L1 l0 x3_1) x4_2) true _ A14.out).mono ?_); rintro e w' ⟨rfl, ⟨nd, rfl⟩⟩; refine ⟨_, rfl, ?_⟩))
              go_roundg k2
              case measure => have := HK1.out; have := HK2.out; omega
              case rel => exact ⟨(wrap64 (x4_2 + 1)), (x247000_2), (x247001_2), (by first | rfl | (simp; done) | (simp [*]; done) | (simp [i64_w]; done)), H', ⟨by have := HK1.out; have := HK2.out; omega⟩, ⟨by (with_reducible repeat (first | refine blk_drewN ?_ _ | refine blk_drew ?_ | refine blk_alloc ?_ _)); exact BK246.out⟩, ⟨by repeat (first | (with_reducible first | exact HB.out | apply below_alloc | apply pw_below_drewN | apply below_drew1 | refine below_set ?_ GE246.out) | exact HB.out)⟩⟩
             ·
              replace c15 := Bool.eq_false_iff.mpr c15
              subst c15
              have H1 : (some (5, x3_1)) = some (r1, r2) := by rw [if_neg (show ¬ (false = true) by decide)] at H; exact H
              clear H
              have H := H1
              clear H1
              simp only [Option.some.injEq, Prod.mk.injEq] at H
              obtain ⟨rfl, rfl⟩ := H
              have p248 : 0 ≤ (x3_1 : Int) := of_decide_eq_true (by first | (with_reducible assumption) | assumption)
              have q248 : x3_1 < (l0.length : Int) := of_decide_eq_true (by first | (with_reducible assumption) | assumption)
              obtain ⟨ad248, A248_0, c248_0, e248, hx248_0, hl248_0, hi248_0⟩ := at_L1 HR0.out x3_1 p248 q248
              obtain rfl : ad247 = ad248 := (by injection e248)
              replace hx248_0 := (HB.out.cell (World.block_lt_of_cell? w _ hx248_0)).trans hx248_0
              have HR248_0 := Aside0.mk hi248_0
              have HC248_0 := Aside0.mk hl248_0
              clear hi248_0 hl248_0
              replace p248 := eq_true p248
              replace q248 := eq_true q248
              have p249 : 0 ≤ (x3_1 : Int) := of_decide_eq_true (by first | (with_reducible assumption) | assumption)
              have q249 : x3_1 < (l0.length : Int) := of_decide_eq_true (by first | (with_reducible assumption) | assumption)
              obtain ⟨ad249, A249_0, c249_0, e249, hx249_0, hl249_0, hi249_0⟩ := at_L1 HR0.out x3_1 p249 q249
              obtain rfl : ad247 = ad249 := (by injection e249)
              replace hx249_0 := (HB.out.cell (World.block_lt_of_cell? w _ hx249_0)).trans hx249_0
              have HR249_0 := Aside0.mk hi249_0
              have HC249_0 := Aside0.mk hl249_0
              clear hi249_0 hl249_0
              replace p249 := eq_true p249
              replace q249 := eq_true q249
              have ea_ := Option.some.inj (hx248_0.symm.trans hx249_0)
              injection ea_ with ea_ en_ ec_
              subst ea_
              subst ec_
              clear en_
              have p250 : 0 ≤ (x4_2 : Int) := of_decide_eq_true (by first | (with_reducible assumption) | assumption)
              have q250 : x4_2 < ((rd_L1 l0 x3_1).length : Int) := of_decide_eq_true (by first | (with_reducible assumption) | assumption)
              obtain ⟨ad250, e250, hx250_0⟩ := Kd.at_string HR249_0.out x4_2 p250 q250
              cases e250
              replace hx250_0 := (HB.out.cell (World.block_lt_of_cell? w _ hx250_0)).trans hx250_0
              replace p250 := eq_true p250
              replace q250 := eq_true q250
              go_wp2_with (first | ((with_reducible refine gate_callee (f := 23) rfl ?_); refine goesL_ (some 39) rfl rfl Try.func23 (by kernel_rfl) rfl #[.string (rdOf ByteArray.empty (rd_L1 l0 x3_1) x4_2)] rfl (by (try simp only [List.map_toArray, List.map_cons, List.map_nil]); first | done | rfl | (simp only [List.length_drop, List.length_take]; rfl)) ?_; (with_reducible refine (petrinetref48_Name.calls k2 (rdOf ByteArray.empty (rd_L1 l0 x3_1) x4_2) false _ A14.out).mono ?_); rintro e w' ⟨rfl, ⟨nd, rfl⟩⟩; refine ⟨_, rfl, ?_⟩; (try (rw [drewN_self wr]; generalize hq_ : World.drewN wr _ = wr; have n0_ : Aside0 (wr.heap[gb246]? = some (.cells #[.int .i64 x247000_2, .int .i64 x247001_2] 26 (0, 0))) := ⟨by rw [← hq_]; exact (by (with_reducible repeat (first | refine blk_drewN ?_ _ | refine blk_drew ?_ | refine blk_alloc ?_ _)); exact BK246.out)⟩; have n1_ : Aside0 (Below w.heap.size w wr) := ⟨by rw [← hq_]; exact (by repeat (first | (with_reducible first | exact HB.out | apply below_alloc | apply pw_below_drewN | apply below_drew1 | refine below_set ?_ GE246.out) | exact HB.out))⟩; clear BK246 HB hq_; have BK246 := n0_; have HB := n1_; clear n0_ n1_)); have hcz16_0 : wr.cell? ⟨gb246, 0, none⟩ = some (.int .i64 x247000_2) := (blk_cell BK246.out 0).trans rfl; have hcz16_1 : wr.cell? ⟨gb246, 1, none⟩ = some (.int .i64 x247001_2) := (blk_cell BK246.out 1).trans rfl; have hfz16_0 := blk_frozen BK246.out 0; have hfz16_1 := blk_frozen BK246.out 1))
              refine bodyPost_ret (results_cell_row rfl _ _ gb246 26 #[.int .i64 5, .int .i64 x3_1] (0, 0) _ rfl (by (with_reducible repeat (first | refine blk_drewN ?_ _ | refine blk_drew ?_ | refine blk_alloc ?_ _)); refine blk_put (cs := #[.int .i64 5, .int .i64 x247001_2]) ?_ 1 _ rfl; (with_reducible repeat (first | refine blk_drewN ?_ _ | refine blk_drew ?_ | refine blk_alloc ?_ _)); refine blk_put (cs := #[.int .i64 x247000_2, .int .i64 x247001_2]) ?_ 0 _ rfl; (with_reducible repeat (first | refine blk_drewN ?_ _ | refine blk_drew ?_ | refine blk_alloc ?_ _)); exact BK246.out) Try.underlying26 rfl (by kernel_rfl)) rfl ?_
              exact ⟨by first | rfl | (simp [errW_none, errW_some] <;> rfl) | (simp [*, errW_none, errW_some] <;> rfl), by repeat (first | (with_reducible first | exact HB.out | apply below_alloc | apply pw_below_drewN | apply below_drew1 | refine below_set ?_ GE246.out) | exact HB.out)⟩
            ·
             rw [if_neg c13] at H
             exact absurd H (by simp)
           ·
            rw [if_neg c12] at H
            have c12b0 : decide (x4_2 < ((rd_L1 l0 x3_1).length : Int)) = false := decide_eq_false c12
            clear c12
            have H' := Aside0.mk H
            clear H
            have p248 : 0 ≤ (x3_1 : Int) := of_decide_eq_true (by first | (with_reducible assumption) | assumption)
            have q248 : x3_1 < (l0.length : Int) := of_decide_eq_true (by first | (with_reducible assumption) | assumption)
            obtain ⟨ad248, A248_0, c248_0, e248, hx248_0, hl248_0, hi248_0⟩ := at_L1 HR0.out x3_1 p248 q248
            obtain rfl : ad247 = ad248 := (by injection e248)
            replace hx248_0 := (HB.out.cell (World.block_lt_of_cell? w _ hx248_0)).trans hx248_0
            have HR248_0 := Aside0.mk hi248_0
            have HC248_0 := Aside0.mk hl248_0
            clear hi248_0 hl248_0
            replace p248 := eq_true p248
            replace q248 := eq_true q248
            go_wp2
            go_roundg k2
            case measure => have := HK1.out; have := HK2.out; omega
            case rel => exact ⟨(wrap64 (x3_1 + 1)), (x247000_2), (x247001_2), (by first | rfl | (simp; done) | (simp [*]; done) | (simp [i64_w]; done)), H', ⟨by have := HK1.out; have := HK2.out; omega⟩, ⟨by (with_reducible repeat (first | refine blk_drewN ?_ _ | refine blk_drew ?_ | refine blk_alloc ?_ _)); exact BK246.out⟩, ⟨by repeat (first | (with_reducible first | exact HB.out | apply below_alloc | apply pw_below_drewN | apply below_drew1 | refine below_set ?_ GE246.out) | exact HB.out)⟩⟩
          ·
           rw [if_neg c11] at H
           exact absurd H (by simp)
         ·
          rw [if_neg c10] at H
          exact absurd H (by simp)
     ·
      rw [if_neg c7] at H
      exact absurd H (by simp)
    ·
     rw [if_neg c6] at H
     have c6b0 : decide (x3_1 < (l0.length : Int)) = false := decide_eq_false c6
     clear c6
     simp only [Option.some.injEq, Prod.mk.injEq] at H
     obtain ⟨rfl, rfl⟩ := H
     have hcz17_0 : wr.cell? ⟨gb246, 0, none⟩ = some (.int .i64 x247000_1) := (blk_cell BK246.out 0).trans rfl
     have hcz17_1 : wr.cell? ⟨gb246, 1, none⟩ = some (.int .i64 x247001_1) := (blk_cell BK246.out 1).trans rfl
     have hfz17_0 := blk_frozen BK246.out 0
     have hfz17_1 := blk_frozen BK246.out 1
     go_wp2
     refine bodyPost_ret (results_cell_row rfl _ _ gb246 26 #[.int .i64 0, .int .i64 0] (0, 0) _ rfl (by (with_reducible repeat (first | refine blk_drewN ?_ _ | refine blk_drew ?_ | refine blk_alloc ?_ _)); refine blk_put (cs := #[.int .i64 0, .int .i64 x247001_1]) ?_ 1 _ rfl; (with_reducible repeat (first | refine blk_drewN ?_ _ | refine blk_drew ?_ | refine blk_alloc ?_ _)); refine blk_put (cs := #[.int .i64 x247000_1, .int .i64 x247001_1]) ?_ 0 _ rfl; (with_reducible repeat (first | refine blk_drewN ?_ _ | refine blk_drew ?_ | refine blk_alloc ?_ _)); exact BK246.out) Try.underlying26 rfl (by kernel_rfl)) rfl ?_
     exact ⟨by first | rfl | (simp [errW_none, errW_some] <;> rfl) | (simp [*, errW_none, errW_some] <;> rfl), by repeat (first | (with_reducible first | exact HB.out | apply below_alloc | apply pw_below_drewN | apply below_drew1 | refine below_set ?_ GE246.out) | exact HB.out)⟩


/-! ### petrinetref48_Text: function 21 -/
mutual
def petrinetref48_Text.l0 : Nat → List (List ByteArray) → ByteArray → Int → Option (ByteArray × Int × Int)
 | 0, _, _, _ => none
 | k + 1, x0, x4, x5 => if x5 < (x0.length : Int) then (if 0 ≤ x5 then (if ((rd_L1 x0 x5).length : Int) = 0 then (if x4.size + 1 ≤ 9223372036854775807 then (petrinetref48_Text.j1 k x0 (x4 ++ (⟨#[45]⟩ : ByteArray)) x5) else (none)) else (petrinetref48_Text.j1 k x0 x4 x5)) else (none)) else (some (x4, 0, 0))
def petrinetref48_Text.j1 : Nat → List (List ByteArray) → ByteArray → Int → Option (ByteArray × Int × Int)
 | 0, _, _, _ => none
 | k + 1, x0, x4, x5 => petrinetref48_Text.l1 k x0 x4 x5 0
def petrinetref48_Text.l1 : Nat → List (List ByteArray) → ByteArray → Int → Int → Option (ByteArray × Int × Int)
 | 0, _, _, _, _ => none
 | k + 1, x0, x4, x5, x6 => if 0 ≤ x5 then (if x5 < (x0.length : Int) then (if x6 < ((rd_L1 x0 x5).length : Int) then (if x6 > 0 then (if x4.size + 1 ≤ 9223372036854775807 then (if 0 ≤ x6 then (if (x4 ++ (⟨#[32]⟩ : ByteArray)).size + (rdOf ByteArray.empty (rd_L1 x0 x5) x6).size ≤ 9223372036854775807 then (petrinetref48_Text.l1 k x0 ((x4 ++ (⟨#[32]⟩ : ByteArray)) ++ (rdOf ByteArray.empty (rd_L1 x0 x5) x6)) x5 (wrap64 (x6 + 1))) else (none)) else (none)) else (none)) else (if 0 ≤ x6 then (if x4.size + (rdOf ByteArray.empty (rd_L1 x0 x5) x6).size ≤ 9223372036854775807 then (petrinetref48_Text.l1 k x0 (x4 ++ (rdOf ByteArray.empty (rd_L1 x0 x5) x6)) x5 (wrap64 (x6 + 1))) else (none)) else (none))) else (if x4.size + 1 ≤ 9223372036854775807 then (petrinetref48_Text.l0 k x0 (x4 ++ (⟨#[10]⟩ : ByteArray)) (wrap64 (x5 + 1))) else (none))) else (none)) else (none)
end
def petrinetref48_Text.f (k : Nat) (l0 : List (List ByteArray)) : Option (ByteArray × Int × Int) := (petrinetref48_Check.f k l0).bind fun bt253 => (if bt253.1 = 0 then (petrinetref48_Text.l0 k l0 (⟨#[]⟩ : ByteArray) 0) else ((petrinetref48_Check.f k l0).bind fun bt255 => (some ((⟨#[]⟩ : ByteArray), bt255.1, bt255.2))))
theorem petrinetref48_Text.mono_l : ∀ k, (∀ y0 y1 y2, LeO (petrinetref48_Text.l0 k y0 y1 y2) (petrinetref48_Text.l0 (k + 1) y0 y1 y2)) ∧ (∀ y0 y1 y2, LeO (petrinetref48_Text.j1 k y0 y1 y2) (petrinetref48_Text.j1 (k + 1) y0 y1 y2)) ∧ (∀ y0 y1 y2 y3, LeO (petrinetref48_Text.l1 k y0 y1 y2 y3) (petrinetref48_Text.l1 (k + 1) y0 y1 y2 y3))
 | 0 => ⟨fun _ _ _ r h => by simp [petrinetref48_Text.l0] at h, fun _ _ _ r h => by simp [petrinetref48_Text.j1] at h, fun _ _ _ _ r h => by simp [petrinetref48_Text.l1] at h⟩
 | k + 1 => by
  obtain ⟨ih0, ih1, ih2⟩ := petrinetref48_Text.mono_l k
  refine ⟨?_, ?_, ?_⟩
  ·
   intro y0 y1 y2
   unfold petrinetref48_Text.l0
   repeat' first
   | (with_reducible exact ih0 _ _ _)
   | (with_reducible exact ih1 _ _ _)
   | (with_reducible exact ih2 _ _ _ _)
   | (with_reducible exact petrinetref48_Check.mono _ _)
   | (with_reducible exact LeO.refl _)
   | (with_reducible exact LeO.none _)
   | (with_reducible refine LeO.ite ?_ ?_)
   | (with_reducible refine LeO.bind ?_ (fun _ => ?_))
   | exact ih0 _ _ _
   | exact ih1 _ _ _
   | exact ih2 _ _ _ _
   | exact petrinetref48_Check.mono _ _
   | exact LeO.none _
   | refine LeO.ite ?_ ?_
   | refine LeO.bind ?_ (fun _ => ?_)
  ·
   intro y0 y1 y2
   unfold petrinetref48_Text.j1
   repeat' first
   | (with_reducible exact ih0 _ _ _)
   | (with_reducible exact ih1 _ _ _)
   | (with_reducible exact ih2 _ _ _ _)
   | (with_reducible exact petrinetref48_Check.mono _ _)
   | (with_reducible exact LeO.refl _)
   | (with_reducible exact LeO.none _)
   | (with_reducible refine LeO.ite ?_ ?_)
   | (with_reducible refine LeO.bind ?_ (fun _ => ?_))
   | exact ih0 _ _ _
   | exact ih1 _ _ _
   | exact ih2 _ _ _ _
   | exact petrinetref48_Check.mono _ _
   | exact LeO.none _
   | refine LeO.ite ?_ ?_
   | refine LeO.bind ?_ (fun _ => ?_)
  ·
   intro y0 y1 y2 y3
   unfold petrinetref48_Text.l1
   repeat' first
   | (with_reducible exact ih0 _ _ _)
   | (with_reducible exact ih1 _ _ _)
   | (with_reducible exact ih2 _ _ _ _)
   | (with_reducible exact petrinetref48_Check.mono _ _)
   | (with_reducible exact LeO.refl _)
   | (with_reducible exact LeO.none _)
   | (with_reducible refine LeO.ite ?_ ?_)
   | (with_reducible refine LeO.bind ?_ (fun _ => ?_))
   | exact ih0 _ _ _
   | exact ih1 _ _ _
   | exact ih2 _ _ _ _
   | exact petrinetref48_Check.mono _ _
   | exact LeO.none _
   | refine LeO.ite ?_ ?_
   | refine LeO.bind ?_ (fun _ => ?_)
theorem petrinetref48_Text.mono : ∀ a0 k, LeO (petrinetref48_Text.f k a0) (petrinetref48_Text.f (k + 1) a0) := by
 intro a0 k
 obtain ⟨ih0, ih1, ih2⟩ := petrinetref48_Text.mono_l k
 unfold petrinetref48_Text.f
 repeat' first
   | (with_reducible exact ih0 _ _ _)
   | (with_reducible exact ih1 _ _ _)
   | (with_reducible exact ih2 _ _ _ _)
   | (with_reducible exact petrinetref48_Check.mono _ _)
   | (with_reducible exact LeO.refl _)
   | (with_reducible exact LeO.none _)
   | (with_reducible refine LeO.ite ?_ ?_)
   | (with_reducible refine LeO.bind ?_ (fun _ => ?_))
   | exact ih0 _ _ _
   | exact ih1 _ _ _
   | exact ih2 _ _ _ _
   | exact petrinetref48_Check.mono _ _
   | exact LeO.none _
   | refine LeO.ite ?_ ?_
   | refine LeO.bind ?_ (fun _ => ?_)


attribute [local go_sem high] eqA26

/-! ### eventlog_key: function 42 -/
mutual
def eventlog_key.l0 : Nat → ByteArray → List ByteArray → Int → Int → Option (ByteArray)
 | 0, _, _, _, _ => none
 | k + 1, x3, x7, x8, x9 => if x9 < x8 then (if 0 ≤ x9 then (if x9 < (x7.length : Int) then (eventlog_key.l1 k x3 (rdOf ByteArray.empty x7 x9) 0 x7 x8 x9) else (none)) else (none)) else (some x3)
def eventlog_key.l1 : Nat → ByteArray → ByteArray → Int → List ByteArray → Int → Int → Option (ByteArray)
 | 0, _, _, _, _, _, _ => none
 | k + 1, x3, x5, x6, x7, x8, x9 => if x6 < (x5.size : Int) then (if 0 ≤ x6 then (if x6 ≤ (wrap64 (x6 + 1)) then (if (wrap64 (x6 + 1)) ≤ (x5.size : Int) then (if 1 + (x5.extract (x6 : Int).toNat ((wrap64 (x6 + 1)) : Int).toNat).size ≤ 9223372036854775807 then (if x3.size + ((⟨#[43]⟩ : ByteArray) ++ (x5.extract (x6 : Int).toNat ((wrap64 (x6 + 1)) : Int).toNat)).size ≤ 9223372036854775807 then (eventlog_key.l1 k (x3 ++ ((⟨#[43]⟩ : ByteArray) ++ (x5.extract (x6 : Int).toNat ((wrap64 (x6 + 1)) : Int).toNat))) x5 (wrap64 (x6 + 1)) x7 x8 x9) else (none)) else (none)) else (none)) else (none)) else (none)) else (if x3.size + 1 ≤ 9223372036854775807 then (eventlog_key.l0 k (x3 ++ (⟨#[44]⟩ : ByteArray)) x7 x8 (wrap64 (x9 + 1))) else (none))
end
def eventlog_key.f (k : Nat) (l0 : List ByteArray) : Option (ByteArray) := eventlog_key.l0 k (⟨#[]⟩ : ByteArray) l0 (l0.length : Int) 0
theorem eventlog_key.mono_l : ∀ k, (∀ y0 y1 y2 y3, LeO (eventlog_key.l0 k y0 y1 y2 y3) (eventlog_key.l0 (k + 1) y0 y1 y2 y3)) ∧ (∀ y0 y1 y2 y3 y4 y5, LeO (eventlog_key.l1 k y0 y1 y2 y3 y4 y5) (eventlog_key.l1 (k + 1) y0 y1 y2 y3 y4 y5))
 | 0 => ⟨fun _ _ _ _ r h => by simp [eventlog_key.l0] at h, fun _ _ _ _ _ _ r h => by simp [eventlog_key.l1] at h⟩
 | k + 1 => by
  obtain ⟨ih0, ih1⟩ := eventlog_key.mono_l k
  refine ⟨?_, ?_⟩
  ·
   intro y0 y1 y2 y3
   unfold eventlog_key.l0
   repeat' first
   | (with_reducible exact ih0 _ _ _ _)
   | (with_reducible exact ih1 _ _ _ _ _ _)
   | (with_reducible exact LeO.refl _)
   | (with_reducible exact LeO.none _)
   | (with_reducible refine LeO.ite ?_ ?_)
   | (with_reducible refine LeO.bind ?_ (fun _ => ?_))
   | exact ih0 _ _ _ _
   | exact ih1 _ _ _ _ _ _
   | exact LeO.none _
   | refine LeO.ite ?_ ?_
   | refine LeO.bind ?_ (fun _ => ?_)
  ·
   intro y0 y1 y2 y3 y4 y5
   unfold eventlog_key.l1
   repeat' first
   | (with_reducible exact ih0 _ _ _ _)
   | (with_reducible exact ih1 _ _ _ _ _ _)
   | (with_reducible exact LeO.refl _)
   | (with_reducible exact LeO.none _)
   | (with_reducible refine LeO.ite ?_ ?_)
   | (with_reducible refine LeO.bind ?_ (fun _ => ?_))
   | exact ih0 _ _ _ _
   | exact ih1 _ _ _ _ _ _
   | exact LeO.none _
   | refine LeO.ite ?_ ?_
   | refine LeO.bind ?_ (fun _ => ?_)
theorem eventlog_key.mono : ∀ a0 k, LeO (eventlog_key.f k a0) (eventlog_key.f (k + 1) a0) := by
 intro a0 k
 obtain ⟨ih0, ih1⟩ := eventlog_key.mono_l k
 unfold eventlog_key.f
 repeat' first
   | (with_reducible exact ih0 _ _ _ _)
   | (with_reducible exact ih1 _ _ _ _ _ _)
   | (with_reducible exact LeO.refl _)
   | (with_reducible exact LeO.none _)
   | (with_reducible refine LeO.ite ?_ ?_)
   | (with_reducible refine LeO.bind ?_ (fun _ => ?_))
   | exact ih0 _ _ _ _
   | exact ih1 _ _ _ _ _ _
   | exact LeO.none _
   | refine LeO.ite ?_ ?_
   | refine LeO.bind ?_ (fun _ => ?_)
set_option maxHeartbeats 8000000 in
set_option maxRecDepth 100000 in
theorem eventlog_key.calls (k : Nat) (A0 : Option Addr) (c0 : Nat) (l0 : List ByteArray) (r : ByteArray) (w : World) (hr0 : Kd.C Kd.string w A0 l0.length l0) (hc0 : l0.length ≤ c0) (h : eventlog_key.f k l0 = some r) :
  Calls Try.prog 42 #[.slice A0 l0.length c0] w fun e w' => e = .returned (.string r) ∧ Drawn0 w w' := by
 have HR0 := Aside0.mk hr0
 have HC0 := Aside0.mk hc0
 clear hr0 hc0
 have H : (eventlog_key.l0 k (⟨#[]⟩ : ByteArray) l0 (l0.length : Int) 0) = some r := h
 clear h
 have H' := Aside0.mk H
 clear H
 go_enter Try.func42, Try.ntmps42
 go_wp2
 go_loopg [3, 9] k (fun kq v3 v9 w' => ∃ (x3_1 : ByteArray) (x9_1 : Int), v3 = .string x3_1 ∧ v9 = .int .i64 x9_1 ∧ Aside0 (eventlog_key.l0 kq x3_1 l0 (l0.length : Int) x9_1 = some r) ∧ Aside0 (kq ≤ k) ∧ Drawn0 w w')
 case atStart => exact ⟨((⟨#[]⟩ : ByteArray)), (0), (by first | rfl | (simp; done) | (simp [*]; done) | (simp [i64_w]; done)), (by first | rfl | (simp; done) | (simp [*]; done) | (simp [i64_w]; done)), H', ⟨Nat.le_refl _⟩, by repeat (first | exact Drawn0.refl _ | apply Drawn0.step)⟩
 case round =>
  clear H'
  obtain ⟨x3_1, x9_1, rfl, rfl, HA, HK1, ⟨m1, rfl⟩⟩ := hrel
  cases gk with
  | zero => exact absurd HA.out (by simp [eventlog_key.l0])
  | succ k1 =>
   have H := HA.out
   clear HA
   simp only [eventlog_key.l0] at H
   by_cases c2 : x9_1 < (l0.length : Int)
   ·
    rw [if_pos c2] at H
    have c2b0 : decide (x9_1 < (l0.length : Int)) = true := decide_eq_true c2
    clear c2
    by_cases c3 : 0 ≤ x9_1
    ·
     rw [if_pos c3] at H
     have c3b0 : decide (0 ≤ x9_1) = true := decide_eq_true c3
     clear c3
     by_cases c4 : x9_1 < (l0.length : Int)
     ·
      rw [if_pos c4] at H
      have c4b0 : decide (x9_1 < (l0.length : Int)) = true := decide_eq_true c4
      clear c4
      have H' := Aside0.mk H
      clear H
      have p280 : 0 ≤ (x9_1 : Int) := of_decide_eq_true (by first | (with_reducible assumption) | assumption)
      have q280 : x9_1 < (l0.length : Int) := of_decide_eq_true (by first | (with_reducible assumption) | assumption)
      obtain ⟨ad280, e280, hx280_0⟩ := Kd.at_string HR0.out x9_1 p280 q280
      cases e280
      replace p280 := eq_true p280
      replace q280 := eq_true q280
      go_wp2
      go_loopg [3, 6] k1 (fun kq v3 v6 w' => ∃ (x3_2 : ByteArray) (x6_2 : Int), v3 = .string x3_2 ∧ v6 = .int .i64 x6_2 ∧ Aside0 (eventlog_key.l1 kq x3_2 (rdOf ByteArray.empty l0 x9_1) x6_2 l0 (l0.length : Int) x9_1 = some r) ∧ Aside0 (kq ≤ k1) ∧ Drawn0 w w')
      case atStart => exact ⟨(x3_1), (0), (by first | rfl | (simp; done) | (simp [*]; done) | (simp [i64_w]; done)), (by first | rfl | (simp; done) | (simp [*]; done) | (simp [i64_w]; done)), H', ⟨Nat.le_refl _⟩, by repeat (first | exact Drawn0.refl _ | apply Drawn0.step)⟩
      case round =>
       clear H'
       try clear c2
       try clear c2b0
       try clear p2
       try clear q2
       try clear hx2
       try clear c3
       try clear c3b0
       try clear c4
       try clear c4b0
       try clear hx280_0
       try clear p280
       try clear q280
       obtain ⟨x3_2, x6_2, rfl, rfl, HA, HK2, ⟨m2, rfl⟩⟩ := hrel
       cases gk with
       | zero => exact absurd HA.out (by simp [eventlog_key.l1])
       | succ k2 =>
        have H := HA.out
        clear HA
        simp only [eventlog_key.l1] at H
        by_cases c5 : x6_2 < ((rdOf ByteArray.empty l0 x9_1).size : Int)
        ·
         rw [if_pos c5] at H
         have c5b0 : decide (x6_2 < ((rdOf ByteArray.empty l0 x9_1).size : Int)) = true := decide_eq_true c5
         clear c5
         by_cases c6 : 0 ≤ x6_2
         ·
          rw [if_pos c6] at H
          have c6b0 := eq_true c6
          have c6b1 : decide (0 ≤ x6_2) = true := decide_eq_true c6
          clear c6
          by_cases c7 : x6_2 ≤ (wrap64 (x6_2 + 1))
          ·
           rw [if_pos c7] at H
           have c7b0 := eq_true c7
           have c7b1 : decide (x6_2 ≤ (wrap64 (x6_2 + 1))) = true := decide_eq_true c7
           by_cases c8 : (wrap64 (x6_2 + 1)) ≤ ((rdOf ByteArray.empty l0 x9_1).size : Int)
           ·
            rw [if_pos c8] at H
            have c8b0 := eq_true c8
            have c8b1 : decide ((wrap64 (x6_2 + 1)) ≤ ((rdOf ByteArray.empty l0 x9_1).size : Int)) = true := decide_eq_true c8
            by_cases c9 : 1 + ((rdOf ByteArray.empty l0 x9_1).extract (x6_2 : Int).toNat ((wrap64 (x6_2 + 1)) : Int).toNat).size ≤ 9223372036854775807
            ·
             rw [if_pos c9] at H
             have c9b0 := eq_true c9
             have c9b1 : decide (1 + ((rdOf ByteArray.empty l0 x9_1).extract (x6_2 : Int).toNat ((wrap64 (x6_2 + 1)) : Int).toNat).size ≤ 9223372036854775807) = true := decide_eq_true c9
             try have c9b2 : (9223372036854775807 < 1 + ((rdOf ByteArray.empty l0 x9_1).extract (x6_2 : Int).toNat ((wrap64 (x6_2 + 1)) : Int).toNat).size) = False := eq_false (Nat.not_lt.2 c9)
             try have c9b7 : (9223372036854775807 < 1 + (((wrap64 (x6_2 + 1)) : Int).toNat - (x6_2 : Int).toNat)) = False := eq_false (by have h_ := c9; simp only [ByteArray.size_extract] at h_; omega)
             by_cases c10 : x3_2.size + ((⟨#[43]⟩ : ByteArray) ++ ((rdOf ByteArray.empty l0 x9_1).extract (x6_2 : Int).toNat ((wrap64 (x6_2 + 1)) : Int).toNat)).size ≤ 9223372036854775807
             ·
              rw [if_pos c10] at H
              have c10b0 := eq_true c10
              have c10b1 : decide (x3_2.size + ((⟨#[43]⟩ : ByteArray) ++ ((rdOf ByteArray.empty l0 x9_1).extract (x6_2 : Int).toNat ((wrap64 (x6_2 + 1)) : Int).toNat)).size ≤ 9223372036854775807) = true := decide_eq_true c10
              try have c10b2 : (9223372036854775807 < x3_2.size + ((⟨#[43]⟩ : ByteArray) ++ ((rdOf ByteArray.empty l0 x9_1).extract (x6_2 : Int).toNat ((wrap64 (x6_2 + 1)) : Int).toNat)).size) = False := eq_false (Nat.not_lt.2 c10)
              have H' := Aside0.mk H
              clear H
              go_wp2
              go_roundg k2
              case measure => have := HK1.out; have := HK2.out; omega
              case rel => exact ⟨(x3_2 ++ ((⟨#[43]⟩ : ByteArray) ++ ((rdOf ByteArray.empty l0 x9_1).extract (x6_2 : Int).toNat ((wrap64 (x6_2 + 1)) : Int).toNat))), (wrap64 (x6_2 + 1)), (by first | rfl | (simp; done) | (simp [*]; done) | (simp [i64_w]; done)), (by first | rfl | (simp; done) | (simp [*]; done) | (simp [i64_w]; done)), H', ⟨by have := HK1.out; have := HK2.out; omega⟩, by repeat (first | exact Drawn0.refl _ | apply Drawn0.step)⟩
             ·
              rw [if_neg c10] at H
              exact absurd H (by simp)
            ·
             rw [if_neg c9] at H
             exact absurd H (by simp)
           ·
            rw [if_neg c8] at H
            exact absurd H (by simp)
          ·
           rw [if_neg c7] at H
           exact absurd H (by simp)
         ·
          rw [if_neg c6] at H
          exact absurd H (by simp)
        ·
         rw [if_neg c5] at H
         have c5b0 : decide (x6_2 < ((rdOf ByteArray.empty l0 x9_1).size : Int)) = false := decide_eq_false c5
         clear c5
         by_cases c11 : x3_2.size + 1 ≤ 9223372036854775807
         ·
          rw [if_pos c11] at H
          have c11b0 := eq_true c11
          have c11b1 : decide (x3_2.size + 1 ≤ 9223372036854775807) = true := decide_eq_true c11
          try have c11b2 : (9223372036854775807 < x3_2.size + 1) = False := eq_false (Nat.not_lt.2 c11)
          have H' := Aside0.mk H
          clear H
          go_wp2
          go_roundg k2
          case measure => have := HK1.out; have := HK2.out; omega
          case rel => exact ⟨(x3_2 ++ (⟨#[44]⟩ : ByteArray)), (wrap64 (x9_1 + 1)), (by first | rfl | (simp; done) | (simp [*]; done) | (simp [i64_w]; done)), (by first | rfl | (simp; done) | (simp [*]; done) | (simp [i64_w]; done)), H', ⟨by have := HK1.out; have := HK2.out; omega⟩, by repeat (first | exact Drawn0.refl _ | apply Drawn0.step)⟩
         ·
          rw [if_neg c11] at H
          exact absurd H (by simp)
     ·
      rw [if_neg c4] at H
      exact absurd H (by simp)
    ·
     rw [if_neg c3] at H
     exact absurd H (by simp)
   ·
    rw [if_neg c2] at H
    have c2b0 : decide (x9_1 < (l0.length : Int)) = false := decide_eq_false c2
    clear c2
    obtain rfl := Option.some.inj H
    go_wp2
    go_ret
    exact ⟨by first | rfl | (simp; done) | (simp [*]; done), by repeat (first | exact Drawn0.refl _ | apply Drawn0.step)⟩




section
-- STUBBED 26
/-! ### eventlog_Variants: function 26: by hand -/
open Go.Maps
open Go.WideMaps (keyOf_string_mk)

/-- Where a key stands in a list of keys. -/
def ixOf (s : ByteArray) : List ByteArray → Nat → Option Nat
  | [], _ => none
  | x :: xs, i => if x.data.toList = s.data.toList then some i else ixOf s xs (i + 1)
def bumpV (l : List Int) (i : Nat) : List Int := l.set i (wrap64 (l.getD i 0 + 1))
def varGo (k : Nat) : List (List ByteArray) → List ByteArray → List (List ByteArray) → List Int → Option (List (List ByteArray) × List Int)
  | [], _, out, counts => some (out, counts)
  | t :: ts, keys, out, counts => (eventlog_key.f k t).bind fun s => if s.size ≤ maxLen then (match ixOf s keys 0 with
      | some i => varGo k ts keys out (bumpV counts i)
      | none => varGo k ts (keys ++ [s]) (out ++ [t]) (bumpV (counts ++ [0]) out.length)) else none
def eventlog_Variants.f (k : Nat) (l0 : List (List ByteArray)) : Option (List (List ByteArray) × List Int) := if l0.length ≤ 1000 ∧ (l0.all fun t => decide (t.length ≤ 1000)) = true then varGo k l0 [] [] [] else none
theorem varGo_mono (k : Nat) : ∀ (l : List (List ByteArray)) (keys : List ByteArray) (out : List (List ByteArray)) (counts : List Int), LeO (varGo k l keys out counts) (varGo (k + 1) l keys out counts)
  | [], _, _, _ => LeO.refl _
  | t :: ts, keys, out, counts => by
    rw [varGo, varGo]
    refine LeO.bind (eventlog_key.mono _ _) fun s => LeO.ite ?_ (LeO.refl _)
    cases ixOf s keys 0 with
    | some i => exact varGo_mono k ts _ _ _
    | none => exact varGo_mono k ts _ _ _
theorem eventlog_Variants.mono (a0 : List (List ByteArray)) (k : Nat) : LeO (eventlog_Variants.f k a0) (eventlog_Variants.f (k + 1) a0) := by
  unfold eventlog_Variants.f
  exact LeO.ite (varGo_mono k _ _ _ _) (LeO.refl _)
theorem ixOf_app (t s : ByteArray) : ∀ (keys : List ByteArray) (j : Nat), ixOf t (keys ++ [s]) j = match ixOf t keys j with | some i => some i | none => if s.data.toList = t.data.toList then some (j + keys.length) else none
  | [], j => by simp [ixOf]
  | x :: xs, j => by
    rw [List.cons_append, ixOf, ixOf]
    by_cases h : x.data.toList = t.data.toList
    · rw [if_pos h, if_pos h]
    · rw [if_neg h, if_neg h, ixOf_app t s xs (j + 1), List.length_cons, show j + 1 + xs.length = j + (xs.length + 1) by omega]
theorem ixOf_lt {t : ByteArray} : ∀ {keys : List ByteArray} {j i : Nat}, ixOf t keys j = some i → j ≤ i ∧ i < j + keys.length
  | [], j, i, h => by cases h
  | x :: xs, j, i, h => by
    rw [ixOf] at h
    by_cases hx : x.data.toList = t.data.toList
    · rw [if_pos hx] at h; cases h; simp
    · rw [if_neg hx] at h
      have := ixOf_lt h
      rw [List.length_cons]; omega
/-- The map as it reads, and the keys so far. -/
structure AgreeV (D : DataW Unit) (keys : List ByteArray) : Prop where
  has : ∀ s : ByteArray, Maps.has D (.string s.data.toList) = (ixOf s keys 0).isSome
  val : ∀ (s : ByteArray) (i : Nat), ixOf s keys 0 = some i → ∀ z, D.atKey (.string s.data.toList) z = .lit (.int .i64 (i : Int))
theorem AgreeV.nil : AgreeV (.map []) [] := ⟨fun s => rfl, fun s i h => by cases h⟩
theorem AgreeV.step {D : DataW Unit} {keys : List ByteArray} (h : AgreeV D keys) (hm : Maps.IsMap D) (s : ByteArray) (hs : ixOf s keys 0 = none) : AgreeV (D.put (.string s.data.toList) (.lit (.int .i64 (keys.length : Int)))) (keys ++ [s]) := by
  have hne : ∀ t : ByteArray, ¬ s.data.toList = t.data.toList → (Lit.string t.data.toList) ≠ (Lit.string s.data.toList) := fun t ht e => by injection e with e; exact ht e.symm
  have hsame : ∀ t : ByteArray, s.data.toList = t.data.toList → ixOf t keys 0 = none := fun t e => by
    have : ∀ (l : List ByteArray) (j : Nat), ixOf t l j = ixOf s l j := by
      intro l
      induction l with
      | nil => intro j; rfl
      | cons x xs ih => intro j; rw [ixOf, ixOf, e, ih]
    rw [this]; exact hs
  refine ⟨fun t => ?_, fun t i hi z => ?_⟩
  · rw [ixOf_app]
    by_cases e : s.data.toList = t.data.toList
    · rw [hsame t e, ← e, Maps.has_put_same hm (by simp [WideAt.IsKeyLit])]; simp [e]
    · rw [Maps.has_put_other (hne t e), h.has t, if_neg e]
      cases ixOf t keys 0 <;> rfl
  · rw [ixOf_app] at hi
    by_cases e : s.data.toList = t.data.toList
    · rw [hsame t e] at hi
      simp only [if_pos e, Option.some.injEq, Nat.zero_add] at hi
      subst hi
      rw [← e]
      exact Maps.atKey_put_same hm (by simp [WideAt.IsKeyLit]) _ _
    · rw [Maps.atKey_put_other (hne t e)]
      cases hk : ixOf t keys 0 with
      | none => rw [hk] at hi; simp [e] at hi
      | some j => rw [hk] at hi; cases hi; exact h.val t _ hk z
section
variable {α : Type} {d : Kd α} {e base : Nat} {ok : Nat → Prop} {v : Value} {xs : List α} {W W1 : World} {P : Program} {kt et b n : Nat} {D : DataW Unit}
theorem vm_below (h : W.ownsMap P kt (plainElem P et) b n D) (hb : Below W.heap.size W W1) : W1.ownsMap P kt (plainElem P et) b n D := by
  have hlt := h.lt
  obtain ⟨es, clock, h0, h1⟩ := h
  exact ⟨es, clock, (hb.block b hlt).trans h0, h1⟩
theorem vm_grown (h : W.ownsMap P kt (plainElem P et) b n D) (ht : ∀ k, v.ownBlock = some k → ∃ cells, W.heap[k]? = some (.cells cells e (0, 0))) (hg : W.grownBy W1 v.ownBlock) : W1.ownsMap P kt (plainElem P et) b n D := by
  refine h.kept hg fun e => ?_
  obtain ⟨es, clock, h0, h1⟩ := h
  obtain ⟨cells, hc⟩ := ht b e.symm
  rw [h0] at hc
  cases hc
theorem vm_set (h : W.ownsMap P kt (plainElem P et) b n D) {g : Nat} {cells : Array Value} (hc : W.heap[g]? = some (.cells cells e (0, 0))) (j : Nat) (u : Value) : (W.setCell ⟨g, j, none⟩ u).ownsMap P kt (plainElem P et) b n D := by
  obtain ⟨es, clock, h0, h1⟩ := h
  have hne : b ≠ g := fun e => by subst e; rw [h0] at hc; cases hc
  exact ⟨es, clock, (Below.heap_setCell W ⟨g, j, none⟩ u b hne).trans h0, h1⟩
theorem vs_map (h : d.S e W base ok v xs) (hm : W.ownsMap P kt (plainElem P et) b n D) (hg : W.grownBy W1 (some b)) : d.S e W1 base ok v xs := by
  obtain ⟨es, clock, h0, h1⟩ := hm
  refine Kd.S_mono (Kd.S_grown (Kd.S_bound h) hg (fun k hk ek => ?_)) (fun _ hk => hk.1)
  obtain ⟨_, _, _, q, _, cells, hc⟩ := hk
  injection ek with ek
  subst ek
  rw [h0] at hc
  cases hc
theorem vr_map (h : d.R e W base ok v xs) (hm : W.ownsMap P kt (plainElem P et) b n D) (hg : W.grownBy W1 (some b)) : d.R e W1 base ok v xs := by
  obtain ⟨es, clock, h0, h1⟩ := hm
  refine Kd.R_mono (Kd.R_grown (Kd.R_bound h) hg (fun k hk ek => ?_)) (fun _ hk => hk.1)
  obtain ⟨_, _, _, q, _, cells, hc⟩ := hk
  injection ek with ek
  subst ek
  rw [h0] at hc
  cases hc
end
theorem vr_cell {W : World} {base n : Nat} {ok : Nat → Prop} {xs : List Int} {e g cap : Nat} (h : (Kd.int .i64).R e W base ok (.slice (some ⟨g, 0, none⟩) n cap) xs) {i : Nat} (hi : i < xs.length) : W.cell? ⟨g, i, none⟩ = some (.int .i64 (xs.getD i 0)) ∧ W.frozen? ⟨g, i, none⟩ = false ∧ ∃ cells, W.heap[g]? = some (.cells cells e (0, 0)) := by
  obtain ⟨cells, hc⟩ := Kd.R_typed h g rfl
  obtain ⟨A, c, he, hl, hC⟩ := Kd.R_reads h
  obtain ⟨ad, ha, hcell⟩ := Kd.at_int hC (i : Int) (by omega) (by omega)
  injection he with he1 he2 he3
  rw [← he1] at ha
  injection ha with ha
  subst ha
  refine ⟨?_, ?_, cells, hc⟩
  · rw [show rd xs (i : Int) = xs.getD i 0 by simp [rd]] at hcell
    have ea : (⟨g, 0, none⟩ : Addr).add ((i : Int).toNat) = ⟨g, i, none⟩ := by
      simp only [Int.toNat_natCast, Addr.add]
      split <;> simp_all
    rw [ea] at hcell
    exact hcell
  · simp [World.frozen?, hc]
theorem vr_types : ∀ q, q ∈ 34 :: (Kd.slice 9 Kd.string).E → q ≠ 3 := by
  intro q hq
  simp [Kd.slice, Kd.string, Kd.scalar] at hq
  omega
theorem vr_types2 : ∀ q, q ∈ 3 :: (Kd.int .i64).E → q ≠ 34 := by
  intro q hq
  simp [Kd.int, Kd.scalar] at hq
  omega
theorem vr_law : Keyed Try.prog 9 := string_keyed Try.underlying9
theorem vr_zero (w : World) : (zeroValue 3).run Try.prog w = .ok (.int .i64 0) w := by kernel_rfl

set_option maxHeartbeats 16000000 in
set_option maxRecDepth 100000 in
theorem eventlog_Variants.calls (k : Nat) (A0 : Option Addr) (c0 : Nat) (l0 : List (List ByteArray)) (r1 : List (List ByteArray)) (r2 : List Int) (w : World) (hr0 : Kd.C (Kd.slice 9 Kd.string) w A0 l0.length l0) (hc0 : l0.length ≤ c0) (h : eventlog_Variants.f k l0 = some (r1, r2)) :
    Calls Try.prog 26 #[.slice A0 l0.length c0] w fun e w' => ∃ v0_ v1_ : Value, e = .returned (.tuple #[v0_, v1_]) ∧ Kd.S (Kd.slice 9 Kd.string) 34 w' w.heap.size (fun _ => True) v0_ r1 ∧ Kd.R (Kd.int .i64) 3 w' w.heap.size (fun _ => True) v1_ r2 ∧ Below w.heap.size w w' := by
  unfold eventlog_Variants.f at h
  by_cases hle : l0.length ≤ 1000 ∧ (l0.all fun t => decide (t.length ≤ 1000)) = true
  · rw [if_pos hle] at h
    have hlen := hle.1
    have HT := Aside0.mk (fun t ht => of_decide_eq_true (List.all_eq_true.1 hle.2 t ht) : ∀ t ∈ l0, t.length ≤ 1000)
    have HR0 := Aside0.mk hr0
    have HC0 := Aside0.mk hc0
    have HH := Aside0.mk (show varGo k (l0.drop 0) [] [] [] = some (r1, r2) by rw [List.drop_zero]; exact h)
    clear h hr0 hc0 hle
    have hmm := @run_makeMap Try.prog
    go_enter Try.func26, Try.ntmps26
    go_wp2
    go_loopw [4, 5, 16] (fun v4 v5 v16 wr => ∃ (i : Nat) (keys : List ByteArray) (out : List (List ByteArray)) (counts : List Int) (D : DataW Unit), v16 = .int .i64 (i : Int) ∧ i ≤ l0.length ∧ out.length ≤ i ∧ counts.length = out.length ∧ keys.length = out.length ∧ Aside0 (varGo k (l0.drop i) keys out counts = some (r1, r2)) ∧ Aside0 (AgreeV D keys) ∧ Aside0 (wr.ownsMap Try.prog 9 (plainElem Try.prog 3) w.heap.size i D) ∧ Aside0 (Kd.S (Kd.slice 9 Kd.string) 34 wr w.heap.size (fun _ => True) v4 out) ∧ Aside0 (Kd.R (Kd.int .i64) 3 wr w.heap.size (fun _ => True) v5 counts) ∧ Aside0 (Below w.heap.size w wr)) (fun _ _ v16 _ => l0.length + 1 - (intOf v16).toNat)
    case atStart => exact ⟨0, [], [], [], .map [], rfl, Nat.zero_le _, Nat.le_refl _, rfl, rfl, HH, ⟨AgreeV.nil⟩, ⟨World.ownsMap_made _ _ _ _⟩, ⟨Kd.S_nil _ _ _ _ _⟩, ⟨Kd.R_nil _ _ _ _ _⟩, ⟨(Below.refl _ w).alloc (Nat.le_refl _) _⟩⟩
    case round =>
      clear HH
      obtain ⟨i, keys, out, counts, D, rfl, hi, hol, hcl, hkl, HH, HAG, HM, HO, HC, HB⟩ := hrel
      by_cases hil : i < l0.length
      · have H := HH.out
        rw [List.drop_eq_getElem_cons hil, varGo] at H
        obtain ⟨s, hk, H⟩ := Option.bind_eq_some_iff.mp H

        by_cases hsz : s.size ≤ maxLen
        · rw [if_pos hsz] at H
          have HSZ := Aside0.mk hsz
          obtain ⟨ad, At, ct, e, hx, hlt, hCt⟩ := at_L1 HR0.out (i : Int) (by omega) (by omega)
          obtain ⟨t, et⟩ : ∃ t, t = l0[i] := ⟨_, rfl⟩
          have ert : rd_L1 l0 (i : Int) = t := by rw [et]; simp [rd_L1, hil]
          have htl := HT.out t (by rw [et]; exact List.getElem_mem hil)
          rw [← et] at hk H
          rw [ert] at hx hlt hCt
          rw [Int.toNat_natCast] at hx
          have HK := Aside0.mk hk
          replace hx := (HB.out.cell (World.block_lt_of_cell? w _ hx)).trans hx
          replace hlt := Aside0.mk hlt
          replace hCt := Aside0.mk hCt
          cases e
          clear hk hsz ert et
          have p1 : (0 ≤ (i : Int)) = True := eq_true (by omega)
          have q1 : ((i : Int) < (l0.length : Int)) = True := eq_true (by omega)
          have q2 : decide ((i : Int) < (l0.length : Int)) = true := decide_eq_true (by omega)
          have HWR := Aside0.mk (show wrap64 ((i : Int) + 1) = ((i + 1 : Nat) : Int) by unfold wrap64; omega)
          cases hix : ixOf s keys 0 with
          | some j =>
            rw [hix] at H
            have HH2 := Aside0.mk H
            have hj : j < counts.length := by have := ixOf_lt hix; omega
            obtain ⟨g, cap, rfl, hgb, _, _⟩ := Kd.R_form HC.out (by omega)
            have HHAS := Aside0.mk (show Maps.has D (.string s.data.toList) = true by rw [HAG.out.has, hix]; rfl)
            have HVAL := Aside0.mk (HAG.out.val s j hix)
            have p2 : (0 ≤ (j : Int)) = True := eq_true (by omega)
            have q3 : ((j : Int) < (counts.length : Int)) = True := eq_true (by omega)
            have HJ := Aside0.mk hj
            clear H hix
            go_wp2_with (first | (go_at_call 42; (with_reducible refine (eventlog_key.calls k At ct t s _ (Kd.C_below hCt.out HB.out) hlt.out HK.out).mono ?_); rintro e w' ⟨rfl, ⟨nd, rfl⟩⟩; obtain ⟨W1, hW1⟩ : ∃ W1, wr.drewN nd = W1 := ⟨_, rfl⟩; rw [hW1]; have hb1 : Below wr.heap.size wr W1 := hW1 ▸ pw_below_drewN (Below.refl _ wr) nd; have HM1 := Aside0.mk (vm_below HM.out hb1); have HO1 := Aside0.mk (Kd.S_below HO.out hb1); have HC1 := Aside0.mk (Kd.R_below HC.out hb1); have HB1 := Aside0.mk (below_step HB.out hb1); have hs1 := HB1.out.size; clear hb1 hW1; obtain ⟨hc1, hf1, cells1, hh1⟩ := vr_cell HC1.out HJ.out; have HH1 := Aside0.mk hh1; clear hh1) | (at_lookup; refine wpList_lookup_own_ok_int _ rfl _ _ 54 rfl 9 3 .i64 vr_law Try.underlying54 Try.underlying3 (vr_zero _) w.heap.size i D rfl HM1.out _ _ rfl (keyOf_string_mk Try.underlying9 HSZ.out) ?_; intro c hat hwc; rw [HHAS.out]; rw [HVAL.out] at hat; injection hat with hat; injection hat with _ hat; subst hat; clear hwc))
            go_roundw
            case rel => exact ⟨i + 1, keys, out, bumpV counts j, D, rfl, by omega, by omega, by unfold bumpV; rw [List.length_set]; exact hcl, hkl, HH2, HAG, ⟨vm_set (HM1.out.mono (by omega)) HH1.out j _⟩, ⟨Kd.S_set HO1.out HH1.out vr_types j _⟩, ⟨by have h_ := (Kd.R_putg HC1.out (j : Int) (wrap64 (counts.getD j 0 + 1))).1; rw [hcl] at h_; exact h_⟩, ⟨below_set HB1.out hgb⟩⟩
            case measure => simp [intOf]; omega
          | none =>
            rw [hix] at H
            have HH2 := Aside0.mk H
            obtain ⟨Ao, co, rfl⟩ := Kd.R_slice (Kd.S_R HO.out)
            obtain ⟨Ac, cc, hv5⟩ := Kd.R_slice HC.out
            rw [hcl] at hv5
            subst hv5
            have HHAS := Aside0.mk (show Maps.has D (.string s.data.toList) = false by rw [HAG.out.has, hix]; rfl)
            have HAG2 := Aside0.mk (HAG.out.step (HM.out.isMap) s hix)
            have HWF := Aside0.mk (show (Lit.int .i64 (out.length : Int)).wf = true from WalkArith.wf_i64 (by omega))
            clear H hix
            go_wp2_with (first | (go_at_call 42; (with_reducible refine (eventlog_key.calls k At ct t s _ (Kd.C_below hCt.out HB.out) hlt.out HK.out).mono ?_); rintro e w' ⟨rfl, ⟨nd, rfl⟩⟩; obtain ⟨W1, hW1⟩ : ∃ W1, wr.drewN nd = W1 := ⟨_, rfl⟩; rw [hW1]; have hb1 : Below wr.heap.size wr W1 := hW1 ▸ pw_below_drewN (Below.refl _ wr) nd; have HM1 := Aside0.mk (vm_below HM.out hb1); have HO1 := Aside0.mk (Kd.S_below HO.out hb1); have HC1 := Aside0.mk (Kd.R_below HC.out hb1); have HB1 := Aside0.mk (below_step HB.out hb1); have hs1 := HB1.out.size; clear hb1 hW1) | (at_lookup; refine wpList_lookup_own_ok_int _ rfl _ _ 54 rfl 9 3 .i64 vr_law Try.underlying54 Try.underlying3 (vr_zero _) w.heap.size i D rfl HM1.out _ _ rfl (keyOf_string_mk Try.underlying9 HSZ.out) ?_; intro c hat hwc; rw [HHAS.out]; clear hat hwc) | (at_mapUpdate; refine wpList_mapUpdate_own _ rfl _ _ _ 54 rfl 9 3 vr_law Try.underlying54 _ w.heap.size i D rfl HM1.out (by unfold maxLen; omega) _ _ _ rfl rfl (keyOf_string_mk Try.underlying9 HSZ.out) _ [] (plainElem_int Try.underlying3 HWF.out) ?_; intro w2 hown2 hg2; have HM2 := Aside0.mk hown2; have HO2 := Aside0.mk (vs_map HO1.out HM1.out hg2); have HC2 := Aside0.mk (vr_map HC1.out HM1.out hg2); have HB2 := Aside0.mk (HB1.out.grown hg2 HB1.out.size (fun k ek => by injection ek with ek; omega)); have hs2 := HB2.out.size; clear hown2 hg2) | ((with_reducible refine gate_dst (N := 37) rfl ?_); refine Kd.R_make Kd.string (w0 := w2) w2.heap.size 9 rfl (N := 37) rfl 34 (.tmp 36) (.tmp 36) rfl (t.length : Int) ?hx ?hy Try.underlying34 (.string ⟨#[]⟩) 16 info9 rfl (by decide) (by decide) ⟨#[]⟩ (ok := fun _ => True) (okp := fun _ => True) ?hz (fun _ _ => trivial) trivial (by omega) ?hl (Below.refl _ _) (Nat.le_refl _) ?_; (case hx => first | rfl | go_simp); (case hy => first | rfl | go_simp); (case hz => rfl); (case hl => omega); intro v12 w3 hv12 hb3 hg3 hat3; rw [Int.toNat_natCast] at hv12; obtain ⟨Av, cv, hsv⟩ := Kd.R_slice hv12; rw [List.length_replicate] at hsv; subst hsv; have HV3 := Aside0.mk hv12; have HB3 := Aside0.mk hb3; have HT3 := Aside0.mk (Kd.C_below hCt.out (below_step HB2.out hb3)); have hs3 := HB3.out.size; clear hv12 hb3 hg3 hat3) | ((with_reducible refine gate_builtin (b := .copy) (xs := #[.tmp 38, .tmp 39]) rfl ?_); refine Kd.R_copy (enc := Value.string) (h1 := fun _ => rfl) (⟨#[]⟩ : ByteArray) (w0 := w2) w2.heap.size rfl (.tmp 38) (.tmp 39) 34 34 9 rfl Try.underlying34 (by kernel_rfl) (.slice Av t.length cv) (List.replicate t.length ⟨#[]⟩) t At t.length ct (fun _ => True) rfl rfl HV3.out HT3.out HB3.out hs3 ?_; intro w4 hv4 hb4 hg4; have HV4 := Aside0.mk (show Kd.R Kd.string 9 w4 w2.heap.size (fun _ => True) (.slice Av t.length cv) t from (by have e_ : t.take (min t.length (List.replicate t.length (⟨#[]⟩ : ByteArray)).length) ++ (List.replicate t.length (⟨#[]⟩ : ByteArray)).drop (min t.length (List.replicate t.length (⟨#[]⟩ : ByteArray)).length) = t := (by simp); rw [e_] at hv4; exact hv4)); have HM4 := Aside0.mk (vm_below HM2.out hb4); have HO4 := Aside0.mk (Kd.S_below (Kd.S_bound HO2.out) hb4); have HC4 := Aside0.mk (Kd.R_below HC2.out hb4); have HB4 := Aside0.mk (below_step HB2.out hb4); have hs4 := HB4.out.size; clear hv4 hb4 hg4) | ((with_reducible refine gate_builtin (b := .append) (xs := #[.tmp 41, .tmp 43]) rfl ?_); at_builtin; refine Kd.S_append (Kd.slice 9 Kd.string) (w0 := w) w.heap.size rfl (.tmp 41) (.tmp 43) 23 34 (.slice none 0 0) 24 rfl Try.underlying23 info34 rfl (by decide) (by omega) (.slice Ao out.length co) out t [.slice Av t.length cv] (fun _ => True) (fun k => w2.heap.size ≤ k) rfl rfl ?aP ?aK (fun _ _ => trivial) ?aO HB4.out hs4 ?aL ?_; (case aP => exact ⟨_, rfl, Kd.R_lower (Kd.R_mono (Kd.R_bound HV4.out) (fun k hk => hk.2.1)) hs2⟩); (case aK => exact (fun k hk => ⟨trivial, fun ek => by have := Kd.S_lt HO2.out k ek.symm; omega⟩)); (case aO => exact Kd.S_mono HO4.out (fun k hk => ⟨trivial, by have := hk.2.2.1; omega⟩)); (case aL => omega); intro v13 w5 ho5 hb5 hg5 hat5;  have HM5 := Aside0.mk (vm_grown HM4.out (Kd.S_typed HO4.out) hg5); have HC5 := Aside0.mk (Kd.R_over' HC4.out (Kd.S_typed HO4.out) vr_types2 hg5); have HO5 := Aside0.mk ho5; have HB5 := Aside0.mk hb5; have hs5 := HB5.out.size; clear ho5 hb5 hg5 hat5) | ((with_reducible refine gate_builtin (b := .append) (xs := #[.tmp 45, .tmp 46]) rfl ?_); at_builtin; refine Kd.R_append (Kd.int .i64) (w0 := w) w.heap.size rfl (.tmp 45) (.tmp 46) 40 3 (.int .i64 0) 8 rfl Try.underlying40 info3 rfl (by decide) (by omega) (.slice Ac out.length cc) counts 0 [.int .i64 0] (fun _ => True) (fun _ => False) rfl rfl rfl (fun _ hk => hk.elim) (fun _ _ => trivial) HC5.out HB5.out hs5 (by omega) ?_; intro v14 w6 hc6 hb6 hg6 hat6; have HM6 := Aside0.mk (vm_grown HM5.out (Kd.R_typed HC5.out) hg6); have HO6 := Aside0.mk (Kd.S_over' HO5.out (Kd.R_typed HC5.out) vr_types hg6); have HB6 := Aside0.mk hb6; obtain ⟨g, cap, rfl, hgb, _, _⟩ := Kd.R_form hc6 (by simp); have HC6 := Aside0.mk hc6; obtain ⟨hc1, hf1, cells1, hh1⟩ := vr_cell hc6 (i := out.length) (by simp; omega); have HH6 := Aside0.mk hh1; clear hc6 hb6 hg6 hat6 hh1))
            go_roundw
            case rel =>
              refine ⟨i + 1, keys ++ [s], out ++ [t], bumpV (counts ++ [0]) out.length, _, rfl, by omega, by simp; omega, by unfold bumpV; simp [hcl], by simp [hkl], HH2, ⟨by have h_ := HAG2.out; rw [hkl] at h_; exact h_⟩, ⟨vm_set HM6.out HH6.out _ _⟩, ⟨Kd.S_set HO6.out HH6.out vr_types _ _⟩, ⟨?_⟩, ⟨below_set HB6.out hgb⟩⟩
              have h_ := (Kd.R_putg HC6.out (out.length : Int) (wrap64 ((counts ++ [0]).getD out.length 0 + 1))).1
              have e1 : (counts ++ [(0 : Int)]).getD out.length 0 = 0 := by rw [← hcl]; simp
              have e2 : wrap64 ((0 : Int) + 1) = 1 := by unfold wrap64; omega
              unfold bumpV
              rw [e1, e2] at h_ ⊢
              rw [List.length_append, hcl] at h_
              exact h_
            case measure => simp [intOf]; omega
        · rw [if_neg hsz] at H
          cases H
      · obtain rfl : i = l0.length := by omega
        have H := HH.out
        rw [List.drop_length, varGo] at H
        simp only [Option.some.injEq, Prod.mk.injEq] at H
        obtain ⟨rfl, rfl⟩ := H
        have q2 : decide ((l0.length : Int) < (l0.length : Int)) = false := decide_eq_false (by omega)

        go_wp2
        refine bodyPost_ret (results_tmp2 rfl _ _ _) rfl ?_
        exact ⟨_, _, rfl, HO.out, HC.out, HB.out⟩
  · rw [if_neg hle] at h
    cases h


end


attribute [local go_sem high] eqA26

/-! ### petrinetlaw48_EventlogBack: function 7 -/
mutual
def petrinetlaw48_EventlogBack.j0 : Nat → List (List ByteArray) → Int → Bool → Option (Bool)
 | 0, _, _, _ => none
 | k + 1, x0, x1, x26 => if x26 = true then ((petrinetlaw48_alive.f k).bind fun t282 => (some t282)) else ((eventlog_Variants.f k x0).bind fun bt283 => (petrinetlaw48_EventlogBack.l0 k x0 x1 bt283.2 0 0))
def petrinetlaw48_EventlogBack.l0 : Nat → List (List ByteArray) → Int → List Int → Int → Int → Option (Bool)
 | 0, _, _, _, _, _ => none
 | k + 1, x0, x1, x6, x7, x8 => if x8 < (x6.length : Int) then (if 0 ≤ x8 then (petrinetlaw48_EventlogBack.l0 k x0 x1 x6 (wrap64 (x7 + (rd x6 x8))) (wrap64 (x8 + 1))) else (none)) else (if x7 = (x0.length : Int) then ((eventlog_Text.f k x0).bind fun bt290 => (if (!(bt290.2.1 == 0) || (!(bt290.2.2 == 0))) = true then (if bt290.1.toList = ([] : List UInt8) then ((petrinetref48_Check.f k x0).bind fun bt294 => (if (bt290.2.1 == bt294.1 && (bt290.2.2 == bt294.2)) = true then ((petrinetlaw48_alive.f k).bind fun t296 => (some t296)) else (some false))) else (some false)) else (petrinetlaw48_EventlogBack.l1 k x0 x1 bt290.1 (⟨#[]⟩ : ByteArray) 0))) else (some false))
def petrinetlaw48_EventlogBack.l1 : Nat → List (List ByteArray) → Int → ByteArray → ByteArray → Int → Option (Bool)
 | 0, _, _, _, _, _ => none
 | k + 1, x0, x1, x9, x11, x12 => if x12 < (x9.size : Int) then (if 0 ≤ x12 then (if x12 ≤ (wrap64 (x12 + 1)) then (if (wrap64 (x12 + 1)) ≤ (x9.size : Int) then (if x11.size + (x9.extract (x12 : Int).toNat ((wrap64 (x12 + 1)) : Int).toNat).size ≤ 9223372036854775807 then (petrinetlaw48_EventlogBack.l2 k x0 x1 x9 (x11 ++ (x9.extract (x12 : Int).toNat ((wrap64 (x12 + 1)) : Int).toNat)) x12 0) else (none)) else (none)) else (none)) else (none)) else ((eventlog_Parse.f x9).bind fun bt297 => (if (!(bt297.2.1 == 0) || (!(bt297.2.2 == 0))) = true then (petrinetlaw48_EventlogBack.j4 k x0 x11 true) else ((petrinetref48_Equal.f k x0 bt297.1).bind fun t303 => (petrinetlaw48_EventlogBack.j4 k x0 x11 (!t303)))))
def petrinetlaw48_EventlogBack.l2 : Nat → List (List ByteArray) → Int → ByteArray → ByteArray → Int → Int → Option (Bool)
 | 0, _, _, _, _, _, _ => none
 | k + 1, x0, x1, x9, x11, x12, x13 => if x13 < x1 then (if 0 ≤ x12 then (if x12 < (x9.size : Int) then (if (bt x9 x12) = 32 then (if x12 ≤ (wrap64 (x12 + 1)) then (if (wrap64 (x12 + 1)) ≤ (x9.size : Int) then (if x11.size + (x9.extract (x12 : Int).toNat ((wrap64 (x12 + 1)) : Int).toNat).size ≤ 9223372036854775807 then (petrinetlaw48_EventlogBack.l2 k x0 x1 x9 (x11 ++ (x9.extract (x12 : Int).toNat ((wrap64 (x12 + 1)) : Int).toNat)) x12 (wrap64 (x13 + 1))) else (none)) else (none)) else (none)) else (if (bt x9 x12) = 10 then (if x12 ≤ (wrap64 (x12 + 1)) then (if (wrap64 (x12 + 1)) ≤ (x9.size : Int) then (if x11.size + (x9.extract (x12 : Int).toNat ((wrap64 (x12 + 1)) : Int).toNat).size ≤ 9223372036854775807 then (petrinetlaw48_EventlogBack.l2 k x0 x1 x9 (x11 ++ (x9.extract (x12 : Int).toNat ((wrap64 (x12 + 1)) : Int).toNat)) x12 (wrap64 (x13 + 1))) else (none)) else (none)) else (none)) else (petrinetlaw48_EventlogBack.l1 k x0 x1 x9 x11 (wrap64 (x12 + 1))))) else (none)) else (none)) else (petrinetlaw48_EventlogBack.l1 k x0 x1 x9 x11 (wrap64 (x12 + 1)))
def petrinetlaw48_EventlogBack.j4 : Nat → List (List ByteArray) → ByteArray → Bool → Option (Bool)
 | 0, _, _, _ => none
 | k + 1, x0, x11, x118 => if x118 = true then (some false) else ((eventlog_Parse.f x11).bind fun bt304 => (if (bt304.2.1 == 0 && (bt304.2.2 == 0)) = true then ((petrinetref48_Equal.f k x0 bt304.1).bind fun t309 => (if t309 = true then ((petrinetlaw48_alive.f k).bind fun t310 => (some t310)) else (some false))) else (some false)))
end
def petrinetlaw48_EventlogBack.f (k : Nat) (l0 : List (List ByteArray)) (a1 : Int) : Option (Bool) := (petrinetlaw48_few.f k l0).bind fun t281 => (if t281 = true then (if a1 < 0 then (petrinetlaw48_EventlogBack.j0 k l0 a1 true) else (petrinetlaw48_EventlogBack.j0 k l0 a1 (decide (a1 > 5)))) else (petrinetlaw48_EventlogBack.j0 k l0 a1 true))
theorem petrinetlaw48_EventlogBack.mono_l : ∀ k, (∀ y0 y1 y2, LeO (petrinetlaw48_EventlogBack.j0 k y0 y1 y2) (petrinetlaw48_EventlogBack.j0 (k + 1) y0 y1 y2)) ∧ (∀ y0 y1 y2 y3 y4, LeO (petrinetlaw48_EventlogBack.l0 k y0 y1 y2 y3 y4) (petrinetlaw48_EventlogBack.l0 (k + 1) y0 y1 y2 y3 y4)) ∧ (∀ y0 y1 y2 y3 y4, LeO (petrinetlaw48_EventlogBack.l1 k y0 y1 y2 y3 y4) (petrinetlaw48_EventlogBack.l1 (k + 1) y0 y1 y2 y3 y4)) ∧ (∀ y0 y1 y2 y3 y4 y5, LeO (petrinetlaw48_EventlogBack.l2 k y0 y1 y2 y3 y4 y5) (petrinetlaw48_EventlogBack.l2 (k + 1) y0 y1 y2 y3 y4 y5)) ∧ (∀ y0 y1 y2, LeO (petrinetlaw48_EventlogBack.j4 k y0 y1 y2) (petrinetlaw48_EventlogBack.j4 (k + 1) y0 y1 y2))
 | 0 => ⟨fun _ _ _ r h => by simp [petrinetlaw48_EventlogBack.j0] at h, fun _ _ _ _ _ r h => by simp [petrinetlaw48_EventlogBack.l0] at h, fun _ _ _ _ _ r h => by simp [petrinetlaw48_EventlogBack.l1] at h, fun _ _ _ _ _ _ r h => by simp [petrinetlaw48_EventlogBack.l2] at h, fun _ _ _ r h => by simp [petrinetlaw48_EventlogBack.j4] at h⟩
 | k + 1 => by
  obtain ⟨ih0, ih1, ih2, ih3, ih4⟩ := petrinetlaw48_EventlogBack.mono_l k
  refine ⟨?_, ?_, ?_, ?_, ?_⟩
  ·
   intro y0 y1 y2
   unfold petrinetlaw48_EventlogBack.j0
   repeat' first
   | (with_reducible exact ih0 _ _ _)
   | (with_reducible exact ih1 _ _ _ _ _)
   | (with_reducible exact ih2 _ _ _ _ _)
   | (with_reducible exact ih3 _ _ _ _ _ _)
   | (with_reducible exact ih4 _ _ _)
   | (with_reducible exact eventlog_Text.mono _ _)
   | (with_reducible exact eventlog_Variants.mono _ _)
   | (with_reducible exact petrinetlaw48_alive.mono _)
   | (with_reducible exact petrinetlaw48_few.mono _ _)
   | (with_reducible exact petrinetref48_Check.mono _ _)
   | (with_reducible exact petrinetref48_Equal.mono _ _ _)
   | (with_reducible exact LeO.refl _)
   | (with_reducible exact LeO.none _)
   | (with_reducible refine LeO.ite ?_ ?_)
   | (with_reducible refine LeO.bind ?_ (fun _ => ?_))
   | exact ih0 _ _ _
   | exact ih1 _ _ _ _ _
   | exact ih2 _ _ _ _ _
   | exact ih3 _ _ _ _ _ _
   | exact ih4 _ _ _
   | exact eventlog_Text.mono _ _
   | exact eventlog_Variants.mono _ _
   | exact petrinetlaw48_alive.mono _
   | exact petrinetlaw48_few.mono _ _
   | exact petrinetref48_Check.mono _ _
   | exact petrinetref48_Equal.mono _ _ _
   | exact LeO.none _
   | refine LeO.ite ?_ ?_
   | refine LeO.bind ?_ (fun _ => ?_)
  ·
   intro y0 y1 y2 y3 y4
   unfold petrinetlaw48_EventlogBack.l0
   repeat' first
   | (with_reducible exact ih0 _ _ _)
   | (with_reducible exact ih1 _ _ _ _ _)
   | (with_reducible exact ih2 _ _ _ _ _)
   | (with_reducible exact ih3 _ _ _ _ _ _)
   | (with_reducible exact ih4 _ _ _)
   | (with_reducible exact eventlog_Text.mono _ _)
   | (with_reducible exact eventlog_Variants.mono _ _)
   | (with_reducible exact petrinetlaw48_alive.mono _)
   | (with_reducible exact petrinetlaw48_few.mono _ _)
   | (with_reducible exact petrinetref48_Check.mono _ _)
   | (with_reducible exact petrinetref48_Equal.mono _ _ _)
   | (with_reducible exact LeO.refl _)
   | (with_reducible exact LeO.none _)
   | (with_reducible refine LeO.ite ?_ ?_)
   | (with_reducible refine LeO.bind ?_ (fun _ => ?_))
   | exact ih0 _ _ _
   | exact ih1 _ _ _ _ _
   | exact ih2 _ _ _ _ _
   | exact ih3 _ _ _ _ _ _
   | exact ih4 _ _ _
   | exact eventlog_Text.mono _ _
   | exact eventlog_Variants.mono _ _
   | exact petrinetlaw48_alive.mono _
   | exact petrinetlaw48_few.mono _ _
   | exact petrinetref48_Check.mono _ _
   | exact petrinetref48_Equal.mono _ _ _
   | exact LeO.none _
   | refine LeO.ite ?_ ?_
   | refine LeO.bind ?_ (fun _ => ?_)
  ·
   intro y0 y1 y2 y3 y4
   unfold petrinetlaw48_EventlogBack.l1
   repeat' first
   | (with_reducible exact ih0 _ _ _)
   | (with_reducible exact ih1 _ _ _ _ _)
   | (with_reducible exact ih2 _ _ _ _ _)
   | (with_reducible exact ih3 _ _ _ _ _ _)
   | (with_reducible exact ih4 _ _ _)
   | (with_reducible exact eventlog_Text.mono _ _)
   | (with_reducible exact eventlog_Variants.mono _ _)
   | (with_reducible exact petrinetlaw48_alive.mono _)
   | (with_reducible exact petrinetlaw48_few.mono _ _)
   | (with_reducible exact petrinetref48_Check.mono _ _)
   | (with_reducible exact petrinetref48_Equal.mono _ _ _)
   | (with_reducible exact LeO.refl _)
   | (with_reducible exact LeO.none _)
   | (with_reducible refine LeO.ite ?_ ?_)
   | (with_reducible refine LeO.bind ?_ (fun _ => ?_))
   | exact ih0 _ _ _
   | exact ih1 _ _ _ _ _
   | exact ih2 _ _ _ _ _
   | exact ih3 _ _ _ _ _ _
   | exact ih4 _ _ _
   | exact eventlog_Text.mono _ _
   | exact eventlog_Variants.mono _ _
   | exact petrinetlaw48_alive.mono _
   | exact petrinetlaw48_few.mono _ _
   | exact petrinetref48_Check.mono _ _
   | exact petrinetref48_Equal.mono _ _ _
   | exact LeO.none _
   | refine LeO.ite ?_ ?_
   | refine LeO.bind ?_ (fun _ => ?_)
  ·
   intro y0 y1 y2 y3 y4 y5
   unfold petrinetlaw48_EventlogBack.l2
   repeat' first
   | (with_reducible exact ih0 _ _ _)
   | (with_reducible exact ih1 _ _ _ _ _)
   | (with_reducible exact ih2 _ _ _ _ _)
   | (with_reducible exact ih3 _ _ _ _ _ _)
   | (with_reducible exact ih4 _ _ _)
   | (with_reducible exact eventlog_Text.mono _ _)
   | (with_reducible exact eventlog_Variants.mono _ _)
   | (with_reducible exact petrinetlaw48_alive.mono _)
   | (with_reducible exact petrinetlaw48_few.mono _ _)
   | (with_reducible exact petrinetref48_Check.mono _ _)
   | (with_reducible exact petrinetref48_Equal.mono _ _ _)
   | (with_reducible exact LeO.refl _)
   | (with_reducible exact LeO.none _)
   | (with_reducible refine LeO.ite ?_ ?_)
   | (with_reducible refine LeO.bind ?_ (fun _ => ?_))
   | exact ih0 _ _ _
   | exact ih1 _ _ _ _ _
   | exact ih2 _ _ _ _ _
   | exact ih3 _ _ _ _ _ _
   | exact ih4 _ _ _
   | exact eventlog_Text.mono _ _
   | exact eventlog_Variants.mono _ _
   | exact petrinetlaw48_alive.mono _
   | exact petrinetlaw48_few.mono _ _
   | exact petrinetref48_Check.mono _ _
   | exact petrinetref48_Equal.mono _ _ _
   | exact LeO.none _
   | refine LeO.ite ?_ ?_
   | refine LeO.bind ?_ (fun _ => ?_)
  ·
   intro y0 y1 y2
   unfold petrinetlaw48_EventlogBack.j4
   repeat' first
   | (with_reducible exact ih0 _ _ _)
   | (with_reducible exact ih1 _ _ _ _ _)
   | (with_reducible exact ih2 _ _ _ _ _)
   | (with_reducible exact ih3 _ _ _ _ _ _)
   | (with_reducible exact ih4 _ _ _)
   | (with_reducible exact eventlog_Text.mono _ _)
   | (with_reducible exact eventlog_Variants.mono _ _)
   | (with_reducible exact petrinetlaw48_alive.mono _)
   | (with_reducible exact petrinetlaw48_few.mono _ _)
   | (with_reducible exact petrinetref48_Check.mono _ _)
   | (with_reducible exact petrinetref48_Equal.mono _ _ _)
   | (with_reducible exact LeO.refl _)
   | (with_reducible exact LeO.none _)
   | (with_reducible refine LeO.ite ?_ ?_)
   | (with_reducible refine LeO.bind ?_ (fun _ => ?_))
   | exact ih0 _ _ _
   | exact ih1 _ _ _ _ _
   | exact ih2 _ _ _ _ _
   | exact ih3 _ _ _ _ _ _
   | exact ih4 _ _ _
   | exact eventlog_Text.mono _ _
   | exact eventlog_Variants.mono _ _
   | exact petrinetlaw48_alive.mono _
   | exact petrinetlaw48_few.mono _ _
   | exact petrinetref48_Check.mono _ _
   | exact petrinetref48_Equal.mono _ _ _
   | exact LeO.none _
   | refine LeO.ite ?_ ?_
   | refine LeO.bind ?_ (fun _ => ?_)
theorem petrinetlaw48_EventlogBack.mono : ∀ a0 a1 k, LeO (petrinetlaw48_EventlogBack.f k a0 a1) (petrinetlaw48_EventlogBack.f (k + 1) a0 a1) := by
 intro a0 a1 k
 obtain ⟨ih0, ih1, ih2, ih3, ih4⟩ := petrinetlaw48_EventlogBack.mono_l k
 unfold petrinetlaw48_EventlogBack.f
 repeat' first
   | (with_reducible exact ih0 _ _ _)
   | (with_reducible exact ih1 _ _ _ _ _)
   | (with_reducible exact ih2 _ _ _ _ _)
   | (with_reducible exact ih3 _ _ _ _ _ _)
   | (with_reducible exact ih4 _ _ _)
   | (with_reducible exact eventlog_Text.mono _ _)
   | (with_reducible exact eventlog_Variants.mono _ _)
   | (with_reducible exact petrinetlaw48_alive.mono _)
   | (with_reducible exact petrinetlaw48_few.mono _ _)
   | (with_reducible exact petrinetref48_Check.mono _ _)
   | (with_reducible exact petrinetref48_Equal.mono _ _ _)
   | (with_reducible exact LeO.refl _)
   | (with_reducible exact LeO.none _)
   | (with_reducible refine LeO.ite ?_ ?_)
   | (with_reducible refine LeO.bind ?_ (fun _ => ?_))
   | exact ih0 _ _ _
   | exact ih1 _ _ _ _ _
   | exact ih2 _ _ _ _ _
   | exact ih3 _ _ _ _ _ _
   | exact ih4 _ _ _
   | exact eventlog_Text.mono _ _
   | exact eventlog_Variants.mono _ _
   | exact petrinetlaw48_alive.mono _
   | exact petrinetlaw48_few.mono _ _
   | exact petrinetref48_Check.mono _ _
   | exact petrinetref48_Equal.mono _ _ _
   | exact LeO.none _
   | refine LeO.ite ?_ ?_
   | refine LeO.bind ?_ (fun _ => ?_)
def petrinetlaw48_EventlogBack.T13 : Bool × List (List Nat × List Nat) := (true, [([], []), ([0], [0]), ([1], [1]), ([2], [2]), ([2], [2]), ([4, 2, 2], [2, 4]), ([3, 5, 2], [2, 3, 5]), ([2, 6], [2, 6]), ([7, 5], [7]), ([8, 8], [8]), ([8, 9], [8, 9]), ([10, 9, 0, 1, 2, 3, 4, 5, 6, 7, 8, 9, 10], [10])])
def petrinetlaw48_EventlogBack.B13 : List Nat := [0, 1, 3, 7, 7, 23, 63, 127, 255, 511, 1023, 2047]
theorem petrinetlaw48_EventlogBack.tab13 : rtab .any (opsOf Try.f7 13) = petrinetlaw48_EventlogBack.T13 := by kernel_rfl
theorem petrinetlaw48_EventlogBack.bits13 : waitsOk petrinetlaw48_EventlogBack.T13.2 petrinetlaw48_EventlogBack.B13 = true := by kernel_rfl
set_option maxHeartbeats 8000000 in
set_option maxRecDepth 100000 in
theorem petrinetlaw48_EventlogBack.calls (k : Nat) (A0 : Option Addr) (c0 : Nat) (l0 : List (List ByteArray)) (a1 : Int) (r : Bool) (w : World) (hr0 : Kd.C (Kd.slice 9 Kd.string) w A0 l0.length l0) (hc0 : l0.length ≤ c0) (h : petrinetlaw48_EventlogBack.f k l0 a1 = some r) (hrT_ : Aside0 (r = true)) :
  Calls Try.prog 7 #[.slice A0 l0.length c0, .int .i64 a1] w fun e w' => e = .returned (.bool r) ∧ Below w.heap.size w w' := by
 have hu26 := Try.underlying26
 have hu3 := Try.underlying3
 have hu24 := Try.underlying24
 have HR0 := Aside0.mk hr0
 have HC0 := Aside0.mk hc0
 clear hr0 hc0
 have HB := Aside0.mk (Below.refl w.heap.size w)
 have H : ((petrinetlaw48_few.f k l0).bind fun t281 => (if t281 = true then (if a1 < 0 then (petrinetlaw48_EventlogBack.j0 k l0 a1 true) else (petrinetlaw48_EventlogBack.j0 k l0 a1 (decide (a1 > 5)))) else (petrinetlaw48_EventlogBack.j0 k l0 a1 true))) = some r := h
 clear h
 have HC3 := Aside0.mk H
 clear H
 go_enter Try.func7, Try.ntmps7
 go_upto_region 1 with (fail)
 go_cut [26] (fun v26 wc => ∃ (kq : Nat) (x26_2 : Bool), v26 = .bool x26_2 ∧ Aside0 (petrinetlaw48_EventlogBack.j0 kq l0 a1 x26_2 = some r) ∧ Aside0 (kq ≤ k) ∧ Aside0 (Below w.heap.size w wc))
 case first =>
  have H := HC3.out
  clear HC3
  replace H := Option.bind_eq_some_iff.mp H
  obtain ⟨t281, A40, H⟩ := H
  replace H : (if t281 = true then (if a1 < 0 then (petrinetlaw48_EventlogBack.j0 k l0 a1 true) else (petrinetlaw48_EventlogBack.j0 k l0 a1 (decide (a1 > 5)))) else (petrinetlaw48_EventlogBack.j0 k l0 a1 true)) = some r := H
  have A4 := Aside0.mk A40
  clear A40
  by_cases c5 : t281 = true
  ·
   subst c5
   have H1 : (if a1 < 0 then (petrinetlaw48_EventlogBack.j0 k l0 a1 true) else (petrinetlaw48_EventlogBack.j0 k l0 a1 (decide (a1 > 5)))) = some r := by rw [if_pos rfl] at H; exact H
   clear H
   have H := H1
   clear H1
   by_cases c6 : a1 < 0
   ·
    rw [if_pos c6] at H
    have c6b0 : decide (a1 < 0) = true := decide_eq_true c6
    clear c6
    (first | rw [c6b0] | (simp only [i64_w, i32_w]; rw [c6b0]) | skip)
    have H' := Aside0.mk H
    clear H
    go_wp2_with (first | ((with_reducible refine gate_callee (f := 13) rfl ?_); refine goesL_ (some 17) rfl rfl Try.func13 (by kernel_rfl) rfl #[.slice A0 l0.length c0] rfl (by (try simp only [List.map_toArray, List.map_cons, List.map_nil]); first | done | rfl | (simp only [List.length_drop, List.length_take]; rfl)) ?_; (with_reducible refine (petrinetlaw48_few.calls k _ _ l0 true _ ?side1 ?side2 A4.out).mono ?_); (case side1 => repeat (first | exact (Kd.C_below HR0.out HB.out) | (with_reducible refine Kd.C_alloc ?_ _) | (with_reducible refine Kd.C_drewN ?_ _) | (with_reducible refine Kd.C_drew ?_))); (case side2 => exact HC0.out); rintro e w' ⟨rfl, ⟨nd, rfl⟩⟩; refine ⟨_, rfl, ?_⟩))
    go_meet
    case rel => exact ⟨_, (true), (by first | rfl | (simp; done) | (simp [*]; done) | (simp [i64_w]; done)), H', ⟨by first | omega | exact Nat.le_refl _⟩, ⟨by repeat (first | (with_reducible first | exact HB.out | apply below_alloc | apply pw_below_drewN | apply below_drew1) | exact HB.out)⟩⟩
   ·
    rw [if_neg c6] at H
    have c6b0 : decide (a1 < 0) = false := decide_eq_false c6
    clear c6
    (first | rw [c6b0] | (simp only [i64_w, i32_w]; rw [c6b0]) | skip)
    have H' := Aside0.mk H
    clear H
    go_wp2_with (first | ((with_reducible refine gate_callee (f := 13) rfl ?_); refine goesL_ (some 17) rfl rfl Try.func13 (by kernel_rfl) rfl #[.slice A0 l0.length c0] rfl (by (try simp only [List.map_toArray, List.map_cons, List.map_nil]); first | done | rfl | (simp only [List.length_drop, List.length_take]; rfl)) ?_; (with_reducible refine (petrinetlaw48_few.calls k _ _ l0 true _ ?side1 ?side2 A4.out).mono ?_); (case side1 => repeat (first | exact (Kd.C_below HR0.out HB.out) | (with_reducible refine Kd.C_alloc ?_ _) | (with_reducible refine Kd.C_drewN ?_ _) | (with_reducible refine Kd.C_drew ?_))); (case side2 => exact HC0.out); rintro e w' ⟨rfl, ⟨nd, rfl⟩⟩; refine ⟨_, rfl, ?_⟩))
    go_meet
    case rel => exact ⟨_, (decide (a1 > 5)), (by first | rfl | (simp; done) | (simp [*]; done) | (simp [i64_w]; done)), H', ⟨by first | omega | exact Nat.le_refl _⟩, ⟨by repeat (first | (with_reducible first | exact HB.out | apply below_alloc | apply pw_below_drewN | apply below_drew1) | exact HB.out)⟩⟩
  ·
   replace c5 := Bool.eq_false_iff.mpr c5
   subst c5
   have H1 : (petrinetlaw48_EventlogBack.j0 k l0 a1 true) = some r := by rw [if_neg (show ¬ (false = true) by decide)] at H; exact H
   clear H
   have H := H1
   clear H1
   have H' := Aside0.mk H
   clear H
   go_wp2_with (first | ((with_reducible refine gate_callee (f := 13) rfl ?_); refine goesL_ (some 17) rfl rfl Try.func13 (by kernel_rfl) rfl #[.slice A0 l0.length c0] rfl (by (try simp only [List.map_toArray, List.map_cons, List.map_nil]); first | done | rfl | (simp only [List.length_drop, List.length_take]; rfl)) ?_; (with_reducible refine (petrinetlaw48_few.calls k _ _ l0 false _ ?side1 ?side2 A4.out).mono ?_); (case side1 => repeat (first | exact (Kd.C_below HR0.out HB.out) | (with_reducible refine Kd.C_alloc ?_ _) | (with_reducible refine Kd.C_drewN ?_ _) | (with_reducible refine Kd.C_drew ?_))); (case side2 => exact HC0.out); rintro e w' ⟨rfl, ⟨nd, rfl⟩⟩; refine ⟨_, rfl, ?_⟩))
   go_meet
   case rel => exact ⟨_, (true), (by first | rfl | (simp; done) | (simp [*]; done) | (simp [i64_w]; done)), H', ⟨by first | omega | exact Nat.le_refl _⟩, ⟨by repeat (first | (with_reducible first | exact HB.out | apply below_alloc | apply pw_below_drewN | apply below_drew1) | exact HB.out)⟩⟩
 case rest =>
  clear HC3
  try clear c1
  try clear p2
  try clear c5
  try clear c6
  try clear c6b0
  obtain ⟨kq, x26_2, rfl, HA, HJ2, HB⟩ := hcut
  cases kq with
  | zero => exact absurd HA.out (by simp [petrinetlaw48_EventlogBack.j0])
  | succ kj2 =>
   have H := HA.out
   clear HA
   simp only [petrinetlaw48_EventlogBack.j0] at H
   by_cases c7 : x26_2 = true
   ·
    subst c7
    have H1 : ((petrinetlaw48_alive.f kj2).bind fun t282 => (some t282)) = some r := by rw [if_pos rfl] at H; exact H
    clear H
    have H := H1
    clear H1
    replace H := Option.bind_eq_some_iff.mp H
    obtain ⟨t282, A80, H⟩ := H
    replace H : (some t282) = some r := H
    have A8 := Aside0.mk A80
    clear A80
    obtain rfl := Option.some.inj H
    go_wp2_with (first | ((with_reducible refine gate_callee (f := 9) rfl ?_); refine goesL_ (some 27) rfl rfl Try.func9 (by kernel_rfl) rfl #[] rfl (by (try simp only [List.map_toArray, List.map_cons, List.map_nil]); first | done | rfl | (simp only [List.length_drop, List.length_take]; rfl)) ?_; (with_reducible refine (petrinetlaw48_alive.calls kj2  t282 _ A8.out (by first | exact hrT_ | exact ⟨rfl⟩)).mono ?_); rintro e w9 ⟨rfl, hb⟩; refine ⟨_, rfl, ?_⟩; have n0_ := Aside0.mk (below_step (by repeat (first | (with_reducible first | exact HB.out | apply below_alloc | apply pw_below_drewN | apply below_drew1) | exact HB.out)) hb); clear HB; have HB := n0_; clear n0_; (try clear hb); (try clear hb2); (try clear hk); (try clear hi)))
    go_ret
    exact ⟨by first | rfl | (simp [errW_none, errW_some] <;> rfl) | (simp [*, errW_none, errW_some] <;> rfl), by repeat (first | (with_reducible first | exact HB.out | apply below_alloc | apply pw_below_drewN | apply below_drew1) | exact HB.out)⟩
   ·
    replace c7 := Bool.eq_false_iff.mpr c7
    subst c7
    have H1 : ((eventlog_Variants.f kj2 l0).bind fun bt283 => (petrinetlaw48_EventlogBack.l0 kj2 l0 a1 bt283.2 0 0)) = some r := by rw [if_neg (show ¬ (false = true) by decide)] at H; exact H
    clear H
    have H := H1
    clear H1
    replace H := Option.bind_eq_some_iff.mp H
    obtain ⟨⟨t283, t284⟩, A100, H⟩ := H
    replace H : (petrinetlaw48_EventlogBack.l0 kj2 l0 a1 t284 0 0) = some r := H
    have A10 := Aside0.mk A100
    clear A100
    have H' := Aside0.mk H
    clear H
    go_wp2_with (first | ((with_reducible refine gate_callee (f := 26) rfl ?_); refine goesL_ (some 30) rfl rfl Try.func26 (by kernel_rfl) rfl #[.slice A0 l0.length c0] rfl (by (try simp only [List.map_toArray, List.map_cons, List.map_nil]); first | done | rfl | (simp only [List.length_drop, List.length_take]; rfl)) ?_; (with_reducible refine (eventlog_Variants.calls kj2 _ _ l0 t283 t284 _ ?side1 ?side2 A10.out).mono ?_); (case side1 => repeat (first | exact (Kd.C_below HR0.out HB.out) | (with_reducible refine Kd.C_alloc ?_ _) | (with_reducible refine Kd.C_drewN ?_ _) | (with_reducible refine Kd.C_drew ?_))); (case side2 => exact HC0.out); rintro e w11 ⟨v285, v287, rfl, ho0, ho1, hb⟩; refine ⟨_, rfl, ?_⟩; have n0_ := Aside0.mk (Kd.S_lower ho0 (below_size (by repeat (first | (with_reducible first | exact HB.out | apply below_alloc | apply pw_below_drewN | apply below_drew1) | exact HB.out)))); have n1_ := Aside0.mk (Kd.R_lower ho1 (below_size (by repeat (first | (with_reducible first | exact HB.out | apply below_alloc | apply pw_below_drewN | apply below_drew1) | exact HB.out)))); have n2_ := Aside0.mk (below_step (by repeat (first | (with_reducible first | exact HB.out | apply below_alloc | apply pw_below_drewN | apply below_drew1) | exact HB.out)) hb); clear HB; have HO286 := n0_; have HO288 := n1_; have HB := n2_; clear n0_ n1_ n2_; (try clear hb); (try clear hb2); (try clear hk); (try clear hi); (try clear ho0); (try clear ho1)))
    go_loopg [7, 8] kj2 (fun kq v7 v8 w' => ∃ (x7_2 : Int) (x8_2 : Int), v7 = .int .i64 x7_2 ∧ v8 = .int .i64 x8_2 ∧ Aside0 (petrinetlaw48_EventlogBack.l0 kq l0 a1 t284 x7_2 x8_2 = some r) ∧ Aside0 (kq ≤ kj2) ∧ Aside0 (Kd.R (Kd.int .i64) 3 w' w.heap.size (fun _ => True) v287 t284) ∧ Aside0 (Below w.heap.size w w'))
    case atStart => exact ⟨(0), (0), (by first | rfl | (simp; done) | (simp [*]; done) | (simp [i64_w]; done)), (by first | rfl | (simp; done) | (simp [*]; done) | (simp [i64_w]; done)), H', ⟨Nat.le_refl _⟩, ⟨by (with_reducible repeat (first | apply Kd.R_alloc | apply Kd.R_drewN | apply Kd.R_drew)); exact HO288.out⟩, ⟨by repeat (first | (with_reducible first | exact HB.out | apply below_alloc | apply pw_below_drewN | apply below_drew1) | exact HB.out)⟩⟩
    case round =>
     clear H'
     try clear c1
     try clear c2
     try clear p2
     try clear c5
     try clear c6
     try clear c6b0
     try clear c7
     try clear c9
     try clear p2
     obtain ⟨x7_2, x8_2, rfl, rfl, HA, HK2, HO_6, HB⟩ := hrel
     cases gk with
     | zero => exact absurd HA.out (by simp [petrinetlaw48_EventlogBack.l0])
     | succ k2 =>
      have H := HA.out
      clear HA
      simp only [petrinetlaw48_EventlogBack.l0] at H
      by_cases c12 : x8_2 < (t284.length : Int)
      ·
       rw [if_pos c12] at H
       have c12b0 : decide (x8_2 < (t284.length : Int)) = true := decide_eq_true c12
       clear c12
       by_cases c13 : 0 ≤ x8_2
       ·
        rw [if_pos c13] at H
        have c13b0 : decide (0 ≤ x8_2) = true := decide_eq_true c13
        clear c13
        have H' := Aside0.mk H
        clear H
        obtain ⟨Ao14, co14, eo14⟩ := Kd.R_slice HO_6.out
        subst eo14
        have p289 : 0 ≤ (x8_2 : Int) := of_decide_eq_true (by first | (with_reducible assumption) | assumption)
        have q289 : x8_2 < (t284.length : Int) := of_decide_eq_true (by first | (with_reducible assumption) | assumption)
        obtain ⟨ad289, e289, hx289_0⟩ := Kd.at_int (Kd.R_reads' HO_6.out).2.2 x8_2 p289 q289
        cases e289
        replace p289 := eq_true p289
        replace q289 := eq_true q289
        go_wp2
        go_roundg k2
        case measure => have := HJ2.out; have := HK2.out; omega
        case rel => exact ⟨(wrap64 (x7_2 + (rd t284 x8_2))), (wrap64 (x8_2 + 1)), (by first | rfl | (simp; done) | (simp [*]; done) | (simp [i64_w]; done)), (by first | rfl | (simp; done) | (simp [*]; done) | (simp [i64_w]; done)), H', ⟨by have := HJ2.out; have := HK2.out; omega⟩, ⟨by (with_reducible repeat (first | apply Kd.R_alloc | apply Kd.R_drewN | apply Kd.R_drew)); exact HO_6.out⟩, ⟨by repeat (first | (with_reducible first | exact HB.out | apply below_alloc | apply pw_below_drewN | apply below_drew1) | exact HB.out)⟩⟩
       ·
        rw [if_neg c13] at H
        exact absurd H (by simp)
      ·
       rw [if_neg c12] at H
       have c12b0 : decide (x8_2 < (t284.length : Int)) = false := decide_eq_false c12
       clear c12
       by_cases c15 : x7_2 = (l0.length : Int)
       ·
        rw [if_pos c15] at H
        have c15b0 : (x7_2 == (l0.length : Int)) = true := beq_iff_eq.mpr c15
        have c15b1 : (x7_2 != (l0.length : Int)) = false := bne_eq_false_iff_eq.mpr c15
        clear c15
        replace H := Option.bind_eq_some_iff.mp H
        obtain ⟨⟨t290, t291, t292⟩, A160, H⟩ := H
        replace H : (if (!(t291 == 0) || (!(t292 == 0))) = true then (if t290.toList = ([] : List UInt8) then ((petrinetref48_Check.f k2 l0).bind fun bt294 => (if (t291 == bt294.1 && (t292 == bt294.2)) = true then ((petrinetlaw48_alive.f k2).bind fun t296 => (some t296)) else (some false))) else (some false)) else (petrinetlaw48_EventlogBack.l1 k2 l0 a1 t290 (⟨#[]⟩ : ByteArray) 0)) = some r := H
        have A16 := Aside0.mk A160
        clear A160
        by_cases c17 : (!(t291 == 0) || (!(t292 == 0))) = true
        ·
         rw [if_pos c17] at H
         have c17b0 : (!(t291 == 0) || (!(t292 == 0))) = true := c17
         clear c17
         by_cases c18 : t290.toList = ([] : List UInt8)
         ·
          rw [if_pos c18] at H
          have c18b0 : (t290.toList == ([] : List UInt8)) = true := beq_iff_eq.mpr c18
          have c18b1 : (t290.toList != ([] : List UInt8)) = false := bne_eq_false_iff_eq.mpr c18
          clear c18
          replace H := Option.bind_eq_some_iff.mp H
          obtain ⟨⟨t294, t295⟩, A190, H⟩ := H
          replace H : (if (t291 == t294 && (t292 == t295)) = true then ((petrinetlaw48_alive.f k2).bind fun t296 => (some t296)) else (some false)) = some r := H
          have A19 := Aside0.mk A190
          clear A190
          by_cases c20 : (t291 == t294 && (t292 == t295)) = true
          ·
           rw [if_pos c20] at H
           have c20b0 : (t291 == t294 && (t292 == t295)) = true := c20
           (try (have c20b1 : decide (t291 = t294 && (t292 == t295)) = true := by simpa using c20))
           (try (have c20b2 : (t291 == t294 && (t292 == t295)) = true := by simpa using c20))
           clear c20
           replace H := Option.bind_eq_some_iff.mp H
           obtain ⟨t296, A210, H⟩ := H
           replace H : (some t296) = some r := H
           have A21 := Aside0.mk A210
           clear A210
           obtain rfl := Option.some.inj H
           obtain ⟨Ao22, co22, eo22⟩ := Kd.R_slice HO_6.out
           subst eo22
           try go_wp2_with (first | ((with_reducible refine gate_callee (f := 20) rfl ?_); refine goesL_ (some 51) rfl rfl Try.func20 (by kernel_rfl) rfl #[.slice A0 l0.length c0] rfl (by (try simp only [List.map_toArray, List.map_cons, List.map_nil]); first | done | rfl | (simp only [List.length_drop, List.length_take]; rfl)) ?_; (with_reducible refine (eventlog_Text.calls k2 _ _ l0 t290 t291 t292 _ ?side1 ?side2 A16.out).mono ?_); (case side1 => repeat (first | exact (Kd.C_below HR0.out HB.out) | (with_reducible refine Kd.C_alloc ?_ _) | (with_reducible refine Kd.C_drewN ?_ _) | (with_reducible refine Kd.C_drew ?_))); (case side2 => exact HC0.out); rintro e w23 ⟨rfl, hb⟩; refine ⟨_, rfl, ?_⟩; have n0_ := Aside0.mk (Kd.R_below (by (with_reducible repeat (first | apply Kd.R_alloc | apply Kd.R_drewN | apply Kd.R_drew)); exact HO_6.out) hb); have n1_ := Aside0.mk (below_step (by repeat (first | (with_reducible first | exact HB.out | apply below_alloc | apply pw_below_drewN | apply below_drew1) | exact HB.out)) hb); clear HO_6; clear HB; have HO_6 := n0_; have HB := n1_; clear n0_ n1_; (try clear hb); (try clear hb2); (try clear hk); (try clear hi)) | ((with_reducible refine gate_dst (N := 10) rfl ?_); refine box_event ?hg (N := 10) ?hd (cs := #[.int .i64 0, .int .i64 0]) (t := 26) ?hr ?_; (case hd => rfl); (case hg => rfl); (case hr => first | (go_simp; done) | (go_simp; rfl)); intro gb293 hg w24 hbox hb; have n0_ := Aside0.mk (Kd.R_below (by (with_reducible repeat (first | apply Kd.R_alloc | apply Kd.R_drewN | apply Kd.R_drew)); exact HO_6.out) hb); have n1_ := Aside0.mk (below_step (by repeat (first | (with_reducible first | exact HB.out | apply below_alloc | apply pw_below_drewN | apply below_drew1) | exact HB.out)) hb); have n2_ := Aside0.mk (hbox); have n3_ := Aside0.mk ((by rw [hg]; exact (below_size (by repeat (first | (with_reducible first | exact HB.out | apply below_alloc | apply pw_below_drewN | apply below_drew1) | exact HB.out))) : w.heap.size ≤ gb293)); have n4_ := Aside0.mk ((by rw [hg]; exact (below_size (by repeat (first | (with_reducible first | exact HB.out | apply below_alloc | apply pw_below_drewN | apply below_drew1) | exact HB.out))) : w.heap.size ≤ gb293)); clear HO_6; clear HB; have HO_6 := n0_; have HB := n1_; have BK293 := n2_; have GW293 := n3_; have GE293 := n4_; clear n0_ n1_ n2_ n3_ n4_; clear hb hbox hg; have hcz25_0 : w24.cell? ⟨gb293, 0, none⟩ = some (.int .i64 0) := (blk_cell BK293.out 0).trans rfl; have hcz25_1 : w24.cell? ⟨gb293, 1, none⟩ = some (.int .i64 0) := (blk_cell BK293.out 1).trans rfl; have hfz25_0 := blk_frozen BK293.out 0; have hfz25_1 := blk_frozen BK293.out 1))
           have n0_ : Aside0 (Kd.R (Kd.int .i64) 3 ((w24.setCell ⟨gb293, 0, none⟩ (.int .i64 t291)).setCell ⟨gb293, 1, none⟩ (.int .i64 t292)) w.heap.size (fun _ => True) (.slice Ao22 t284.length co22) t284) := ⟨by (with_reducible repeat (first | apply Kd.R_alloc | apply Kd.R_drewN | apply Kd.R_drew)); exact Kd.R_mono (Kd.R_far (p := ⟨gb293, 1, none⟩) (Kd.R_far (p := ⟨gb293, 0, none⟩) (Kd.R_types HO_6.out BK293.out (by decide)) (fun _ hk => hk.2) (.int .i64 t291)) (fun _ hk => hk.2) (.int .i64 t292)) (fun _ hk => trivial)⟩
           have n1_ : Aside0 (((w24.setCell ⟨gb293, 0, none⟩ (.int .i64 t291)).setCell ⟨gb293, 1, none⟩ (.int .i64 t292)).heap[gb293]? = some (.cells #[.int .i64 t291, .int .i64 t292] 26 (0, 0))) := ⟨by (with_reducible repeat (first | refine blk_drewN ?_ _ | refine blk_drew ?_ | refine blk_alloc ?_ _)); refine blk_put (cs := #[.int .i64 t291, .int .i64 0]) ?_ 1 _ rfl; (with_reducible repeat (first | refine blk_drewN ?_ _ | refine blk_drew ?_ | refine blk_alloc ?_ _)); refine blk_put (cs := #[.int .i64 0, .int .i64 0]) ?_ 0 _ rfl; (with_reducible repeat (first | refine blk_drewN ?_ _ | refine blk_drew ?_ | refine blk_alloc ?_ _)); exact BK293.out⟩
           have n2_ : Aside0 (Below w.heap.size w ((w24.setCell ⟨gb293, 0, none⟩ (.int .i64 t291)).setCell ⟨gb293, 1, none⟩ (.int .i64 t292))) := ⟨by repeat (first | (with_reducible first | exact HB.out | apply below_alloc | apply pw_below_drewN | apply below_drew1 | refine below_set ?_ GE293.out) | exact HB.out)⟩
           (try clear HO_6)
           (try clear BK293)
           (try clear HB)
           generalize ((w24.setCell ⟨gb293, 0, none⟩ (.int .i64 t291)).setCell ⟨gb293, 1, none⟩ (.int .i64 t292)) = w26 at n0_ n1_ n2_ ⊢
           have HO_6 := n0_
           have BK293 := n1_
           have HB := n2_
           clear n0_ n1_ n2_
           have n0_ := Aside0.mk (Kd.R_drew HO_6.out)
           have n1_ := Aside0.mk (blk_drew BK293.out)
           have n2_ := Aside0.mk (below_drew1 HB.out)
           clear HO_6
           clear BK293
           clear HB
           have HO_6 := n0_
           have BK293 := n1_
           have HB := n2_
           clear n0_ n1_ n2_
           refine start_ (n := 12) (S := fun w' => w'.cell? ⟨gb293, 0, none⟩ = some (.int .i64 t291) ∧ w'.cell? ⟨gb293, 1, none⟩ = some (.int .i64 t292)) (ds := []) #[false, false, false, false, false, false, false, false, false, false, false, false] (by kernel_rfl) rfl rfl ⟨(blk_cell BK293.out 0).trans rfl, (blk_cell BK293.out 1).trans rfl⟩ (fun hHeld => ?_); refine with_tabW petrinetlaw48_EventlogBack.tab13 petrinetlaw48_EventlogBack.bits13 (fun HT_ HW_ => ?_)
           generalize w26.drew = w27 at HO_6 BK293 HB hHeld ⊢
           refine pure_ (i := 0) (N := some 57) (v := ?_) (a' := ?_) #[true, false, false, false, false, false, false, false, false, false, false, false] rfl rfl (any_of HT_.out (by kernel_rfl)) (fun _ _ _ h => h) (Or.inl ⟨by rfl, ?_⟩) ?_ ?_
           rotate_left
           ·
            intro w'
            go_simp
            with_reducible rfl
           rotate_left
           ·
            simp only [Act.put, List.setIfInBounds_toArray, List.set_cons_zero, List.set_cons_succ, i64_w, i32_w]
            rfl
           refine pure_ (i := 1) (N := some 58) (v := ?_) (a' := ?_) #[true, true, false, false, false, false, false, false, false, false, false, false] rfl rfl (any_of HT_.out (by kernel_rfl)) (fun _ _ _ h => h) (Or.inl ⟨by rfl, ?_⟩) ?_ ?_
           rotate_left
           ·
            intro w'
            go_simp
            with_reducible rfl
           rotate_left
           ·
            simp only [Act.put, List.setIfInBounds_toArray, List.set_cons_zero, List.set_cons_succ, i64_w, i32_w]
            rfl
           refine pure_ (i := 2) (N := some 59) (v := ?_) (a' := ?_) #[true, true, true, false, false, false, false, false, false, false, false, false] rfl rfl (any_of HT_.out (by kernel_rfl)) (fun _ _ _ h => h) (Or.inl ⟨by rfl, ?_⟩) ?_ ?_
           rotate_left
           ·
            intro w'
            go_simp
            with_reducible rfl
           rotate_left
           ·
            simp only [Act.put, List.setIfInBounds_toArray, List.set_cons_zero, List.set_cons_succ, i64_w, i32_w]
            rfl
           refine pure_ (i := 4) (N := some 61) (v := ?_) (a' := ?_) #[true, true, true, false, true, false, false, false, false, false, false, false] rfl rfl (any_of HT_.out (by kernel_rfl)) (fun _ _ _ h => h) (Or.inl ⟨by rfl, ?_⟩) ?_ ?_
           rotate_left
           ·
            intro w'
            go_simp
            with_reducible rfl
           rotate_left
           ·
            simp only [Act.put, List.setIfInBounds_toArray, List.set_cons_zero, List.set_cons_succ, i64_w, i32_w]
            rfl
           refine take_ (i := 3) (N := some 60) (v := ?_) (a' := ?_) #[true, true, true, true, true, false, false, false, false, false, false, false] rfl rfl (take_ofW HT_.out HW_.out (by kernel_rfl)) (fun _ _ _ h => h) (Or.inl ⟨by rfl, ?_⟩) hHeld ?_ ?_
           rotate_left
           ·
            rintro w' ⟨s0, s1⟩
            go_simp
            with_reducible rfl
           rotate_left
           ·
            simp only [Act.put, List.setIfInBounds_toArray, List.set_cons_zero, List.set_cons_succ, i64_w, i32_w]
            rfl
           refine one_ (i := 5) (N := some 62) #[true, true, true, true, true, true, false, false, false, false, false, false] rfl rfl (one_of HT_.out (by kernel_rfl)) (by decide) (fun K hK => ?_)
           refine goes_ Try.func25 (by kernel_rfl) rfl #[.slice A0 l0.length c0] (by rfl) rfl rfl (by (try simp only [List.map_toArray, List.map_cons, List.map_nil]); first | done | rfl | (simp only [List.length_drop, List.length_take]; rfl)) ?_
           with_reducible refine (petrinetref48_Check.calls k2 _ _ l0 t294 t295 _ ?side1 ?side2 A19.out).mono ?_
           (case side1 => repeat (first | exact (Kd.C_below HR0.out HB.out) | (with_reducible refine Kd.C_alloc ?_ _) | (with_reducible refine Kd.C_drewN ?_ _) | (with_reducible refine Kd.C_drew ?_)))
           (case side2 => exact HC0.out)
           rintro e w28 ⟨rfl, hb⟩
           refine ⟨_, rfl, ?_⟩
           have n0_ := Aside0.mk (Kd.R_below (by (with_reducible repeat (first | apply Kd.R_alloc | apply Kd.R_drewN | apply Kd.R_drew)); exact HO_6.out) hb)
           have n1_ := Aside0.mk (blk_below (g := gb293) (o := .cells #[.int .i64 t291, .int .i64 t292] 26 (0, 0)) (by (with_reducible repeat (first | refine blk_drewN ?_ _ | refine blk_drew ?_ | refine blk_alloc ?_ _)); exact BK293.out) hb)
           have n2_ := Aside0.mk (below_step (by repeat (first | (with_reducible first | exact HB.out | apply below_alloc | apply pw_below_drewN | apply below_drew1 | refine below_set ?_ GE293.out) | exact HB.out)) hb)
           clear HO_6
           clear BK293
           clear HB
           have HO_6 := n0_
           have BK293 := n1_
           have HB := n2_
           clear n0_ n1_ n2_
           (try clear hb)
           (try clear hb2)
           (try clear hk)
           (try clear hi)
           refine hK.out _ _ ⟨(blk_cell BK293.out 0).trans rfl, (blk_cell BK293.out 1).trans rfl⟩ (fun hHeld => ?_)
           clear hK K
           refine norm_ (a' := ?_) ?_ ?_
           rotate_left
           ·
            show Act.put _ (some 62) _ = _
            simp only [Act.put, List.setIfInBounds_toArray, List.set_cons_zero, List.set_cons_succ, i64_w, i32_w]
            rfl
           refine pure_ (i := 6) (N := some 63) (v := ?_) (a' := ?_) #[true, true, true, true, true, true, true, false, false, false, false, false] rfl rfl (any_of HT_.out (by kernel_rfl)) (fun _ _ _ h => h) (Or.inl ⟨by rfl, ?_⟩) ?_ ?_
           rotate_left
           ·
            intro w'
            go_simp
            with_reducible rfl
           rotate_left
           ·
            simp only [Act.put, List.setIfInBounds_toArray, List.set_cons_zero, List.set_cons_succ, i64_w, i32_w]
            rfl
           refine pure_ (i := 7) (N := some 64) (v := ?_) (a' := ?_) #[true, true, true, true, true, true, true, true, false, false, false, false] rfl rfl (any_of HT_.out (by kernel_rfl)) (fun _ _ _ h => h) (Or.inl ⟨by rfl, ?_⟩) ?_ ?_
           rotate_left
           ·
            intro w'
            go_simp
            with_reducible rfl
           rotate_left
           ·
            simp only [Act.put, List.setIfInBounds_toArray, List.set_cons_zero, List.set_cons_succ, i64_w, i32_w]
            rfl
           refine pure_ (i := 8) (N := some 65) (v := ?_) (a' := ?_) #[true, true, true, true, true, true, true, true, true, false, false, false] rfl rfl (any_of HT_.out (by kernel_rfl)) (fun _ _ _ h => h) (Or.inl ⟨by rfl, ?_⟩) ?_ ?_
           rotate_left
           ·
            intro w'
            go_simp
            with_reducible rfl
           rotate_left
           ·
            simp only [Act.put, List.setIfInBounds_toArray, List.set_cons_zero, List.set_cons_succ, i64_w, i32_w]
            rfl
           refine one_ (i := 9) (N := some 66) #[true, true, true, true, true, true, true, true, true, true, false, false] rfl rfl (one_of HT_.out (by kernel_rfl)) (by decide) (fun K hK => ?_)
           refine goes_ Try.func9 (by kernel_rfl) rfl #[] (by rfl) rfl rfl (by (try simp only [List.map_toArray, List.map_cons, List.map_nil]); first | done | rfl | (simp only [List.length_drop, List.length_take]; rfl)) ?_
           with_reducible refine (petrinetlaw48_alive.calls k2  t296 _ A21.out (by first | exact hrT_ | exact ⟨rfl⟩)).mono ?_
           rintro e w29 ⟨rfl, hb⟩
           refine ⟨_, rfl, ?_⟩
           have n0_ := Aside0.mk (Kd.R_below (by (with_reducible repeat (first | apply Kd.R_alloc | apply Kd.R_drewN | apply Kd.R_drew)); exact HO_6.out) hb)
           have n1_ := Aside0.mk (blk_below (g := gb293) (o := .cells #[.int .i64 t291, .int .i64 t292] 26 (0, 0)) (by (with_reducible repeat (first | refine blk_drewN ?_ _ | refine blk_drew ?_ | refine blk_alloc ?_ _)); exact BK293.out) hb)
           have n2_ := Aside0.mk (below_step (by repeat (first | (with_reducible first | exact HB.out | apply below_alloc | apply pw_below_drewN | apply below_drew1 | refine below_set ?_ GE293.out) | exact HB.out)) hb)
           clear HO_6
           clear BK293
           clear HB
           have HO_6 := n0_
           have BK293 := n1_
           have HB := n2_
           clear n0_ n1_ n2_
           (try clear hb)
           (try clear hb2)
           (try clear hk)
           (try clear hi)
           refine hK.out _ _ ⟨(blk_cell BK293.out 0).trans rfl, (blk_cell BK293.out 1).trans rfl⟩ (fun hHeld => ?_)
           clear hK K
           refine norm_ (a' := ?_) ?_ ?_
           rotate_left
           ·
            show Act.put _ (some 66) _ = _
            simp only [Act.put, List.setIfInBounds_toArray, List.set_cons_zero, List.set_cons_succ, i64_w, i32_w]
            rfl
           refine pure_ (i := 10) (N := some 67) (v := ?_) (a' := ?_) #[true, true, true, true, true, true, true, true, true, true, true, false] rfl rfl (any_of HT_.out (by kernel_rfl)) (fun _ _ _ h => h) (Or.inl ⟨by rfl, ?_⟩) ?_ ?_
           rotate_left
           ·
            intro w'
            go_simp
            with_reducible rfl
           rotate_left
           ·
            simp only [Act.put, List.setIfInBounds_toArray, List.set_cons_zero, List.set_cons_succ, i64_w, i32_w]
            rfl
           refine pure_ (i := 11) (N := some 4) (v := ?_) (a' := ?_) #[true, true, true, true, true, true, true, true, true, true, true, true] rfl rfl (any_of HT_.out (by kernel_rfl)) (fun _ _ _ h => h) (Or.inl ⟨by rfl, ?_⟩) ?_ ?_
           rotate_left
           ·
            intro w'
            go_simp
            with_reducible rfl
           rotate_left
           ·
            simp only [Act.put, List.setIfInBounds_toArray, List.set_cons_zero, List.set_cons_succ, i64_w, i32_w]
            rfl
           refine done_ (done_of HT_.out (by kernel_rfl)) ?_
           try go_wp2
           go_ret
           exact ⟨by first | rfl | (simp [errW_none, errW_some] <;> rfl) | (simp [*, errW_none, errW_some] <;> rfl), by repeat (first | (with_reducible first | exact HB.out | apply below_alloc | apply pw_below_drewN | apply below_drew1 | refine below_set ?_ GE293.out) | exact HB.out)⟩
          ·
           rw [if_neg c20] at H
           have c20b0 : (t291 == t294 && (t292 == t295)) = false := by simpa using c20
           (try (have c20b1 : decide (t291 = t294 && (t292 == t295)) = false := by simpa using c20))
           (try (have c20b2 : (t291 == t294 && (t292 == t295)) = false := by simpa using c20))
           (try (have c20b3 : ¬ (t291 = t294 && (t292 == t295)) := by simpa using c20))
           clear c20
           exact absurd ((Option.some.inj H).trans hrT_.out) Bool.false_ne_true
         ·
          rw [if_neg c18] at H
          have c18b0 : (t290.toList == ([] : List UInt8)) = false := beq_eq_false_iff_ne.mpr c18
          have c18b1 : (t290.toList != ([] : List UInt8)) = true := bne_iff_ne.mpr c18
          exact absurd ((Option.some.inj H).trans hrT_.out) Bool.false_ne_true
        ·
         rw [if_neg c17] at H
         have c17b0 : (!(t291 == 0) || (!(t292 == 0))) = false := by simpa using c17
         clear c17
         have H' := Aside0.mk H
         clear H
         obtain ⟨Ao30, co30, eo30⟩ := Kd.R_slice HO_6.out
         subst eo30
         go_wp2_with (first | ((with_reducible refine gate_callee (f := 20) rfl ?_); refine goesL_ (some 51) rfl rfl Try.func20 (by kernel_rfl) rfl #[.slice A0 l0.length c0] rfl (by (try simp only [List.map_toArray, List.map_cons, List.map_nil]); first | done | rfl | (simp only [List.length_drop, List.length_take]; rfl)) ?_; (with_reducible refine (eventlog_Text.calls k2 _ _ l0 t290 t291 t292 _ ?side1 ?side2 A16.out).mono ?_); (case side1 => repeat (first | exact (Kd.C_below HR0.out HB.out) | (with_reducible refine Kd.C_alloc ?_ _) | (with_reducible refine Kd.C_drewN ?_ _) | (with_reducible refine Kd.C_drew ?_))); (case side2 => exact HC0.out); rintro e w31 ⟨rfl, hb⟩; refine ⟨_, rfl, ?_⟩; have n0_ := Aside0.mk (Kd.R_below (by (with_reducible repeat (first | apply Kd.R_alloc | apply Kd.R_drewN | apply Kd.R_drew)); exact HO_6.out) hb); have n1_ := Aside0.mk (below_step (by repeat (first | (with_reducible first | exact HB.out | apply below_alloc | apply pw_below_drewN | apply below_drew1) | exact HB.out)) hb); clear HO_6; clear HB; have HO_6 := n0_; have HB := n1_; clear n0_ n1_; (try clear hb); (try clear hb2); (try clear hk); (try clear hi)) | ((with_reducible refine gate_dst (N := 10) rfl ?_); refine box_event ?hg (N := 10) ?hd (cs := #[.int .i64 0, .int .i64 0]) (t := 26) ?hr ?_; (case hd => rfl); (case hg => rfl); (case hr => first | (go_simp; done) | (go_simp; rfl)); intro gb293 hg w32 hbox hb; have n0_ := Aside0.mk (Kd.R_below (by (with_reducible repeat (first | apply Kd.R_alloc | apply Kd.R_drewN | apply Kd.R_drew)); exact HO_6.out) hb); have n1_ := Aside0.mk (below_step (by repeat (first | (with_reducible first | exact HB.out | apply below_alloc | apply pw_below_drewN | apply below_drew1) | exact HB.out)) hb); have n2_ := Aside0.mk (hbox); have n3_ := Aside0.mk ((by rw [hg]; exact (below_size (by repeat (first | (with_reducible first | exact HB.out | apply below_alloc | apply pw_below_drewN | apply below_drew1) | exact HB.out))) : w.heap.size ≤ gb293)); have n4_ := Aside0.mk ((by rw [hg]; exact (below_size (by repeat (first | (with_reducible first | exact HB.out | apply below_alloc | apply pw_below_drewN | apply below_drew1) | exact HB.out))) : w.heap.size ≤ gb293)); clear HO_6; clear HB; have HO_6 := n0_; have HB := n1_; have BK293 := n2_; have GW293 := n3_; have GE293 := n4_; clear n0_ n1_ n2_ n3_ n4_; clear hb hbox hg; have hcz33_0 : w32.cell? ⟨gb293, 0, none⟩ = some (.int .i64 0) := (blk_cell BK293.out 0).trans rfl; have hcz33_1 : w32.cell? ⟨gb293, 1, none⟩ = some (.int .i64 0) := (blk_cell BK293.out 1).trans rfl; have hfz33_0 := blk_frozen BK293.out 0; have hfz33_1 := blk_frozen BK293.out 1))
         go_loopg [11, 12] k2 (fun kq v11 v12 w' => ∃ (x11_3 : ByteArray) (x12_3 : Int), v11 = .string x11_3 ∧ v12 = .int .i64 x12_3 ∧ Aside0 (petrinetlaw48_EventlogBack.l1 kq l0 a1 t290 x11_3 x12_3 = some r) ∧ Aside0 (kq ≤ k2) ∧ Aside0 (w'.heap[gb293]? = some (.cells #[.int .i64 t291, .int .i64 t292] 26 (0, 0))) ∧ Aside0 (Below w.heap.size w w'))
         case atStart => exact ⟨((⟨#[]⟩ : ByteArray)), (0), (by first | rfl | (simp; done) | (simp [*]; done) | (simp [i64_w]; done)), (by first | rfl | (simp; done) | (simp [*]; done) | (simp [i64_w]; done)), H', ⟨Nat.le_refl _⟩, ⟨by (with_reducible repeat (first | refine blk_drewN ?_ _ | refine blk_drew ?_ | refine blk_alloc ?_ _)); refine blk_put (cs := #[.int .i64 t291, .int .i64 0]) ?_ 1 _ rfl; (with_reducible repeat (first | refine blk_drewN ?_ _ | refine blk_drew ?_ | refine blk_alloc ?_ _)); refine blk_put (cs := #[.int .i64 0, .int .i64 0]) ?_ 0 _ rfl; (with_reducible repeat (first | refine blk_drewN ?_ _ | refine blk_drew ?_ | refine blk_alloc ?_ _)); exact BK293.out⟩, ⟨by repeat (first | (with_reducible first | exact HB.out | apply below_alloc | apply pw_below_drewN | apply below_drew1 | refine below_set ?_ GE293.out) | exact HB.out)⟩⟩
         case round =>
          clear H'
          try clear c1
          try clear c2
          try clear p2
          try clear q2
          try clear hx2
          try clear c5
          try clear c6
          try clear c6b0
          try clear p6
          try clear c7
          try clear c9
          try clear c12
          try clear c12b0
          try clear c13
          try clear c13b0
          try clear c15
          try clear c15b0
          try clear c15b1
          try clear c17
          try clear c17b0
          try clear c18
          try clear c18b0
          try clear c18b1
          try clear c20
          try clear c20b0
          try clear c20b1
          try clear c20b2
          try clear c25
          try clear c26
          try clear p28
          try clear q28
          try clear hx28
          try clear hcz25_0
          try clear hcz25_1
          try clear hcz33_0
          try clear hcz33_1
          try clear hfz25_0
          try clear hfz25_1
          try clear hfz33_0
          try clear hfz33_1
          try clear hx289_0
          try clear p2
          try clear p289
          try clear q289
          obtain ⟨x11_3, x12_3, rfl, rfl, HA, HK3, BK293, HB⟩ := hrel
          cases gk with
          | zero => exact absurd HA.out (by simp [petrinetlaw48_EventlogBack.l1])
          | succ k3 =>
           have H := HA.out
           clear HA
           simp only [petrinetlaw48_EventlogBack.l1] at H
           by_cases c34 : x12_3 < (t290.size : Int)
           ·
            rw [if_pos c34] at H
            have c34b0 : decide (x12_3 < (t290.size : Int)) = true := decide_eq_true c34
            clear c34
            by_cases c35 : 0 ≤ x12_3
            ·
             rw [if_pos c35] at H
             have c35b0 := eq_true c35
             have c35b1 : decide (0 ≤ x12_3) = true := decide_eq_true c35
             clear c35
             by_cases c36 : x12_3 ≤ (wrap64 (x12_3 + 1))
             ·
              rw [if_pos c36] at H
              have c36b0 := eq_true c36
              have c36b1 : decide (x12_3 ≤ (wrap64 (x12_3 + 1))) = true := decide_eq_true c36
              by_cases c37 : (wrap64 (x12_3 + 1)) ≤ (t290.size : Int)
              ·
               rw [if_pos c37] at H
               have c37b0 := eq_true c37
               have c37b1 : decide ((wrap64 (x12_3 + 1)) ≤ (t290.size : Int)) = true := decide_eq_true c37
               by_cases c38 : x11_3.size + (t290.extract (x12_3 : Int).toNat ((wrap64 (x12_3 + 1)) : Int).toNat).size ≤ 9223372036854775807
               ·
                rw [if_pos c38] at H
                have c38b0 := eq_true c38
                have c38b1 : decide (x11_3.size + (t290.extract (x12_3 : Int).toNat ((wrap64 (x12_3 + 1)) : Int).toNat).size ≤ 9223372036854775807) = true := decide_eq_true c38
                try have c38b2 : (9223372036854775807 < x11_3.size + (t290.extract (x12_3 : Int).toNat ((wrap64 (x12_3 + 1)) : Int).toNat).size) = False := eq_false (Nat.not_lt.2 c38)
                try have c38b7 : (9223372036854775807 < x11_3.size + (((wrap64 (x12_3 + 1)) : Int).toNat - (x12_3 : Int).toNat)) = False := eq_false (by have h_ := c38; simp only [ByteArray.size_extract] at h_; omega)
                have H' := Aside0.mk H
                clear H
                go_wp2
                go_loopg [11, 13] k3 (fun kq v11 v13 w' => ∃ (x11_4 : ByteArray) (x13_4 : Int), v11 = .string x11_4 ∧ v13 = .int .i64 x13_4 ∧ Aside0 (petrinetlaw48_EventlogBack.l2 kq l0 a1 t290 x11_4 x12_3 x13_4 = some r) ∧ Aside0 (kq ≤ k3) ∧ Aside0 (w'.heap[gb293]? = some (.cells #[.int .i64 t291, .int .i64 t292] 26 (0, 0))) ∧ Aside0 (Below w.heap.size w w'))
                case atStart => exact ⟨(x11_3 ++ (t290.extract (x12_3 : Int).toNat ((wrap64 (x12_3 + 1)) : Int).toNat)), (0), (by first | rfl | (simp; done) | (simp [*]; done) | (simp [i64_w]; done)), (by first | rfl | (simp; done) | (simp [*]; done) | (simp [i64_w]; done)), H', ⟨Nat.le_refl _⟩, ⟨by (with_reducible repeat (first | refine blk_drewN ?_ _ | refine blk_drew ?_ | refine blk_alloc ?_ _)); exact BK293.out⟩, ⟨by repeat (first | (with_reducible first | exact HB.out | apply below_alloc | apply pw_below_drewN | apply below_drew1 | refine below_set ?_ GE293.out) | exact HB.out)⟩⟩
                case round =>
                 clear H'
                 try clear c1
                 try clear c2
                 try clear p2
                 try clear q2
                 try clear hx2
                 try clear c3
                 try clear c5
                 try clear c6
                 try clear c6b0
                 try clear p6
                 try clear c7
                 try clear c9
                 try clear c12
                 try clear c12b0
                 try clear c13
                 try clear c13b0
                 try clear c15
                 try clear c15b0
                 try clear c15b1
                 try clear c17
                 try clear c17b0
                 try clear c18
                 try clear c18b0
                 try clear c18b1
                 try clear c20
                 try clear c20b0
                 try clear c20b1
                 try clear c20b2
                 try clear c25
                 try clear c26
                 try clear p28
                 try clear q28
                 try clear hx28
                 try clear c34
                 try clear c34b0
                 try clear c35
                 try clear c35b0
                 try clear c35b1
                 try clear c36
                 try clear c36b0
                 try clear c36b1
                 try clear c37
                 try clear c37b0
                 try clear c37b1
                 try clear c38
                 try clear c38b0
                 try clear c38b1
                 try clear c38b2
                 try clear hcz25_0
                 try clear hcz25_1
                 try clear hcz33_0
                 try clear hcz33_1
                 try clear hfz25_0
                 try clear hfz25_1
                 try clear hfz33_0
                 try clear hfz33_1
                 try clear hx289_0
                 try clear p2
                 try clear p28
                 try clear p289
                 try clear p6
                 try clear q2
                 try clear q28
                 try clear q289
                 obtain ⟨x11_4, x13_4, rfl, rfl, HA, HK4, BK293, HB⟩ := hrel
                 cases gk with
                 | zero => exact absurd HA.out (by simp [petrinetlaw48_EventlogBack.l2])
                 | succ k4 =>
                  have H := HA.out
                  clear HA
                  simp only [petrinetlaw48_EventlogBack.l2] at H
                  by_cases c39 : x13_4 < a1
                  ·
                   rw [if_pos c39] at H
                   have c39b0 : decide (x13_4 < a1) = true := decide_eq_true c39
                   clear c39
                   by_cases c40 : 0 ≤ x12_3
                   ·
                    rw [if_pos c40] at H
                    have c40b0 : decide (0 ≤ x12_3) = true := decide_eq_true c40
                    clear c40
                    by_cases c41 : x12_3 < (t290.size : Int)
                    ·
                     rw [if_pos c41] at H
                     have c41b0 : decide (x12_3 < (t290.size : Int)) = true := decide_eq_true c41
                     clear c41
                     by_cases c43 : (bt t290 x12_3) = 32
                     ·
                      rw [if_pos c43] at H
                      have c43b0 : ((bt t290 x12_3) == 32) = true := beq_iff_eq.mpr c43
                      have c43b1 : ((bt t290 x12_3) != 32) = false := bne_eq_false_iff_eq.mpr c43
                      clear c43
                      have c44b0 := eq_true (of_decide_eq_true (by first | (with_reducible assumption) | assumption) : 0 ≤ x12_3)
                      by_cases c45 : x12_3 ≤ (wrap64 (x12_3 + 1))
                      ·
                       rw [if_pos c45] at H
                       have c45b0 := eq_true c45
                       have c45b1 : decide (x12_3 ≤ (wrap64 (x12_3 + 1))) = true := decide_eq_true c45
                       by_cases c46 : (wrap64 (x12_3 + 1)) ≤ (t290.size : Int)
                       ·
                        rw [if_pos c46] at H
                        have c46b0 := eq_true c46
                        have c46b1 : decide ((wrap64 (x12_3 + 1)) ≤ (t290.size : Int)) = true := decide_eq_true c46
                        by_cases c47 : x11_4.size + (t290.extract (x12_3 : Int).toNat ((wrap64 (x12_3 + 1)) : Int).toNat).size ≤ 9223372036854775807
                        ·
                         rw [if_pos c47] at H
                         have c47b0 := eq_true c47
                         have c47b1 : decide (x11_4.size + (t290.extract (x12_3 : Int).toNat ((wrap64 (x12_3 + 1)) : Int).toNat).size ≤ 9223372036854775807) = true := decide_eq_true c47
                         try have c47b2 : (9223372036854775807 < x11_4.size + (t290.extract (x12_3 : Int).toNat ((wrap64 (x12_3 + 1)) : Int).toNat).size) = False := eq_false (Nat.not_lt.2 c47)
                         try have c47b7 : (9223372036854775807 < x11_4.size + (((wrap64 (x12_3 + 1)) : Int).toNat - (x12_3 : Int).toNat)) = False := eq_false (by have h_ := c47; simp only [ByteArray.size_extract] at h_; omega)
                         have H' := Aside0.mk H
                         clear H
                         have p42 : 0 ≤ (x12_3 : Int) := of_decide_eq_true (by first | (with_reducible assumption) | assumption)
                         have q42 : x12_3 < (t290.size : Int) := of_decide_eq_true (by first | (with_reducible assumption) | assumption)
                         have hx42 := bt_at t290 x12_3
                         replace p42 := eq_true p42
                         replace q42 := eq_true q42
                         go_wp2
                         go_roundg k4
                         case measure => have := HJ2.out; have := HK2.out; have := HK3.out; have := HK4.out; omega
                         case rel => exact ⟨(x11_4 ++ (t290.extract (x12_3 : Int).toNat ((wrap64 (x12_3 + 1)) : Int).toNat)), (wrap64 (x13_4 + 1)), (by first | rfl | (simp; done) | (simp [*]; done) | (simp [i64_w]; done)), (by first | rfl | (simp; done) | (simp [*]; done) | (simp [i64_w]; done)), H', ⟨by have := HJ2.out; have := HK2.out; have := HK3.out; have := HK4.out; omega⟩, ⟨by (with_reducible repeat (first | refine blk_drewN ?_ _ | refine blk_drew ?_ | refine blk_alloc ?_ _)); exact BK293.out⟩, ⟨by repeat (first | (with_reducible first | exact HB.out | apply below_alloc | apply pw_below_drewN | apply below_drew1 | refine below_set ?_ GE293.out) | exact HB.out)⟩⟩
                        ·
                         rw [if_neg c47] at H
                         exact absurd H (by simp)
                       ·
                        rw [if_neg c46] at H
                        exact absurd H (by simp)
                      ·
                       rw [if_neg c45] at H
                       exact absurd H (by simp)
                     ·
                      rw [if_neg c43] at H
                      have c43b0 : ((bt t290 x12_3) == 32) = false := beq_eq_false_iff_ne.mpr c43
                      have c43b1 : ((bt t290 x12_3) != 32) = true := bne_iff_ne.mpr c43
                      by_cases c49 : (bt t290 x12_3) = 10
                      ·
                       rw [if_pos c49] at H
                       have c49b0 : ((bt t290 x12_3) == 10) = true := beq_iff_eq.mpr c49
                       have c49b1 : ((bt t290 x12_3) != 10) = false := bne_eq_false_iff_eq.mpr c49
                       clear c49
                       have c50b0 := eq_true (of_decide_eq_true (by first | (with_reducible assumption) | assumption) : 0 ≤ x12_3)
                       by_cases c51 : x12_3 ≤ (wrap64 (x12_3 + 1))
                       ·
                        rw [if_pos c51] at H
                        have c51b0 := eq_true c51
                        have c51b1 : decide (x12_3 ≤ (wrap64 (x12_3 + 1))) = true := decide_eq_true c51
                        by_cases c52 : (wrap64 (x12_3 + 1)) ≤ (t290.size : Int)
                        ·
                         rw [if_pos c52] at H
                         have c52b0 := eq_true c52
                         have c52b1 : decide ((wrap64 (x12_3 + 1)) ≤ (t290.size : Int)) = true := decide_eq_true c52
                         by_cases c53 : x11_4.size + (t290.extract (x12_3 : Int).toNat ((wrap64 (x12_3 + 1)) : Int).toNat).size ≤ 9223372036854775807
                         ·
                          rw [if_pos c53] at H
                          have c53b0 := eq_true c53
                          have c53b1 : decide (x11_4.size + (t290.extract (x12_3 : Int).toNat ((wrap64 (x12_3 + 1)) : Int).toNat).size ≤ 9223372036854775807) = true := decide_eq_true c53
                          try have c53b2 : (9223372036854775807 < x11_4.size + (t290.extract (x12_3 : Int).toNat ((wrap64 (x12_3 + 1)) : Int).toNat).size) = False := eq_false (Nat.not_lt.2 c53)
                          try have c53b7 : (9223372036854775807 < x11_4.size + (((wrap64 (x12_3 + 1)) : Int).toNat - (x12_3 : Int).toNat)) = False := eq_false (by have h_ := c53; simp only [ByteArray.size_extract] at h_; omega)
                          have H' := Aside0.mk H
                          clear H
                          have p42 : 0 ≤ (x12_3 : Int) := of_decide_eq_true (by first | (with_reducible assumption) | assumption)
                          have q42 : x12_3 < (t290.size : Int) := of_decide_eq_true (by first | (with_reducible assumption) | assumption)
                          have hx42 := bt_at t290 x12_3
                          replace p42 := eq_true p42
                          replace q42 := eq_true q42
                          have p48 : 0 ≤ (x12_3 : Int) := of_decide_eq_true (by first | (with_reducible assumption) | assumption)
                          have q48 : x12_3 < (t290.size : Int) := of_decide_eq_true (by first | (with_reducible assumption) | assumption)
                          have hx48 := bt_at t290 x12_3
                          replace p48 := eq_true p48
                          replace q48 := eq_true q48
                          go_wp2
                          go_roundg k4
                          case measure => have := HJ2.out; have := HK2.out; have := HK3.out; have := HK4.out; omega
                          case rel => exact ⟨(x11_4 ++ (t290.extract (x12_3 : Int).toNat ((wrap64 (x12_3 + 1)) : Int).toNat)), (wrap64 (x13_4 + 1)), (by first | rfl | (simp; done) | (simp [*]; done) | (simp [i64_w]; done)), (by first | rfl | (simp; done) | (simp [*]; done) | (simp [i64_w]; done)), H', ⟨by have := HJ2.out; have := HK2.out; have := HK3.out; have := HK4.out; omega⟩, ⟨by (with_reducible repeat (first | refine blk_drewN ?_ _ | refine blk_drew ?_ | refine blk_alloc ?_ _)); exact BK293.out⟩, ⟨by repeat (first | (with_reducible first | exact HB.out | apply below_alloc | apply pw_below_drewN | apply below_drew1 | refine below_set ?_ GE293.out) | exact HB.out)⟩⟩
                         ·
                          rw [if_neg c53] at H
                          exact absurd H (by simp)
                        ·
                         rw [if_neg c52] at H
                         exact absurd H (by simp)
                       ·
                        rw [if_neg c51] at H
                        exact absurd H (by simp)
                      ·
                       rw [if_neg c49] at H
                       have c49b0 : ((bt t290 x12_3) == 10) = false := beq_eq_false_iff_ne.mpr c49
                       have c49b1 : ((bt t290 x12_3) != 10) = true := bne_iff_ne.mpr c49
                       have H' := Aside0.mk H
                       clear H
                       have p42 : 0 ≤ (x12_3 : Int) := of_decide_eq_true (by first | (with_reducible assumption) | assumption)
                       have q42 : x12_3 < (t290.size : Int) := of_decide_eq_true (by first | (with_reducible assumption) | assumption)
                       have hx42 := bt_at t290 x12_3
                       replace p42 := eq_true p42
                       replace q42 := eq_true q42
                       have p48 : 0 ≤ (x12_3 : Int) := of_decide_eq_true (by first | (with_reducible assumption) | assumption)
                       have q48 : x12_3 < (t290.size : Int) := of_decide_eq_true (by first | (with_reducible assumption) | assumption)
                       have hx48 := bt_at t290 x12_3
                       replace p48 := eq_true p48
                       replace q48 := eq_true q48
                       go_wp2
                       go_roundg k4
                       case measure => have := HJ2.out; have := HK2.out; have := HK3.out; have := HK4.out; omega
                       case rel => exact ⟨(x11_4), (wrap64 (x12_3 + 1)), (by first | rfl | (simp; done) | (simp [*]; done) | (simp [i64_w]; done)), (by first | rfl | (simp; done) | (simp [*]; done) | (simp [i64_w]; done)), H', ⟨by have := HJ2.out; have := HK2.out; have := HK3.out; have := HK4.out; omega⟩, ⟨by (with_reducible repeat (first | refine blk_drewN ?_ _ | refine blk_drew ?_ | refine blk_alloc ?_ _)); exact BK293.out⟩, ⟨by repeat (first | (with_reducible first | exact HB.out | apply below_alloc | apply pw_below_drewN | apply below_drew1 | refine below_set ?_ GE293.out) | exact HB.out)⟩⟩
                    ·
                     rw [if_neg c41] at H
                     exact absurd H (by simp)
                   ·
                    rw [if_neg c40] at H
                    exact absurd H (by simp)
                  ·
                   rw [if_neg c39] at H
                   have c39b0 : decide (x13_4 < a1) = false := decide_eq_false c39
                   clear c39
                   have H' := Aside0.mk H
                   clear H
                   go_wp2
                   go_roundg k4
                   case measure => have := HJ2.out; have := HK2.out; have := HK3.out; have := HK4.out; omega
                   case rel => exact ⟨(x11_4), (wrap64 (x12_3 + 1)), (by first | rfl | (simp; done) | (simp [*]; done) | (simp [i64_w]; done)), (by first | rfl | (simp; done) | (simp [*]; done) | (simp [i64_w]; done)), H', ⟨by have := HJ2.out; have := HK2.out; have := HK3.out; have := HK4.out; omega⟩, ⟨by (with_reducible repeat (first | refine blk_drewN ?_ _ | refine blk_drew ?_ | refine blk_alloc ?_ _)); exact BK293.out⟩, ⟨by repeat (first | (with_reducible first | exact HB.out | apply below_alloc | apply pw_below_drewN | apply below_drew1 | refine below_set ?_ GE293.out) | exact HB.out)⟩⟩
               ·
                rw [if_neg c38] at H
                exact absurd H (by simp)
              ·
               rw [if_neg c37] at H
               exact absurd H (by simp)
             ·
              rw [if_neg c36] at H
              exact absurd H (by simp)
            ·
             rw [if_neg c35] at H
             exact absurd H (by simp)
           ·
            rw [if_neg c34] at H
            have c34b0 : decide (x12_3 < (t290.size : Int)) = false := decide_eq_false c34
            clear c34
            replace H := Option.bind_eq_some_iff.mp H
            obtain ⟨⟨t297, t300, t301⟩, A540, H⟩ := H
            replace H : (if (!(t300 == 0) || (!(t301 == 0))) = true then (petrinetlaw48_EventlogBack.j4 k3 l0 x11_3 true) else ((petrinetref48_Equal.f k3 l0 t297).bind fun t303 => (petrinetlaw48_EventlogBack.j4 k3 l0 x11_3 (!t303)))) = some r := H
            have A54 := Aside0.mk A540
            clear A540
            have HC55 := Aside0.mk H
            clear H
            go_upto_region 24 with (first | ((with_reducible refine gate_callee (f := 10) rfl ?_); refine goesL_ (some 107) rfl rfl Try.func10 (by kernel_rfl) rfl #[.string t290] rfl (by (try simp only [List.map_toArray, List.map_cons, List.map_nil]); first | done | rfl | (simp only [List.length_drop, List.length_take]; rfl)) ?_; (with_reducible refine (eventlog_Parse.calls t290 t297 t300 t301 _ A54.out).mono ?_); rintro e w56 ⟨v298, rfl, ho0, hb⟩; refine ⟨_, rfl, ?_⟩; have n0_ := Aside0.mk (Kd.S_lower ho0 (below_size (by repeat (first | (with_reducible first | exact HB.out | apply below_alloc | apply pw_below_drewN | apply below_drew1 | refine below_set ?_ GE293.out) | exact HB.out)))); have n1_ := Aside0.mk (blk_below (g := gb293) (o := .cells #[.int .i64 t291, .int .i64 t292] 26 (0, 0)) (by (with_reducible repeat (first | refine blk_drewN ?_ _ | refine blk_drew ?_ | refine blk_alloc ?_ _)); exact BK293.out) hb); have n2_ := Aside0.mk (below_step (by repeat (first | (with_reducible first | exact HB.out | apply below_alloc | apply pw_below_drewN | apply below_drew1 | refine below_set ?_ GE293.out) | exact HB.out)) hb); clear BK293; clear HB; have HO299 := n0_; have BK293 := n1_; have HB := n2_; clear n0_ n1_ n2_; (try clear hb); (try clear hb2); (try clear hk); (try clear hi); (try clear ho0)) | ((with_reducible refine gate_dst (N := 15) rfl ?_); refine box_event ?hg (N := 15) ?hd (cs := #[.int .i64 0, .int .i64 0]) (t := 26) ?hr ?_; (case hd => rfl); (case hg => rfl); (case hr => first | (go_simp; done) | (go_simp; rfl)); intro gb302 hg w57 hbox hb; have n0_ := Aside0.mk (Kd.S_below (by (with_reducible repeat (first | apply Kd.S_alloc | apply Kd.S_drewN | apply Kd.S_drew)); exact HO299.out) hb); have n1_ := Aside0.mk (blk_below (g := gb293) (o := .cells #[.int .i64 t291, .int .i64 t292] 26 (0, 0)) (by (with_reducible repeat (first | refine blk_drewN ?_ _ | refine blk_drew ?_ | refine blk_alloc ?_ _)); exact BK293.out) hb); have n2_ := Aside0.mk (below_step (by repeat (first | (with_reducible first | exact HB.out | apply below_alloc | apply pw_below_drewN | apply below_drew1 | refine below_set ?_ GE293.out) | exact HB.out)) hb); have n3_ := Aside0.mk (hbox); have n4_ := Aside0.mk ((by rw [hg]; exact (below_size (by repeat (first | (with_reducible first | exact HB.out | apply below_alloc | apply pw_below_drewN | apply below_drew1 | refine below_set ?_ GE293.out) | exact HB.out))) : w.heap.size ≤ gb302)); have n5_ := Aside0.mk ((by rw [hg]; exact (below_size (by repeat (first | (with_reducible first | exact HB.out | apply below_alloc | apply pw_below_drewN | apply below_drew1 | refine below_set ?_ GE293.out) | exact HB.out))) : w.heap.size ≤ gb302)); have n6_ := Aside0.mk ((by rw [hg]; exact Nat.ne_of_lt (blk_lt (g := gb293) (o := .cells #[.int .i64 t291, .int .i64 t292] 26 (0, 0)) (by (with_reducible repeat (first | refine blk_drewN ?_ _ | refine blk_drew ?_ | refine blk_alloc ?_ _)); exact BK293.out)) : gb293 ≠ gb302)); have n7_ := Aside0.mk ((by rw [hg]; exact Nat.ne_of_gt (blk_lt (g := gb293) (o := .cells #[.int .i64 t291, .int .i64 t292] 26 (0, 0)) (by (with_reducible repeat (first | refine blk_drewN ?_ _ | refine blk_drew ?_ | refine blk_alloc ?_ _)); exact BK293.out)) : gb302 ≠ gb293)); clear HO299; clear BK293; clear HB; have HO299 := n0_; have BK293 := n1_; have HB := n2_; have BK302 := n3_; have GW302 := n4_; have GE302 := n5_; have NB293_302 := n6_; have NB302_293 := n7_; clear n0_ n1_ n2_ n3_ n4_ n5_ n6_ n7_; clear hb hbox hg; have hnb58 := NB302_293.out; have hnc58 := NB293_302.out; have hcz59_0 : w57.cell? ⟨gb302, 0, none⟩ = some (.int .i64 0) := (blk_cell BK302.out 0).trans rfl; have hcz59_1 : w57.cell? ⟨gb302, 1, none⟩ = some (.int .i64 0) := (blk_cell BK302.out 1).trans rfl; have hfz59_0 := blk_frozen BK302.out 0; have hfz59_1 := blk_frozen BK302.out 1))
            (try simp only [Act.put, List.setIfInBounds_toArray, List.set_cons_zero, List.set_cons_succ])
            go_cut [118] (fun v118 wc => ∃ (kq : Nat) (x118_54 : Bool), v118 = .bool x118_54 ∧ Aside0 (petrinetlaw48_EventlogBack.j4 kq l0 x11_3 x118_54 = some r) ∧ Aside0 (kq ≤ k3) ∧ Aside0 (wc.heap[gb293]? = some (.cells #[.int .i64 t291, .int .i64 t292] 26 (0, 0))) ∧ Aside0 (wc.heap[gb302]? = some (.cells #[.int .i64 t300, .int .i64 t301] 26 (0, 0))) ∧ Aside0 (Below w.heap.size w wc))
            case first =>
             have H := HC55.out
             clear HC55
             by_cases c60 : (!(t300 == 0) || (!(t301 == 0))) = true
             ·
              rw [if_pos c60] at H
              have c60b0 : (!(t300 == 0) || (!(t301 == 0))) = true := c60
              clear c60
              (first | rw [c60b0] | (simp only [i64_w, i32_w]; rw [c60b0]) | skip)
              have H' := Aside0.mk H
              clear H
              have hnb61 := NB302_293.out
              have hnc61 := NB293_302.out
              have hcz62_0 : w57.cell? ⟨gb302, 0, none⟩ = some (.int .i64 0) := (blk_cell BK302.out 0).trans rfl
              have hcz62_1 : w57.cell? ⟨gb302, 1, none⟩ = some (.int .i64 0) := (blk_cell BK302.out 1).trans rfl
              have hfz62_0 := blk_frozen BK302.out 0
              have hfz62_1 := blk_frozen BK302.out 1
              go_wp2
              go_meet
              case rel => exact ⟨_, (true), (by first | rfl | (simp; done) | (simp [*]; done) | (simp [i64_w]; done)), H', ⟨by have := HJ2.out; have := HK2.out; have := HK3.out; first | omega | exact Nat.le_refl _⟩, ⟨by (with_reducible repeat (first | refine blk_drewN ?_ _ | refine blk_drew ?_ | refine blk_alloc ?_ _)); refine blk_far ?_ NB293_302.out _; (with_reducible repeat (first | refine blk_drewN ?_ _ | refine blk_drew ?_ | refine blk_alloc ?_ _)); refine blk_far ?_ NB293_302.out _; (with_reducible repeat (first | refine blk_drewN ?_ _ | refine blk_drew ?_ | refine blk_alloc ?_ _)); exact BK293.out⟩, ⟨by (with_reducible repeat (first | refine blk_drewN ?_ _ | refine blk_drew ?_ | refine blk_alloc ?_ _)); refine blk_put (cs := #[.int .i64 t300, .int .i64 0]) ?_ 1 _ rfl; (with_reducible repeat (first | refine blk_drewN ?_ _ | refine blk_drew ?_ | refine blk_alloc ?_ _)); refine blk_put (cs := #[.int .i64 0, .int .i64 0]) ?_ 0 _ rfl; (with_reducible repeat (first | refine blk_drewN ?_ _ | refine blk_drew ?_ | refine blk_alloc ?_ _)); exact BK302.out⟩, ⟨by repeat (first | (with_reducible first | exact HB.out | apply below_alloc | apply pw_below_drewN | apply below_drew1 | refine below_set ?_ GE293.out | refine below_set ?_ GE302.out) | exact HB.out)⟩⟩
             ·
              rw [if_neg c60] at H
              have c60b0 : (!(t300 == 0) || (!(t301 == 0))) = false := by simpa using c60
              clear c60
              (first | rw [c60b0] | (simp only [i64_w, i32_w]; rw [c60b0]) | skip)
              replace H := Option.bind_eq_some_iff.mp H
              obtain ⟨t303, A630, H⟩ := H
              replace H : (petrinetlaw48_EventlogBack.j4 k3 l0 x11_3 (!t303)) = some r := H
              have A63 := Aside0.mk A630
              clear A630
              have H' := Aside0.mk H
              clear H
              have hnb64 := NB302_293.out
              have hnc64 := NB293_302.out
              have hcz65_0 : w57.cell? ⟨gb302, 0, none⟩ = some (.int .i64 0) := (blk_cell BK302.out 0).trans rfl
              have hcz65_1 : w57.cell? ⟨gb302, 1, none⟩ = some (.int .i64 0) := (blk_cell BK302.out 1).trans rfl
              have hfz65_0 := blk_frozen BK302.out 0
              have hfz65_1 := blk_frozen BK302.out 1
              obtain ⟨Ao66, co66, eo66⟩ := Kd.S_slice HO299.out
              subst eo66
              go_wp2_with (first | (go_at_call 12; (with_reducible refine (petrinetref48_Equal.calls k3 _ _ l0 _ _ t297 t303 _ ?side1 ?side2 ?side3 ?side4 A63.out).mono ?_); (case side1 => exact Kd.C_below HR0.out (by repeat (first | (with_reducible first | exact HB.out | apply below_alloc | apply pw_below_drewN | apply below_drew1 | refine below_set ?_ GE293.out | refine below_set ?_ GE302.out) | exact HB.out))); (case side2 => exact HC0.out); (case side3 => refine (Kd.S_reads' (e := 34) (base := w.heap.size) (ok := fun k_ => True) (n := t297.length) (c := co66) ?_).2.2; exact (by (with_reducible repeat (first | apply Kd.S_alloc | apply Kd.S_drewN | apply Kd.S_drew)); exact (Kd.S_mono (Kd.S_far (p := ⟨gb302, 1, none⟩) (Kd.S_far (p := ⟨gb302, 0, none⟩) (Kd.S_types HO299.out BK302.out (by decide)) (fun _ hk => hk.2) (.int .i64 t300)) (fun _ hk => hk.2) (.int .i64 t301)) (fun _ h_ => h_.1)))); (case side4 => exact (Kd.S_reads' HO299.out).2.1); rintro e w' ⟨rfl, ⟨nd, rfl⟩⟩))
              go_meet
              case rel => exact ⟨_, (!t303), (by first | rfl | (simp; done) | (simp [*]; done) | (simp [i64_w]; done)), H', ⟨by have := HJ2.out; have := HK2.out; have := HK3.out; first | omega | exact Nat.le_refl _⟩, ⟨by (with_reducible repeat (first | refine blk_drewN ?_ _ | refine blk_drew ?_ | refine blk_alloc ?_ _)); refine blk_far ?_ NB293_302.out _; (with_reducible repeat (first | refine blk_drewN ?_ _ | refine blk_drew ?_ | refine blk_alloc ?_ _)); refine blk_far ?_ NB293_302.out _; (with_reducible repeat (first | refine blk_drewN ?_ _ | refine blk_drew ?_ | refine blk_alloc ?_ _)); exact BK293.out⟩, ⟨by (with_reducible repeat (first | refine blk_drewN ?_ _ | refine blk_drew ?_ | refine blk_alloc ?_ _)); refine blk_put (cs := #[.int .i64 t300, .int .i64 0]) ?_ 1 _ rfl; (with_reducible repeat (first | refine blk_drewN ?_ _ | refine blk_drew ?_ | refine blk_alloc ?_ _)); refine blk_put (cs := #[.int .i64 0, .int .i64 0]) ?_ 0 _ rfl; (with_reducible repeat (first | refine blk_drewN ?_ _ | refine blk_drew ?_ | refine blk_alloc ?_ _)); exact BK302.out⟩, ⟨by repeat (first | (with_reducible first | exact HB.out | apply below_alloc | apply pw_below_drewN | apply below_drew1 | refine below_set ?_ GE293.out | refine below_set ?_ GE302.out) | exact HB.out)⟩⟩
            case rest =>
             clear HC55
             try clear c1
             try clear c2
             try clear p2
             try clear q2
             try clear hx2
             try clear c3
             try clear c4
             try clear p4
             try clear q4
             try clear hx4
             try clear c5
             try clear c6
             try clear c6b0
             try clear p6
             try clear c7
             try clear c9
             try clear c10
             try clear c12
             try clear c12b0
             try clear c13
             try clear c13b0
             try clear c15
             try clear c15b0
             try clear c15b1
             try clear c17
             try clear c17b0
             try clear c18
             try clear c18b0
             try clear c18b1
             try clear c20
             try clear c20b0
             try clear c20b1
             try clear c20b2
             try clear c25
             try clear c26
             try clear p28
             try clear q28
             try clear hx28
             try clear c34
             try clear c34b0
             try clear c35
             try clear c35b0
             try clear c35b1
             try clear c36
             try clear c36b0
             try clear c36b1
             try clear c37
             try clear c37b0
             try clear c37b1
             try clear c38
             try clear c38b0
             try clear c38b1
             try clear c38b2
             try clear c39
             try clear c39b0
             try clear c40
             try clear c40b0
             try clear c41
             try clear c41b0
             try clear p42
             try clear q42
             try clear hx42
             try clear c43
             try clear c43b0
             try clear c43b1
             try clear c44
             try clear c44b0
             try clear c45
             try clear c45b0
             try clear c45b1
             try clear c46
             try clear c46b0
             try clear c46b1
             try clear c47
             try clear c47b0
             try clear c47b1
             try clear c47b2
             try clear p48
             try clear q48
             try clear hx48
             try clear c49
             try clear c49b0
             try clear c49b1
             try clear c50
             try clear c50b0
             try clear c51
             try clear c51b0
             try clear c51b1
             try clear c52
             try clear c52b0
             try clear c52b1
             try clear c53
             try clear c53b0
             try clear c53b1
             try clear c53b2
             try clear c58
             try clear c60
             try clear c60b0
             try clear c61
             try clear c64
             try clear p64
             try clear hcz25_0
             try clear hcz25_1
             try clear hcz33_0
             try clear hcz33_1
             try clear hcz59_0
             try clear hcz59_1
             try clear hcz62_0
             try clear hcz62_1
             try clear hcz65_0
             try clear hcz65_1
             try clear hfz25_0
             try clear hfz25_1
             try clear hfz33_0
             try clear hfz33_1
             try clear hfz59_0
             try clear hfz59_1
             try clear hfz62_0
             try clear hfz62_1
             try clear hfz65_0
             try clear hfz65_1
             try clear hx289_0
             try clear p2
             try clear p28
             try clear p289
             try clear p42
             try clear p48
             try clear p6
             try clear q2
             try clear q28
             try clear q289
             try clear q42
             try clear q48
             obtain ⟨kq, x118_54, rfl, HA, HJ54, BK293, BK302, HB⟩ := hcut
             cases kq with
             | zero => exact absurd HA.out (by simp [petrinetlaw48_EventlogBack.j4])
             | succ kj54 =>
              have H := HA.out
              clear HA
              simp only [petrinetlaw48_EventlogBack.j4] at H
              by_cases c67 : x118_54 = true
              ·
               subst c67
               have H1 : (some false) = some r := by rw [if_pos rfl] at H; exact H
               clear H
               have H := H1
               clear H1
               exact absurd ((Option.some.inj H).trans hrT_.out) Bool.false_ne_true
              ·
               replace c67 := Bool.eq_false_iff.mpr c67
               subst c67
               have H1 : ((eventlog_Parse.f x11_3).bind fun bt304 => (if (bt304.2.1 == 0 && (bt304.2.2 == 0)) = true then ((petrinetref48_Equal.f kj54 l0 bt304.1).bind fun t309 => (if t309 = true then ((petrinetlaw48_alive.f kj54).bind fun t310 => (some t310)) else (some false))) else (some false))) = some r := by rw [if_neg (show ¬ (false = true) by decide)] at H; exact H
               clear H
               have H := H1
               clear H1
               replace H := Option.bind_eq_some_iff.mp H
               obtain ⟨⟨t304, t307, t308⟩, A680, H⟩ := H
               replace H : (if (t307 == 0 && (t308 == 0)) = true then ((petrinetref48_Equal.f kj54 l0 t304).bind fun t309 => (if t309 = true then ((petrinetlaw48_alive.f kj54).bind fun t310 => (some t310)) else (some false))) else (some false)) = some r := H
               have A68 := Aside0.mk A680
               clear A680
               by_cases c69 : (t307 == 0 && (t308 == 0)) = true
               ·
                rw [if_pos c69] at H
                have c69b0 : (t307 == 0 && (t308 == 0)) = true := c69
                (try (have c69b1 : decide (t307 = 0 && (t308 == 0)) = true := by simpa using c69))
                (try (have c69b2 : (t307 == 0 && (t308 == 0)) = true := by simpa using c69))
                clear c69
                replace H := Option.bind_eq_some_iff.mp H
                obtain ⟨t309, A700, H⟩ := H
                replace H : (if t309 = true then ((petrinetlaw48_alive.f kj54).bind fun t310 => (some t310)) else (some false)) = some r := H
                have A70 := Aside0.mk A700
                clear A700
                by_cases c71 : t309 = true
                ·
                 subst c71
                 have H1 : ((petrinetlaw48_alive.f kj54).bind fun t310 => (some t310)) = some r := by rw [if_pos rfl] at H; exact H
                 clear H
                 have H := H1
                 clear H1
                 replace H := Option.bind_eq_some_iff.mp H
                 obtain ⟨t310, A720, H⟩ := H
                 replace H : (some t310) = some r := H
                 have A72 := Aside0.mk A720
                 clear A720
                 obtain rfl := Option.some.inj H
                 go_wp2_with (first | ((with_reducible refine gate_callee (f := 10) rfl ?_); refine goesL_ (some 121) rfl rfl Try.func10 (by kernel_rfl) rfl #[.string x11_3] rfl (by (try simp only [List.map_toArray, List.map_cons, List.map_nil]); first | done | rfl | (simp only [List.length_drop, List.length_take]; rfl)) ?_; (with_reducible refine (eventlog_Parse.calls x11_3 t304 t307 t308 _ A68.out).mono ?_); rintro e w73 ⟨v305, rfl, ho0, hb⟩; refine ⟨_, rfl, ?_⟩; have n0_ := Aside0.mk (Kd.S_lower ho0 (below_size (by repeat (first | (with_reducible first | exact HB.out | apply below_alloc | apply pw_below_drewN | apply below_drew1 | refine below_set ?_ GE293.out | refine below_set ?_ GE302.out) | exact HB.out)))); have n1_ := Aside0.mk (blk_below (g := gb293) (o := .cells #[.int .i64 t291, .int .i64 t292] 26 (0, 0)) (by (with_reducible repeat (first | refine blk_drewN ?_ _ | refine blk_drew ?_ | refine blk_alloc ?_ _)); exact BK293.out) hb); have n2_ := Aside0.mk (blk_below (g := gb302) (o := .cells #[.int .i64 t300, .int .i64 t301] 26 (0, 0)) (by (with_reducible repeat (first | refine blk_drewN ?_ _ | refine blk_drew ?_ | refine blk_alloc ?_ _)); exact BK302.out) hb); have n3_ := Aside0.mk (below_step (by repeat (first | (with_reducible first | exact HB.out | apply below_alloc | apply pw_below_drewN | apply below_drew1 | refine below_set ?_ GE293.out | refine below_set ?_ GE302.out) | exact HB.out)) hb); clear BK293; clear BK302; clear HB; have HO306 := n0_; have BK293 := n1_; have BK302 := n2_; have HB := n3_; clear n0_ n1_ n2_ n3_; (try clear hb); (try clear hb2); (try clear hk); (try clear hi); (try clear ho0); have hnb74 := NB302_293.out; have hnc74 := NB293_302.out; have hcz75_0 : w73.cell? ⟨gb302, 0, none⟩ = some (.int .i64 t300) := (blk_cell BK302.out 0).trans rfl; have hcz75_1 : w73.cell? ⟨gb302, 1, none⟩ = some (.int .i64 t301) := (blk_cell BK302.out 1).trans rfl; have hfz75_0 := blk_frozen BK302.out 0; have hfz75_1 := blk_frozen BK302.out 1; obtain ⟨Ao76, co76, eo76⟩ := Kd.S_slice HO306.out; subst eo76) | (go_at_call 12; (with_reducible refine (petrinetref48_Equal.calls kj54 _ _ l0 _ _ t304 true _ ?side1 ?side2 ?side3 ?side4 A70.out).mono ?_); (case side1 => exact Kd.C_below HR0.out (by repeat (first | (with_reducible first | exact HB.out | apply below_alloc | apply pw_below_drewN | apply below_drew1 | refine below_set ?_ GE293.out | refine below_set ?_ GE302.out) | exact HB.out))); (case side2 => exact HC0.out); (case side3 => refine (Kd.S_reads' (e := 34) (base := w.heap.size) (ok := fun k_ => True) (n := t304.length) (c := co76) ?_).2.2; exact (by (with_reducible repeat (first | apply Kd.S_alloc | apply Kd.S_drewN | apply Kd.S_drew)); exact (Kd.S_mono (Kd.S_far (p := ⟨gb302, 1, none⟩) (Kd.S_far (p := ⟨gb302, 0, none⟩) (Kd.S_types HO306.out BK302.out (by decide)) (fun _ hk => hk.2) (.int .i64 t307)) (fun _ hk => hk.2) (.int .i64 t308)) (fun _ h_ => h_.1)))); (case side4 => exact (Kd.S_reads' HO306.out).2.1); rintro e w' ⟨rfl, ⟨nd, rfl⟩⟩) | (go_at_call 9; (with_reducible refine (petrinetlaw48_alive.calls kj54  t310 _ A72.out (by first | exact hrT_ | exact ⟨rfl⟩)).mono ?_); rintro e w77 ⟨rfl, hb⟩; have n0_ := Aside0.mk (Kd.S_below (by (with_reducible repeat (first | apply Kd.S_alloc | apply Kd.S_drewN | apply Kd.S_drew)); exact (Kd.S_mono (Kd.S_far (p := ⟨gb302, 1, none⟩) (Kd.S_far (p := ⟨gb302, 0, none⟩) (Kd.S_types HO306.out BK302.out (by decide)) (fun _ hk => hk.2) (.int .i64 t307)) (fun _ hk => hk.2) (.int .i64 t308)) (fun _ h_ => h_.1))) hb); have n1_ := Aside0.mk (blk_below (g := gb293) (o := .cells #[.int .i64 t291, .int .i64 t292] 26 (0, 0)) (by (with_reducible repeat (first | refine blk_drewN ?_ _ | refine blk_drew ?_ | refine blk_alloc ?_ _)); refine blk_far ?_ NB293_302.out _; (with_reducible repeat (first | refine blk_drewN ?_ _ | refine blk_drew ?_ | refine blk_alloc ?_ _)); refine blk_far ?_ NB293_302.out _; (with_reducible repeat (first | refine blk_drewN ?_ _ | refine blk_drew ?_ | refine blk_alloc ?_ _)); exact BK293.out) hb); have n2_ := Aside0.mk (blk_below (g := gb302) (o := .cells #[.int .i64 t307, .int .i64 t308] 26 (0, 0)) (by (with_reducible repeat (first | refine blk_drewN ?_ _ | refine blk_drew ?_ | refine blk_alloc ?_ _)); refine blk_put (cs := #[.int .i64 t307, .int .i64 t301]) ?_ 1 _ rfl; (with_reducible repeat (first | refine blk_drewN ?_ _ | refine blk_drew ?_ | refine blk_alloc ?_ _)); refine blk_put (cs := #[.int .i64 t300, .int .i64 t301]) ?_ 0 _ rfl; (with_reducible repeat (first | refine blk_drewN ?_ _ | refine blk_drew ?_ | refine blk_alloc ?_ _)); exact BK302.out) hb); have n3_ := Aside0.mk (below_step (by repeat (first | (with_reducible first | exact HB.out | apply below_alloc | apply pw_below_drewN | apply below_drew1 | refine below_set ?_ GE293.out | refine below_set ?_ GE302.out) | exact HB.out)) hb); clear HO306; clear BK293; clear BK302; clear HB; have HO306 := n0_; have BK293 := n1_; have BK302 := n2_; have HB := n3_; clear n0_ n1_ n2_ n3_; (try clear hb); (try clear hb2); (try clear hk); (try clear hi)))
                 go_ret
                 exact ⟨by first | rfl | (simp [errW_none, errW_some] <;> rfl) | (simp [*, errW_none, errW_some] <;> rfl), by repeat (first | (with_reducible first | exact HB.out | apply below_alloc | apply pw_below_drewN | apply below_drew1 | refine below_set ?_ GE293.out | refine below_set ?_ GE302.out) | exact HB.out)⟩
                ·
                 replace c71 := Bool.eq_false_iff.mpr c71
                 subst c71
                 have H1 : (some false) = some r := by rw [if_neg (show ¬ (false = true) by decide)] at H; exact H
                 clear H
                 have H := H1
                 clear H1
                 exact absurd ((Option.some.inj H).trans hrT_.out) Bool.false_ne_true
               ·
                rw [if_neg c69] at H
                have c69b0 : (t307 == 0 && (t308 == 0)) = false := by simpa using c69
                (try (have c69b1 : decide (t307 = 0 && (t308 == 0)) = false := by simpa using c69))
                (try (have c69b2 : (t307 == 0 && (t308 == 0)) = false := by simpa using c69))
                (try (have c69b3 : ¬ (t307 = 0 && (t308 == 0)) := by simpa using c69))
                clear c69
                exact absurd ((Option.some.inj H).trans hrT_.out) Bool.false_ne_true
       ·
        rw [if_neg c15] at H
        have c15b0 : (x7_2 == (l0.length : Int)) = false := beq_eq_false_iff_ne.mpr c15
        have c15b1 : (x7_2 != (l0.length : Int)) = true := bne_iff_ne.mpr c15
        exact absurd ((Option.some.inj H).trans hrT_.out) Bool.false_ne_true




/-! ### petrinetref48_Times: function 43 -/
def petrinetref48_Times.l0 : Nat → List (List ByteArray) → List ByteArray → Int → Int → Option (Int)
 | 0, _, _, _, _ => none
 | k + 1, x0, x1, x5, x6 => if x6 < (x0.length : Int) then (if 0 ≤ x6 then ((petrinetref48_Same.f k (rd_L1 x0 x6) x1).bind fun t312 => (if t312 = true then (petrinetref48_Times.l0 k x0 x1 (wrap64 (x5 + 1)) (wrap64 (x6 + 1))) else (petrinetref48_Times.l0 k x0 x1 x5 (wrap64 (x6 + 1))))) else (none)) else (some x5)
def petrinetref48_Times.f (k : Nat) (l0 : List (List ByteArray)) (l1 : List ByteArray) : Option (Int) := petrinetref48_Times.l0 k l0 l1 0 0
theorem petrinetref48_Times.mono_l : ∀ k, (∀ y0 y1 y2 y3, LeO (petrinetref48_Times.l0 k y0 y1 y2 y3) (petrinetref48_Times.l0 (k + 1) y0 y1 y2 y3))
 | 0 => fun _ _ _ _ r h => by simp [petrinetref48_Times.l0] at h
 | k + 1 => by
  have ih0 := petrinetref48_Times.mono_l k
  ·
   intro y0 y1 y2 y3
   unfold petrinetref48_Times.l0
   repeat' first
   | (with_reducible exact ih0 _ _ _ _)
   | (with_reducible exact petrinetref48_Same.mono _ _ _)
   | (with_reducible exact LeO.refl _)
   | (with_reducible exact LeO.none _)
   | (with_reducible refine LeO.ite ?_ ?_)
   | (with_reducible refine LeO.bind ?_ (fun _ => ?_))
   | exact ih0 _ _ _ _
   | exact petrinetref48_Same.mono _ _ _
   | exact LeO.none _
   | refine LeO.ite ?_ ?_
   | refine LeO.bind ?_ (fun _ => ?_)
theorem petrinetref48_Times.mono : ∀ a0 a1 k, LeO (petrinetref48_Times.f k a0 a1) (petrinetref48_Times.f (k + 1) a0 a1) := by
 intro a0 a1 k
 have ih0 := petrinetref48_Times.mono_l k
 unfold petrinetref48_Times.f
 repeat' first
   | (with_reducible exact ih0 _ _ _ _)
   | (with_reducible exact petrinetref48_Same.mono _ _ _)
   | (with_reducible exact LeO.refl _)
   | (with_reducible exact LeO.none _)
   | (with_reducible refine LeO.ite ?_ ?_)
   | (with_reducible refine LeO.bind ?_ (fun _ => ?_))
   | exact ih0 _ _ _ _
   | exact petrinetref48_Same.mono _ _ _
   | exact LeO.none _
   | refine LeO.ite ?_ ?_
   | refine LeO.bind ?_ (fun _ => ?_)

/-! ### petrinetref48_Variants: function 27 -/
def petrinetref48_Variants.l0 : Nat → List (List ByteArray) → List (List ByteArray) → List Int → Int → Option ((List (List ByteArray)) × List Int)
 | 0, _, _, _, _ => none
 | k + 1, x0, x4, x5, x6 => if x6 < (x0.length : Int) then (if 0 ≤ x6 then ((petrinetref48_Times.f k x4 (rd_L1 x0 x6)).bind fun t314 => (if t314 = 0 then (if x4.length < 5864062014805 then ((petrinetref48_Times.f k x0 (rd_L1 x0 x6)).bind fun t320 => (if x5.length < 17592186044416 then (petrinetref48_Variants.l0 k x0 (x4 ++ [rd_L1 x0 x6]) (x5 ++ [t320]) (wrap64 (x6 + 1))) else (none))) else (none)) else (petrinetref48_Variants.l0 k x0 x4 x5 (wrap64 (x6 + 1))))) else (none)) else (some (x4, x5))
def petrinetref48_Variants.f (k : Nat) (l0 : List (List ByteArray)) : Option ((List (List ByteArray)) × List Int) := petrinetref48_Variants.l0 k l0 ([] : List (List ByteArray)) ([] : List Int) 0
theorem petrinetref48_Variants.mono_l : ∀ k, (∀ y0 y1 y2 y3, LeO (petrinetref48_Variants.l0 k y0 y1 y2 y3) (petrinetref48_Variants.l0 (k + 1) y0 y1 y2 y3))
 | 0 => fun _ _ _ _ r h => by simp [petrinetref48_Variants.l0] at h
 | k + 1 => by
  have ih0 := petrinetref48_Variants.mono_l k
  ·
   intro y0 y1 y2 y3
   unfold petrinetref48_Variants.l0
   repeat' first
   | (with_reducible exact ih0 _ _ _ _)
   | (with_reducible exact petrinetref48_Times.mono _ _ _)
   | (with_reducible exact LeO.refl _)
   | (with_reducible exact LeO.none _)
   | (with_reducible refine LeO.ite ?_ ?_)
   | (with_reducible refine LeO.bind ?_ (fun _ => ?_))
   | exact ih0 _ _ _ _
   | exact petrinetref48_Times.mono _ _ _
   | exact LeO.none _
   | refine LeO.ite ?_ ?_
   | refine LeO.bind ?_ (fun _ => ?_)
theorem petrinetref48_Variants.mono : ∀ a0 k, LeO (petrinetref48_Variants.f k a0) (petrinetref48_Variants.f (k + 1) a0) := by
 intro a0 k
 have ih0 := petrinetref48_Variants.mono_l k
 unfold petrinetref48_Variants.f
 repeat' first
   | (with_reducible exact ih0 _ _ _ _)
   | (with_reducible exact petrinetref48_Times.mono _ _ _)
   | (with_reducible exact LeO.refl _)
   | (with_reducible exact LeO.none _)
   | (with_reducible refine LeO.ite ?_ ?_)
   | (with_reducible refine LeO.bind ?_ (fun _ => ?_))
   | exact ih0 _ _ _ _
   | exact petrinetref48_Times.mono _ _ _
   | exact LeO.none _
   | refine LeO.ite ?_ ?_
   | refine LeO.bind ?_ (fun _ => ?_)



end Go.Proofs.Ytaofommgdgmncaa.Pr
