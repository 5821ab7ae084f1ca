/- Functions that the statement reaches: what each answers, and that the program answers it (written by a program of this work). -/
import Derived.Test.YtaphehdbjbogaaaProg
import Derived.Below
import Derived.Deep.Draws
import Derived.Deep.AppendLies
import Derived.Maps.AppendAt
import Derived.OwnWalk
import Derived.Laws.BytesArg
import Derived.Laws.MakeOwn
import Derived.Laws.OwnMore
import Derived.Deep.OwnRows
import Derived.Tactics
import Derived.Lib.ConvBytes
import Derived.Laws.Slices
import Derived.WalkKit
import Derived.KernelRfl
import Derived.RowKit3
import Derived.Deep.LoopGhost
import Derived.Deep.QuietTactic
import Derived.BigQuiet
import Derived.WideLaws
import Derived.Deep.DeepCutAuto
import Derived.Deep.CutBlock
import Derived.Deep.RegionHeld3
import Derived.Laws.Rows
import Derived.Lib.AppendStr
import Derived.ArgAppend
import Derived.Laws.IdiomCopy
import Derived.OrdersHeld
import Derived.Laws.BitsLemmas
import Derived.RowKit
import Derived.WalkMore
import Derived.Test.YtaphehdbjbogaaaVSiphonStays
import Derived.Test.YtaphehdbjbogaaaBSiphonStays
import Derived.Test.YtaphehdbjbogaaaQSiphonStays0
namespace Go.Proofs.Ytaphehdbjbogaaa.Pr
open Go.RowKit Go.Proofs.YtaphehdbjbogaaaW.PrintWords Go.Proofs.YtaphehdbjbogaaaW.PrintLast Go.Proofs.YtaphehdbjbogaaaW.PrintMore
attribute [local go_sem] Instr.field asAgg
attribute [local go_sem] max2_int min2_int max_two min_two max_three min_three max_four min_four   -- for this text's walks alone
set_option linter.unusedVariables false
set_option linter.unusedSimpArgs false
/-! ### siphon_holds: function 57 -/
def siphon_holds.l0 : Nat → Int → Bool → List (S40) → Int → Int → Option (Bool)
 | 0, _, _, _, _, _ => none
 | k + 1, x1, x2, x12, x13, x14 => if x14 < x13 then (if 0 ≤ x14 then (if x14 < (x12.length : Int) then ((siphon_side.f k ((rd_T40 x12 x14).f0) ((rd_T40 x12 x14).f1) ((rd_T40 x12 x14).f2) ((rd_T40 x12 x14).f3) ((rd_T40 x12 x14).f4) x2).bind fun bt128 => (if (Go.bits .and .u64 bt128.1 x1) = 0 then (siphon_holds.l0 k x1 x2 x12 x13 (wrap64 (x14 + 1))) else (if (Go.bits .and .u64 bt128.2 x1) = 0 then (some false) else (siphon_holds.l0 k x1 x2 x12 x13 (wrap64 (x14 + 1)))))) else (none)) else (none)) else (some true)
def siphon_holds.f (k : Nat) (a0_0 : ByteArray) (l0_1 : List (S56)) (l0_2 : List (S40)) (a1 : Int) (a2 : Bool) : Option (Bool) := siphon_holds.l0 k a1 a2 l0_2 (l0_2.length : Int) 0
theorem siphon_holds.mono_l : ∀ k, (∀ y0 y1 y2 y3 y4, LeO (siphon_holds.l0 k y0 y1 y2 y3 y4) (siphon_holds.l0 (k + 1) y0 y1 y2 y3 y4))
 | 0 => fun _ _ _ _ _ r h => by simp [siphon_holds.l0] at h
 | k + 1 => by
  have ih0 := siphon_holds.mono_l k
  ·
   intro y0 y1 y2 y3 y4
   unfold siphon_holds.l0
   repeat' first
   | (with_reducible exact ih0 _ _ _ _ _)
   | (with_reducible exact siphon_side.mono _ _ _ _ _ _ _)
   | (with_reducible exact LeO.refl _)
   | (with_reducible exact LeO.none _)
   | (with_reducible refine LeO.ite ?_ ?_)
   | (with_reducible refine LeO.bind ?_ (fun _ => ?_))
   | exact ih0 _ _ _ _ _
   | exact siphon_side.mono _ _ _ _ _ _ _
   | exact LeO.none _
   | refine LeO.ite ?_ ?_
   | refine LeO.bind ?_ (fun _ => ?_)
theorem siphon_holds.mono : ∀ a0 a1 a2 a3 a4 k, LeO (siphon_holds.f k a0 a1 a2 a3 a4) (siphon_holds.f (k + 1) a0 a1 a2 a3 a4) := by
 intro a0 a1 a2 a3 a4 k
 have ih0 := siphon_holds.mono_l k
 unfold siphon_holds.f
 repeat' first
   | (with_reducible exact ih0 _ _ _ _ _)
   | (with_reducible exact siphon_side.mono _ _ _ _ _ _ _)
   | (with_reducible exact LeO.refl _)
   | (with_reducible exact LeO.none _)
   | (with_reducible refine LeO.ite ?_ ?_)
   | (with_reducible refine LeO.bind ?_ (fun _ => ?_))
   | exact ih0 _ _ _ _ _
   | exact siphon_side.mono _ _ _ _ _ _ _
   | exact LeO.none _
   | refine LeO.ite ?_ ?_
   | refine LeO.bind ?_ (fun _ => ?_)
set_option maxHeartbeats 8000000 in
set_option maxRecDepth 100000 in
theorem siphon_holds.calls (k : Nat) (a0_0 : ByteArray) (A0_1 : Option Addr) (c0_1 : Nat) (l0_1 : List (S56)) (A0_2 : Option Addr) (c0_2 : Nat) (l0_2 : List (S40)) (a1 : Int) (a2 : Bool) (r : Bool) (w : World) (hr0_1 : Kd.C k56 w A0_1 l0_1.length l0_1) (hc0_1 : l0_1.length ≤ c0_1) (hr0_2 : Kd.C k40 w A0_2 l0_2.length l0_2) (hc0_2 : l0_2.length ≤ c0_2) (h : siphon_holds.f k a0_0 l0_1 l0_2 a1 a2 = some r) :
  Calls Try.prog 57 #[.agg #[.string a0_0, .slice A0_1 l0_1.length c0_1, .slice A0_2 l0_2.length c0_2], .int .u64 a1, .bool a2] w fun e w' => e = .returned (.bool r) ∧ Below w.heap.size w w' := by
 have hu25 := Try.underlying25
 have hu9 := Try.underlying9
 have hu22 := Try.underlying22
 have hu23 := Try.underlying23
 have hu40 := Try.underlying40
 have hu3 := Try.underlying3
 have hu9 := Try.underlying9
 have hu38 := Try.underlying38
 have HR0_1 := Aside0.mk hr0_1
 have HC0_1 := Aside0.mk hc0_1
 clear hr0_1 hc0_1
 have HR0_2 := Aside0.mk hr0_2
 have HC0_2 := Aside0.mk hc0_2
 clear hr0_2 hc0_2
 have HB := Aside0.mk (Below.refl w.heap.size w)
 have H : (siphon_holds.l0 k a1 a2 l0_2 (l0_2.length : Int) 0) = some r := h
 clear h
 have H' := Aside0.mk H
 clear H
 go_enter Try.func57, Try.ntmps57
 go_wp2_with (first | ((with_reducible refine gate_dst (N := 3) rfl ?_); refine box_event ?hg (N := 3) ?hd (cs := #[.string a0_0, .slice A0_1 l0_1.length c0_1, .slice A0_2 l0_2.length c0_2]) (t := 25) ?hr ?_; (case hd => rfl); (case hg => rfl); (case hr => first | (go_simp; done) | (go_simp; rfl)); intro gb125 hg w4 hbox hb; have n0_ := Aside0.mk (below_step (by repeat (first | (with_reducible first | exact HB.out | apply below_alloc | apply pw_below_drewN | apply below_drew1) | exact HB.out)) hb); have n1_ := Aside0.mk (hbox); have n2_ := Aside0.mk ((by rw [hg]; exact (below_size (by repeat (first | (with_reducible first | exact HB.out | apply below_alloc | apply pw_below_drewN | apply below_drew1) | exact HB.out))) : w.heap.size ≤ gb125)); have n3_ := Aside0.mk ((by rw [hg]; exact (below_size (by repeat (first | (with_reducible first | exact HB.out | apply below_alloc | apply pw_below_drewN | apply below_drew1) | exact HB.out))) : w.heap.size ≤ gb125)); clear HB; have HB := n0_; have BK125 := n1_; have GW125 := n2_; have GE125 := n3_; clear n0_ n1_ n2_ n3_; clear hb hbox hg; have hcz5_0 : w4.cell? ⟨gb125, 0, none⟩ = some (.string a0_0) := (blk_cell BK125.out 0).trans rfl; have hcz5_1 : w4.cell? ⟨gb125, 1, none⟩ = some (.slice A0_1 l0_1.length c0_1) := (blk_cell BK125.out 1).trans rfl; have hcz5_2 : w4.cell? ⟨gb125, 2, none⟩ = some (.slice A0_2 l0_2.length c0_2) := (blk_cell BK125.out 2).trans rfl; have hfz5_0 := blk_frozen BK125.out 0; have hfz5_1 := blk_frozen BK125.out 1; have hfz5_2 := blk_frozen BK125.out 2))
 go_loopg [14] k (fun kq v14 w' => ∃ (x14_1 : Int), v14 = .int .i64 x14_1 ∧ Aside0 (siphon_holds.l0 kq a1 a2 l0_2 (l0_2.length : Int) x14_1 = some r) ∧ Aside0 (kq ≤ k) ∧ Aside0 (w'.heap[gb125]? = some (.cells #[.string a0_0, (.slice A0_1 l0_1.length c0_1), (.slice A0_2 l0_2.length c0_2)] 25 (0, 0))) ∧ Aside0 (Below w.heap.size w w'))
 case atStart => exact ⟨(0), (by first | rfl | (simp; done) | (simp [*]; done) | (simp [i64_w]; done)), H', ⟨Nat.le_refl _⟩, ⟨by (with_reducible repeat (first | refine blk_drewN ?_ _ | refine blk_drew ?_ | refine blk_alloc ?_ _)); exact BK125.out⟩, ⟨by repeat (first | (with_reducible first | exact HB.out | apply below_alloc | apply pw_below_drewN | apply below_drew1 | refine below_set ?_ GE125.out) | exact HB.out)⟩⟩
 case round =>
  clear H'
  try clear p2
  try clear c5
  try clear hcz5_0
  try clear hcz5_1
  try clear hcz5_2
  try clear hfz5_0
  try clear hfz5_1
  try clear hfz5_2
  obtain ⟨x14_1, rfl, HA, HK1, BK125, HB⟩ := hrel
  cases gk with
  | zero => exact absurd HA.out (by simp [siphon_holds.l0])
  | succ k1 =>
   have H := HA.out
   clear HA
   simp only [siphon_holds.l0] at H
   by_cases c6 : x14_1 < (l0_2.length : Int)
   ·
    rw [if_pos c6] at H
    have c6b0 : decide (x14_1 < (l0_2.length : Int)) = true := decide_eq_true c6
    clear c6
    by_cases c7 : 0 ≤ x14_1
    ·
     rw [if_pos c7] at H
     have c7b0 : decide (0 ≤ x14_1) = true := decide_eq_true c7
     clear c7
     by_cases c8 : x14_1 < (l0_2.length : Int)
     ·
      rw [if_pos c8] at H
      have c8b0 : decide (x14_1 < (l0_2.length : Int)) = true := decide_eq_true c8
      clear c8
      replace H := Option.bind_eq_some_iff.mp H
      obtain ⟨⟨t128, t129⟩, A90, H⟩ := H
      replace H : (if (Go.bits .and .u64 t128 a1) = 0 then (siphon_holds.l0 k1 a1 a2 l0_2 (l0_2.length : Int) (wrap64 (x14_1 + 1))) else (if (Go.bits .and .u64 t129 a1) = 0 then (some false) else (siphon_holds.l0 k1 a1 a2 l0_2 (l0_2.length : Int) (wrap64 (x14_1 + 1))))) = some r := H
      have A9 := Aside0.mk A90
      clear A90
      by_cases c10 : (Go.bits .and .u64 t128 a1) = 0
      ·
       rw [if_pos c10] at H
       have c10b0 : ((Go.bits .and .u64 t128 a1) == 0) = true := beq_iff_eq.mpr c10
       have c10b1 : ((Go.bits .and .u64 t128 a1) != 0) = false := bne_eq_false_iff_eq.mpr c10
       clear c10
       have H' := Aside0.mk H
       clear H
       have p126 : 0 ≤ (x14_1 : Int) := of_decide_eq_true (by first | (with_reducible assumption) | assumption)
       have q126 : x14_1 < (l0_2.length : Int) := of_decide_eq_true (by first | (with_reducible assumption) | assumption)
       obtain ⟨ad126, A126_1, c126_1, A126_2, c126_2, A126_3, c126_3, e126, hx126_0, hx126_1, hx126_2, hx126_3, hx126_4, hl126_1, hi126_1, hl126_2, hi126_2, hl126_3, hi126_3⟩ := at_T40 HR0_2.out x14_1 p126 q126
       cases e126
       replace hx126_0 := (HB.out.cell (World.block_lt_of_cell? w _ hx126_0)).trans hx126_0
       replace hx126_1 := (HB.out.cell (World.block_lt_of_cell? w _ hx126_1)).trans hx126_1
       replace hx126_2 := (HB.out.cell (World.block_lt_of_cell? w _ hx126_2)).trans hx126_2
       replace hx126_3 := (HB.out.cell (World.block_lt_of_cell? w _ hx126_3)).trans hx126_3
       replace hx126_4 := (HB.out.cell (World.block_lt_of_cell? w _ hx126_4)).trans hx126_4
       have HR126_1 := Aside0.mk hi126_1
       have HC126_1 := Aside0.mk hl126_1
       clear hi126_1 hl126_1
       have HR126_2 := Aside0.mk hi126_2
       have HC126_2 := Aside0.mk hl126_2
       clear hi126_2 hl126_2
       have HR126_3 := Aside0.mk hi126_3
       have HC126_3 := Aside0.mk hl126_3
       clear hi126_3 hl126_3
       replace p126 := eq_true p126
       replace q126 := eq_true q126
       go_wp2_with (first | ((with_reducible refine gate_dst (N := 8) rfl ?_); refine box_event ?hg (N := 8) ?hd (cs := #[.string (⟨#[]⟩ : ByteArray), .slice none 0 0, .slice none 0 0, .slice none 0 0, .int .i64 0]) (t := 40) ?hr ?_; (case hd => rfl); (case hg => rfl); (case hr => first | (go_simp; done) | (go_simp; rfl)); intro gb127 hg w11 hbox hb; have n0_ := Aside0.mk (blk_below (g := gb125) (o := .cells #[.string a0_0, .slice A0_1 l0_1.length c0_1, .slice (some ad126) l0_2.length c0_2] 25 (0, 0)) (by (with_reducible repeat (first | refine blk_drewN ?_ _ | refine blk_drew ?_ | refine blk_alloc ?_ _)); exact BK125.out) hb); have n1_ := Aside0.mk (below_step (by repeat (first | (with_reducible first | exact HB.out | apply below_alloc | apply pw_below_drewN | apply below_drew1 | refine below_set ?_ GE125.out) | exact HB.out)) hb); have n2_ := Aside0.mk (hbox); have n3_ := Aside0.mk ((by rw [hg]; exact (below_size (by repeat (first | (with_reducible first | exact HB.out | apply below_alloc | apply pw_below_drewN | apply below_drew1 | refine below_set ?_ GE125.out) | exact HB.out))) : w.heap.size ≤ gb127)); have n4_ := Aside0.mk ((by rw [hg]; exact (below_size (by repeat (first | (with_reducible first | exact HB.out | apply below_alloc | apply pw_below_drewN | apply below_drew1 | refine below_set ?_ GE125.out) | exact HB.out))) : w.heap.size ≤ gb127)); have n5_ := Aside0.mk ((by rw [hg]; exact Nat.ne_of_lt (blk_lt (g := gb125) (o := .cells #[.string a0_0, .slice A0_1 l0_1.length c0_1, .slice (some ad126) l0_2.length c0_2] 25 (0, 0)) (by (with_reducible repeat (first | refine blk_drewN ?_ _ | refine blk_drew ?_ | refine blk_alloc ?_ _)); exact BK125.out)) : gb125 ≠ gb127)); have n6_ := Aside0.mk ((by rw [hg]; exact Nat.ne_of_gt (blk_lt (g := gb125) (o := .cells #[.string a0_0, .slice A0_1 l0_1.length c0_1, .slice (some ad126) l0_2.length c0_2] 25 (0, 0)) (by (with_reducible repeat (first | refine blk_drewN ?_ _ | refine blk_drew ?_ | refine blk_alloc ?_ _)); exact BK125.out)) : gb127 ≠ gb125)); clear BK125; clear HB; have BK125 := n0_; have HB := n1_; have BK127 := n2_; have GW127 := n3_; have GE127 := n4_; have NB125_127 := n5_; have NB127_125 := n6_; clear n0_ n1_ n2_ n3_ n4_ n5_ n6_; clear hb hbox hg; have hnb12 := NB127_125.out; have hnc12 := NB125_127.out; have hcz13_0 : w11.cell? ⟨gb127, 0, none⟩ = some (.string (⟨#[]⟩ : ByteArray)) := (blk_cell BK127.out 0).trans rfl; have hcz13_1 : w11.cell? ⟨gb127, 1, none⟩ = some (.slice none 0 0) := (blk_cell BK127.out 1).trans rfl; have hcz13_2 : w11.cell? ⟨gb127, 2, none⟩ = some (.slice none 0 0) := (blk_cell BK127.out 2).trans rfl; have hcz13_3 : w11.cell? ⟨gb127, 3, none⟩ = some (.slice none 0 0) := (blk_cell BK127.out 3).trans rfl; have hcz13_4 : w11.cell? ⟨gb127, 4, none⟩ = some (.int .i64 0) := (blk_cell BK127.out 4).trans rfl; have hfz13_0 := blk_frozen BK127.out 0; have hfz13_1 := blk_frozen BK127.out 1; have hfz13_2 := blk_frozen BK127.out 2; have hfz13_3 := blk_frozen BK127.out 3; have hfz13_4 := blk_frozen BK127.out 4) | ((with_reducible refine gate_callee (f := 59) rfl ?_); refine goesL_ (some 21) rfl rfl Try.func59 (by kernel_rfl) rfl #[.agg #[.string ((rd_T40 l0_2 x14_1).f0), .slice A126_1 ((rd_T40 l0_2 x14_1).f1).length c126_1, .slice A126_2 ((rd_T40 l0_2 x14_1).f2).length c126_2, .slice A126_3 ((rd_T40 l0_2 x14_1).f3).length c126_3, .int .i64 ((rd_T40 l0_2 x14_1).f4)], .bool a2] rfl (by (try simp only [List.map_toArray, List.map_cons, List.map_nil]); first | done | rfl | (simp only [List.length_drop, List.length_take]; rfl)) ?_; (with_reducible refine (siphon_side.calls k1 ((rd_T40 l0_2 x14_1).f0) _ _ ((rd_T40 l0_2 x14_1).f1) _ _ ((rd_T40 l0_2 x14_1).f2) _ _ ((rd_T40 l0_2 x14_1).f3) ((rd_T40 l0_2 x14_1).f4) a2 t128 t129 _ ?side1 ?side2 ?side3 ?side4 ?side5 ?side6 A9.out).mono ?_); (case side1 => exact Kd.C_below HR126_1.out (by repeat (first | (with_reducible first | exact HB.out | apply below_alloc | apply pw_below_drewN | apply below_drew1 | refine below_set ?_ GE125.out | refine below_set ?_ GE127.out) | exact HB.out))); (case side2 => exact HC126_1.out); (case side3 => exact Kd.C_below HR126_2.out (by repeat (first | (with_reducible first | exact HB.out | apply below_alloc | apply pw_below_drewN | apply below_drew1 | refine below_set ?_ GE125.out | refine below_set ?_ GE127.out) | exact HB.out))); (case side4 => exact HC126_2.out); (case side5 => exact Kd.C_below HR126_3.out (by repeat (first | (with_reducible first | exact HB.out | apply below_alloc | apply pw_below_drewN | apply below_drew1 | refine below_set ?_ GE125.out | refine below_set ?_ GE127.out) | exact HB.out))); (case side6 => exact HC126_3.out); rintro e w14 ⟨rfl, hb⟩; refine ⟨_, rfl, ?_⟩; have n0_ := Aside0.mk (blk_below (g := gb125) (o := .cells #[.string a0_0, .slice A0_1 l0_1.length c0_1, .slice (some ad126) l0_2.length c0_2] 25 (0, 0)) (by (with_reducible repeat (first | refine blk_drewN ?_ _ | refine blk_drew ?_ | refine blk_alloc ?_ _)); refine blk_far ?_ NB125_127.out _; (with_reducible repeat (first | refine blk_drewN ?_ _ | refine blk_drew ?_ | refine blk_alloc ?_ _)); refine blk_far ?_ NB125_127.out _; (with_reducible repeat (first | refine blk_drewN ?_ _ | refine blk_drew ?_ | refine blk_alloc ?_ _)); refine blk_far ?_ NB125_127.out _; (with_reducible repeat (first | refine blk_drewN ?_ _ | refine blk_drew ?_ | refine blk_alloc ?_ _)); refine blk_far ?_ NB125_127.out _; (with_reducible repeat (first | refine blk_drewN ?_ _ | refine blk_drew ?_ | refine blk_alloc ?_ _)); refine blk_far ?_ NB125_127.out _; (with_reducible repeat (first | refine blk_drewN ?_ _ | refine blk_drew ?_ | refine blk_alloc ?_ _)); exact BK125.out) hb); have n1_ := Aside0.mk (blk_below (g := gb127) (o := .cells #[.string ((rd_T40 l0_2 x14_1).f0), .slice A126_1 ((rd_T40 l0_2 x14_1).f1).length c126_1, .slice A126_2 ((rd_T40 l0_2 x14_1).f2).length c126_2, .slice A126_3 ((rd_T40 l0_2 x14_1).f3).length c126_3, .int .i64 ((rd_T40 l0_2 x14_1).f4)] 40 (0, 0)) (by (with_reducible repeat (first | refine blk_drewN ?_ _ | refine blk_drew ?_ | refine blk_alloc ?_ _)); refine blk_put (cs := #[.string ((rd_T40 l0_2 x14_1).f0), .slice A126_1 ((rd_T40 l0_2 x14_1).f1).length c126_1, .slice A126_2 ((rd_T40 l0_2 x14_1).f2).length c126_2, .slice A126_3 ((rd_T40 l0_2 x14_1).f3).length c126_3, .int .i64 0]) ?_ 4 _ rfl; (with_reducible repeat (first | refine blk_drewN ?_ _ | refine blk_drew ?_ | refine blk_alloc ?_ _)); refine blk_put (cs := #[.string ((rd_T40 l0_2 x14_1).f0), .slice A126_1 ((rd_T40 l0_2 x14_1).f1).length c126_1, .slice A126_2 ((rd_T40 l0_2 x14_1).f2).length c126_2, .slice none 0 0, .int .i64 0]) ?_ 3 _ rfl; (with_reducible repeat (first | refine blk_drewN ?_ _ | refine blk_drew ?_ | refine blk_alloc ?_ _)); refine blk_put (cs := #[.string ((rd_T40 l0_2 x14_1).f0), .slice A126_1 ((rd_T40 l0_2 x14_1).f1).length c126_1, .slice none 0 0, .slice none 0 0, .int .i64 0]) ?_ 2 _ rfl; (with_reducible repeat (first | refine blk_drewN ?_ _ | refine blk_drew ?_ | refine blk_alloc ?_ _)); refine blk_put (cs := #[.string ((rd_T40 l0_2 x14_1).f0), .slice none 0 0, .slice none 0 0, .slice none 0 0, .int .i64 0]) ?_ 1 _ rfl; (with_reducible repeat (first | refine blk_drewN ?_ _ | refine blk_drew ?_ | refine blk_alloc ?_ _)); refine blk_put (cs := #[.string (⟨#[]⟩ : ByteArray), .slice none 0 0, .slice none 0 0, .slice none 0 0, .int .i64 0]) ?_ 0 _ rfl; (with_reducible repeat (first | refine blk_drewN ?_ _ | refine blk_drew ?_ | refine blk_alloc ?_ _)); exact BK127.out) hb); have n2_ := Aside0.mk (below_step (by repeat (first | (with_reducible first | exact HB.out | apply below_alloc | apply pw_below_drewN | apply below_drew1 | refine below_set ?_ GE125.out | refine below_set ?_ GE127.out) | exact HB.out)) hb); clear BK125; clear BK127; clear HB; have BK125 := n0_; have BK127 := n1_; have HB := n2_; clear n0_ n1_ n2_; (try clear hb); (try clear hb2); (try clear hk); (try clear hi)))
       go_roundg k1
       case measure => have := HK1.out; omega
       case rel => exact ⟨(wrap64 (x14_1 + 1)), (by first | rfl | (simp; done) | (simp [*]; done) | (simp [i64_w]; done)), H', ⟨by have := HK1.out; omega⟩, ⟨by (with_reducible repeat (first | refine blk_drewN ?_ _ | refine blk_drew ?_ | refine blk_alloc ?_ _)); exact BK125.out⟩, ⟨by repeat (first | (with_reducible first | exact HB.out | apply below_alloc | apply pw_below_drewN | apply below_drew1 | refine below_set ?_ GE125.out | refine below_set ?_ GE127.out) | exact HB.out)⟩⟩
      ·
       rw [if_neg c10] at H
       have c10b0 : ((Go.bits .and .u64 t128 a1) == 0) = false := beq_eq_false_iff_ne.mpr c10
       have c10b1 : ((Go.bits .and .u64 t128 a1) != 0) = true := bne_iff_ne.mpr c10
       by_cases c15 : (Go.bits .and .u64 t129 a1) = 0
       ·
        rw [if_pos c15] at H
        have c15b0 : ((Go.bits .and .u64 t129 a1) == 0) = true := beq_iff_eq.mpr c15
        have c15b1 : ((Go.bits .and .u64 t129 a1) != 0) = false := bne_eq_false_iff_eq.mpr c15
        clear c15
        obtain rfl := Option.some.inj H
        have p126 : 0 ≤ (x14_1 : Int) := of_decide_eq_true (by first | (with_reducible assumption) | assumption)
        have q126 : x14_1 < (l0_2.length : Int) := of_decide_eq_true (by first | (with_reducible assumption) | assumption)
        obtain ⟨ad126, A126_1, c126_1, A126_2, c126_2, A126_3, c126_3, e126, hx126_0, hx126_1, hx126_2, hx126_3, hx126_4, hl126_1, hi126_1, hl126_2, hi126_2, hl126_3, hi126_3⟩ := at_T40 HR0_2.out x14_1 p126 q126
        cases e126
        replace hx126_0 := (HB.out.cell (World.block_lt_of_cell? w _ hx126_0)).trans hx126_0
        replace hx126_1 := (HB.out.cell (World.block_lt_of_cell? w _ hx126_1)).trans hx126_1
        replace hx126_2 := (HB.out.cell (World.block_lt_of_cell? w _ hx126_2)).trans hx126_2
        replace hx126_3 := (HB.out.cell (World.block_lt_of_cell? w _ hx126_3)).trans hx126_3
        replace hx126_4 := (HB.out.cell (World.block_lt_of_cell? w _ hx126_4)).trans hx126_4
        have HR126_1 := Aside0.mk hi126_1
        have HC126_1 := Aside0.mk hl126_1
        clear hi126_1 hl126_1
        have HR126_2 := Aside0.mk hi126_2
        have HC126_2 := Aside0.mk hl126_2
        clear hi126_2 hl126_2
        have HR126_3 := Aside0.mk hi126_3
        have HC126_3 := Aside0.mk hl126_3
        clear hi126_3 hl126_3
        replace p126 := eq_true p126
        replace q126 := eq_true q126
        go_wp2_with (first | ((with_reducible refine gate_dst (N := 8) rfl ?_); refine box_event ?hg (N := 8) ?hd (cs := #[.string (⟨#[]⟩ : ByteArray), .slice none 0 0, .slice none 0 0, .slice none 0 0, .int .i64 0]) (t := 40) ?hr ?_; (case hd => rfl); (case hg => rfl); (case hr => first | (go_simp; done) | (go_simp; rfl)); intro gb127 hg w16 hbox hb; have n0_ := Aside0.mk (blk_below (g := gb125) (o := .cells #[.string a0_0, .slice A0_1 l0_1.length c0_1, .slice (some ad126) l0_2.length c0_2] 25 (0, 0)) (by (with_reducible repeat (first | refine blk_drewN ?_ _ | refine blk_drew ?_ | refine blk_alloc ?_ _)); exact BK125.out) hb); have n1_ := Aside0.mk (below_step (by repeat (first | (with_reducible first | exact HB.out | apply below_alloc | apply pw_below_drewN | apply below_drew1 | refine below_set ?_ GE125.out) | exact HB.out)) hb); have n2_ := Aside0.mk (hbox); have n3_ := Aside0.mk ((by rw [hg]; exact (below_size (by repeat (first | (with_reducible first | exact HB.out | apply below_alloc | apply pw_below_drewN | apply below_drew1 | refine below_set ?_ GE125.out) | exact HB.out))) : w.heap.size ≤ gb127)); have n4_ := Aside0.mk ((by rw [hg]; exact (below_size (by repeat (first | (with_reducible first | exact HB.out | apply below_alloc | apply pw_below_drewN | apply below_drew1 | refine below_set ?_ GE125.out) | exact HB.out))) : w.heap.size ≤ gb127)); have n5_ := Aside0.mk ((by rw [hg]; exact Nat.ne_of_lt (blk_lt (g := gb125) (o := .cells #[.string a0_0, .slice A0_1 l0_1.length c0_1, .slice (some ad126) l0_2.length c0_2] 25 (0, 0)) (by (with_reducible repeat (first | refine blk_drewN ?_ _ | refine blk_drew ?_ | refine blk_alloc ?_ _)); exact BK125.out)) : gb125 ≠ gb127)); have n6_ := Aside0.mk ((by rw [hg]; exact Nat.ne_of_gt (blk_lt (g := gb125) (o := .cells #[.string a0_0, .slice A0_1 l0_1.length c0_1, .slice (some ad126) l0_2.length c0_2] 25 (0, 0)) (by (with_reducible repeat (first | refine blk_drewN ?_ _ | refine blk_drew ?_ | refine blk_alloc ?_ _)); exact BK125.out)) : gb127 ≠ gb125)); clear BK125; clear HB; have BK125 := n0_; have HB := n1_; have BK127 := n2_; have GW127 := n3_; have GE127 := n4_; have NB125_127 := n5_; have NB127_125 := n6_; clear n0_ n1_ n2_ n3_ n4_ n5_ n6_; clear hb hbox hg; have hnb17 := NB127_125.out; have hnc17 := NB125_127.out; have hcz18_0 : w16.cell? ⟨gb127, 0, none⟩ = some (.string (⟨#[]⟩ : ByteArray)) := (blk_cell BK127.out 0).trans rfl; have hcz18_1 : w16.cell? ⟨gb127, 1, none⟩ = some (.slice none 0 0) := (blk_cell BK127.out 1).trans rfl; have hcz18_2 : w16.cell? ⟨gb127, 2, none⟩ = some (.slice none 0 0) := (blk_cell BK127.out 2).trans rfl; have hcz18_3 : w16.cell? ⟨gb127, 3, none⟩ = some (.slice none 0 0) := (blk_cell BK127.out 3).trans rfl; have hcz18_4 : w16.cell? ⟨gb127, 4, none⟩ = some (.int .i64 0) := (blk_cell BK127.out 4).trans rfl; have hfz18_0 := blk_frozen BK127.out 0; have hfz18_1 := blk_frozen BK127.out 1; have hfz18_2 := blk_frozen BK127.out 2; have hfz18_3 := blk_frozen BK127.out 3; have hfz18_4 := blk_frozen BK127.out 4) | ((with_reducible refine gate_callee (f := 59) rfl ?_); refine goesL_ (some 21) rfl rfl Try.func59 (by kernel_rfl) rfl #[.agg #[.string ((rd_T40 l0_2 x14_1).f0), .slice A126_1 ((rd_T40 l0_2 x14_1).f1).length c126_1, .slice A126_2 ((rd_T40 l0_2 x14_1).f2).length c126_2, .slice A126_3 ((rd_T40 l0_2 x14_1).f3).length c126_3, .int .i64 ((rd_T40 l0_2 x14_1).f4)], .bool a2] rfl (by (try simp only [List.map_toArray, List.map_cons, List.map_nil]); first | done | rfl | (simp only [List.length_drop, List.length_take]; rfl)) ?_; (with_reducible refine (siphon_side.calls k1 ((rd_T40 l0_2 x14_1).f0) _ _ ((rd_T40 l0_2 x14_1).f1) _ _ ((rd_T40 l0_2 x14_1).f2) _ _ ((rd_T40 l0_2 x14_1).f3) ((rd_T40 l0_2 x14_1).f4) a2 t128 t129 _ ?side1 ?side2 ?side3 ?side4 ?side5 ?side6 A9.out).mono ?_); (case side1 => exact Kd.C_below HR126_1.out (by repeat (first | (with_reducible first | exact HB.out | apply below_alloc | apply pw_below_drewN | apply below_drew1 | refine below_set ?_ GE125.out | refine below_set ?_ GE127.out) | exact HB.out))); (case side2 => exact HC126_1.out); (case side3 => exact Kd.C_below HR126_2.out (by repeat (first | (with_reducible first | exact HB.out | apply below_alloc | apply pw_below_drewN | apply below_drew1 | refine below_set ?_ GE125.out | refine below_set ?_ GE127.out) | exact HB.out))); (case side4 => exact HC126_2.out); (case side5 => exact Kd.C_below HR126_3.out (by repeat (first | (with_reducible first | exact HB.out | apply below_alloc | apply pw_below_drewN | apply below_drew1 | refine below_set ?_ GE125.out | refine below_set ?_ GE127.out) | exact HB.out))); (case side6 => exact HC126_3.out); rintro e w19 ⟨rfl, hb⟩; refine ⟨_, rfl, ?_⟩; have n0_ := Aside0.mk (blk_below (g := gb125) (o := .cells #[.string a0_0, .slice A0_1 l0_1.length c0_1, .slice (some ad126) l0_2.length c0_2] 25 (0, 0)) (by (with_reducible repeat (first | refine blk_drewN ?_ _ | refine blk_drew ?_ | refine blk_alloc ?_ _)); refine blk_far ?_ NB125_127.out _; (with_reducible repeat (first | refine blk_drewN ?_ _ | refine blk_drew ?_ | refine blk_alloc ?_ _)); refine blk_far ?_ NB125_127.out _; (with_reducible repeat (first | refine blk_drewN ?_ _ | refine blk_drew ?_ | refine blk_alloc ?_ _)); refine blk_far ?_ NB125_127.out _; (with_reducible repeat (first | refine blk_drewN ?_ _ | refine blk_drew ?_ | refine blk_alloc ?_ _)); refine blk_far ?_ NB125_127.out _; (with_reducible repeat (first | refine blk_drewN ?_ _ | refine blk_drew ?_ | refine blk_alloc ?_ _)); refine blk_far ?_ NB125_127.out _; (with_reducible repeat (first | refine blk_drewN ?_ _ | refine blk_drew ?_ | refine blk_alloc ?_ _)); exact BK125.out) hb); have n1_ := Aside0.mk (blk_below (g := gb127) (o := .cells #[.string ((rd_T40 l0_2 x14_1).f0), .slice A126_1 ((rd_T40 l0_2 x14_1).f1).length c126_1, .slice A126_2 ((rd_T40 l0_2 x14_1).f2).length c126_2, .slice A126_3 ((rd_T40 l0_2 x14_1).f3).length c126_3, .int .i64 ((rd_T40 l0_2 x14_1).f4)] 40 (0, 0)) (by (with_reducible repeat (first | refine blk_drewN ?_ _ | refine blk_drew ?_ | refine blk_alloc ?_ _)); refine blk_put (cs := #[.string ((rd_T40 l0_2 x14_1).f0), .slice A126_1 ((rd_T40 l0_2 x14_1).f1).length c126_1, .slice A126_2 ((rd_T40 l0_2 x14_1).f2).length c126_2, .slice A126_3 ((rd_T40 l0_2 x14_1).f3).length c126_3, .int .i64 0]) ?_ 4 _ rfl; (with_reducible repeat (first | refine blk_drewN ?_ _ | refine blk_drew ?_ | refine blk_alloc ?_ _)); refine blk_put (cs := #[.string ((rd_T40 l0_2 x14_1).f0), .slice A126_1 ((rd_T40 l0_2 x14_1).f1).length c126_1, .slice A126_2 ((rd_T40 l0_2 x14_1).f2).length c126_2, .slice none 0 0, .int .i64 0]) ?_ 3 _ rfl; (with_reducible repeat (first | refine blk_drewN ?_ _ | refine blk_drew ?_ | refine blk_alloc ?_ _)); refine blk_put (cs := #[.string ((rd_T40 l0_2 x14_1).f0), .slice A126_1 ((rd_T40 l0_2 x14_1).f1).length c126_1, .slice none 0 0, .slice none 0 0, .int .i64 0]) ?_ 2 _ rfl; (with_reducible repeat (first | refine blk_drewN ?_ _ | refine blk_drew ?_ | refine blk_alloc ?_ _)); refine blk_put (cs := #[.string ((rd_T40 l0_2 x14_1).f0), .slice none 0 0, .slice none 0 0, .slice none 0 0, .int .i64 0]) ?_ 1 _ rfl; (with_reducible repeat (first | refine blk_drewN ?_ _ | refine blk_drew ?_ | refine blk_alloc ?_ _)); refine blk_put (cs := #[.string (⟨#[]⟩ : ByteArray), .slice none 0 0, .slice none 0 0, .slice none 0 0, .int .i64 0]) ?_ 0 _ rfl; (with_reducible repeat (first | refine blk_drewN ?_ _ | refine blk_drew ?_ | refine blk_alloc ?_ _)); exact BK127.out) hb); have n2_ := Aside0.mk (below_step (by repeat (first | (with_reducible first | exact HB.out | apply below_alloc | apply pw_below_drewN | apply below_drew1 | refine below_set ?_ GE125.out | refine below_set ?_ GE127.out) | exact HB.out)) hb); clear BK125; clear BK127; clear HB; have BK125 := n0_; have BK127 := n1_; have HB := n2_; clear n0_ n1_ n2_; (try clear hb); (try clear hb2); (try clear hk); (try clear hi)))
        go_ret
        exact ⟨by first | rfl | (simp [errW_none, errW_some] <;> rfl) | (simp [*, errW_none, errW_some] <;> rfl), by repeat (first | (with_reducible first | exact HB.out | apply below_alloc | apply pw_below_drewN | apply below_drew1 | refine below_set ?_ GE125.out | refine below_set ?_ GE127.out) | exact HB.out)⟩
       ·
        rw [if_neg c15] at H
        have c15b0 : ((Go.bits .and .u64 t129 a1) == 0) = false := beq_eq_false_iff_ne.mpr c15
        have c15b1 : ((Go.bits .and .u64 t129 a1) != 0) = true := bne_iff_ne.mpr c15
        have H' := Aside0.mk H
        clear H
        have p126 : 0 ≤ (x14_1 : Int) := of_decide_eq_true (by first | (with_reducible assumption) | assumption)
        have q126 : x14_1 < (l0_2.length : Int) := of_decide_eq_true (by first | (with_reducible assumption) | assumption)
        obtain ⟨ad126, A126_1, c126_1, A126_2, c126_2, A126_3, c126_3, e126, hx126_0, hx126_1, hx126_2, hx126_3, hx126_4, hl126_1, hi126_1, hl126_2, hi126_2, hl126_3, hi126_3⟩ := at_T40 HR0_2.out x14_1 p126 q126
        cases e126
        replace hx126_0 := (HB.out.cell (World.block_lt_of_cell? w _ hx126_0)).trans hx126_0
        replace hx126_1 := (HB.out.cell (World.block_lt_of_cell? w _ hx126_1)).trans hx126_1
        replace hx126_2 := (HB.out.cell (World.block_lt_of_cell? w _ hx126_2)).trans hx126_2
        replace hx126_3 := (HB.out.cell (World.block_lt_of_cell? w _ hx126_3)).trans hx126_3
        replace hx126_4 := (HB.out.cell (World.block_lt_of_cell? w _ hx126_4)).trans hx126_4
        have HR126_1 := Aside0.mk hi126_1
        have HC126_1 := Aside0.mk hl126_1
        clear hi126_1 hl126_1
        have HR126_2 := Aside0.mk hi126_2
        have HC126_2 := Aside0.mk hl126_2
        clear hi126_2 hl126_2
        have HR126_3 := Aside0.mk hi126_3
        have HC126_3 := Aside0.mk hl126_3
        clear hi126_3 hl126_3
        replace p126 := eq_true p126
        replace q126 := eq_true q126
        go_wp2_with (first | ((with_reducible refine gate_dst (N := 8) rfl ?_); refine box_event ?hg (N := 8) ?hd (cs := #[.string (⟨#[]⟩ : ByteArray), .slice none 0 0, .slice none 0 0, .slice none 0 0, .int .i64 0]) (t := 40) ?hr ?_; (case hd => rfl); (case hg => rfl); (case hr => first | (go_simp; done) | (go_simp; rfl)); intro gb127 hg w20 hbox hb; have n0_ := Aside0.mk (blk_below (g := gb125) (o := .cells #[.string a0_0, .slice A0_1 l0_1.length c0_1, .slice (some ad126) l0_2.length c0_2] 25 (0, 0)) (by (with_reducible repeat (first | refine blk_drewN ?_ _ | refine blk_drew ?_ | refine blk_alloc ?_ _)); exact BK125.out) hb); have n1_ := Aside0.mk (below_step (by repeat (first | (with_reducible first | exact HB.out | apply below_alloc | apply pw_below_drewN | apply below_drew1 | refine below_set ?_ GE125.out) | exact HB.out)) hb); have n2_ := Aside0.mk (hbox); have n3_ := Aside0.mk ((by rw [hg]; exact (below_size (by repeat (first | (with_reducible first | exact HB.out | apply below_alloc | apply pw_below_drewN | apply below_drew1 | refine below_set ?_ GE125.out) | exact HB.out))) : w.heap.size ≤ gb127)); have n4_ := Aside0.mk ((by rw [hg]; exact (below_size (by repeat (first | (with_reducible first | exact HB.out | apply below_alloc | apply pw_below_drewN | apply below_drew1 | refine below_set ?_ GE125.out) | exact HB.out))) : w.heap.size ≤ gb127)); have n5_ := Aside0.mk ((by rw [hg]; exact Nat.ne_of_lt (blk_lt (g := gb125) (o := .cells #[.string a0_0, .slice A0_1 l0_1.length c0_1, .slice (some ad126) l0_2.length c0_2] 25 (0, 0)) (by (with_reducible repeat (first | refine blk_drewN ?_ _ | refine blk_drew ?_ | refine blk_alloc ?_ _)); exact BK125.out)) : gb125 ≠ gb127)); have n6_ := Aside0.mk ((by rw [hg]; exact Nat.ne_of_gt (blk_lt (g := gb125) (o := .cells #[.string a0_0, .slice A0_1 l0_1.length c0_1, .slice (some ad126) l0_2.length c0_2] 25 (0, 0)) (by (with_reducible repeat (first | refine blk_drewN ?_ _ | refine blk_drew ?_ | refine blk_alloc ?_ _)); exact BK125.out)) : gb127 ≠ gb125)); clear BK125; clear HB; have BK125 := n0_; have HB := n1_; have BK127 := n2_; have GW127 := n3_; have GE127 := n4_; have NB125_127 := n5_; have NB127_125 := n6_; clear n0_ n1_ n2_ n3_ n4_ n5_ n6_; clear hb hbox hg; have hnb21 := NB127_125.out; have hnc21 := NB125_127.out; have hcz22_0 : w20.cell? ⟨gb127, 0, none⟩ = some (.string (⟨#[]⟩ : ByteArray)) := (blk_cell BK127.out 0).trans rfl; have hcz22_1 : w20.cell? ⟨gb127, 1, none⟩ = some (.slice none 0 0) := (blk_cell BK127.out 1).trans rfl; have hcz22_2 : w20.cell? ⟨gb127, 2, none⟩ = some (.slice none 0 0) := (blk_cell BK127.out 2).trans rfl; have hcz22_3 : w20.cell? ⟨gb127, 3, none⟩ = some (.slice none 0 0) := (blk_cell BK127.out 3).trans rfl; have hcz22_4 : w20.cell? ⟨gb127, 4, none⟩ = some (.int .i64 0) := (blk_cell BK127.out 4).trans rfl; have hfz22_0 := blk_frozen BK127.out 0; have hfz22_1 := blk_frozen BK127.out 1; have hfz22_2 := blk_frozen BK127.out 2; have hfz22_3 := blk_frozen BK127.out 3; have hfz22_4 := blk_frozen BK127.out 4) | ((with_reducible refine gate_callee (f := 59) rfl ?_); refine goesL_ (some 21) rfl rfl Try.func59 (by kernel_rfl) rfl #[.agg #[.string ((rd_T40 l0_2 x14_1).f0), .slice A126_1 ((rd_T40 l0_2 x14_1).f1).length c126_1, .slice A126_2 ((rd_T40 l0_2 x14_1).f2).length c126_2, .slice A126_3 ((rd_T40 l0_2 x14_1).f3).length c126_3, .int .i64 ((rd_T40 l0_2 x14_1).f4)], .bool a2] rfl (by (try simp only [List.map_toArray, List.map_cons, List.map_nil]); first | done | rfl | (simp only [List.length_drop, List.length_take]; rfl)) ?_; (with_reducible refine (siphon_side.calls k1 ((rd_T40 l0_2 x14_1).f0) _ _ ((rd_T40 l0_2 x14_1).f1) _ _ ((rd_T40 l0_2 x14_1).f2) _ _ ((rd_T40 l0_2 x14_1).f3) ((rd_T40 l0_2 x14_1).f4) a2 t128 t129 _ ?side1 ?side2 ?side3 ?side4 ?side5 ?side6 A9.out).mono ?_); (case side1 => exact Kd.C_below HR126_1.out (by repeat (first | (with_reducible first | exact HB.out | apply below_alloc | apply pw_below_drewN | apply below_drew1 | refine below_set ?_ GE125.out | refine below_set ?_ GE127.out) | exact HB.out))); (case side2 => exact HC126_1.out); (case side3 => exact Kd.C_below HR126_2.out (by repeat (first | (with_reducible first | exact HB.out | apply below_alloc | apply pw_below_drewN | apply below_drew1 | refine below_set ?_ GE125.out | refine below_set ?_ GE127.out) | exact HB.out))); (case side4 => exact HC126_2.out); (case side5 => exact Kd.C_below HR126_3.out (by repeat (first | (with_reducible first | exact HB.out | apply below_alloc | apply pw_below_drewN | apply below_drew1 | refine below_set ?_ GE125.out | refine below_set ?_ GE127.out) | exact HB.out))); (case side6 => exact HC126_3.out); rintro e w23 ⟨rfl, hb⟩; refine ⟨_, rfl, ?_⟩; have n0_ := Aside0.mk (blk_below (g := gb125) (o := .cells #[.string a0_0, .slice A0_1 l0_1.length c0_1, .slice (some ad126) l0_2.length c0_2] 25 (0, 0)) (by (with_reducible repeat (first | refine blk_drewN ?_ _ | refine blk_drew ?_ | refine blk_alloc ?_ _)); refine blk_far ?_ NB125_127.out _; (with_reducible repeat (first | refine blk_drewN ?_ _ | refine blk_drew ?_ | refine blk_alloc ?_ _)); refine blk_far ?_ NB125_127.out _; (with_reducible repeat (first | refine blk_drewN ?_ _ | refine blk_drew ?_ | refine blk_alloc ?_ _)); refine blk_far ?_ NB125_127.out _; (with_reducible repeat (first | refine blk_drewN ?_ _ | refine blk_drew ?_ | refine blk_alloc ?_ _)); refine blk_far ?_ NB125_127.out _; (with_reducible repeat (first | refine blk_drewN ?_ _ | refine blk_drew ?_ | refine blk_alloc ?_ _)); refine blk_far ?_ NB125_127.out _; (with_reducible repeat (first | refine blk_drewN ?_ _ | refine blk_drew ?_ | refine blk_alloc ?_ _)); exact BK125.out) hb); have n1_ := Aside0.mk (blk_below (g := gb127) (o := .cells #[.string ((rd_T40 l0_2 x14_1).f0), .slice A126_1 ((rd_T40 l0_2 x14_1).f1).length c126_1, .slice A126_2 ((rd_T40 l0_2 x14_1).f2).length c126_2, .slice A126_3 ((rd_T40 l0_2 x14_1).f3).length c126_3, .int .i64 ((rd_T40 l0_2 x14_1).f4)] 40 (0, 0)) (by (with_reducible repeat (first | refine blk_drewN ?_ _ | refine blk_drew ?_ | refine blk_alloc ?_ _)); refine blk_put (cs := #[.string ((rd_T40 l0_2 x14_1).f0), .slice A126_1 ((rd_T40 l0_2 x14_1).f1).length c126_1, .slice A126_2 ((rd_T40 l0_2 x14_1).f2).length c126_2, .slice A126_3 ((rd_T40 l0_2 x14_1).f3).length c126_3, .int .i64 0]) ?_ 4 _ rfl; (with_reducible repeat (first | refine blk_drewN ?_ _ | refine blk_drew ?_ | refine blk_alloc ?_ _)); refine blk_put (cs := #[.string ((rd_T40 l0_2 x14_1).f0), .slice A126_1 ((rd_T40 l0_2 x14_1).f1).length c126_1, .slice A126_2 ((rd_T40 l0_2 x14_1).f2).length c126_2, .slice none 0 0, .int .i64 0]) ?_ 3 _ rfl; (with_reducible repeat (first | refine blk_drewN ?_ _ | refine blk_drew ?_ | refine blk_alloc ?_ _)); refine blk_put (cs := #[.string ((rd_T40 l0_2 x14_1).f0), .slice A126_1 ((rd_T40 l0_2 x14_1).f1).length c126_1, .slice none 0 0, .slice none 0 0, .int .i64 0]) ?_ 2 _ rfl; (with_reducible repeat (first | refine blk_drewN ?_ _ | refine blk_drew ?_ | refine blk_alloc ?_ _)); refine blk_put (cs := #[.string ((rd_T40 l0_2 x14_1).f0), .slice none 0 0, .slice none 0 0, .slice none 0 0, .int .i64 0]) ?_ 1 _ rfl; (with_reducible repeat (first | refine blk_drewN ?_ _ | refine blk_drew ?_ | refine blk_alloc ?_ _)); refine blk_put (cs := #[.string (⟨#[]⟩ : ByteArray), .slice none 0 0, .slice none 0 0, .slice none 0 0, .int .i64 0]) ?_ 0 _ rfl; (with_reducible repeat (first | refine blk_drewN ?_ _ | refine blk_drew ?_ | refine blk_alloc ?_ _)); exact BK127.out) hb); have n2_ := Aside0.mk (below_step (by repeat (first | (with_reducible first | exact HB.out | apply below_alloc | apply pw_below_drewN | apply below_drew1 | refine below_set ?_ GE125.out | refine below_set ?_ GE127.out) | exact HB.out)) hb); clear BK125; clear BK127; clear HB; have BK125 := n0_; have BK127 := n1_; have HB := n2_; clear n0_ n1_ n2_; (try clear hb); (try clear hb2); (try clear hk); (try clear hi)))
        go_roundg k1
        case measure => have := HK1.out; omega
        case rel => exact ⟨(wrap64 (x14_1 + 1)), (by first | rfl | (simp; done) | (simp [*]; done) | (simp [i64_w]; done)), H', ⟨by have := HK1.out; omega⟩, ⟨by (with_reducible repeat (first | refine blk_drewN ?_ _ | refine blk_drew ?_ | refine blk_alloc ?_ _)); exact BK125.out⟩, ⟨by repeat (first | (with_reducible first | exact HB.out | apply below_alloc | apply pw_below_drewN | apply below_drew1 | refine below_set ?_ GE125.out | refine below_set ?_ GE127.out) | exact HB.out)⟩⟩
     ·
      rw [if_neg c8] at H
      exact absurd H (by simp)
    ·
     rw [if_neg c7] at H
     exact absurd H (by simp)
   ·
    rw [if_neg c6] at H
    have c6b0 : decide (x14_1 < (l0_2.length : Int)) = false := decide_eq_false c6
    clear c6
    obtain rfl := Option.some.inj H
    go_wp2
    go_ret
    exact ⟨by first | rfl | (simp [errW_none, errW_some] <;> rfl) | (simp [*, errW_none, errW_some] <;> rfl), by repeat (first | (with_reducible first | exact HB.out | apply below_alloc | apply pw_below_drewN | apply below_drew1 | refine below_set ?_ GE125.out) | exact HB.out)⟩


/-! ### bitset_All: function 56 -/
def bitset_All.l0 : Nat → Int → Int → Int → Option (Int)
 | 0, _, _, _ => none
 | k + 1, x0, x3, x4 => if x4 < x0 then (if x4 < 64 then (if 0 ≤ (IntKind.u64.wrap (x4)) then (bitset_All.l0 k x0 (Go.bits .or .u64 x3 (shl .u64 1 (IntKind.u64.wrap (x4)))) (wrap64 (x4 + 1))) else (none)) else (some x3)) else (some x3)
def bitset_All.f (k : Nat) (a0 : Int) : Option (Int) := bitset_All.l0 k a0 0 0
theorem bitset_All.mono_l : ∀ k, (∀ y0 y1 y2, LeO (bitset_All.l0 k y0 y1 y2) (bitset_All.l0 (k + 1) y0 y1 y2))
 | 0 => fun _ _ _ r h => by simp [bitset_All.l0] at h
 | k + 1 => by
  have ih0 := bitset_All.mono_l k
  ·
   intro y0 y1 y2
   unfold bitset_All.l0
   repeat' first
   | (with_reducible exact ih0 _ _ _)
   | (with_reducible exact LeO.refl _)
   | (with_reducible exact LeO.none _)
   | (with_reducible refine LeO.ite ?_ ?_)
   | (with_reducible refine LeO.bind ?_ (fun _ => ?_))
   | exact ih0 _ _ _
   | exact LeO.none _
   | refine LeO.ite ?_ ?_
   | refine LeO.bind ?_ (fun _ => ?_)
theorem bitset_All.mono : ∀ a0 k, LeO (bitset_All.f k a0) (bitset_All.f (k + 1) a0) := by
 intro a0 k
 have ih0 := bitset_All.mono_l k
 unfold bitset_All.f
 repeat' first
   | (with_reducible exact ih0 _ _ _)
   | (with_reducible exact LeO.refl _)
   | (with_reducible exact LeO.none _)
   | (with_reducible refine LeO.ite ?_ ?_)
   | (with_reducible refine LeO.bind ?_ (fun _ => ?_))
   | exact ih0 _ _ _
   | exact LeO.none _
   | refine LeO.ite ?_ ?_
   | refine LeO.bind ?_ (fun _ => ?_)
set_option maxHeartbeats 8000000 in
set_option maxRecDepth 100000 in
theorem bitset_All.calls (k : Nat) (a0 : Int) (r : Int) (w : World) (h : bitset_All.f k a0 = some r) :
  Calls Try.prog 56 #[.int .i64 a0] w fun e w' => e = .returned (.int .u64 r) ∧ Drawn0 w w' := by
 have H : (bitset_All.l0 k a0 0 0) = some r := h
 clear h
 have H' := Aside0.mk H
 clear H
 go_enter Try.func56, Try.ntmps56
 go_wp2
 go_loopg [3, 4] k (fun kq v3 v4 w' => ∃ (x3_1 : Int) (x4_1 : Int), v3 = .int .u64 x3_1 ∧ v4 = .int .i64 x4_1 ∧ Aside0 (bitset_All.l0 kq a0 x3_1 x4_1 = some r) ∧ Aside0 (kq ≤ k) ∧ Drawn0 w w')
 case atStart => exact ⟨(0), (0), (by first | rfl | (simp; done) | (simp [*]; done) | (simp [i64_w]; done)), (by first | rfl | (simp; done) | (simp [*]; done) | (simp [i64_w]; done)), H', ⟨Nat.le_refl _⟩, by repeat (first | exact Drawn0.refl _ | apply Drawn0.step)⟩
 case round =>
  clear H'
  obtain ⟨x3_1, x4_1, rfl, rfl, HA, HK1, ⟨m1, rfl⟩⟩ := hrel
  cases gk with
  | zero => exact absurd HA.out (by simp [bitset_All.l0])
  | succ k1 =>
   have H := HA.out
   clear HA
   simp only [bitset_All.l0] at H
   by_cases c2 : x4_1 < a0
   ·
    rw [if_pos c2] at H
    have c2b0 : decide (x4_1 < a0) = true := decide_eq_true c2
    clear c2
    by_cases c3 : x4_1 < 64
    ·
     rw [if_pos c3] at H
     have c3b0 : decide (x4_1 < 64) = true := decide_eq_true c3
     clear c3
     obtain ⟨ji4, hji4⟩ : ∃ j_ : Int, (IntKind.u64.wrap (x4_1)) = j_ := ⟨_, rfl⟩
     replace H : (if 0 ≤ (ji4) then (bitset_All.l0 k1 a0 (Go.bits .or .u64 x3_1 (shl .u64 1 (ji4))) (wrap64 (x4_1 + 1))) else (none)) = some r := by first | (rw [hji4] at H; exact H) | (simp only [hji4] at H ⊢; exact H)
     by_cases c5 : 0 ≤ (ji4)
     ·
      rw [if_pos c5] at H
      have c5b0 := eq_true c5
      have c5b1 : decide (0 ≤ (ji4)) = true := decide_eq_true c5
      clear c5
      obtain ⟨ji6, hji6⟩ : ∃ j_ : Int, (shl .u64 1 (ji4)) = j_ := ⟨_, rfl⟩
      replace H : (bitset_All.l0 k1 a0 (Go.bits .or .u64 x3_1 (ji6)) (wrap64 (x4_1 + 1))) = some r := by first | (rw [hji6] at H; exact H) | (simp only [hji6] at H ⊢; exact H)
      have hji6_ : (IntKind.u64.wrap (1 * 2 ^ min (ji4).toNat 64)) = ji6 := hji6
      have hji6z : (ji4) ≤ 64 → (IntKind.u64.wrap (1 * 2 ^ (ji4).toNat)) = ji6 := shl_small hji6
      have hji6u : (IntKind.u64.wrap (2 ^ min (ji4).toNat 64)) = ji6 := by have h_ := hji6_; rw [Int.one_mul] at h_; exact h_
      have hji6v : (ji4) ≤ 64 → (IntKind.u64.wrap (2 ^ (ji4).toNat)) = ji6 := fun hle_ => by have h_ := hji6z hle_; rw [Int.one_mul] at h_; exact h_
      have H' := Aside0.mk H
      clear H
      go_wp2
      go_roundg k1
      case measure => have := HK1.out; omega
      case rel => exact ⟨(Go.bits .or .u64 x3_1 (ji6)), (wrap64 (x4_1 + 1)), (by first | rfl | (simp; done) | (simp only [← hji6] <;> (first | rfl | simp)) | (simp [*]; done)), (by first | rfl | (simp; done) | (simp [*]; done) | (simp [i64_w]; done)), H', ⟨by have := HK1.out; omega⟩, by repeat (first | exact Drawn0.refl _ | apply Drawn0.step)⟩
     ·
      rw [if_neg c5] at H
      exact absurd H (by simp)
    ·
     rw [if_neg c3] at H
     have c3b0 : decide (x4_1 < 64) = false := decide_eq_false c3
     clear c3
     obtain rfl := Option.some.inj H
     go_wp2
     go_ret
     exact ⟨by first | rfl | (simp; done) | (simp [*]; done), by repeat (first | exact Drawn0.refl _ | apply Drawn0.step)⟩
   ·
    rw [if_neg c2] at H
    have c2b0 : decide (x4_1 < a0) = false := decide_eq_false c2
    clear c2
    obtain rfl := Option.some.inj H
    go_wp2
    go_ret
    exact ⟨by first | rfl | (simp; done) | (simp [*]; done), by repeat (first | exact Drawn0.refl _ | apply Drawn0.step)⟩


/-! ### bitset_Next: function 77 -/
def bitset_Next.f (a0 : Int) (a1 : Int) : Option (Int × Bool) := if (Go.bits .andNot .u64 a0 a1) = 0 then (if a0 = a1 then (some (0, false)) else (some (Go.bits .and .u64 (IntKind.u64.wrap (a0 - a1)) a1, true))) else (some (0, false))
set_option maxHeartbeats 8000000 in
set_option maxRecDepth 100000 in
theorem bitset_Next.calls (a0 : Int) (a1 : Int) (r1 : Int) (r2 : Bool) (w : World) (h : bitset_Next.f a0 a1 = some (r1, r2)) :
  Calls Try.prog 77 #[.int .u64 a0, .int .u64 a1] w fun e w' => e = .returned (.tuple #[.int .u64 r1, .bool r2]) ∧ Drawn0 w w' := by
 have H : (if (Go.bits .andNot .u64 a0 a1) = 0 then (if a0 = a1 then (some (0, false)) else (some (Go.bits .and .u64 (IntKind.u64.wrap (a0 - a1)) a1, true))) else (some (0, false))) = some (r1, r2) := h
 clear h
 by_cases c3 : (Go.bits .andNot .u64 a0 a1) = 0
 ·
  rw [if_pos c3] at H
  have c3b0 : ((Go.bits .andNot .u64 a0 a1) == 0) = true := beq_iff_eq.mpr c3
  have c3b1 : ((Go.bits .andNot .u64 a0 a1) != 0) = false := bne_eq_false_iff_eq.mpr c3
  clear c3
  by_cases c4 : a0 = a1
  ·
   rw [if_pos c4] at H
   have c4b0 : (a0 == a1) = true := beq_iff_eq.mpr c4
   have c4b1 : (a0 != a1) = false := bne_eq_false_iff_eq.mpr c4
   clear c4
   simp only [Option.some.injEq, Prod.mk.injEq] at H
   obtain ⟨rfl, rfl⟩ := H
   go_enter Try.func77, Try.ntmps77
   go_wp2
   go_ret2
   exact ⟨by first | rfl | (simp; done) | (simp [*]; done), by repeat (first | exact Drawn0.refl _ | apply Drawn0.step)⟩
  ·
   rw [if_neg c4] at H
   have c4b0 : (a0 == a1) = false := beq_eq_false_iff_ne.mpr c4
   have c4b1 : (a0 != a1) = true := bne_iff_ne.mpr c4
   simp only [Option.some.injEq, Prod.mk.injEq] at H
   obtain ⟨rfl, rfl⟩ := H
   go_enter Try.func77, Try.ntmps77
   go_wp2
   go_ret2
   exact ⟨by first | rfl | (simp; done) | (simp [*]; done), by repeat (first | exact Drawn0.refl _ | apply Drawn0.step)⟩
 ·
  rw [if_neg c3] at H
  have c3b0 : ((Go.bits .andNot .u64 a0 a1) == 0) = false := beq_eq_false_iff_ne.mpr c3
  have c3b1 : ((Go.bits .andNot .u64 a0 a1) != 0) = true := bne_iff_ne.mpr c3
  simp only [Option.some.injEq, Prod.mk.injEq] at H
  obtain ⟨rfl, rfl⟩ := H
  go_enter Try.func77, Try.ntmps77
  go_wp2
  go_ret2
  exact ⟨by first | rfl | (simp; done) | (simp [*]; done), by repeat (first | exact Drawn0.refl _ | apply Drawn0.step)⟩

-- NOT PRINTED: function 76 (siphon_subsets_1)

-- NOT PRINTED: function 65 (siphon_subsets)


/-! ### bitset_Subset: function 55 -/
def bitset_Subset.f (a0 : Int) (a1 : Int) : Option (Bool) := some ((Go.bits .andNot .u64 a0 a1) == 0)
set_option maxHeartbeats 8000000 in
set_option maxRecDepth 100000 in
theorem bitset_Subset.calls (a0 : Int) (a1 : Int) (r : Bool) (w : World) (h : bitset_Subset.f a0 a1 = some r) :
  Calls Try.prog 55 #[.int .u64 a0, .int .u64 a1] w fun e w' => e = .returned (.bool r) ∧ Drawn0 w w' := by
 have H : (some ((Go.bits .andNot .u64 a0 a1) == 0)) = some r := h
 clear h
 obtain rfl := Option.some.inj H
 go_enter Try.func55, Try.ntmps55
 go_wp2
 go_ret
 exact ⟨by first | rfl | (simp; done) | (simp [*]; done), by repeat (first | exact Drawn0.refl _ | apply Drawn0.step)⟩


/-! ### bitset_smallest: function 78 -/
def bitset_smallest.l0 : Nat → Int → List Int → Int → Int → Option (Bool)
 | 0, _, _, _, _ => none
 | k + 1, x1, x7, x8, x9 => if x9 < x8 then (if 0 ≤ x9 then (if x9 < (x7.length : Int) then (if (rd x7 x9) = x1 then (bitset_smallest.l0 k x1 x7 x8 (wrap64 (x9 + 1))) else ((bitset_Subset.f (rd x7 x9) x1).bind fun t131 => (if t131 = true then (some false) else (bitset_smallest.l0 k x1 x7 x8 (wrap64 (x9 + 1)))))) else (none)) else (none)) else (some true)
def bitset_smallest.f (k : Nat) (l0 : List Int) (a1 : Int) : Option (Bool) := bitset_smallest.l0 k a1 l0 (l0.length : Int) 0
theorem bitset_smallest.mono_l : ∀ k, (∀ y0 y1 y2 y3, LeO (bitset_smallest.l0 k y0 y1 y2 y3) (bitset_smallest.l0 (k + 1) y0 y1 y2 y3))
 | 0 => fun _ _ _ _ r h => by simp [bitset_smallest.l0] at h
 | k + 1 => by
  have ih0 := bitset_smallest.mono_l k
  ·
   intro y0 y1 y2 y3
   unfold bitset_smallest.l0
   repeat' first
   | (with_reducible exact ih0 _ _ _ _)
   | (with_reducible exact LeO.refl _)
   | (with_reducible exact LeO.none _)
   | (with_reducible refine LeO.ite ?_ ?_)
   | (with_reducible refine LeO.bind ?_ (fun _ => ?_))
   | exact ih0 _ _ _ _
   | exact LeO.none _
   | refine LeO.ite ?_ ?_
   | refine LeO.bind ?_ (fun _ => ?_)
theorem bitset_smallest.mono : ∀ a0 a1 k, LeO (bitset_smallest.f k a0 a1) (bitset_smallest.f (k + 1) a0 a1) := by
 intro a0 a1 k
 have ih0 := bitset_smallest.mono_l k
 unfold bitset_smallest.f
 repeat' first
   | (with_reducible exact ih0 _ _ _ _)
   | (with_reducible exact LeO.refl _)
   | (with_reducible exact LeO.none _)
   | (with_reducible refine LeO.ite ?_ ?_)
   | (with_reducible refine LeO.bind ?_ (fun _ => ?_))
   | exact ih0 _ _ _ _
   | exact LeO.none _
   | refine LeO.ite ?_ ?_
   | refine LeO.bind ?_ (fun _ => ?_)
set_option maxHeartbeats 8000000 in
set_option maxRecDepth 100000 in
theorem bitset_smallest.calls (k : Nat) (A0 : Option Addr) (c0 : Nat) (l0 : List Int) (a1 : Int) (r : Bool) (w : World) (hr0 : Kd.C (Kd.int .u64) w A0 l0.length l0) (hc0 : l0.length ≤ c0) (h : bitset_smallest.f k l0 a1 = some r) :
  Calls Try.prog 78 #[.slice A0 l0.length c0, .int .u64 a1] w fun e w' => e = .returned (.bool r) ∧ Drawn0 w w' := by
 have HR0 := Aside0.mk hr0
 have HC0 := Aside0.mk hc0
 clear hr0 hc0
 have H : (bitset_smallest.l0 k a1 l0 (l0.length : Int) 0) = some r := h
 clear h
 have H' := Aside0.mk H
 clear H
 go_enter Try.func78, Try.ntmps78
 go_wp2
 go_loopg [9] k (fun kq v9 w' => ∃ (x9_1 : Int), v9 = .int .i64 x9_1 ∧ Aside0 (bitset_smallest.l0 kq a1 l0 (l0.length : Int) x9_1 = some r) ∧ Aside0 (kq ≤ k) ∧ Drawn0 w w')
 case atStart => exact ⟨(0), (by first | rfl | (simp; done) | (simp [*]; done) | (simp [i64_w]; done)), H', ⟨Nat.le_refl _⟩, by repeat (first | exact Drawn0.refl _ | apply Drawn0.step)⟩
 case round =>
  clear H'
  try clear p2
  obtain ⟨x9_1, rfl, HA, HK1, ⟨m1, rfl⟩⟩ := hrel
  cases gk with
  | zero => exact absurd HA.out (by simp [bitset_smallest.l0])
  | succ k1 =>
   have H := HA.out
   clear HA
   simp only [bitset_smallest.l0] at H
   by_cases c3 : x9_1 < (l0.length : Int)
   ·
    rw [if_pos c3] at H
    have c3b0 : decide (x9_1 < (l0.length : Int)) = true := decide_eq_true c3
    clear c3
    by_cases c4 : 0 ≤ x9_1
    ·
     rw [if_pos c4] at H
     have c4b0 : decide (0 ≤ x9_1) = true := decide_eq_true c4
     clear c4
     by_cases c5 : x9_1 < (l0.length : Int)
     ·
      rw [if_pos c5] at H
      have c5b0 : decide (x9_1 < (l0.length : Int)) = true := decide_eq_true c5
      clear c5
      by_cases c6 : (rd l0 x9_1) = a1
      ·
       rw [if_pos c6] at H
       have c6b0 : ((rd l0 x9_1) == a1) = true := beq_iff_eq.mpr c6
       have c6b1 : ((rd l0 x9_1) != a1) = false := bne_eq_false_iff_eq.mpr c6
       clear c6
       have H' := Aside0.mk H
       clear H
       have p130 : 0 ≤ (x9_1 : Int) := of_decide_eq_true (by first | (with_reducible assumption) | assumption)
       have q130 : x9_1 < (l0.length : Int) := of_decide_eq_true (by first | (with_reducible assumption) | assumption)
       obtain ⟨ad130, e130, hx130_0⟩ := Kd.at_int HR0.out x9_1 p130 q130
       cases e130
       replace p130 := eq_true p130
       replace q130 := eq_true q130
       go_wp2
       go_roundg k1
       case measure => have := HK1.out; omega
       case rel => exact ⟨(wrap64 (x9_1 + 1)), (by first | rfl | (simp; done) | (simp [*]; done) | (simp [i64_w]; done)), H', ⟨by have := HK1.out; omega⟩, by repeat (first | exact Drawn0.refl _ | apply Drawn0.step)⟩
      ·
       rw [if_neg c6] at H
       have c6b0 : ((rd l0 x9_1) == a1) = false := beq_eq_false_iff_ne.mpr c6
       have c6b1 : ((rd l0 x9_1) != a1) = true := bne_iff_ne.mpr c6
       replace H := Option.bind_eq_some_iff.mp H
       obtain ⟨t131, A70, H⟩ := H
       replace H : (if t131 = true then (some false) else (bitset_smallest.l0 k1 a1 l0 (l0.length : Int) (wrap64 (x9_1 + 1)))) = some r := H
       have A7 := Aside0.mk A70
       clear A70
       by_cases c8 : t131 = true
       ·
        subst c8
        have H1 : (some false) = some r := by rw [if_pos rfl] at H; exact H
        clear H
        have H := H1
        clear H1
        obtain rfl := Option.some.inj H
        have p130 : 0 ≤ (x9_1 : Int) := of_decide_eq_true (by first | (with_reducible assumption) | assumption)
        have q130 : x9_1 < (l0.length : Int) := of_decide_eq_true (by first | (with_reducible assumption) | assumption)
        obtain ⟨ad130, e130, hx130_0⟩ := Kd.at_int HR0.out x9_1 p130 q130
        cases e130
        replace p130 := eq_true p130
        replace q130 := eq_true q130
        go_wp2_with (first | (go_at_call 55; (with_reducible refine (bitset_Subset.calls (rd l0 x9_1) a1 true _ A7.out).mono ?_); rintro e w' ⟨rfl, ⟨nd, rfl⟩⟩))
        go_ret
        exact ⟨by first | rfl | (simp; done) | (simp [*]; done), by repeat (first | exact Drawn0.refl _ | apply Drawn0.step)⟩
       ·
        replace c8 := Bool.eq_false_iff.mpr c8
        subst c8
        have H1 : (bitset_smallest.l0 k1 a1 l0 (l0.length : Int) (wrap64 (x9_1 + 1))) = some r := by rw [if_neg (show ¬ (false = true) by decide)] at H; exact H
        clear H
        have H := H1
        clear H1
        have H' := Aside0.mk H
        clear H
        have p130 : 0 ≤ (x9_1 : Int) := of_decide_eq_true (by first | (with_reducible assumption) | assumption)
        have q130 : x9_1 < (l0.length : Int) := of_decide_eq_true (by first | (with_reducible assumption) | assumption)
        obtain ⟨ad130, e130, hx130_0⟩ := Kd.at_int HR0.out x9_1 p130 q130
        cases e130
        replace p130 := eq_true p130
        replace q130 := eq_true q130
        go_wp2_with (first | (go_at_call 55; (with_reducible refine (bitset_Subset.calls (rd l0 x9_1) a1 false _ A7.out).mono ?_); rintro e w' ⟨rfl, ⟨nd, rfl⟩⟩))
        go_roundg k1
        case measure => have := HK1.out; omega
        case rel => exact ⟨(wrap64 (x9_1 + 1)), (by first | rfl | (simp; done) | (simp [*]; done) | (simp [i64_w]; done)), H', ⟨by have := HK1.out; omega⟩, by repeat (first | exact Drawn0.refl _ | apply Drawn0.step)⟩
     ·
      rw [if_neg c5] at H
      exact absurd H (by simp)
    ·
     rw [if_neg c4] at H
     exact absurd H (by simp)
   ·
    rw [if_neg c3] at H
    have c3b0 : decide (x9_1 < (l0.length : Int)) = false := decide_eq_false c3
    clear c3
    obtain rfl := Option.some.inj H
    go_wp2
    go_ret
    exact ⟨by first | rfl | (simp; done) | (simp [*]; done), by repeat (first | exact Drawn0.refl _ | apply Drawn0.step)⟩

-- NOT PRINTED: function 86 (bitset_elements_1)

-- NOT PRINTED: function 85 (bitset_elements)




section
-- STUBBED 84
/-! ### bitset_Len: function 84: by hand -/
open Go.Shelf Go.Proofs.Ytaphehdbjbogaaa.Iter
attribute [local go_sem] Oper.semAt_some

def bitset_Len.f (a0 : Int) : Option (Int) := some ((elemsTo a0 64).length : Int)

/-- Between two rounds: the count so far. -/
def LenI (w : World) (s : Int) (pre : List Nat) (W : World) : Prop :=
  (Boxed W w.heap.size 3 (.int .i64 (pre.length : Int)) ∧ Boxed W (w.heap.size + 1) 26 (.int .u64 s)) ∧ Below w.heap.size w W

set_option maxRecDepth 100000 in
set_option maxHeartbeats 4000000 in
theorem bitset_Len.in_ (F : Fence) (n : Nat) (h3 : F.fn 84) (h4 : F.fn 85) (h5 : F.fn 86) (hro : F.round = none) (hn : 3 ≤ n) (s : Int) (w : World) :
    CallsIn F n Try.prog 84 #[.int .u64 s] w fun e W' => e = .returned (.int .i64 ((elemsTo s 64).length : Int)) ∧ Below w.heap.size w W' := by
  have h1 : 1 ≤ n := by omega
  refine callsIn_of_wp_marks Try.func84 rfl h3 ?_ hro
  simp only [Try.ntmps84, List.size_toArray, List.length_cons, List.length_nil, Nat.reduceAdd, Nat.reduceSub, Array.replicate_succ, Array.replicate_zero, List.push_toArray, List.append_toArray, List.nil_append, List.cons_append]
  gi_wp2_with (gi_at_call 85; refine (elements_in F (n - 1) h4 hro _ _).mono ?_; rintro e w' ⟨rfl, rfl⟩)
  have bO := Boxed.new w 3 (.int .i64 0)
  have bN := Boxed.new (w.alloc (.cells #[.int .i64 0] 3)) 26 (.int .u64 s)
  rw [World.size_alloc] at bN
  have hB0 : Below w.heap.size w ((w.alloc (.cells #[.int .i64 0] 3)).alloc (.cells #[.int .u64 s] 26)) := ((Below.refl _ w).alloc (Nat.le_refl _) _).alloc (by simp) _
  refine wpIn_rangeFunc_ownG hro h1 (gf := 86) (lb := #[.pointer (some ⟨w.heap.size + 1, 0, none⟩)]) rfl h5 (enters_of Try.func86 (by kernel_rfl) rfl)
    (elements_stops F (n - 1) h5 hro (by omega) (w.heap.size + 1) w.heap.size s _ bN) kpBox_t (kpBox_b (by simp; omega)) (Below.refl _ _) (fun _ => rfl)
    (LenI w s)
    (fun _ _ _ => False)
    (OwnFrom.and (OwnFrom.and (Own.from (boxed_own _ _ (fun pre : List Nat => .int .i64 (pre.length : Int))) _) (Own.from (boxed_own _ _ _) _)) (ownFrom_below (Nat.le_refl _) (by simp; omega)))
    (fun _ _ _ _ _ hs _ _ => hs)
    ⟨⟨bO.alloc _, bN⟩, hB0⟩
    (fun x => { tmps := #[.int .u64 s, undef, .int .i64 0, .pointer (some ⟨w.heap.size, 0, none⟩), .int .u64 s, .func (.func 86) #[] #[.pointer (some ⟨w.heap.size + 1, 0, none⟩)], .int .i64 x, undef, undef, undef], defers := [] }) ?assign ?body ?done ?stop
  case assign =>
    intro l x W K hK
    gi_wp2
    simpa using hK
  case body =>
    rintro l pre x W ⟨⟨hv, hbx⟩, hB⟩ hlt
    have hc := hv.cell
    have hf := hv.frozen
    gi_wp2
    have e : ((pre ++ [x]).length : Int) = (pre.length : Int) + 1 := by simp
    exact ⟨KeepsFrom.of_grownBy (grownBy_setCell' W _ _) (fun j e => by cases e; simp; omega), ⟨(Below.refl w.heap.size W).setCell (p := ⟨w.heap.size, 0, none⟩) (Nat.le_refl _) _, fun _ => hbx.other (by simp) _⟩, ⟨by rw [e]; exact hv.set _, hbx.other (by simp) _⟩, hB.setCell (p := ⟨w.heap.size, 0, none⟩) (Nat.le_refl _) _⟩
  case done =>
    rintro D ys W hD rfl ⟨⟨hv, hbx⟩, hB⟩ hK
    have hc := hv.cell
    gi_wp2
    refine ⟨by simp, .inl ⟨_, _, rfl, run_takeDeferred hK, ?_⟩⟩
    exact ⟨_, results_tmp rfl _ _ _, rfl, hB.trans (belowK_b (w := w) (Nat.le_refl _) W D _ _ (by simp at hD; omega) hK rfl rfl)⟩
  case stop =>
    rintro D c pre W _ _ h _
    exact h.elim

theorem bitset_Len.calls (a0 : Int) (r : Int) (w : World) (h : bitset_Len.f a0 = some r) :
    Calls Try.prog 84 #[.int .u64 a0] w fun e w' => e = .returned (.int .i64 r) ∧ Below w.heap.size w w' := by
  obtain rfl := Option.some.inj h
  exact (callsIn_wide (n := 3)).1 (bitset_Len.in_ Fence.wide 3 trivial trivial trivial rfl (by omega) a0 w)


end



/-! ### bitset_before: function 79 -/
def bitset_before.f (a0 : Int) (a1 : Int) : Option (Bool) := (bitset_Len.f a0).bind fun t132 => ((bitset_Len.f a1).bind fun t133 => (if t132 = t133 then (some (decide (a0 < a1))) else (some (decide (t132 < t133)))))
set_option maxHeartbeats 8000000 in
set_option maxRecDepth 100000 in
theorem bitset_before.calls (a0 : Int) (a1 : Int) (r : Bool) (w : World) (h : bitset_before.f a0 a1 = some r) :
  Calls Try.prog 79 #[.int .u64 a0, .int .u64 a1] w fun e w' => e = .returned (.bool r) ∧ Below w.heap.size w w' := by
 have HB := Aside0.mk (Below.refl w.heap.size w)
 have H : ((bitset_Len.f a0).bind fun t132 => ((bitset_Len.f a1).bind fun t133 => (if t132 = t133 then (some (decide (a0 < a1))) else (some (decide (t132 < t133)))))) = some r := h
 clear h
 replace H := Option.bind_eq_some_iff.mp H
 obtain ⟨t132, A30, H⟩ := H
 replace H : ((bitset_Len.f a1).bind fun t133 => (if t132 = t133 then (some (decide (a0 < a1))) else (some (decide (t132 < t133))))) = some r := H
 have A3 := Aside0.mk A30
 clear A30
 replace H := Option.bind_eq_some_iff.mp H
 obtain ⟨t133, A40, H⟩ := H
 replace H : (if t132 = t133 then (some (decide (a0 < a1))) else (some (decide (t132 < t133)))) = some r := H
 have A4 := Aside0.mk A40
 clear A40
 by_cases c5 : t132 = t133
 ·
  rw [if_pos c5] at H
  have c5b0 : (t132 == t133) = true := beq_iff_eq.mpr c5
  have c5b1 : (t132 != t133) = false := bne_eq_false_iff_eq.mpr c5
  clear c5
  obtain rfl := Option.some.inj H
  go_enter Try.func79, Try.ntmps79
  go_wp2_with (first | ((with_reducible refine gate_callee (f := 84) rfl ?_); refine goesL_ (some 8) rfl rfl Try.func84 (by kernel_rfl) rfl #[.int .u64 a0] rfl (by (try simp only [List.map_toArray, List.map_cons, List.map_nil]); first | done | rfl | (simp only [List.length_drop, List.length_take]; rfl)) ?_; (with_reducible refine (bitset_Len.calls a0 t132 _ A3.out).mono ?_); rintro e w6 ⟨rfl, hb⟩; refine ⟨_, rfl, ?_⟩; have n0_ := Aside0.mk (below_step (by repeat (first | (with_reducible first | exact HB.out | apply below_alloc | apply pw_below_drewN | apply below_drew1) | exact HB.out)) hb); clear HB; have HB := n0_; clear n0_; (try clear hb); (try clear hb2); (try clear hk); (try clear hi)) | ((with_reducible refine gate_callee (f := 84) rfl ?_); refine goesL_ (some 10) rfl rfl Try.func84 (by kernel_rfl) rfl #[.int .u64 a1] rfl (by (try simp only [List.map_toArray, List.map_cons, List.map_nil]); first | done | rfl | (simp only [List.length_drop, List.length_take]; rfl)) ?_; (with_reducible refine (bitset_Len.calls a1 t133 _ A4.out).mono ?_); rintro e w7 ⟨rfl, hb⟩; refine ⟨_, rfl, ?_⟩; have n0_ := Aside0.mk (below_step (by repeat (first | (with_reducible first | exact HB.out | apply below_alloc | apply pw_below_drewN | apply below_drew1) | exact HB.out)) hb); clear HB; have HB := n0_; clear n0_; (try clear hb); (try clear hb2); (try clear hk); (try clear hi)))
  go_ret
  exact ⟨by first | rfl | (simp [errW_none, errW_some] <;> rfl) | (simp [*, errW_none, errW_some] <;> rfl), by repeat (first | (with_reducible first | exact HB.out | apply below_alloc | apply pw_below_drewN | apply below_drew1) | exact HB.out)⟩
 ·
  rw [if_neg c5] at H
  have c5b0 : (t132 == t133) = false := beq_eq_false_iff_ne.mpr c5
  have c5b1 : (t132 != t133) = true := bne_iff_ne.mpr c5
  obtain rfl := Option.some.inj H
  go_enter Try.func79, Try.ntmps79
  go_wp2_with (first | ((with_reducible refine gate_callee (f := 84) rfl ?_); refine goesL_ (some 8) rfl rfl Try.func84 (by kernel_rfl) rfl #[.int .u64 a0] rfl (by (try simp only [List.map_toArray, List.map_cons, List.map_nil]); first | done | rfl | (simp only [List.length_drop, List.length_take]; rfl)) ?_; (with_reducible refine (bitset_Len.calls a0 t132 _ A3.out).mono ?_); rintro e w8 ⟨rfl, hb⟩; refine ⟨_, rfl, ?_⟩; have n0_ := Aside0.mk (below_step (by repeat (first | (with_reducible first | exact HB.out | apply below_alloc | apply pw_below_drewN | apply below_drew1) | exact HB.out)) hb); clear HB; have HB := n0_; clear n0_; (try clear hb); (try clear hb2); (try clear hk); (try clear hi)) | ((with_reducible refine gate_callee (f := 84) rfl ?_); refine goesL_ (some 10) rfl rfl Try.func84 (by kernel_rfl) rfl #[.int .u64 a1] rfl (by (try simp only [List.map_toArray, List.map_cons, List.map_nil]); first | done | rfl | (simp only [List.length_drop, List.length_take]; rfl)) ?_; (with_reducible refine (bitset_Len.calls a1 t133 _ A4.out).mono ?_); rintro e w9 ⟨rfl, hb⟩; refine ⟨_, rfl, ?_⟩; have n0_ := Aside0.mk (below_step (by repeat (first | (with_reducible first | exact HB.out | apply below_alloc | apply pw_below_drewN | apply below_drew1) | exact HB.out)) hb); clear HB; have HB := n0_; clear n0_; (try clear hb); (try clear hb2); (try clear hk); (try clear hi)))
  go_ret
  exact ⟨by first | rfl | (simp [errW_none, errW_some] <;> rfl) | (simp [*, errW_none, errW_some] <;> rfl), by repeat (first | (with_reducible first | exact HB.out | apply below_alloc | apply pw_below_drewN | apply below_drew1) | exact HB.out)⟩




section
-- STUBBED 66
/-! ### bitset_Minimal: function 66: by hand -/
open Go.Proofs.Ytaphehdbjbogaaa.Iter

/-! ### what the three functions tell -/
def subB (a b : Int) : Bool := Go.bits .andNot .u64 a b == 0
def smallestB (l : List Int) (s : Int) : Bool := l.all fun t => t == s || !subB t s
def beforeB (a b : Int) : Bool := if ((elemsTo a 64).length : Int) = (elemsTo b 64).length then decide (a < b) else decide (((elemsTo a 64).length : Int) < (elemsTo b 64).length)
def posOf (out : List Int) (s : Int) : Nat := (out.takeWhile (beforeB · s)).length
def insL (out : List Int) (s : Int) : List Int := if out[posOf out s]? = some s then out else out.take (posOf out s) ++ s :: out.drop (posOf out s)
def stepL (l : List Int) (out : List Int) (s : Int) : List Int := if smallestB l s then insL out s else out
def minimalL (l : List Int) : List Int := l.foldl (stepL l) []
def bitset_Minimal.f (l0 : List Int) : Option (List Int) := if l0.length ≤ 1099511627776 then some (minimalL l0) else none

theorem before_f (a b : Int) : bitset_before.f a b = some (beforeB a b) := by
  simp only [bitset_before.f, bitset_Len.f, Option.bind_some, beforeB]
  split <;> rfl
theorem smallest_l0 (s : Int) (l : List Int) (hl : l.length ≤ 1099511627776) : ∀ (d k i : Nat), i ≤ l.length → l.length - i = d → d < k →
    bitset_smallest.l0 k s l (l.length : Int) (i : Int) = some ((l.drop i).all fun t => t == s || !subB t s) := by
  intro d
  induction d with
  | zero =>
    intro k i hi hd hk
    obtain ⟨k, rfl⟩ : ∃ m, k = m + 1 := ⟨k - 1, by omega⟩
    simp only [bitset_smallest.l0]
    rw [if_neg (by omega), List.drop_of_length_le (by omega)]
    rfl
  | succ d ih =>
    intro k i hi hd hk
    obtain ⟨k, rfl⟩ : ∃ m, k = m + 1 := ⟨k - 1, by omega⟩
    have hlt : i < l.length := by omega
    have hrd : rd l (i : Int) = l[i] := by simp [rd, hlt]
    have hw : wrap64 ((i : Int) + 1) = ((i + 1 : Nat) : Int) := by unfold wrap64; omega
    have hdr : l.drop i = l[i] :: l.drop (i + 1) := List.drop_eq_getElem_cons hlt
    simp only [bitset_smallest.l0]
    rw [if_pos (by omega), if_pos (by omega), if_pos (by omega), hw, hrd, ih k (i + 1) (by omega) (by omega) (by omega), hdr]
    simp only [bitset_Subset.f, Option.bind_some, List.all_cons]
    by_cases e : l[i] = s
    · rw [if_pos e]; simp [e]
    · rw [if_neg e]
      have e' : (l[i] == s) = false := by simpa using e
      rw [e']
      cases hb : (Go.bits .andNot .u64 l[i] s == 0) with
      | true => simp [subB, hb]
      | false => simp [subB, hb]
theorem smallest_f (l : List Int) (s : Int) (hl : l.length ≤ 1099511627776) : bitset_smallest.f (l.length + 1) l s = some (smallestB l s) := by
  have := smallest_l0 s l hl l.length (l.length + 1) 0 (by omega) (by omega) (by omega)
  simpa [bitset_smallest.f, smallestB] using this
theorem takeWhile_at {α : Type} (p : α → Bool) : ∀ (l : List α) (j : Nat), (∀ q, (h : q < l.length) → q < j → p l[q] = true) → j ≤ l.length → (∀ h : j < l.length, p l[j] = false) → (l.takeWhile p).length = j
  | [], j, _, h2, _ => by simp at h2; simp [h2]
  | x :: l, 0, _, _, h3 => by
    have := h3 (by simp)
    simp at this
    simp [this]
  | x :: l, j + 1, h1, h2, h3 => by
    have hx : p x = true := h1 0 (by simp) (by omega)
    rw [List.takeWhile_cons, if_pos hx, List.length_cons, takeWhile_at p l j (fun q hq hj => h1 (q + 1) (by simp; omega) (by omega)) (by simp at h2; omega) (fun h => h3 (by simp; omega))]
theorem insL_len (out : List Int) (s : Int) : (insL out s).length ≤ out.length + 1 := by
  unfold insL
  split
  · omega
  · simp; omega
theorem minimalTo_len (l : List Int) : ∀ (m : List Int) (out : List Int), (m.foldl (stepL l) out).length ≤ out.length + m.length
  | [], out => by simp
  | s :: m, out => by
    rw [List.foldl_cons]
    refine Nat.le_trans (minimalTo_len l m _) ?_
    have : (stepL l out s).length ≤ out.length + 1 := by
      unfold stepL
      split
      · exact insL_len out s
      · omega
    simp; omega

set_option maxHeartbeats 8000000 in
set_option maxRecDepth 100000 in
theorem bitset_Minimal.calls (A0 : Option Addr) (c0 : Nat) (l0 : List Int) (r : List Int) (w : World) (hr0 : Kd.C (Kd.int .u64) w A0 l0.length l0) (hc0 : l0.length ≤ c0) (h : bitset_Minimal.f l0 = some r) :
    Calls Try.prog 66 #[.slice A0 l0.length c0] w fun e w' => ∃ v0_ : Value, e = .returned (v0_) ∧ Kd.R (Kd.int .u64) 26 w' w.heap.size (fun _ => True) v0_ r ∧ Below w.heap.size w w' := by
  have HR0 := Aside0.mk hr0
  have HC0 := Aside0.mk hc0
  clear hr0 hc0
  have hle : l0.length ≤ 1099511627776 := by
    unfold bitset_Minimal.f at h
    split at h
    · assumption
    · cases h
  have HF : Aside0 (r = minimalL l0) := ⟨by
    unfold bitset_Minimal.f at h
    rw [if_pos hle] at h
    exact (Option.some.inj h).symm⟩
  clear h
  obtain ⟨i0, hi, hz0, hz1, hz2⟩ := info_parts info26
  have HI := Aside0.mk hi
  have HZ0 := Aside0.mk hz0
  have HZ1 := Aside0.mk hz1
  have HZ2 := Aside0.mk hz2
  clear hi hz0 hz1 hz2
  go_enter Try.func66, Try.ntmps66
  go_wp2
  go_loopw [3, 9] (fun v3 v9 wr => ∃ (k : Nat) (out : List Int), v9 = .int .i64 k ∧ k ≤ l0.length ∧ Aside0 (out = (l0.take k).foldl (stepL l0) []) ∧ Aside0 (Kd.R (Kd.int .u64) 26 wr w.heap.size (fun _ => True) v3 out) ∧ Aside0 (Below w.heap.size w wr)) (fun _ v9 _ => l0.length - (intOf v9).toNat)
  case atStart => exact ⟨0, [], rfl, Nat.zero_le _, ⟨rfl⟩, ⟨Kd.R_nil _ _ _ _ _⟩, ⟨Below.refl _ _⟩⟩
  case round =>
    obtain ⟨k, out, rfl, hk, HE, HO, HB⟩ := hrel
    obtain ⟨A1, c1, rfl, hle1, _⟩ := Kd.R_reads HO.out
    have holen : out.length ≤ k := by
      have := minimalTo_len l0 (l0.take k) []
      rw [← HE.out] at this
      simp at this
      omega
    by_cases hlt : k < l0.length
    · obtain ⟨ad, e1, hx⟩ := Kd.at_int HR0.out (k : Int) (by omega) (by omega)
      cases e1
      replace hx := (HB.out.cell (World.block_lt_of_cell? w _ hx)).trans hx
      rw [Int.toNat_natCast] at hx
      have hstep : Aside0 ((l0.take (k + 1)).foldl (stepL l0) [] = stepL l0 out (rd l0 (k : Int))) := ⟨by
        rw [HE.out, List.take_succ_eq_append_getElem hlt, List.foldl_append]
        simp [rd, hlt]⟩
      generalize rd l0 (k : Int) = s at hx hstep
      cases hs : smallestB l0 s with
      | false =>
        have HS := Aside0.mk (smallest_f l0 s hle)
        rw [hs] at HS
        have HN : Aside0 (stepL l0 out s = out) := ⟨by unfold stepL; rw [hs]; rfl⟩
        clear hs
        go_wp2_with (go_at_call 78; (with_reducible refine (bitset_smallest.calls (l0.length + 1) _ _ l0 s false _ (Kd.C_below HR0.out HB.out) HC0.out HS.out).mono ?_); rintro e w' ⟨rfl, ⟨nd, rfl⟩⟩)
        go_roundw
        case rel => exact ⟨k + 1, out, by go_num, by omega, ⟨by rw [hstep.out]; exact HN.out.symm⟩, ⟨Kd.R_drewN HO.out _⟩, ⟨pw_below_drewN HB.out _⟩⟩
        case measure => simp [intOf]; omega
      | true =>
        have HS := Aside0.mk (smallest_f l0 s hle)
        rw [hs] at HS
        have HN : Aside0 (stepL l0 out s = insL out s) := ⟨by unfold stepL; rw [hs]; rfl⟩
        clear hs
        go_wp2_with (go_at_call 78; (with_reducible refine (bitset_smallest.calls (l0.length + 1) _ _ l0 s true _ (Kd.C_below HR0.out HB.out) HC0.out HS.out).mono ?_); rintro e w' ⟨rfl, ⟨nd, rfl⟩⟩)
        have HO1 := Aside0.mk (Kd.R_drewN HO.out nd)
        have HB1 := Aside0.mk (pw_below_drewN HB.out nd)
        clear HO HB hx hle1
        obtain ⟨wo, hwo⟩ : ∃ wo : World, wo = wr.drewN nd := ⟨_, rfl⟩
        rw [← hwo] at HO1 HB1 ⊢
        clear hwo
        go_loopw [6] (fun v6 wi => ∃ j : Nat, v6 = .int .i64 j ∧ j ≤ out.length ∧ Aside0 (∀ q, (h : q < out.length) → q < j → beforeB out[q] s = true) ∧ Aside0 (Kd.R (Kd.int .u64) 26 wi w.heap.size (fun _ => True) (.slice A1 out.length c1) out) ∧ Aside0 (Below w.heap.size w wi)) (fun v6 _ => out.length - (intOf v6).toNat)
        case atStart => exact ⟨0, rfl, Nat.zero_le _, ⟨fun _ _ h => absurd h (Nat.not_lt_zero _)⟩, HO1, HB1⟩
        case round =>
          clear HO1 HB1
          obtain ⟨j, rfl, hj, HQ, HO, HB⟩ := hrel
          by_cases hjl : j < out.length
          · obtain ⟨ad2, e2, hx2⟩ := Kd.at_int (Kd.R_reads' HO.out).2.2 (j : Int) (by omega) (by omega)
            cases e2
            rw [Int.toNat_natCast] at hx2
            have hrd : rd out (j : Int) = out[j] := by simp [rd, hjl]
            rw [hrd] at hx2
            have HBF := Aside0.mk (before_f out[j] s)
            obtain ⟨x, hxo⟩ : ∃ x, x = out[j] := ⟨_, rfl⟩
            rw [← hxo] at hx2 HBF
            have HX := Aside0.mk hxo
            clear hxo hrd
            cases hb : beforeB x s with
            | true =>
              rw [hb] at HBF
              have HB2 := Aside0.mk hb
              clear hb
              go_wp2_with (go_at_call 79; (with_reducible refine (bitset_before.calls x s true _ HBF.out).mono ?_); rintro e w3 ⟨rfl, hbw⟩)
              go_roundw
              case rel => exact ⟨j + 1, by go_num, by omega, ⟨fun q hq hlt2 => by
                by_cases e : q = j
                · subst e; rw [← HX.out]; exact HB2.out
                · exact HQ.out q hq (by omega)⟩, ⟨Kd.R_below HO.out hbw⟩, ⟨below_step HB.out hbw⟩⟩
              case measure => simp [intOf]; omega
            | false =>
              rw [hb] at HBF
              have HP : Aside0 (posOf out s = j) := ⟨takeWhile_at _ out j (fun q hq hlt2 => HQ.out q hq hlt2) (by omega) (fun _ => by rw [← HX.out]; exact hb)⟩
              clear hb
              have hce : ∀ w3, Below wr.heap.size wr w3 → w3.cell? (ad2.add j) = some (.int .u64 x) := fun w3 hbw => (hbw.cell (World.block_lt_of_cell? wr _ hx2)).trans hx2
              have HCE := Aside0.mk hce
              clear hce
              by_cases hxs : x = s
              · have HIN : Aside0 (insL out s = out) := ⟨by unfold insL; rw [HP.out, List.getElem?_eq_getElem hjl, ← HX.out, hxs, if_pos rfl]⟩
                have hbeq : (x == s) = true := beq_iff_eq.mpr hxs
                have HXS := Aside0.mk hxs
                clear hxs
                go_wp2_with (go_at_call 79; (with_reducible refine (bitset_before.calls x s false _ HBF.out).mono ?_); rintro e w3 ⟨rfl, hbw⟩; have hx3 := HCE.out w3 hbw; have HBW := Aside0.mk hbw; clear hbw)
                go_roundw
                case rel => exact ⟨k + 1, out, by go_num, by omega, ⟨by rw [hstep.out, HN.out, HIN.out]⟩, ⟨Kd.R_below HO.out HBW.out⟩, ⟨below_step HB.out HBW.out⟩⟩
                case measure => simp [intOf]; omega
              · have HIN : Aside0 (insL out s = out.take j ++ s :: out.drop j) := ⟨by unfold insL; rw [HP.out, List.getElem?_eq_getElem hjl, ← HX.out, if_neg (fun e => hxs (Option.some.inj e))]⟩
                have hbeq : (x == s) = false := beq_eq_false_iff_ne.mpr hxs
                have HXS := Aside0.mk hxs
                clear hxs
                go_wp2_with (first | (go_at_call 79; (with_reducible refine (bitset_before.calls x s false _ HBF.out).mono ?_); rintro e w3 ⟨rfl, hbw⟩; have hx3 := HCE.out w3 hbw; have HBW := Aside0.mk hbw; clear hbw) | (at_builtin; go_loud (refine wpList_append_own _ rfl (.tmp 43) (.tmp 44) 48 rfl w.heap.size 26 i0 (.int .u64 0) 1 8 Try.underlying48 HI.out HZ0.out HZ1.out HZ2.out rfl (by decide) (.slice (some ad2) out.length c1) out.length _ rfl ((Kd.own_of_R (Kd.R_below HO.out HBW.out)).alloc _) ⟨w3.heap.size, 0, none⟩ 1 1 [.int .u64 0] rfl rfl (cell_one_new _ _ _) (by simp [Value.oneCell']) (by unfold maxLen; omega) (by omega) ?cB ?_); (case cB => have := HB.out.size; have := HBW.out.size; simp; omega); intro v' w4 hown' hgrow _; rcases hown'.2 with ⟨_, h0⟩ | ⟨g, cap, cur, rfl, hbg, hhg, hnc, hcm, hcs, htk⟩; (exact absurd h0 (Nat.succ_ne_zero _)); have HHG := Aside0.mk hhg; have HTK := Aside0.mk htk; have HCS := Aside0.mk hcs; clear hhg htk hcs hown'))
                have hB4 : Below w.heap.size w w4 := (below_alloc (below_step HB.out HBW.out) _).grown hgrow (by have := HB.out.size; have := HBW.out.size; simp; omega) (fun q e => own_base (Kd.own_of_R HO.out) q e)
                have HB4 := Aside0.mk hB4
                clear hB4 hgrow hx3
                have hcl : cur.toList.length = cap := by simpa using HCS.out
                have HCP := Aside0.mk (copy_cells (j := j) (n := out.length) (by simp [encs]) (show j ≤ out.length by omega) HTK.out HHG.out)
                have HL := Aside0.mk (show ((encs (Value.int .u64) out).drop j).length = Nat.min (out.length + 1 - j) (out.length - j) from (show ((encs (Value.int .u64) out).drop j).length = out.length - j by simp [encs]).trans (Nat.min_eq_right (by omega)).symm)
                have HFT := Aside0.mk (show j + 1 + ((encs (Value.int .u64) out).drop j).length ≤ cur.toList.length by rw [hcl]; simp [encs]; omega)
                have H1C := Aside0.mk (show ∀ v ∈ (encs (Value.int .u64) out).drop j, v.oneCell' = true from fun v hv => by
                  have := List.mem_of_mem_drop hv
                  simp only [encs, List.mem_map] at this
                  obtain ⟨z, _, rfl⟩ := this
                  rfl)
                have HS2 := Aside0.mk (show (Try.prog.info? 26).map (·.size) = some 1 by rw [HI.out]; simp [HZ1.out])
                have HHT := Aside0.mk (show w4.heap[g]? = some (.cells cur.toList.toArray 26 (0, 0)) by simpa using HHG.out)
                have hj1 : (0 : Int) ≤ (j : Int) + 1 := by omega
                have hj2 : (j : Int) + 1 ≤ (out.length : Int) + 1 := by omega
                have hj3 : (j : Int) ≤ (out.length : Int) + 1 := by omega
                have hc1 : ¬ cap = j + 1 := by omega
                have hc2 : ¬ cap = j := by omega
                have hjt : ((j : Int) + 1).toNat = j + 1 := by omega
                have hjw : IntKind.i64.wrap ((j : Int) + 1) = (j : Int) + 1 := IntWalk.i64_in _ (by omega)
                go_region_law ((with_reducible refine step_copy_splice rfl (.tmp 49) (.tmp 52) 48 48 rfl 26 Try.underlying48 HS2.out (some ⟨g, j + 1, none⟩) (some ⟨g, j, none⟩) (out.length - j) (cap - (j + 1)) (out.length + 1 - j) (cap - j) ?g4 ?g5 g (j + 1) cur.toList 26 ?g1 ((encs (Value.int .u64) out).drop j) HL.out ?g2 HFT.out H1C.out w.heap.size w ?g3 hbg ?_); (case g4 => go_simp); (case g5 => go_simp); (case g1 => exact HHT.out); (case g2 => exact (fun _ => ⟨rfl, ⟨g, j, none⟩, rfl, HCP.out⟩)); (case g3 => exact HB4.out.drew); intro w5 hg5 hb5)
                clear hjw hjt
                have hspl : j < (splice cur.toList (j + 1) ((encs (Value.int .u64) out).drop j)).length := by
                  have h9 : cur.size = cap := by simpa using hcl
                  unfold splice
                  simp [encs]; omega
                obtain ⟨⟨v5, hv5⟩, hf5⟩ := splice_cell hg5.out hspl
                have HG5 := Aside0.mk hg5.out
                have HB5 := Aside0.mk hb5
                clear hg5 hb5
                go_wp2
                go_roundw
                case rel =>
                  refine ⟨k + 1, out.take j ++ s :: out.drop j, by go_num, by omega, ⟨by rw [hstep.out, HN.out, HIN.out]⟩, ⟨Kd.R_of_own ?_ (fun _ _ => trivial)⟩, ⟨HB5.out.setCell (p := ⟨g, j, none⟩) hbg _⟩⟩
                  have hrow := insert_row (x := .int .u64 s) hbg (show (encs (Value.int .u64) out).length = out.length by simp [encs]) (show j ≤ out.length by omega) hnc hcm HCS.out HTK.out HG5.out
                  have e1 : encs (Value.int .u64) (out.take j ++ s :: out.drop j) = (encs (Value.int .u64) out).take j ++ .int .u64 s :: (encs (Value.int .u64) out).drop j := by simp [encs]
                  have e2 : (out.take j ++ s :: out.drop j).length = out.length + 1 := by simp; omega
                  rw [e1, e2]
                  first | exact hrow | (rw [hc1] at hrow; exact hrow)
                case measure => simp [intOf]; omega
          · have HP : Aside0 (posOf out s = j) := ⟨takeWhile_at _ out j (fun q hq hlt2 => HQ.out q hq hlt2) hj (fun h => absurd h hjl)⟩
            have HIN : Aside0 (insL out s = out.take j ++ s :: out.drop j) := ⟨by unfold insL; rw [HP.out, List.getElem?_eq_none (by omega), if_neg (by simp)]⟩
            have hjn : out.length ≤ j := by omega
            go_wp2_with (at_builtin; refine wpList_append_own _ rfl (.tmp 43) (.tmp 44) 48 rfl w.heap.size 26 i0 (.int .u64 0) 1 8 Try.underlying48 HI.out HZ0.out HZ1.out HZ2.out rfl (by decide) (.slice A1 out.length c1) out.length _ rfl ((Kd.own_of_R HO.out).alloc _) ⟨wr.heap.size, 0, none⟩ 1 1 [.int .u64 0] rfl rfl (cell_one_new _ _ _) (by simp [Value.oneCell']) (by unfold maxLen; omega) (by omega) ?cB ?_; (case cB => have := HB.out.size; simp; omega); intro v' w4 hown' hgrow _; rcases hown'.2 with ⟨_, h0⟩ | ⟨g, cap, cur, rfl, hbg, hhg, hnc, hcm, hcs, htk⟩; (exact absurd h0 (Nat.succ_ne_zero _)); have HHG := Aside0.mk hhg; have HTK := Aside0.mk htk; have HCS := Aside0.mk hcs; clear hhg htk hcs hown')
            have hB4 : Below w.heap.size w w4 := (below_alloc HB.out _).grown hgrow (by have := HB.out.size; simp; omega) (fun q e => own_base (Kd.own_of_R HO.out) q e)
            have HB4 := Aside0.mk hB4
            clear hB4 hgrow
            have hcl : cur.toList.length = cap := by simpa using HCS.out
            have HCP := Aside0.mk (copy_cells (j := j) (n := out.length) (by simp [encs]) (show j ≤ out.length by omega) HTK.out HHG.out)
            have HL := Aside0.mk (show ((encs (Value.int .u64) out).drop j).length = Nat.min (out.length + 1 - j) (out.length - j) from (show ((encs (Value.int .u64) out).drop j).length = out.length - j by simp [encs]).trans (Nat.min_eq_right (by omega)).symm)
            have HFT := Aside0.mk (show j + 1 + ((encs (Value.int .u64) out).drop j).length ≤ cur.toList.length by rw [hcl]; simp [encs]; omega)
            have H1C := Aside0.mk (show ∀ v ∈ (encs (Value.int .u64) out).drop j, v.oneCell' = true from fun v hv => by
              have := List.mem_of_mem_drop hv
              simp only [encs, List.mem_map] at this
              obtain ⟨z, _, rfl⟩ := this
              rfl)
            have HS2 := Aside0.mk (show (Try.prog.info? 26).map (·.size) = some 1 by rw [HI.out]; simp [HZ1.out])
            have HHT := Aside0.mk (show w4.heap[g]? = some (.cells cur.toList.toArray 26 (0, 0)) by simpa using HHG.out)
            have hj1 : (0 : Int) ≤ (j : Int) + 1 := by omega
            have hj2 : (j : Int) + 1 ≤ (out.length : Int) + 1 := by omega
            have hj3 : (j : Int) ≤ (out.length : Int) + 1 := by omega
            have hc2 : ¬ cap = j := by omega
            have hjt : ((j : Int) + 1).toNat = j + 1 := by omega
            have HE0 := Aside0.mk (show ((encs (Value.int .u64) out).drop j).length = 0 by simp [encs]; omega)
            by_cases hc1 : cap = j + 1
            · have hjw : IntKind.i64.wrap ((j : Int) + 1) = (j : Int) + 1 := IntWalk.i64_in _ (by omega)
              go_region_law ((with_reducible refine step_copy_splice rfl (.tmp 49) (.tmp 52) 48 48 rfl 26 Try.underlying48 HS2.out (some ⟨g, 0, none⟩) (some ⟨g, j, none⟩) (out.length - j) (cap - (j + 1)) (out.length + 1 - j) (cap - j) ?g4 ?g5 g (j + 1) cur.toList 26 ?g1 ((encs (Value.int .u64) out).drop j) HL.out ?g2 HFT.out H1C.out w.heap.size w ?g3 hbg ?_); (case g4 => go_simp); (case g5 => go_simp); (case g1 => exact HHT.out); (case g2 => exact (fun h_ => absurd h_ (by have h7 : ((encs (Value.int .u64) out).drop j).length = 0 := HE0.out; rw [h7]; omega))); (case g3 => exact HB4.out.drew); intro w5 hg5 hb5)
              clear hjw hjt
              have hspl : j < (splice cur.toList (j + 1) ((encs (Value.int .u64) out).drop j)).length := by
                have h9 : cur.size = cap := by simpa using hcl
                unfold splice
                simp [encs]; omega
              obtain ⟨⟨v5, hv5⟩, hf5⟩ := splice_cell hg5.out hspl
              have HG5 := Aside0.mk hg5.out
              have HB5 := Aside0.mk hb5
              clear hg5 hb5
              go_wp2
              go_roundw
              case rel =>
                refine ⟨k + 1, out.take j ++ s :: out.drop j, by go_num, by omega, ⟨by rw [hstep.out, HN.out, HIN.out]⟩, ⟨Kd.R_of_own ?_ (fun _ _ => trivial)⟩, ⟨HB5.out.setCell (p := ⟨g, j, none⟩) hbg _⟩⟩
                have hrow := insert_row (x := .int .u64 s) hbg (show (encs (Value.int .u64) out).length = out.length by simp [encs]) (show j ≤ out.length by omega) hnc hcm HCS.out HTK.out HG5.out
                have e1 : encs (Value.int .u64) (out.take j ++ s :: out.drop j) = (encs (Value.int .u64) out).take j ++ .int .u64 s :: (encs (Value.int .u64) out).drop j := by simp [encs]
                have e2 : (out.take j ++ s :: out.drop j).length = out.length + 1 := by simp; omega
                rw [e1, e2]
                first | exact hrow | (rw [hc1] at hrow; exact hrow)
              case measure => simp [intOf]; omega
            · have hjw : IntKind.i64.wrap ((j : Int) + 1) = (j : Int) + 1 := IntWalk.i64_in _ (by omega)
              go_region_law ((with_reducible refine step_copy_splice rfl (.tmp 49) (.tmp 52) 48 48 rfl 26 Try.underlying48 HS2.out (some ⟨g, j + 1, none⟩) (some ⟨g, j, none⟩) (out.length - j) (cap - (j + 1)) (out.length + 1 - j) (cap - j) ?g4 ?g5 g (j + 1) cur.toList 26 ?g1 ((encs (Value.int .u64) out).drop j) HL.out ?g2 HFT.out H1C.out w.heap.size w ?g3 hbg ?_); (case g4 => go_simp); (case g5 => go_simp); (case g1 => exact HHT.out); (case g2 => exact (fun _ => ⟨rfl, ⟨g, j, none⟩, rfl, HCP.out⟩)); (case g3 => exact HB4.out.drew); intro w5 hg5 hb5)
              clear hjw hjt
              have hspl : j < (splice cur.toList (j + 1) ((encs (Value.int .u64) out).drop j)).length := by
                have h9 : cur.size = cap := by simpa using hcl
                unfold splice
                simp [encs]; omega
              obtain ⟨⟨v5, hv5⟩, hf5⟩ := splice_cell hg5.out hspl
              have HG5 := Aside0.mk hg5.out
              have HB5 := Aside0.mk hb5
              clear hg5 hb5
              go_wp2
              go_roundw
              case rel =>
                refine ⟨k + 1, out.take j ++ s :: out.drop j, by go_num, by omega, ⟨by rw [hstep.out, HN.out, HIN.out]⟩, ⟨Kd.R_of_own ?_ (fun _ _ => trivial)⟩, ⟨HB5.out.setCell (p := ⟨g, j, none⟩) hbg _⟩⟩
                have hrow := insert_row (x := .int .u64 s) hbg (show (encs (Value.int .u64) out).length = out.length by simp [encs]) (show j ≤ out.length by omega) hnc hcm HCS.out HTK.out HG5.out
                have e1 : encs (Value.int .u64) (out.take j ++ s :: out.drop j) = (encs (Value.int .u64) out).take j ++ .int .u64 s :: (encs (Value.int .u64) out).drop j := by simp [encs]
                have e2 : (out.take j ++ s :: out.drop j).length = out.length + 1 := by simp; omega
                rw [e1, e2]
                first | exact hrow | (rw [hc1] at hrow; exact hrow)
              case measure => simp [intOf]; omega
    · obtain rfl : k = l0.length := by omega
      go_wp2
      go_ret
      exact ⟨_, rfl, by rw [HF.out]; unfold minimalL; have := HE.out; rw [List.take_length] at this; rw [← this]; exact HO.out, HB.out⟩


end



section
-- STUBBED 51
/-! ### siphon_minimal: function 51: by hand -/
open Go.Shelf Go.Proofs.Ytaphehdbjbogaaa.Iter Go.Proofs.Ytaphehdbjbogaaa.Bits
attribute [local go_sem] Oper.semAt_some Instr.field asAgg

/-! ### the subsets of the first k numbers, k at most 12 -/
theorem all_small (k : Nat) (hk : k ≤ 12) : bitset_All.f 70 (k : Int) = some (((2 ^ k - 1 : Nat) : Int)) := by
  have h : ∀ k : Fin 13, bitset_All.f 70 (k.val : Int) = some (((2 ^ k.val - 1 : Nat) : Int)) := by decide +kernel
  exact h ⟨k, by omega⟩
theorem next_small (k : Nat) (hk : k ≤ 12) (i : Nat) (hi : i < 2 ^ k) : bitset_Next.f (i : Int) (((2 ^ k - 1 : Nat) : Int)) = some (if i + 1 = 2 ^ k then (0, false) else (((i + 1 : Nat) : Int), true)) := by
  have hp : 2 ^ k ≤ 4096 := Nat.pow_le_pow_right (by decide) hk
  have h64 : ∀ x : Nat, x ≤ 4096 → (x : Int) = U (BitVec.ofNat 64 x) := fun x hx => by unfold U; rw [BitVec.toNat_ofNat]; omega
  have hdiv : ∃ q, 18446744073709551616 = 2 ^ k * q := ⟨2 ^ (64 - k), by rw [← Nat.pow_add, show k + (64 - k) = 64 by omega]⟩
  have hn : BitVec.ofNat 64 i &&& ~~~ BitVec.ofNat 64 (2 ^ k - 1) = 0#64 := by
    apply ext_bit
    intro j hj
    rw [BitVec.getLsbD_and, BitVec.getLsbD_not, BitVec.getLsbD_ofNat, BitVec.getLsbD_ofNat, Nat.testBit_two_pow_sub_one]
    by_cases hjk : j < k
    · simp [hjk, hj]
    · have : i.testBit j = false := Nat.testBit_lt_two_pow (Nat.lt_of_lt_of_le hi (Nat.pow_le_pow_right (by decide) (by omega)))
      simp [this]
  have ha : (BitVec.ofNat 64 i - BitVec.ofNat 64 (2 ^ k - 1)) &&& BitVec.ofNat 64 (2 ^ k - 1) = BitVec.ofNat 64 ((i + 1) % 2 ^ k) := by
    apply BitVec.eq_of_toNat_eq
    rw [BitVec.toNat_and, BitVec.toNat_sub, BitVec.toNat_ofNat, BitVec.toNat_ofNat, BitVec.toNat_ofNat, Nat.mod_eq_of_lt (show 2 ^ k - 1 < 2 ^ 64 by omega), Nat.mod_eq_of_lt (show i < 2 ^ 64 by omega), Nat.and_two_pow_sub_one_eq_mod]
    have hm : (i + 1) % 2 ^ k < 2 ^ k := Nat.mod_lt _ (by omega)
    rw [Nat.mod_eq_of_lt (show (i + 1) % 2 ^ k < 2 ^ 64 by omega)]
    obtain ⟨p, hpe⟩ : ∃ p, p = 2 ^ k := ⟨_, rfl⟩
    rw [← hpe] at hdiv hm hi hp ⊢
    obtain ⟨q, hq⟩ := hdiv
    rw [Nat.mod_mod_of_dvd _ (show p ∣ 2 ^ 64 from ⟨q, hq⟩)]
    have e : 2 ^ 64 - (p - 1) + i = i + 1 + p * (q - 1) := by
      rw [Nat.mul_sub]; omega
    rw [e, Nat.add_mul_mod_self_left]
  unfold bitset_Next.f
  rw [h64 i (by omega), h64 (2 ^ k - 1) (by omega), bits_andNot, hn, wrap_sub, bits_and, ha]
  rw [if_pos (show U 0#64 = 0 from rfl)]
  by_cases e : i + 1 = 2 ^ k
  · rw [if_pos e, if_pos (by rw [show i = 2 ^ k - 1 by omega])]
  · rw [if_neg e, if_neg (by rw [← h64 i (by omega), ← h64 (2 ^ k - 1) (by omega)]; omega), Nat.mod_eq_of_lt (by omega), ← h64 (i + 1) (by omega)]

def isTrue : Value → Bool
  | .bool b => b
  | _ => false
set_option maxHeartbeats 1000000 in
theorem subsets_in (F : Fence) (n : Nat) (hf : F.fn 65) (hro : F.round = none) (k : Int) (w : World) :
    CallsIn F n Try.prog 65 #[.int .i64 k] w fun e w' => e = .returned (.func (.func 76) #[] #[.pointer (some ⟨w.heap.size, 0, none⟩)]) ∧ w' = w.alloc (.cells #[.int .i64 k] 3) := by
  refine callsIn_of_wp Try.func65 rfl hf ?_ hro
  simp only [Try.ntmps65, List.size_toArray, List.length_cons, List.length_nil, Nat.reduceAdd, Nat.reduceSub, Array.replicate_succ, Array.replicate_zero, List.push_toArray, List.append_toArray, List.nil_append, List.cons_append]
  gi_wp2
  go_ret
  exact ⟨rfl, rfl⟩

set_option maxRecDepth 100000 in
set_option maxHeartbeats 4000000 in
/-- The closure: the numbers from 1 below 2 ^ k, in order, for every loop body that keeps the box of k. -/
theorem subsets1_in (n : Nat) (hn : 1 ≤ n) (l B n₀ k : Nat) (hk : k ≤ 12) (J Jx : List Nat → World → Prop) (hJ : ∀ (pre : List Nat) (W : World) (q : Nat), J pre W → J pre (W.drewN q))
    (hY : ∀ (pre : List Nat) (x : Nat) (W : World), x < 2 ^ k - 1 → J pre W → pre.length < 2 ^ k - 1 → YieldAt Fence.wide (n - 1) Try.prog l #[.int .u64 ((x + 1 : Nat) : Int)] W fun e W' =>
      (e = .returned (.bool true) ∧ J (pre ++ [x]) W' ∧ KpBox n₀ B 3 (.int .i64 (k : Int)) W W') ∨ (e = .returned (.bool false) ∧ Jx (pre ++ [x]) W'))
    (W : World) (hb : Boxed W B 3 (.int .i64 (k : Int))) (h0 : J [] W) :
    CallsIn Fence.wide n Try.prog 76 #[.func (.yield l) #[] #[], .pointer (some ⟨B, 0, none⟩)] W fun e W' => (∃ v, e = .returned v) ∧
      ((∃ ys, ys = List.range (2 ^ k - 1) ∧ J ys W') ∨ (∃ pre, (∃ j, j < 2 ^ k - 1 ∧ pre = List.range (j + 1)) ∧ Jx pre W')) := by
  obtain ⟨p, hp⟩ : ∃ p, p = 2 ^ k := ⟨_, rfl⟩
  have HALL := Aside0.mk (all_small k hk)
  have HNX := Aside0.mk (next_small k hk)
  have hp1 : 1 ≤ p := by rw [hp]; exact Nat.one_le_two_pow
  rw [← hp] at HALL HNX hY ⊢
  clear hp
  refine callsIn_of_wp Try.func76 rfl trivial ?_ rfl
  simp only [Try.ntmps76, List.size_toArray, List.length_cons, List.length_nil, Nat.reduceAdd, Nat.reduceSub, Array.replicate_succ, Array.replicate_zero, List.push_toArray, List.append_toArray, List.nil_append, List.cons_append]
  have HBX0 := Aside0.mk hb
  have hbc := hb.cell
  have HN := Aside0.mk (HNX.out 0 (by omega))
  have hstart : (if 0 + 1 = p then ((0 : Int), false) else (((0 + 1 : Nat) : Int), true)) = (if 1 = p then 0 else 1, decide (1 ≠ p)) := by
    by_cases e : 1 = p
    · rw [if_pos e, if_pos e]; simp [e]
    · rw [if_neg e, if_neg e]; simp [e]
  rw [hstart] at HN
  clear hstart
  obtain ⟨s0, hs0⟩ : ∃ s0 : Int, (if 1 = p then 0 else 1) = s0 := ⟨_, rfl⟩
  obtain ⟨b0, hb0⟩ : ∃ b0, decide (1 ≠ p) = b0 := ⟨_, rfl⟩
  rw [hs0, hb0] at HN
  have HN' := Aside0.mk (show bitset_Next.f 0 (((p - 1 : Nat) : Int)) = some (s0, b0) from HN.out)
  clear HN
  have HN := HN'
  clear HN'
  have HS0 := Aside0.mk hs0
  have HB0 := Aside0.mk hb0
  clear hs0 hb0
  gi_wp2_with (first | (refine ⟨trivial, ?_⟩; gi_at_call 56; refine (callsIn_wide.2 (bitset_All.calls 70 (k : Int) _ _ HALL.out)).mono ?_; rintro e w' ⟨rfl, ⟨nd, rfl⟩⟩) | (refine ⟨trivial, ?_⟩; gi_at_call 77; refine (callsIn_wide.2 (bitset_Next.calls _ _ _ _ _ HN.out)).mono ?_; rintro e w' ⟨rfl, ⟨nd2, rfl⟩⟩))
  clear hbc HN
  gi_loopw [4, 5] (fun v4 v5 wr => ∃ (i : Nat) (s : Int) (b : Bool), i + 1 ≤ p ∧ v4 = .int .u64 s ∧ v5 = .bool b ∧ Aside0 (b = true → s = ((i + 1 : Nat) : Int) ∧ i + 1 < p) ∧ Aside0 (b = false → i + 1 = p) ∧ J (List.range i) wr ∧ Aside0 (Boxed wr B 3 (.int .i64 (k : Int))))
    (fun v4 v5 _ => if isTrue v5 then p - (intOf v4).toNat else 0)
  case atStart =>
    refine ⟨0, s0, b0, by omega, rfl, rfl, ⟨fun h => ?_⟩, ⟨fun h => ?_⟩, by (first | exact hJ _ _ _ h0 | exact hJ _ _ _ (hJ _ _ _ h0)), ⟨HBX0.out⟩⟩
    · have := HB0.out; rw [h] at this; have h1 : 1 ≠ p := of_decide_eq_true this; have h2 := HS0.out; rw [if_neg h1] at h2; exact ⟨by rw [← h2]; rfl, by omega⟩
    · have := HB0.out; rw [h] at this; have h1 : ¬ 1 ≠ p := of_decide_eq_false this; omega
  case round =>
    obtain ⟨i, s, b, hi, rfl, rfl, HT, HF, hJs, HBX⟩ := hrel
    cases b with
    | true =>
      obtain ⟨hs, hlt⟩ := HT.out rfl
      have HN := Aside0.mk (HNX.out (i + 1) hlt)
      obtain ⟨fn, tmps, assign, body, hy, hR⟩ := hY _ i wr (by omega) hJs (by rw [List.length_range]; omega)
      rw [← hs] at HN hy
      have hsp : s.toNat < p := by omega
      have HSI := Aside0.mk hs
      clear HT HF HNX hs
      gi_wp2
      refine hR.mono ?_
      rintro e W3 (⟨rfl, hJ3, hk3⟩ | ⟨rfl, hJx3⟩)
      · have HB3 := Aside0.mk (hk3.2 HBX.out)
        clear hk3 hR hy
        by_cases hend : i + 1 + 1 = p
        · rw [if_pos hend] at HN
          gi_wp2_with (first | (refine ⟨trivial, ?_⟩; gi_at_call 56; refine (callsIn_wide.2 (bitset_All.calls 70 (k : Int) _ _ HALL.out)).mono ?_; rintro e w' ⟨rfl, ⟨nd, rfl⟩⟩) | (refine ⟨trivial, ?_⟩; gi_at_call 77; refine (callsIn_wide.2 (bitset_Next.calls _ _ _ _ _ HN.out)).mono ?_; rintro e w' ⟨rfl, ⟨nd2, rfl⟩⟩))
          go_roundw
          case rel => exact ⟨i + 1, 0, false, by omega, rfl, rfl, ⟨fun h => by cases h⟩, ⟨fun _ => hend⟩, by rw [List.range_succ]; exact hJ _ _ _ hJ3, ⟨HB3.out⟩⟩
          case measure => have := HSI.out; simp [intOf, isTrue]; omega
        · rw [if_neg hend] at HN
          gi_wp2_with (first | (refine ⟨trivial, ?_⟩; gi_at_call 56; refine (callsIn_wide.2 (bitset_All.calls 70 (k : Int) _ _ HALL.out)).mono ?_; rintro e w' ⟨rfl, ⟨nd, rfl⟩⟩) | (refine ⟨trivial, ?_⟩; gi_at_call 77; refine (callsIn_wide.2 (bitset_Next.calls _ _ _ _ _ HN.out)).mono ?_; rintro e w' ⟨rfl, ⟨nd2, rfl⟩⟩))
          go_roundw
          case rel => exact ⟨i + 1, _, true, by omega, rfl, rfl, ⟨fun _ => ⟨by first | rfl | omega, by omega⟩⟩, ⟨fun h => by cases h⟩, by rw [List.range_succ]; exact hJ _ _ _ hJ3, ⟨HB3.out⟩⟩
          case measure => have := HSI.out; simp [intOf, isTrue]; omega
      · gi_wp2
        refine bodyPost_ret (results_none rfl _ _ _) rfl ?_
        exact ⟨⟨_, rfl⟩, .inr ⟨_, ⟨i, by omega, by rw [List.range_succ]⟩, hJx3⟩⟩
    | false =>
      have hip := HF.out rfl
      have e1 : p - 1 = i := by omega
      gi_wp2
      go_end0
      first | exact ⟨⟨_, rfl⟩, .inl hJs⟩ | (rw [e1]; first | exact ⟨⟨_, rfl⟩, .inl ⟨_, rfl, hJs⟩⟩ | exact ⟨⟨_, rfl⟩, .inl hJs⟩)
/-- A number below P. -/
structure Small (P : Nat) : Type where
  val : Nat
  lt : val < P
theorem subsets_stopsB (n : Nat) (hn : 1 ≤ n) (B n₀ k : Nat) (hk : k ≤ 12) (w : World) (hb : Boxed w B 3 (.int .i64 (k : Int))) :
    SeqStopsK Fence.wide n Try.prog 76 #[.pointer (some ⟨B, 0, none⟩)] (fun x : Small (2 ^ k - 1) => #[Value.int .u64 ((x.val + 1 : Nat) : Int)]) (KpBox n₀ B 3 (.int .i64 (k : Int))) (fun ys => ys.map Small.val = List.range (2 ^ k - 1)) (fun pre => ∃ j, j < 2 ^ k - 1 ∧ pre.map Small.val = List.range (j + 1)) (2 ^ k - 1) w := fun l J Jx W hW hJ _ hY h0 => by
  refine (subsets1_in n hn l B n₀ k hk (fun pre V => ∃ pre' : List (Small (2 ^ k - 1)), pre'.map Small.val = pre ∧ J pre' V) (fun pre V => ∃ pre' : List (Small (2 ^ k - 1)), pre'.map Small.val = pre ∧ Jx pre' V) ?_ ?_ W ((hW.block B hb.lt).trans hb) ⟨[], rfl, h0⟩).mono ?_
  · rintro pre V q ⟨pre', he, hv⟩
    exact ⟨pre', he, hJ pre' V _ none hv ⟨rfl, rfl, rfl, Nat.le_refl _, fun _ _ _ => rfl⟩ (fun r e => by cases e)⟩
  · rintro pre x V hx ⟨pre', rfl, hv⟩ hlt
    obtain ⟨fn, tmps, assign, body, hy, hR⟩ := hY pre' ⟨x, hx⟩ V hv (by rw [List.length_map] at hlt; exact hlt)
    refine ⟨fn, tmps, assign, body, hy, hR.mono ?_⟩
    rintro e V' (⟨he, hj, hk⟩ | ⟨he, hj⟩)
    · exact .inl ⟨he, ⟨_, by simp, hj⟩, hk⟩
    · exact .inr ⟨he, _, by simp, hj⟩
  · rintro e V ⟨hv, h⟩
    refine ⟨hv, ?_⟩
    rcases h with ⟨ys, hys, pre', he, hj⟩ | ⟨pre, hk, pre', he, hj⟩
    · exact .inl ⟨pre', he.trans hys, hj⟩
    · obtain ⟨j, h1, h2⟩ := hk
      exact .inr ⟨pre', ⟨j, h1, he.trans h2⟩, hj⟩

/-! ### minimal -/
def isS (k : Nat) (a0 : ByteArray) (l1 : List S56) (l2 : List S40) (tr : Bool) (x : Nat) : Bool := (siphon_holds.f k a0 l1 l2 ((x + 1 : Nat) : Int) tr).getD false
def sipOk (k : Nat) (a0 : ByteArray) (l1 : List S56) (l2 : List S40) (tr : Bool) : Bool := (List.range (2 ^ l1.length - 1)).all fun x => (siphon_holds.f k a0 l1 l2 ((x + 1 : Nat) : Int) tr).isSome
def succI (x : Nat) : Int := ((x + 1 : Nat) : Int)
def sipRaw (k : Nat) (a0 : ByteArray) (l1 : List S56) (l2 : List S40) (tr : Bool) : List Int := ((List.range (2 ^ l1.length - 1)).filter (isS k a0 l1 l2 tr)).map succI
def siphon_minimal.f (k : Nat) (a0_0 : ByteArray) (l0_1 : List S56) (l0_2 : List S40) (a1 : Bool) : Option (List Int × Int) := (net_Check.f k a0_0 l0_1 l0_2).bind fun t => if t.1 = 0 then (if l0_1.length > 12 then some ([], 2) else if sipOk k a0_0 l0_1 l0_2 a1 = true then some (minimalL (sipRaw k a0_0 l0_1 l0_2 a1), 0) else none) else some ([], t.1)
theorem isSome_up {k : Nat} {a0 : ByteArray} {l1 : List S56} {l2 : List S40} {x : Int} {tr : Bool} (h : (siphon_holds.f k a0 l1 l2 x tr).isSome = true) : siphon_holds.f (k + 1) a0 l1 l2 x tr = siphon_holds.f k a0 l1 l2 x tr := by
  obtain ⟨b, hb⟩ := Option.isSome_iff_exists.1 h
  rw [hb]; exact siphon_holds.mono _ _ _ _ _ k b hb
theorem siphon_minimal.mono (a0 : ByteArray) (a1 : List S56) (a2 : List S40) (a3 : Bool) (k : Nat) : LeO (siphon_minimal.f k a0 a1 a2 a3) (siphon_minimal.f (k + 1) a0 a1 a2 a3) := by
  unfold siphon_minimal.f
  refine LeO.bind (net_Check.mono _ _ _ _) fun t => ?_
  split
  · split
    · exact LeO.refl _
    · intro r h
      split at h
      · rename_i hok
        have hall : ∀ x : Nat, x < 2 ^ a1.length - 1 → siphon_holds.f (k + 1) a0 a1 a2 ((x + 1 : Nat) : Int) a3 = siphon_holds.f k a0 a1 a2 ((x + 1 : Nat) : Int) a3 := fun x hx => isSome_up (List.all_eq_true.1 hok x (List.mem_range.2 hx))
        have h1 : sipOk (k + 1) a0 a1 a2 a3 = true := List.all_eq_true.2 fun x hx => by rw [hall x (List.mem_range.1 hx)]; exact List.all_eq_true.1 hok x hx
        have h2 : (List.range (2 ^ a1.length - 1)).filter (isS (k + 1) a0 a1 a2 a3) = (List.range (2 ^ a1.length - 1)).filter (isS k a0 a1 a2 a3) := List.filter_congr fun x hx => by unfold isS; rw [hall x (List.mem_range.1 hx)]
        rw [if_pos h1, ← h]
        unfold sipRaw
        rw [h2]
      · cases h
  · exact LeO.refl _

section
variable (k : Nat) (a0 : ByteArray) (l1 : List S56) (l2 : List S40) (tr : Bool)
/-- The sets so far. -/
def sofarS (pre : List (Small (2 ^ l1.length - 1))) : List Int := ((pre.map Small.val).filter (isS k a0 l1 l2 tr)).map succI
/-- Between two rounds. -/
def MinI (w : World) (n1 : Nat) (ag : List Value) (pre : List (Small (2 ^ l1.length - 1))) (W : World) : Prop :=
  ((∃ v, Boxed W n1 48 v ∧ Kd.R (Kd.int .u64) 26 W (n1 + 2) (fun _ => True) v (sofarS k a0 l1 l2 tr pre)) ∧
  Boxed W (n1 + 1) 3 (.int .i64 (l1.length : Int)) ∧ Blk W w.heap.size 25 ag ∧ Boxed W (w.heap.size + 1) 4 (.bool tr)) ∧ Below w.heap.size w W
theorem minI_own (w : World) (n1 : Nat) (ag : List Value) (B : Nat) (hB : w.heap.size ≤ B) : OwnFrom B (MinI k a0 l1 l2 tr w n1 ag) :=
  OwnFrom.and (Own.from (Own.and' (Own.ex fun v => Own.and' (boxed_own _ _ fun _ => v) (R_own (d := fun _ => Kd.int .u64) _ _ (fun _ _ => True) (fun _ => v) (sofarS k a0 l1 l2 tr)))
    (Own.and' (boxed_own _ _ fun _ => _) (Own.and' (blk_own _ _ fun _ => _) (boxed_own _ _ fun _ => _)))) _) (ownFrom_below (Nat.le_refl _) hB)
theorem sofarS_yes {pre : List (Small (2 ^ l1.length - 1))} {x : Small (2 ^ l1.length - 1)} (h : isS k a0 l1 l2 tr x.val = true) : sofarS k a0 l1 l2 tr (pre ++ [x]) = sofarS k a0 l1 l2 tr pre ++ [succI x.val] := by simp [sofarS, h]
theorem sofarS_no {pre : List (Small (2 ^ l1.length - 1))} {x : Small (2 ^ l1.length - 1)} (h : isS k a0 l1 l2 tr x.val = false) : sofarS k a0 l1 l2 tr (pre ++ [x]) = sofarS k a0 l1 l2 tr pre := by simp [sofarS, h]
theorem sofarS_len (pre : List (Small (2 ^ l1.length - 1))) : (sofarS k a0 l1 l2 tr pre).length ≤ pre.length := by
  unfold sofarS
  rw [List.length_map]
  exact Nat.le_trans (List.length_filter_le _ _) (by rw [List.length_map]; exact Nat.le_refl _)
end
theorem after_nt {w w1 : World} {cs : List Value} {t t' : TypeId} {v : Value} (hb : Below (w.heap.size + 1 + 1) ((w.alloc (.cells cs.toArray t)).alloc (.cells #[v] t')) w1) :
    Blk w1 w.heap.size t cs ∧ Boxed w1 (w.heap.size + 1) t' v ∧ Below w.heap.size w w1 ∧ w.heap.size + 1 + 1 ≤ w1.heap.size := by
  have x1 : Blk (w.alloc (.cells cs.toArray t)) w.heap.size t cs := World.alloc_heap_new w (.cells cs.toArray t)
  have x2 := Boxed.new (w.alloc (.cells cs.toArray t)) t' v
  rw [World.size_alloc] at x2
  have hsz : ((w.alloc (.cells cs.toArray t)).alloc (.cells #[v] t')).heap.size = w.heap.size + 1 + 1 := by simp
  refine ⟨(hb.block _ (by omega)).trans (blk_alloc x1 _), (hb.block _ (by omega)).trans x2, (((Below.refl _ w).alloc (Nat.le_refl _) _).alloc (by simp) _).trans (hb.mono (by omega)), by have := hb.size; omega⟩

set_option maxRecDepth 100000 in
set_option maxHeartbeats 4000000 in
theorem siphon_minimal.in_ (n : Nat) (hn : 4 ≤ n) (k : Nat) (a0 : ByteArray) (A1 : Option Addr) (c1 : Nat) (l1 : List S56) (A2 : Option Addr) (c2 : Nat) (l2 : List S40) (tr : Bool) (at_ : Int) (w : World) (hr1 : Kd.C k56 w A1 l1.length l1) (hc1 : l1.length ≤ c1) (hr2 : Kd.C k40 w A2 l2.length l2) (hc2 : l2.length ≤ c2)
    (hck : net_Check.f k a0 l1 l2 = some (0, at_)) (h12 : l1.length ≤ 12) (hok : sipOk k a0 l1 l2 tr = true) :
    CallsIn Fence.wide n Try.prog 51 #[.agg #[.string a0, .slice A1 l1.length c1, .slice A2 l2.length c2], .bool tr] w fun e W' => ∃ v0_ : Value, e = .returned (.tuple #[v0_, .int .i64 0]) ∧ Kd.R (Kd.int .u64) 26 W' w.heap.size (fun _ => True) v0_ (minimalL (sipRaw k a0 l1 l2 tr)) ∧ Below w.heap.size w W' := by
  have h1 : 1 ≤ n := by omega
  have HR1 := Aside0.mk hr1
  have HC1 := Aside0.mk hc1
  have HR2 := Aside0.mk hr2
  have HC2 := Aside0.mk hc2
  have HCK := Aside0.mk hck
  clear hr1 hc1 hr2 hc2 hck
  have g1 : ¬ (12 : Int) < (l1.length : Int) := by omega
  refine callsIn_of_wp_marks Try.func51 rfl trivial ?_ rfl
  simp only [Try.ntmps51, List.size_toArray, List.length_cons, List.length_nil, Nat.reduceAdd, Nat.reduceSub, Array.replicate_succ, Array.replicate_zero, List.push_toArray, List.append_toArray, List.nil_append, List.cons_append]
  gi_wp2
  refine ⟨trivial, (callsIn_wide.2 (net_Check.calls k _ A1 c1 l1 A2 c2 l2 _ _ _ (Kd.C_alloc (Kd.C_alloc HR1.out _) _) HC1.out (Kd.C_alloc (Kd.C_alloc HR2.out _) _) HC2.out HCK.out)).mono ?_⟩
  rintro e w1 ⟨rfl, hb1⟩
  rw [World.size_alloc, World.size_alloc] at hb1
  obtain ⟨hS, hT, hB1, hz1⟩ := after_nt hb1
  have HB1 := Aside0.mk hB1
  clear hb1 hB1
  have bF : Blk (w1.alloc (.cells #[.int .i64 0, .int .i64 at_] 66)) w1.heap.size 66 [.int .i64 0, .int .i64 at_] := World.alloc_heap_new w1 (.cells #[.int .i64 0, .int .i64 at_] 66)
  have hS1 : ∀ o, (w1.alloc o).cell? ⟨w.heap.size, 1, none⟩ = some (.slice A1 l1.length c1) := fun o => by
    have := blk_alloc hS o
    simp [World.cell?, show (w1.alloc o).heap[w.heap.size]? = _ from this]
  have hS2 : ∀ o o', ((w1.alloc o).alloc o').cell? ⟨w.heap.size, 1, none⟩ = some (.slice A1 l1.length c1) := fun o o' => by
    have := blk_alloc (blk_alloc hS o) o'
    simp [World.cell?, show ((w1.alloc o).alloc o').heap[w.heap.size]? = _ from this]
  gi_wp2_with (refine ⟨trivial, ?_⟩; gi_at_call 65; refine (subsets_in Fence.wide (n - 1) trivial rfl _ _).mono ?_; rintro e w' ⟨rfl, rfl⟩)
  have bO := Boxed.new (w1.alloc (.cells #[.int .i64 0, .int .i64 at_] 66)) 48 (.slice none 0 0)
  have bK := Boxed.new ((w1.alloc (.cells #[.int .i64 0, .int .i64 at_] 66)).alloc (.cells #[.slice none 0 0] 48)) 3 (.int .i64 (l1.length : Int))
  rw [World.size_alloc] at bO
  rw [World.size_alloc, World.size_alloc] at bK
  have hB0 : Below w.heap.size w (((w1.alloc (.cells #[.int .i64 0, .int .i64 at_] 66)).alloc (.cells #[.slice none 0 0] 48)).alloc (.cells #[.int .i64 (l1.length : Int)] 3)) := (((HB1.out.alloc (by omega) _).alloc (by simp; omega) _).alloc (by simp; omega) _)
  clear hS1 hS2
  refine wpIn_rangeFunc_ownG (F := Fence.wide) (show Fence.wide.round = none from rfl) h1 (gf := 76) (lb := #[.pointer (some ⟨w1.heap.size + 1 + 1, 0, none⟩)]) rfl trivial (enters_of Try.func76 (by kernel_rfl) rfl)
    (encs := fun x : Small (2 ^ l1.length - 1) => #[Value.int .u64 (succI x.val)])
    (subsets_stopsB (n - 1) (by omega) (w1.heap.size + 1 + 1) w.heap.size l1.length h12 _ bK) kpBox_t (kpBox_b (by simp; omega)) (Below.refl _ _) (by intro _; rfl)
    (MinI k a0 l1 l2 tr w (w1.heap.size + 1) [.string a0, .slice A1 l1.length c1, .slice A2 l2.length c2]) (fun _ _ _ => False) (minI_own k a0 l1 l2 tr w (w1.heap.size + 1) _ _ (by simp; omega)) (fun _ _ _ _ _ hs _ _ => hs)
    ⟨⟨⟨_, bO.alloc _, Kd.R_nil _ _ _ _ _⟩, bK, blk_alloc (blk_alloc (blk_alloc hS _) _) _, ((hT.alloc _).alloc _).alloc _⟩, hB0⟩
    (fun x => { tmps := #[.agg #[.string a0, .slice A1 l1.length c1, .slice A2 l2.length c2], .bool tr, .pointer (some ⟨w.heap.size, 0, none⟩), .pointer (some ⟨w.heap.size + 1, 0, none⟩), .slice none 0 0, .int .i64 0, .pointer (some ⟨w1.heap.size, 0, none⟩), .pointer (some ⟨w1.heap.size + 1, 0, none⟩), .int .u64 (succI x.val), .agg #[.string a0, .slice A1 l1.length c1, .slice A2 l2.length c2], .agg #[.int .i64 0, .int .i64 at_], .pointer (some ⟨w1.heap.size, 0, none⟩), .int .i64 0, .bool false, undef, undef, .pointer (some ⟨w.heap.size, 1, none⟩), .slice A1 l1.length c1, .int .i64 (l1.length : Int), .bool (decide ((12 : Int) < (l1.length : Int))), .pointer (some ⟨w.heap.size, 1, none⟩), .slice A1 l1.length c1, .int .i64 (l1.length : Int), .func (.func 76) #[] #[.pointer (some ⟨w1.heap.size + 1 + 1, 0, none⟩)], .int .u64 (succI x.val), undef, undef, undef, undef, undef, undef, undef, undef, undef, undef], defers := [] }) ?assign ?body ?done ?stop
  case assign =>
    intro l x W K hK
    gi_wp2
    exact hK
  case body =>
    rintro l pre x W ⟨⟨⟨v, hv, hR⟩, hk, hS, hT⟩, hB⟩ hlt
    have s0 : W.cell? ⟨w.heap.size, 0, none⟩ = some (.string a0) := by simp [World.cell?, show W.heap[w.heap.size]? = _ from hS]
    have s1 : W.cell? ⟨w.heap.size, 1, none⟩ = some (.slice A1 l1.length c1) := by simp [World.cell?, show W.heap[w.heap.size]? = _ from hS]
    have s2 : W.cell? ⟨w.heap.size, 2, none⟩ = some (.slice A2 l2.length c2) := by simp [World.cell?, show W.heap[w.heap.size]? = _ from hS]
    have tc := hT.cell
    have hxs : (siphon_holds.f k a0 l1 l2 (succI x.val) tr).isSome = true := List.all_eq_true.1 hok x.val (List.mem_range.2 x.lt)
    have hisb : siphon_holds.f k a0 l1 l2 (succI x.val) tr = some (isS k a0 l1 l2 tr x.val) := by
      obtain ⟨b, hb⟩ := Option.isSome_iff_exists.1 hxs
      unfold isS; rw [hb, show siphon_holds.f k a0 l1 l2 ((x.val + 1 : Nat) : Int) tr = some b from hb]; rfl
    have hlen := sofarS_len k a0 l1 l2 tr pre
    have hp2 : 2 ^ l1.length ≤ 4096 := Nat.pow_le_pow_right (by decide) h12
    have hlen2 : (sofarS k a0 l1 l2 tr pre).length ≤ 4096 := by omega
    gi_wp2
    refine ⟨trivial, (fun h => by cases h), ((CallsIn.inRound l (callsIn_wide.2 (siphon_holds.calls k _ A1 c1 l1 A2 c2 l2 (succI x.val) tr _ _ (Kd.C_below HR1.out (hB.mono (Nat.le_refl _))) HC1.out (Kd.C_below HR2.out (hB.mono (Nat.le_refl _))) HC2.out hisb)))).mono ?_⟩
    rintro e W2 ⟨rfl, hbW⟩
    obtain ⟨A0, c0, rfl⟩ := Kd.R_slice hR
    have hv2 := boxed_later hv hbW
    have hk2 := boxed_later hk hbW
    have hS2 := blk_later hS hbW
    have hT2 := boxed_later hT hbW
    have hR2 := Kd.R_below hR hbW
    have hsw := hB.size
    have hBW2 : Below w.heap.size w W2 := hB.trans (hbW.mono hsw)
    have hBW : Below w.heap.size W W2 := hbW.mono hsw
    have hKW := keeps_later hbW
    have hvc := hv2.cell
    have hvf := hv2.frozen
    cases hb : isS k a0 l1 l2 tr x.val with
    | false =>
      gi_wp2
      exact ⟨hKW.from _, ⟨hBW, fun _ => hk2⟩, ⟨⟨_, hv2, by rw [sofarS_no _ _ _ _ _ hb]; exact hR2⟩, hk2, hS2, hT2⟩, hBW2⟩
    | true =>
      have hkl := hk2.lt
      have HR2' := Aside0.mk hR2
      have HSF := Aside0.mk (sofarS_yes k a0 l1 l2 tr (pre := pre) hb)
      clear hb hR hv hlen
      generalize sofarS k a0 l1 l2 tr pre = out at *
      have HRn := Kd.R_slice hR2
      gi_wp2_with (gi_at_builtin; refine R_appendIn (Kd.int .u64) (w1.heap.size + 1 + 2) rfl (.tmp 29) (.tmp 31) 48 26 (.int .u64 0) 8 rfl Try.underlying48 info26 rfl (by decide) (by omega) (.slice A0 out.length c0) out (succI x.val) [.int .u64 (succI x.val)] (fun _ => True) (fun _ => False) rfl rfl rfl (fun _ hk => hk.elim) (fun _ _ => trivial) HR2'.out (by omega) (by omega) ?_; rintro v1 w4 hR4 hg4 ⟨g4, cap4, rfl⟩; obtain ⟨hk4, hb4⟩ := R_keeps HR2'.out (by omega) hg4; have hv4 : Boxed w4 (w1.heap.size + 1) 48 (.slice A0 out.length c0) := (hb4.block _ (by omega)).trans hv2; have hv4c := hv4.cell; have hv4f := hv4.frozen; have HR4 := Aside0.mk hR4; clear hR4; have HK4 := Aside0.mk hk4; have HB4 := Aside0.mk hb4; clear hk4 hb4 hg4)
      have hk4b : Boxed w4 (w1.heap.size + 1 + 1) 3 (.int .i64 (l1.length : Int)) := (HB4.out.block _ (by omega)).trans hk2
      have hS4 : Blk w4 w.heap.size 25 [.string a0, .slice A1 l1.length c1, .slice A2 l2.length c2] := (HB4.out.block _ (by omega)).trans hS2
      have hT4 : Boxed w4 (w.heap.size + 1) 4 (.bool tr) := (HB4.out.block _ (by omega)).trans hT2
      have hB5 : Below w.heap.size W2 (w4.setCell ⟨w1.heap.size + 1, 0, none⟩ (.slice (some ⟨g4, 0, none⟩) (out.length + 1) cap4)) := (HB4.out.mono (by omega)).setCell (p := ⟨w1.heap.size + 1, 0, none⟩) (by simp; omega) _
      refine ⟨((hKW.trans HK4.out).trans (KeepsOthers.setCell _ _ _)).from _, ⟨hBW.trans hB5, fun _ => hk4b.other (by omega) _⟩, ⟨⟨_, hv4.set _, ?_⟩, hk4b.other (by omega) _, blk_other hS4 (by simp; omega) _, hT4.other (by omega) _⟩, hBW2.trans hB5⟩
      rw [HSF.out]
      exact Kd.R_mono (Kd.R_far (Kd.R_bound HR4.out) (fun k hk => by have := hk.2.1; simp; omega) _) (fun _ _ => trivial)
  case done =>
    rintro D ys W hD hys ⟨⟨⟨v, hv, hR⟩, hk, hS, hT⟩, hB⟩ hK
    obtain ⟨A0, c0, rfl, hle, _⟩ := Kd.R_reads hR
    have hc := hv.cell
    have hD' : w1.heap.size + 1 + 1 + 1 ≤ D := by simp at hD; omega
    have hraw : sofarS k a0 l1 l2 tr ys = sipRaw k a0 l1 l2 tr := congrArg (fun z : List Nat => (z.filter (isS k a0 l1 l2 tr)).map succI) hys
    have hlen : (sipRaw k a0 l1 l2 tr).length ≤ 1099511627776 := by
      unfold sipRaw
      rw [List.length_map]
      have h2 := List.length_filter_le (isS k a0 l1 l2 tr) (List.range (2 ^ l1.length - 1))
      have hp2 : 2 ^ l1.length ≤ 4096 := Nat.pow_le_pow_right (by decide) h12
      rw [List.length_range] at h2
      omega
    rw [hraw] at hR hv hc hle
    have HM := Aside0.mk (show bitset_Minimal.f (sipRaw k a0 l1 l2 tr) = some (minimalL (sipRaw k a0 l1 l2 tr)) by unfold bitset_Minimal.f; rw [if_pos hlen])
    have HRR := Aside0.mk hR
    have HLE := Aside0.mk hle
    have HBW := Aside0.mk hB
    have HKD := Aside0.mk hK
    obtain ⟨out, hout⟩ : ∃ out, out = sipRaw k a0 l1 l2 tr := ⟨_, rfl⟩
    rw [← hout] at HM HRR HLE hc hv hR
    have HOUT := Aside0.mk hout
    clear hraw hlen hys hout
    gi_wp2_with (refine ⟨trivial, ?_⟩; gi_at_call 66; refine (callsIn_wide.2 (bitset_Minimal.calls A0 c0 out _ _ (Kd.R_reads' HRR.out).2.2 HLE.out HM.out)).mono ?_; rintro e W5 ⟨v5, rfl, hO5, hb5⟩)
    have hK5 : W5.heap[D]? = some (.deferred (some [])) := (hb5.block D (Array.getElem?_eq_some_iff.1 HKD.out).1).trans HKD.out
    refine ⟨by simp, .inl ⟨_, _, rfl, run_takeDeferred hK5, ?_⟩⟩
    have hsw := HBW.out.size
    exact ⟨_, results_tmp2 rfl _ _ _, v5, rfl, by rw [← HOUT.out]; exact R_putObj _ hO5 hK5 rfl hsw, (HBW.out.trans (hb5.mono hsw)).trans (belowK_b (w := w) (Nat.le_refl _) W5 D _ _ (by omega) hK5 rfl rfl)⟩
  case stop =>
    rintro D c pre W _ _ h _
    exact h.elim

set_option maxRecDepth 100000 in
set_option maxHeartbeats 4000000 in
theorem siphon_minimal.bad (n : Nat) (h1 : 1 ≤ n) (k : Nat) (a0 : ByteArray) (A1 : Option Addr) (c1 : Nat) (l1 : List S56) (A2 : Option Addr) (c2 : Nat) (l2 : List S40) (tr : Bool) (er at_ : Int) (w : World) (hr1 : Kd.C k56 w A1 l1.length l1) (hc1 : l1.length ≤ c1) (hr2 : Kd.C k40 w A2 l2.length l2) (hc2 : l2.length ≤ c2)
    (hck : net_Check.f k a0 l1 l2 = some (er, at_)) (R : Int) (hR : (er ≠ 0 ∧ R = er) ∨ (er = 0 ∧ 12 < l1.length ∧ R = 2)) :
    CallsIn Fence.wide n Try.prog 51 #[.agg #[.string a0, .slice A1 l1.length c1, .slice A2 l2.length c2], .bool tr] w fun e W' => ∃ v0_ : Value, e = .returned (.tuple #[v0_, .int .i64 R]) ∧ Kd.R (Kd.int .u64) 26 W' w.heap.size (fun _ => True) v0_ [] ∧ Below w.heap.size w W' := by
  have HR1 := Aside0.mk hr1
  have HC1 := Aside0.mk hc1
  have HR2 := Aside0.mk hr2
  have HC2 := Aside0.mk hc2
  have HCK := Aside0.mk hck
  clear hr1 hc1 hr2 hc2 hck
  refine callsIn_of_wp_marks Try.func51 rfl trivial ?_ rfl
  simp only [Try.ntmps51, List.size_toArray, List.length_cons, List.length_nil, Nat.reduceAdd, Nat.reduceSub, Array.replicate_succ, Array.replicate_zero, List.push_toArray, List.append_toArray, List.nil_append, List.cons_append]
  gi_wp2
  refine ⟨trivial, (callsIn_wide.2 (net_Check.calls k _ A1 c1 l1 A2 c2 l2 _ _ _ (Kd.C_alloc (Kd.C_alloc HR1.out _) _) HC1.out (Kd.C_alloc (Kd.C_alloc HR2.out _) _) HC2.out HCK.out)).mono ?_⟩
  rintro e w1 ⟨rfl, hb1⟩
  rw [World.size_alloc, World.size_alloc] at hb1
  obtain ⟨hS, hT, hB1, hz1⟩ := after_nt hb1
  have HB1 := Aside0.mk hB1
  clear hb1 hB1
  have hS1 : ∀ o, (w1.alloc o).cell? ⟨w.heap.size, 1, none⟩ = some (.slice A1 l1.length c1) := fun o => by
    have := blk_alloc hS o
    simp [World.cell?, show (w1.alloc o).heap[w.heap.size]? = _ from this]
  rcases hR with ⟨he, rfl⟩ | ⟨rfl, h12, rfl⟩
  · have q : (R != 0) = true := bne_iff_ne.2 he
    gi_wp2
    gi_region
    all_goals gi_wp2
    all_goals exact ⟨_, results_tmp2 rfl _ _ _, _, rfl, Kd.R_nil _ _ _ _ _, by (repeat (first | apply pw_below_drewN | apply below_drew1)); exact HB1.out.alloc (by omega) _⟩
  · have q : decide ((12 : Int) < (l1.length : Int)) = true := decide_eq_true (by omega)
    gi_wp2
    exact ⟨_, results_tmp2 rfl _ _ _, _, rfl, Kd.R_nil _ _ _ _ _, HB1.out.alloc (by omega) _⟩

theorem siphon_minimal.calls (k : Nat) (a0_0 : ByteArray) (A0_1 : Option Addr) (c0_1 : Nat) (l0_1 : List S56) (A0_2 : Option Addr) (c0_2 : Nat) (l0_2 : List S40) (a1 : Bool) (r1 : List Int) (r2 : Int) (w : World) (hr0_1 : Kd.C k56 w A0_1 l0_1.length l0_1) (hc0_1 : l0_1.length ≤ c0_1) (hr0_2 : Kd.C k40 w A0_2 l0_2.length l0_2) (hc0_2 : l0_2.length ≤ c0_2) (h : siphon_minimal.f k a0_0 l0_1 l0_2 a1 = some (r1, r2)) :
    Calls Try.prog 51 #[.agg #[.string a0_0, .slice A0_1 l0_1.length c0_1, .slice A0_2 l0_2.length c0_2], .bool a1] w fun e w' => ∃ v0_ : Value, e = .returned (.tuple #[v0_, .int .i64 r2]) ∧ Kd.R (Kd.int .u64) 26 w' w.heap.size (fun _ => True) v0_ r1 ∧ Below w.heap.size w w' := by
  unfold siphon_minimal.f at h
  obtain ⟨⟨er, at_⟩, hck, h⟩ := Option.bind_eq_some_iff.mp h
  dsimp only at h
  split at h
  · rename_i he
    subst he
    split at h
    · rename_i h12
      simp only [Option.some.injEq, Prod.mk.injEq] at h
      obtain ⟨rfl, rfl⟩ := h
      exact (callsIn_wide (n := 4)).1 (siphon_minimal.bad 4 (by omega) k a0_0 A0_1 c0_1 l0_1 A0_2 c0_2 l0_2 a1 0 at_ w hr0_1 hc0_1 hr0_2 hc0_2 hck 2 (.inr ⟨rfl, h12, rfl⟩))
    · rename_i h12
      split at h
      · rename_i hok
        simp only [Option.some.injEq, Prod.mk.injEq] at h
        obtain ⟨rfl, rfl⟩ := h
        exact (callsIn_wide (n := 4)).1 (siphon_minimal.in_ 4 (by omega) k a0_0 A0_1 c0_1 l0_1 A0_2 c0_2 l0_2 a1 at_ w hr0_1 hc0_1 hr0_2 hc0_2 hck (by omega) hok)
      · cases h
  · rename_i he
    simp only [Option.some.injEq, Prod.mk.injEq] at h
    obtain ⟨rfl, rfl⟩ := h
    exact (callsIn_wide (n := 4)).1 (siphon_minimal.bad 4 (by omega) k a0_0 A0_1 c0_1 l0_1 A0_2 c0_2 l0_2 a1 er at_ w hr0_1 hc0_1 hr0_2 hc0_2 hck er (.inl ⟨he, rfl⟩))


end



/-! ### siphon_Siphons: function 28 -/
def siphon_Siphons.f (k : Nat) (a0_0 : ByteArray) (l0_1 : List (S56)) (l0_2 : List (S40)) : Option (List Int × Int) := (siphon_minimal.f k a0_0 l0_1 l0_2 false).bind fun bt135 => (some (bt135.1, bt135.2))
theorem siphon_Siphons.mono : ∀ a0 a1 a2 k, LeO (siphon_Siphons.f k a0 a1 a2) (siphon_Siphons.f (k + 1) a0 a1 a2) := by
 intro a0 a1 a2 k
 unfold siphon_Siphons.f
 repeat' first
   | (with_reducible exact siphon_minimal.mono _ _ _ _ _)
   | (with_reducible exact LeO.refl _)
   | (with_reducible exact LeO.none _)
   | (with_reducible refine LeO.ite ?_ ?_)
   | (with_reducible refine LeO.bind ?_ (fun _ => ?_))
   | exact siphon_minimal.mono _ _ _ _ _
   | exact LeO.none _
   | refine LeO.ite ?_ ?_
   | refine LeO.bind ?_ (fun _ => ?_)
set_option maxHeartbeats 8000000 in
set_option maxRecDepth 100000 in
theorem siphon_Siphons.calls (k : Nat) (a0_0 : ByteArray) (A0_1 : Option Addr) (c0_1 : Nat) (l0_1 : List (S56)) (A0_2 : Option Addr) (c0_2 : Nat) (l0_2 : List (S40)) (r1 : List Int) (r2 : Int) (w : World) (hr0_1 : Kd.C k56 w A0_1 l0_1.length l0_1) (hc0_1 : l0_1.length ≤ c0_1) (hr0_2 : Kd.C k40 w A0_2 l0_2.length l0_2) (hc0_2 : l0_2.length ≤ c0_2) (h : siphon_Siphons.f k a0_0 l0_1 l0_2 = some (r1, r2)) :
  Calls Try.prog 28 #[.agg #[.string a0_0, .slice A0_1 l0_1.length c0_1, .slice A0_2 l0_2.length c0_2]] w fun e w' => ∃ v0_ : Value, e = .returned (.tuple #[v0_, .int .i64 r2]) ∧ Kd.R (Kd.int .u64) 26 w' w.heap.size (fun _ => True) v0_ r1 ∧ Below w.heap.size w w' := by
 have hu25 := Try.underlying25
 have hu9 := Try.underlying9
 have hu22 := Try.underlying22
 have hu23 := Try.underlying23
 have HR0_1 := Aside0.mk hr0_1
 have HC0_1 := Aside0.mk hc0_1
 clear hr0_1 hc0_1
 have HR0_2 := Aside0.mk hr0_2
 have HC0_2 := Aside0.mk hc0_2
 clear hr0_2 hc0_2
 have HB := Aside0.mk (Below.refl w.heap.size w)
 have H : ((siphon_minimal.f k a0_0 l0_1 l0_2 false).bind fun bt135 => (some (bt135.1, bt135.2))) = some (r1, r2) := h
 clear h
 replace H := Option.bind_eq_some_iff.mp H
 obtain ⟨⟨t135, t138⟩, A20, H⟩ := H
 replace H : (some (t135, t138)) = some (r1, r2) := H
 have A2 := Aside0.mk A20
 clear A20
 simp only [Option.some.injEq, Prod.mk.injEq] at H
 obtain ⟨rfl, rfl⟩ := H
 go_enter Try.func28, Try.ntmps28
 go_wp2_with (first | ((with_reducible refine gate_dst (N := 1) rfl ?_); refine box_event ?hg (N := 1) ?hd (cs := #[.string a0_0, .slice A0_1 l0_1.length c0_1, .slice A0_2 l0_2.length c0_2]) (t := 25) ?hr ?_; (case hd => rfl); (case hg => rfl); (case hr => first | (go_simp; done) | (go_simp; rfl)); intro gb134 hg w3 hbox hb; have n0_ := Aside0.mk (below_step (by repeat (first | (with_reducible first | exact HB.out | apply below_alloc | apply pw_below_drewN | apply below_drew1) | exact HB.out)) hb); have n1_ := Aside0.mk (hbox); have n2_ := Aside0.mk ((by rw [hg]; exact (below_size (by repeat (first | (with_reducible first | exact HB.out | apply below_alloc | apply pw_below_drewN | apply below_drew1) | exact HB.out))) : w.heap.size ≤ gb134)); have n3_ := Aside0.mk ((by rw [hg]; exact (below_size (by repeat (first | (with_reducible first | exact HB.out | apply below_alloc | apply pw_below_drewN | apply below_drew1) | exact HB.out))) : w.heap.size ≤ gb134)); clear HB; have HB := n0_; have BK134 := n1_; have GW134 := n2_; have GE134 := n3_; clear n0_ n1_ n2_ n3_; clear hb hbox hg; have hcz4_0 : w3.cell? ⟨gb134, 0, none⟩ = some (.string a0_0) := (blk_cell BK134.out 0).trans rfl; have hcz4_1 : w3.cell? ⟨gb134, 1, none⟩ = some (.slice A0_1 l0_1.length c0_1) := (blk_cell BK134.out 1).trans rfl; have hcz4_2 : w3.cell? ⟨gb134, 2, none⟩ = some (.slice A0_2 l0_2.length c0_2) := (blk_cell BK134.out 2).trans rfl; have hfz4_0 := blk_frozen BK134.out 0; have hfz4_1 := blk_frozen BK134.out 1; have hfz4_2 := blk_frozen BK134.out 2) | ((with_reducible refine gate_callee (f := 51) rfl ?_); refine goesL_ (some 5) rfl rfl Try.func51 (by kernel_rfl) rfl #[.agg #[.string a0_0, .slice A0_1 l0_1.length c0_1, .slice A0_2 l0_2.length c0_2], .bool false] rfl (by (try simp only [List.map_toArray, List.map_cons, List.map_nil]); first | done | rfl | (simp only [List.length_drop, List.length_take]; rfl)) ?_; (with_reducible refine (siphon_minimal.calls k a0_0 _ _ l0_1 _ _ l0_2 false t135 t138 _ ?side1 ?side2 ?side3 ?side4 A2.out).mono ?_); (case side1 => repeat (first | exact (Kd.C_below HR0_1.out HB.out) | (with_reducible refine Kd.C_alloc ?_ _) | (with_reducible refine Kd.C_drewN ?_ _) | (with_reducible refine Kd.C_drew ?_))); (case side2 => exact HC0_1.out); (case side3 => repeat (first | exact (Kd.C_below HR0_2.out HB.out) | (with_reducible refine Kd.C_alloc ?_ _) | (with_reducible refine Kd.C_drewN ?_ _) | (with_reducible refine Kd.C_drew ?_))); (case side4 => exact HC0_2.out); rintro e w5 ⟨v136, rfl, ho0, hb⟩; refine ⟨_, rfl, ?_⟩; have n0_ := Aside0.mk (Kd.R_lower ho0 (below_size (by repeat (first | (with_reducible first | exact HB.out | apply below_alloc | apply pw_below_drewN | apply below_drew1 | refine below_set ?_ GE134.out) | exact HB.out)))); have n1_ := Aside0.mk (blk_below (g := gb134) (o := .cells #[.string a0_0, .slice A0_1 l0_1.length c0_1, .slice A0_2 l0_2.length c0_2] 25 (0, 0)) (by (with_reducible repeat (first | refine blk_drewN ?_ _ | refine blk_drew ?_ | refine blk_alloc ?_ _)); exact BK134.out) hb); have n2_ := Aside0.mk (below_step (by repeat (first | (with_reducible first | exact HB.out | apply below_alloc | apply pw_below_drewN | apply below_drew1 | refine below_set ?_ GE134.out) | exact HB.out)) hb); clear BK134; clear HB; have HO137 := n0_; have BK134 := n1_; have HB := n2_; clear n0_ n1_ n2_; (try clear hb); (try clear hb2); (try clear hk); (try clear hi); (try clear ho0)))
 go_ret2
 exact ⟨_, by first | rfl | (simp [errW_none, errW_some] <;> rfl) | (simp [*, errW_none, errW_some] <;> rfl), by (with_reducible repeat (first | apply Kd.R_alloc | apply Kd.R_drewN | apply Kd.R_drew)); exact HO137.out, by repeat (first | (with_reducible first | exact HB.out | apply below_alloc | apply pw_below_drewN | apply below_drew1 | refine below_set ?_ GE134.out) | exact HB.out)⟩


/-! ### siphon_Traps: function 30 -/
def siphon_Traps.f (k : Nat) (a0_0 : ByteArray) (l0_1 : List (S56)) (l0_2 : List (S40)) : Option (List Int × Int) := (siphon_minimal.f k a0_0 l0_1 l0_2 true).bind fun bt140 => (some (bt140.1, bt140.2))
theorem siphon_Traps.mono : ∀ a0 a1 a2 k, LeO (siphon_Traps.f k a0 a1 a2) (siphon_Traps.f (k + 1) a0 a1 a2) := by
 intro a0 a1 a2 k
 unfold siphon_Traps.f
 repeat' first
   | (with_reducible exact siphon_minimal.mono _ _ _ _ _)
   | (with_reducible exact LeO.refl _)
   | (with_reducible exact LeO.none _)
   | (with_reducible refine LeO.ite ?_ ?_)
   | (with_reducible refine LeO.bind ?_ (fun _ => ?_))
   | exact siphon_minimal.mono _ _ _ _ _
   | exact LeO.none _
   | refine LeO.ite ?_ ?_
   | refine LeO.bind ?_ (fun _ => ?_)
set_option maxHeartbeats 8000000 in
set_option maxRecDepth 100000 in
theorem siphon_Traps.calls (k : Nat) (a0_0 : ByteArray) (A0_1 : Option Addr) (c0_1 : Nat) (l0_1 : List (S56)) (A0_2 : Option Addr) (c0_2 : Nat) (l0_2 : List (S40)) (r1 : List Int) (r2 : Int) (w : World) (hr0_1 : Kd.C k56 w A0_1 l0_1.length l0_1) (hc0_1 : l0_1.length ≤ c0_1) (hr0_2 : Kd.C k40 w A0_2 l0_2.length l0_2) (hc0_2 : l0_2.length ≤ c0_2) (h : siphon_Traps.f k a0_0 l0_1 l0_2 = some (r1, r2)) :
  Calls Try.prog 30 #[.agg #[.string a0_0, .slice A0_1 l0_1.length c0_1, .slice A0_2 l0_2.length c0_2]] w fun e w' => ∃ v0_ : Value, e = .returned (.tuple #[v0_, .int .i64 r2]) ∧ Kd.R (Kd.int .u64) 26 w' w.heap.size (fun _ => True) v0_ r1 ∧ Below w.heap.size w w' := by
 have hu25 := Try.underlying25
 have hu9 := Try.underlying9
 have hu22 := Try.underlying22
 have hu23 := Try.underlying23
 have HR0_1 := Aside0.mk hr0_1
 have HC0_1 := Aside0.mk hc0_1
 clear hr0_1 hc0_1
 have HR0_2 := Aside0.mk hr0_2
 have HC0_2 := Aside0.mk hc0_2
 clear hr0_2 hc0_2
 have HB := Aside0.mk (Below.refl w.heap.size w)
 have H : ((siphon_minimal.f k a0_0 l0_1 l0_2 true).bind fun bt140 => (some (bt140.1, bt140.2))) = some (r1, r2) := h
 clear h
 replace H := Option.bind_eq_some_iff.mp H
 obtain ⟨⟨t140, t143⟩, A20, H⟩ := H
 replace H : (some (t140, t143)) = some (r1, r2) := H
 have A2 := Aside0.mk A20
 clear A20
 simp only [Option.some.injEq, Prod.mk.injEq] at H
 obtain ⟨rfl, rfl⟩ := H
 go_enter Try.func30, Try.ntmps30
 go_wp2_with (first | ((with_reducible refine gate_dst (N := 1) rfl ?_); refine box_event ?hg (N := 1) ?hd (cs := #[.string a0_0, .slice A0_1 l0_1.length c0_1, .slice A0_2 l0_2.length c0_2]) (t := 25) ?hr ?_; (case hd => rfl); (case hg => rfl); (case hr => first | (go_simp; done) | (go_simp; rfl)); intro gb139 hg w3 hbox hb; have n0_ := Aside0.mk (below_step (by repeat (first | (with_reducible first | exact HB.out | apply below_alloc | apply pw_below_drewN | apply below_drew1) | exact HB.out)) hb); have n1_ := Aside0.mk (hbox); have n2_ := Aside0.mk ((by rw [hg]; exact (below_size (by repeat (first | (with_reducible first | exact HB.out | apply below_alloc | apply pw_below_drewN | apply below_drew1) | exact HB.out))) : w.heap.size ≤ gb139)); have n3_ := Aside0.mk ((by rw [hg]; exact (below_size (by repeat (first | (with_reducible first | exact HB.out | apply below_alloc | apply pw_below_drewN | apply below_drew1) | exact HB.out))) : w.heap.size ≤ gb139)); clear HB; have HB := n0_; have BK139 := n1_; have GW139 := n2_; have GE139 := n3_; clear n0_ n1_ n2_ n3_; clear hb hbox hg; have hcz4_0 : w3.cell? ⟨gb139, 0, none⟩ = some (.string a0_0) := (blk_cell BK139.out 0).trans rfl; have hcz4_1 : w3.cell? ⟨gb139, 1, none⟩ = some (.slice A0_1 l0_1.length c0_1) := (blk_cell BK139.out 1).trans rfl; have hcz4_2 : w3.cell? ⟨gb139, 2, none⟩ = some (.slice A0_2 l0_2.length c0_2) := (blk_cell BK139.out 2).trans rfl; have hfz4_0 := blk_frozen BK139.out 0; have hfz4_1 := blk_frozen BK139.out 1; have hfz4_2 := blk_frozen BK139.out 2) | ((with_reducible refine gate_callee (f := 51) rfl ?_); refine goesL_ (some 5) rfl rfl Try.func51 (by kernel_rfl) rfl #[.agg #[.string a0_0, .slice A0_1 l0_1.length c0_1, .slice A0_2 l0_2.length c0_2], .bool true] rfl (by (try simp only [List.map_toArray, List.map_cons, List.map_nil]); first | done | rfl | (simp only [List.length_drop, List.length_take]; rfl)) ?_; (with_reducible refine (siphon_minimal.calls k a0_0 _ _ l0_1 _ _ l0_2 true t140 t143 _ ?side1 ?side2 ?side3 ?side4 A2.out).mono ?_); (case side1 => repeat (first | exact (Kd.C_below HR0_1.out HB.out) | (with_reducible refine Kd.C_alloc ?_ _) | (with_reducible refine Kd.C_drewN ?_ _) | (with_reducible refine Kd.C_drew ?_))); (case side2 => exact HC0_1.out); (case side3 => repeat (first | exact (Kd.C_below HR0_2.out HB.out) | (with_reducible refine Kd.C_alloc ?_ _) | (with_reducible refine Kd.C_drewN ?_ _) | (with_reducible refine Kd.C_drew ?_))); (case side4 => exact HC0_2.out); rintro e w5 ⟨v141, rfl, ho0, hb⟩; refine ⟨_, rfl, ?_⟩; have n0_ := Aside0.mk (Kd.R_lower ho0 (below_size (by repeat (first | (with_reducible first | exact HB.out | apply below_alloc | apply pw_below_drewN | apply below_drew1 | refine below_set ?_ GE139.out) | exact HB.out)))); have n1_ := Aside0.mk (blk_below (g := gb139) (o := .cells #[.string a0_0, .slice A0_1 l0_1.length c0_1, .slice A0_2 l0_2.length c0_2] 25 (0, 0)) (by (with_reducible repeat (first | refine blk_drewN ?_ _ | refine blk_drew ?_ | refine blk_alloc ?_ _)); exact BK139.out) hb); have n2_ := Aside0.mk (below_step (by repeat (first | (with_reducible first | exact HB.out | apply below_alloc | apply pw_below_drewN | apply below_drew1 | refine below_set ?_ GE139.out) | exact HB.out)) hb); clear BK139; clear HB; have HO142 := n0_; have BK139 := n1_; have HB := n2_; clear n0_ n1_ n2_; (try clear hb); (try clear hb2); (try clear hk); (try clear hi); (try clear ho0)))
 go_ret2
 exact ⟨_, by first | rfl | (simp [errW_none, errW_some] <;> rfl) | (simp [*, errW_none, errW_some] <;> rfl), by (with_reducible repeat (first | apply Kd.R_alloc | apply Kd.R_drewN | apply Kd.R_drew)); exact HO142.out, by repeat (first | (with_reducible first | exact HB.out | apply below_alloc | apply pw_below_drewN | apply below_drew1 | refine below_set ?_ GE139.out) | exact HB.out)⟩


/-! ### petrinetlaw33_exampleHolds: function 11 -/
def petrinetlaw33_exampleHolds.f (k : Nat)  : Option (Bool) := (some (([(⟨0, 1⟩ : S58)] : List (S58)) : List (S58))).bind fun y144 => ((some (([(⟨1, 1⟩ : S58)] : List (S58)) : List (S58))).bind fun y147 => ((some (([(⟨(⟨#[112]⟩ : ByteArray), 1, 0⟩ : S56), (⟨(⟨#[113]⟩ : ByteArray), 0, 0⟩ : S56)] : List (S56)) : List (S56))).bind fun y150 => ((some (([(⟨(⟨#[116]⟩ : ByteArray), y144, y147, ([] : List (S58)), 0⟩ : S40), (⟨(⟨#[117]⟩ : ByteArray), y147, y144, ([] : List (S58)), 0⟩ : S40)] : List (S40)) : List (S40))).bind fun y153 => ((siphon_Siphons.f k (⟨#[110]⟩ : ByteArray) y150 y153).bind fun bt157 => ((siphon_Traps.f k (⟨#[110]⟩ : ByteArray) y150 y153).bind fun bt161 => (if bt157.2 = 0 then (if bt161.2 = 0 then (if (bt157.1.length : Int) = 1 then (if 0 < (bt157.1.length : Int) then (if (rd bt157.1 0) = 3 then (if (bt161.1.length : Int) = 1 then (if 0 < (bt161.1.length : Int) then (some ((rd bt161.1 0) == 3)) else (none)) else (some false)) else (some false)) else (none)) else (some false)) else (some false)) else (some false)))))))
theorem petrinetlaw33_exampleHolds.mono : ∀ k, LeO (petrinetlaw33_exampleHolds.f k ) (petrinetlaw33_exampleHolds.f (k + 1) ) := by
 intro  k
 unfold petrinetlaw33_exampleHolds.f
 repeat' first
   | (with_reducible exact siphon_Siphons.mono _ _ _ _)
   | (with_reducible exact siphon_Traps.mono _ _ _ _)
   | (with_reducible exact LeO.refl _)
   | (with_reducible exact LeO.none _)
   | (with_reducible refine LeO.ite ?_ ?_)
   | (with_reducible refine LeO.bind ?_ (fun _ => ?_))
   | exact siphon_Siphons.mono _ _ _ _
   | exact siphon_Traps.mono _ _ _ _
   | exact LeO.none _
   | refine LeO.ite ?_ ?_
   | refine LeO.bind ?_ (fun _ => ?_)
set_option maxHeartbeats 8000000 in
set_option maxRecDepth 100000 in
theorem petrinetlaw33_exampleHolds.calls (k : Nat)  (r : Bool) (w : World) (h : petrinetlaw33_exampleHolds.f k  = some r) (hrT_ : Aside0 (r = true)) :
  Calls Try.prog 11 #[] w fun e w' => e = .returned (.bool r) ∧ Below w.heap.size w w' := by
 have hu58 := Try.underlying58
 have hu3 := Try.underlying3
 have hu56 := Try.underlying56
 have hu3 := Try.underlying3
 have hu9 := Try.underlying9
 have hu40 := Try.underlying40
 have hu3 := Try.underlying3
 have hu9 := Try.underlying9
 have hu38 := Try.underlying38
 have hu25 := Try.underlying25
 have hu9 := Try.underlying9
 have hu22 := Try.underlying22
 have hu23 := Try.underlying23
 have HB := Aside0.mk (Below.refl w.heap.size w)
 have H : ((some (([(⟨0, 1⟩ : S58)] : List (S58)) : List (S58))).bind fun y144 => ((some (([(⟨1, 1⟩ : S58)] : List (S58)) : List (S58))).bind fun y147 => ((some (([(⟨(⟨#[112]⟩ : ByteArray), 1, 0⟩ : S56), (⟨(⟨#[113]⟩ : ByteArray), 0, 0⟩ : S56)] : List (S56)) : List (S56))).bind fun y150 => ((some (([(⟨(⟨#[116]⟩ : ByteArray), y144, y147, ([] : List (S58)), 0⟩ : S40), (⟨(⟨#[117]⟩ : ByteArray), y147, y144, ([] : List (S58)), 0⟩ : S40)] : List (S40)) : List (S40))).bind fun y153 => ((siphon_Siphons.f k (⟨#[110]⟩ : ByteArray) y150 y153).bind fun bt157 => ((siphon_Traps.f k (⟨#[110]⟩ : ByteArray) y150 y153).bind fun bt161 => (if bt157.2 = 0 then (if bt161.2 = 0 then (if (bt157.1.length : Int) = 1 then (if 0 < (bt157.1.length : Int) then (if (rd bt157.1 0) = 3 then (if (bt161.1.length : Int) = 1 then (if 0 < (bt161.1.length : Int) then (some ((rd bt161.1 0) == 3)) else (none)) else (some false)) else (some false)) else (none)) else (some false)) else (some false)) else (some false)))))))) = some r := h
 clear h
 obtain ⟨y144, hy144⟩ : ∃ y_ : List (S58), y_ = (([(⟨0, 1⟩ : S58)] : List (S58))) := ⟨_, rfl⟩
 replace H : ((some (([(⟨1, 1⟩ : S58)] : List (S58)) : List (S58))).bind fun y147 => ((some (([(⟨(⟨#[112]⟩ : ByteArray), 1, 0⟩ : S56), (⟨(⟨#[113]⟩ : ByteArray), 0, 0⟩ : S56)] : List (S56)) : List (S56))).bind fun y150 => ((some (([(⟨(⟨#[116]⟩ : ByteArray), y144, y147, ([] : List (S58)), 0⟩ : S40), (⟨(⟨#[117]⟩ : ByteArray), y147, y144, ([] : List (S58)), 0⟩ : S40)] : List (S40)) : List (S40))).bind fun y153 => ((siphon_Siphons.f k (⟨#[110]⟩ : ByteArray) y150 y153).bind fun bt157 => ((siphon_Traps.f k (⟨#[110]⟩ : ByteArray) y150 y153).bind fun bt161 => (if bt157.2 = 0 then (if bt161.2 = 0 then (if (bt157.1.length : Int) = 1 then (if 0 < (bt157.1.length : Int) then (if (rd bt157.1 0) = 3 then (if (bt161.1.length : Int) = 1 then (if 0 < (bt161.1.length : Int) then (some ((rd bt161.1 0) == 3)) else (none)) else (some false)) else (some false)) else (none)) else (some false)) else (some false)) else (some false))))))) = some r := by first | (rw [hy144]; with_reducible exact H) | (have H2_ := (Option.bind_some _ _).symm.trans H; rw [hy144]; with_reducible exact H2_) | (have H2_ := (Option.bind_some _ _).symm.trans H; with_reducible exact H2_) | with_reducible exact H | (rw [hy144]; exact H) | exact H
 have Ny144 := Aside0.mk hy144
 clear hy144
 obtain ⟨y147, hy147⟩ : ∃ y_ : List (S58), y_ = (([(⟨1, 1⟩ : S58)] : List (S58))) := ⟨_, rfl⟩
 replace H : ((some (([(⟨(⟨#[112]⟩ : ByteArray), 1, 0⟩ : S56), (⟨(⟨#[113]⟩ : ByteArray), 0, 0⟩ : S56)] : List (S56)) : List (S56))).bind fun y150 => ((some (([(⟨(⟨#[116]⟩ : ByteArray), y144, y147, ([] : List (S58)), 0⟩ : S40), (⟨(⟨#[117]⟩ : ByteArray), y147, y144, ([] : List (S58)), 0⟩ : S40)] : List (S40)) : List (S40))).bind fun y153 => ((siphon_Siphons.f k (⟨#[110]⟩ : ByteArray) y150 y153).bind fun bt157 => ((siphon_Traps.f k (⟨#[110]⟩ : ByteArray) y150 y153).bind fun bt161 => (if bt157.2 = 0 then (if bt161.2 = 0 then (if (bt157.1.length : Int) = 1 then (if 0 < (bt157.1.length : Int) then (if (rd bt157.1 0) = 3 then (if (bt161.1.length : Int) = 1 then (if 0 < (bt161.1.length : Int) then (some ((rd bt161.1 0) == 3)) else (none)) else (some false)) else (some false)) else (none)) else (some false)) else (some false)) else (some false)))))) = some r := by first | (rw [hy147]; with_reducible exact H) | (have H2_ := (Option.bind_some _ _).symm.trans H; rw [hy147]; with_reducible exact H2_) | (have H2_ := (Option.bind_some _ _).symm.trans H; with_reducible exact H2_) | with_reducible exact H | (rw [hy147]; exact H) | exact H
 have Ny147 := Aside0.mk hy147
 clear hy147
 obtain ⟨y150, hy150⟩ : ∃ y_ : List (S56), y_ = (([(⟨(⟨#[112]⟩ : ByteArray), 1, 0⟩ : S56), (⟨(⟨#[113]⟩ : ByteArray), 0, 0⟩ : S56)] : List (S56))) := ⟨_, rfl⟩
 replace H : ((some (([(⟨(⟨#[116]⟩ : ByteArray), y144, y147, ([] : List (S58)), 0⟩ : S40), (⟨(⟨#[117]⟩ : ByteArray), y147, y144, ([] : List (S58)), 0⟩ : S40)] : List (S40)) : List (S40))).bind fun y153 => ((siphon_Siphons.f k (⟨#[110]⟩ : ByteArray) y150 y153).bind fun bt157 => ((siphon_Traps.f k (⟨#[110]⟩ : ByteArray) y150 y153).bind fun bt161 => (if bt157.2 = 0 then (if bt161.2 = 0 then (if (bt157.1.length : Int) = 1 then (if 0 < (bt157.1.length : Int) then (if (rd bt157.1 0) = 3 then (if (bt161.1.length : Int) = 1 then (if 0 < (bt161.1.length : Int) then (some ((rd bt161.1 0) == 3)) else (none)) else (some false)) else (some false)) else (none)) else (some false)) else (some false)) else (some false))))) = some r := by first | (rw [hy150]; with_reducible exact H) | (have H2_ := (Option.bind_some _ _).symm.trans H; rw [hy150]; with_reducible exact H2_) | (have H2_ := (Option.bind_some _ _).symm.trans H; with_reducible exact H2_) | with_reducible exact H | (rw [hy150]; exact H) | exact H
 have Ny150 := Aside0.mk hy150
 clear hy150
 obtain ⟨y153, hy153⟩ : ∃ y_ : List (S40), y_ = (([(⟨(⟨#[116]⟩ : ByteArray), y144, y147, ([] : List (S58)), 0⟩ : S40), (⟨(⟨#[117]⟩ : ByteArray), y147, y144, ([] : List (S58)), 0⟩ : S40)] : List (S40))) := ⟨_, rfl⟩
 replace H : ((siphon_Siphons.f k (⟨#[110]⟩ : ByteArray) y150 y153).bind fun bt157 => ((siphon_Traps.f k (⟨#[110]⟩ : ByteArray) y150 y153).bind fun bt161 => (if bt157.2 = 0 then (if bt161.2 = 0 then (if (bt157.1.length : Int) = 1 then (if 0 < (bt157.1.length : Int) then (if (rd bt157.1 0) = 3 then (if (bt161.1.length : Int) = 1 then (if 0 < (bt161.1.length : Int) then (some ((rd bt161.1 0) == 3)) else (none)) else (some false)) else (some false)) else (none)) else (some false)) else (some false)) else (some false)))) = some r := by first | (rw [hy153]; with_reducible exact H) | (have H2_ := (Option.bind_some _ _).symm.trans H; rw [hy153]; with_reducible exact H2_) | (have H2_ := (Option.bind_some _ _).symm.trans H; with_reducible exact H2_) | with_reducible exact H | (rw [hy153]; exact H) | exact H
 have Ny153 := Aside0.mk hy153
 clear hy153
 replace H := Option.bind_eq_some_iff.mp H
 obtain ⟨⟨t157, t160⟩, A10, H⟩ := H
 replace H : ((siphon_Traps.f k (⟨#[110]⟩ : ByteArray) y150 y153).bind fun bt161 => (if t160 = 0 then (if bt161.2 = 0 then (if (t157.length : Int) = 1 then (if 0 < (t157.length : Int) then (if (rd t157 0) = 3 then (if (bt161.1.length : Int) = 1 then (if 0 < (bt161.1.length : Int) then (some ((rd bt161.1 0) == 3)) else (none)) else (some false)) else (some false)) else (none)) else (some false)) else (some false)) else (some false))) = some r := H
 have A1 := Aside0.mk A10
 clear A10
 replace H := Option.bind_eq_some_iff.mp H
 obtain ⟨⟨t161, t164⟩, A20, H⟩ := H
 replace H : (if t160 = 0 then (if t164 = 0 then (if (t157.length : Int) = 1 then (if 0 < (t157.length : Int) then (if (rd t157 0) = 3 then (if (t161.length : Int) = 1 then (if 0 < (t161.length : Int) then (some ((rd t161 0) == 3)) else (none)) else (some false)) else (some false)) else (none)) else (some false)) else (some false)) else (some false)) = some r := H
 have A2 := Aside0.mk A20
 clear A20
 by_cases c3 : t160 = 0
 ·
  rw [if_pos c3] at H
  have c3b0 : (t160 == 0) = true := beq_iff_eq.mpr c3
  have c3b1 : (t160 != 0) = false := bne_eq_false_iff_eq.mpr c3
  clear c3
  by_cases c4 : t164 = 0
  ·
   rw [if_pos c4] at H
   have c4b0 : (t164 == 0) = true := beq_iff_eq.mpr c4
   have c4b1 : (t164 != 0) = false := bne_eq_false_iff_eq.mpr c4
   clear c4
   by_cases c5 : (t157.length : Int) = 1
   ·
    rw [if_pos c5] at H
    have c5b0 : ((t157.length : Int) == 1) = true := beq_iff_eq.mpr c5
    have c5b1 : ((t157.length : Int) != 1) = false := bne_eq_false_iff_eq.mpr c5
    clear c5
    by_cases c6 : 0 < (t157.length : Int)
    ·
     rw [if_pos c6] at H
     have c6b0 : decide (0 < (t157.length : Int)) = true := decide_eq_true c6
     have c6b1 : decide (0 < t157.length) = true := decide_eq_true (by omega)
     clear c6
     by_cases c7 : (rd t157 0) = 3
     ·
      rw [if_pos c7] at H
      have c7b0 : ((rd t157 0) == 3) = true := beq_iff_eq.mpr c7
      have c7b1 : ((rd t157 0) != 3) = false := bne_eq_false_iff_eq.mpr c7
      clear c7
      by_cases c8 : (t161.length : Int) = 1
      ·
       rw [if_pos c8] at H
       have c8b0 : ((t161.length : Int) == 1) = true := beq_iff_eq.mpr c8
       have c8b1 : ((t161.length : Int) != 1) = false := bne_eq_false_iff_eq.mpr c8
       clear c8
       by_cases c9 : 0 < (t161.length : Int)
       ·
        rw [if_pos c9] at H
        have c9b0 : decide (0 < (t161.length : Int)) = true := decide_eq_true c9
        have c9b1 : decide (0 < t161.length) = true := decide_eq_true (by omega)
        clear c9
        obtain rfl := Option.some.inj H
        go_enter Try.func11, Try.ntmps11
        go_wp2_with (first | ((with_reducible refine gate_dst (N := 9) rfl ?_); (try (refine gate_guard (by rfl) ?_; dsimp only)); refine Kd.R_lit k58 _ 58 ?hg (N := 9) ?hd (xs := ([(⟨0, 1⟩ : S58)] : List (S58))) (inner := [.int .i64 0, .int .i64 1]) (ok := fun _ => True) (okp := fun _ => True) ?hr ?hp (fun _ hk => hk) trivial (Below.refl _ _) (Nat.le_refl _) (by simp) ?_; (case hd => rfl); (case hg => rfl); (case hr => first | (go_simp; done) | (go_simp; rfl)); (case hp => exact (Reps.c2 (show Kd.M k58 _ _ _ (⟨0, 1⟩ : S58) [.int .i64 0, .int .i64 1] from (k58_mkM _ _ _ (⟨0, 1⟩ : S58) )) (Reps.none _ _))); intro v145 w10 ho11 hb hg_ hnew_; clear hg_ hnew_; (first | rw [← Ny144.out] at ho11 | (simp only [Int.reduceToNat] at ho11; rw [← Ny144.out] at ho11)); have n0_ := Aside0.mk (Kd.R_lower ho11 (below_size (by repeat (first | (with_reducible first | exact HB.out | apply below_alloc | apply pw_below_drewN | apply below_drew1) | exact HB.out)))); have n1_ := Aside0.mk (below_step (by repeat (first | (with_reducible first | exact HB.out | apply below_alloc | apply pw_below_drewN | apply below_drew1) | exact HB.out)) hb); clear HB; have HO146 := n0_; have HB := n1_; clear n0_ n1_; clear hb ho11) | ((with_reducible refine gate_dst (N := 11) rfl ?_); (try (refine gate_guard (by rfl) ?_; dsimp only)); refine Kd.R_lit k58 _ 58 ?hg (N := 11) ?hd (xs := ([(⟨1, 1⟩ : S58)] : List (S58))) (inner := [.int .i64 1, .int .i64 1]) (ok := fun _ => True) (okp := fun _ => True) ?hr ?hp (fun _ hk => hk) trivial (Below.refl _ _) (Nat.le_refl _) (by simp) ?_; (case hd => rfl); (case hg => rfl); (case hr => first | (go_simp; done) | (go_simp; rfl)); (case hp => exact (Reps.c2 (show Kd.M k58 _ _ _ (⟨1, 1⟩ : S58) [.int .i64 1, .int .i64 1] from (k58_mkM _ _ _ (⟨1, 1⟩ : S58) )) (Reps.none _ _))); intro v148 w12 ho13 hb hg_ hnew_; clear hg_ hnew_; (first | rw [← Ny147.out] at ho13 | (simp only [Int.reduceToNat] at ho13; rw [← Ny147.out] at ho13)); have n0_ := Aside0.mk (Kd.R_elder' (by (with_reducible repeat (first | apply Kd.R_alloc | apply Kd.R_drewN | apply Kd.R_drew)); exact HO146.out) (Kd.R_base ho13) hb); have n1_ := Aside0.mk (Kd.R_lower (Kd.R_new' ho13 (Kd.R_lt (by (with_reducible repeat (first | apply Kd.R_alloc | apply Kd.R_drewN | apply Kd.R_drew)); exact HO146.out))) (below_size (by repeat (first | (with_reducible first | exact HB.out | apply below_alloc | apply pw_below_drewN | apply below_drew1) | exact HB.out)))); have n2_ := Aside0.mk (below_step (by repeat (first | (with_reducible first | exact HB.out | apply below_alloc | apply pw_below_drewN | apply below_drew1) | exact HB.out)) hb); clear HO146; clear HB; have HO146 := n0_; have HO149 := n1_; have HB := n2_; clear n0_ n1_ n2_; clear hb ho13) | ((with_reducible refine gate_dst (N := 14) rfl ?_); (try (refine gate_guard (by rfl) ?_; dsimp only)); refine Kd.R_lit k56 _ 56 ?hg (N := 14) ?hd (xs := ([(⟨(⟨#[112]⟩ : ByteArray), 1, 0⟩ : S56), (⟨(⟨#[113]⟩ : ByteArray), 0, 0⟩ : S56)] : List (S56))) (inner := [.string (⟨#[112]⟩ : ByteArray), .int .i64 1, .int .i64 0, .string (⟨#[113]⟩ : ByteArray), .int .i64 0, .int .i64 0]) (ok := fun _ => True) (okp := fun _ => True) ?hr ?hp (fun _ hk => hk) trivial (Below.refl _ _) (Nat.le_refl _) (by simp) ?_; (case hd => rfl); (case hg => rfl); (case hr => first | (go_simp; done) | (go_simp; rfl)); (case hp => exact (Reps.c3 (show Kd.M k56 _ _ _ (⟨(⟨#[112]⟩ : ByteArray), 1, 0⟩ : S56) [.string (⟨#[112]⟩ : ByteArray), .int .i64 1, .int .i64 0] from (k56_mkM _ _ _ (⟨(⟨#[112]⟩ : ByteArray), 1, 0⟩ : S56) )) (Reps.c3 (show Kd.M k56 _ _ _ (⟨(⟨#[113]⟩ : ByteArray), 0, 0⟩ : S56) [.string (⟨#[113]⟩ : ByteArray), .int .i64 0, .int .i64 0] from (k56_mkM _ _ _ (⟨(⟨#[113]⟩ : ByteArray), 0, 0⟩ : S56) )) (Reps.none _ _)))); intro v151 w14 ho15 hb hg_ hnew_; clear hg_ hnew_; (first | rw [← Ny150.out] at ho15 | (simp only [Int.reduceToNat] at ho15; rw [← Ny150.out] at ho15)); have n0_ := Aside0.mk (Kd.R_below (by (with_reducible repeat (first | apply Kd.R_alloc | apply Kd.R_drewN | apply Kd.R_drew)); exact HO146.out) hb); have n1_ := Aside0.mk (Kd.R_below (by (with_reducible repeat (first | apply Kd.R_alloc | apply Kd.R_drewN | apply Kd.R_drew)); exact HO149.out) hb); have n2_ := Aside0.mk (Kd.R_lower ho15 (below_size (by repeat (first | (with_reducible first | exact HB.out | apply below_alloc | apply pw_below_drewN | apply below_drew1) | exact HB.out)))); have n3_ := Aside0.mk (below_step (by repeat (first | (with_reducible first | exact HB.out | apply below_alloc | apply pw_below_drewN | apply below_drew1) | exact HB.out)) hb); clear HO146; clear HO149; clear HB; have HO146 := n0_; have HO149 := n1_; have HO152 := n2_; have HB := n3_; clear n0_ n1_ n2_ n3_; clear hb ho15; obtain ⟨Ao16, co16, eo16⟩ := Kd.R_slice HO149.out; subst eo16; obtain ⟨Ao17, co17, eo17⟩ := Kd.R_slice HO146.out; subst eo17) | ((with_reducible refine gate_dst (N := 21) rfl ?_); (try (refine gate_guard (by rfl) ?_; dsimp only)); refine Kd.N_lit k40 _ 40 ?hg (N' := 21) ?hd (xs := ([(⟨(⟨#[116]⟩ : ByteArray), y144, y147, ([] : List (S58)), 0⟩ : S40), (⟨(⟨#[117]⟩ : ByteArray), y147, y144, ([] : List (S58)), 0⟩ : S40)] : List (S40))) (inner := [.string (⟨#[116]⟩ : ByteArray), .slice Ao17 y144.length co17, .slice Ao16 y147.length co16, .slice none 0 0, .int .i64 0, .string (⟨#[117]⟩ : ByteArray), .slice Ao16 y147.length co16, .slice Ao17 y144.length co17, .slice none 0 0, .int .i64 0]) (ok := (fun k_ => some k_ ≠ (v151 : Value).ownBlock)) (okp := (fun k_ => some k_ ≠ (v151 : Value).ownBlock)) ?hr ?hp (fun _ hk => hk) ((show ∀ k_, w14.heap.size ≤ k_ → (fun k_ => some k_ ≠ (v151 : Value).ownBlock) k_ from fun k_ hk => Kd.fresh' (Kd.R_lt (by (with_reducible repeat (first | apply Kd.R_alloc | apply Kd.R_drewN | apply Kd.R_drew)); exact HO152.out)) k_ hk) _ (Nat.le_refl _)) (Below.refl _ _) (Nat.le_refl _) (by simp) ?_; (case hd => rfl); (case hg => rfl); (case hr => first | (go_simp; done) | (go_simp; rfl)); (case hp => exact (Reps.c5 (show Kd.FK k40 _ _ (⟨(⟨#[116]⟩ : ByteArray), y144, y147, ([] : List (S58)), 0⟩ : S40) [.string (⟨#[116]⟩ : ByteArray), .slice Ao17 y144.length co17, .slice Ao16 y147.length co16, .slice none 0 0, .int .i64 0] from (k40_mkF _ _ (⟨(⟨#[116]⟩ : ByteArray), y144, y147, ([] : List (S58)), 0⟩ : S40) (Kd.R_reads' (Kd.R_mono (ok' := (fun k_ => some k_ ≠ (v151 : Value).ownBlock)) (Kd.R_apart' (HO146.out) (Kd.R_typed HO152.out) (by decide)) (fun k_ hk => hk.2))).2.1 (Kd.R_F (Kd.R_mono (ok' := (fun k_ => some k_ ≠ (v151 : Value).ownBlock)) (Kd.R_apart' (HO146.out) (Kd.R_typed HO152.out) (by decide)) (fun k_ hk => hk.2))) (Kd.R_reads' (Kd.R_mono (ok' := (fun k_ => some k_ ≠ (v151 : Value).ownBlock)) (Kd.R_apart' (HO149.out) (Kd.R_typed HO152.out) (by decide)) (fun k_ hk => hk.2))).2.1 (Kd.R_F (Kd.R_mono (ok' := (fun k_ => some k_ ≠ (v151 : Value).ownBlock)) (Kd.R_apart' (HO149.out) (Kd.R_typed HO152.out) (by decide)) (fun k_ hk => hk.2))) (Nat.le_refl _) (Kd.F_nil _ _ _))) (Reps.c5 (show Kd.FK k40 _ _ (⟨(⟨#[117]⟩ : ByteArray), y147, y144, ([] : List (S58)), 0⟩ : S40) [.string (⟨#[117]⟩ : ByteArray), .slice Ao16 y147.length co16, .slice Ao17 y144.length co17, .slice none 0 0, .int .i64 0] from (k40_mkF _ _ (⟨(⟨#[117]⟩ : ByteArray), y147, y144, ([] : List (S58)), 0⟩ : S40) (Kd.R_reads' (Kd.R_mono (ok' := (fun k_ => some k_ ≠ (v151 : Value).ownBlock)) (Kd.R_apart' (HO149.out) (Kd.R_typed HO152.out) (by decide)) (fun k_ hk => hk.2))).2.1 (Kd.R_F (Kd.R_mono (ok' := (fun k_ => some k_ ≠ (v151 : Value).ownBlock)) (Kd.R_apart' (HO149.out) (Kd.R_typed HO152.out) (by decide)) (fun k_ hk => hk.2))) (Kd.R_reads' (Kd.R_mono (ok' := (fun k_ => some k_ ≠ (v151 : Value).ownBlock)) (Kd.R_apart' (HO146.out) (Kd.R_typed HO152.out) (by decide)) (fun k_ hk => hk.2))).2.1 (Kd.R_F (Kd.R_mono (ok' := (fun k_ => some k_ ≠ (v151 : Value).ownBlock)) (Kd.R_apart' (HO146.out) (Kd.R_typed HO152.out) (by decide)) (fun k_ hk => hk.2))) (Nat.le_refl _) (Kd.F_nil _ _ _))) (Reps.none _ _)))); intro v154 w18 ho19 hb hg_ hnew_; clear hg_ hnew_; (first | rw [← Ny153.out] at ho19 | (simp only [Int.reduceToNat] at ho19; rw [← Ny153.out] at ho19)); have n0_ := Aside0.mk (Kd.R_below (by (with_reducible repeat (first | apply Kd.R_alloc | apply Kd.R_drewN | apply Kd.R_drew)); exact HO152.out) hb); have n1_ := Aside0.mk (Kd.N_lower ho19 (below_size (by repeat (first | (with_reducible first | exact HB.out | apply below_alloc | apply pw_below_drewN | apply below_drew1) | exact HB.out)))); have n2_ := Aside0.mk (below_step (by repeat (first | (with_reducible first | exact HB.out | apply below_alloc | apply pw_below_drewN | apply below_drew1) | exact HB.out)) hb); clear HO152; clear HB; clear HO146; clear HO149; have HO152 := n0_; have HO155 := n1_; have HB := n2_; clear n0_ n1_ n2_; clear hb ho19; obtain ⟨Ao20, co20, eo20⟩ := Kd.N_slice HO155.out; subst eo20; obtain ⟨Ao21, co21, eo21⟩ := Kd.R_slice HO152.out; subst eo21) | ((with_reducible refine gate_dst (N := 3) rfl ?_); (try (refine gate_guard (by rfl) ?_; dsimp only)); refine box_event ?hg (N := 3) ?hd (cs := #[.string (⟨#[]⟩ : ByteArray), .slice none 0 0, .slice none 0 0]) (t := 25) ?hr ?_; (case hd => rfl); (case hg => rfl); (case hr => first | (go_simp; done) | (go_simp; rfl)); intro gb156 hg w22 hbox hb; have n0_ := Aside0.mk (Kd.R_below (by (with_reducible repeat (first | apply Kd.R_alloc | apply Kd.R_drewN | apply Kd.R_drew)); exact HO152.out) hb); have n1_ := Aside0.mk (Kd.N_below (Kd.N_elderB (by (with_reducible repeat (first | apply Kd.N_alloc | apply Kd.N_drewN | apply Kd.N_drew)); exact HO155.out) gb156 (Nat.le_of_eq hg.symm)) hb); have n2_ := Aside0.mk (below_step (by repeat (first | (with_reducible first | exact HB.out | apply below_alloc | apply pw_below_drewN | apply below_drew1) | exact HB.out)) hb); have n3_ := Aside0.mk (hbox); have n4_ := Aside0.mk ((by rw [hg]; exact (below_size (by repeat (first | (with_reducible first | exact HB.out | apply below_alloc | apply pw_below_drewN | apply below_drew1) | exact HB.out))) : w.heap.size ≤ gb156)); have n5_ := Aside0.mk ((by rw [hg]; exact (below_size (by repeat (first | (with_reducible first | exact HB.out | apply below_alloc | apply pw_below_drewN | apply below_drew1) | exact HB.out))) : w.heap.size ≤ gb156)); clear HO152; clear HO155; clear HB; have HO152 := n0_; have HO155 := n1_; have HB := n2_; have BK156 := n3_; have GW156 := n4_; have GE156 := n5_; clear n0_ n1_ n2_ n3_ n4_ n5_; clear hb hbox hg; have hcz23_0 : w22.cell? ⟨gb156, 0, none⟩ = some (.string (⟨#[]⟩ : ByteArray)) := (blk_cell BK156.out 0).trans rfl; have hcz23_1 : w22.cell? ⟨gb156, 1, none⟩ = some (.slice none 0 0) := (blk_cell BK156.out 1).trans rfl; have hcz23_2 : w22.cell? ⟨gb156, 2, none⟩ = some (.slice none 0 0) := (blk_cell BK156.out 2).trans rfl; have hfz23_0 := blk_frozen BK156.out 0; have hfz23_1 := blk_frozen BK156.out 1; have hfz23_2 := blk_frozen BK156.out 2) | ((with_reducible refine gate_callee (f := 28) rfl ?_); refine goesL_ (some 25) rfl rfl Try.func28 (by kernel_rfl) rfl #[.agg #[.string (⟨#[110]⟩ : ByteArray), .slice Ao21 y150.length co21, .slice Ao20 y153.length co20]] rfl (by (try simp only [List.map_toArray, List.map_cons, List.map_nil]); first | done | rfl | (simp only [List.length_drop, List.length_take]; rfl)) ?_; (with_reducible refine (siphon_Siphons.calls k (⟨#[110]⟩ : ByteArray) _ _ y150 _ _ y153 t157 t160 _ ?side1 ?side2 ?side3 ?side4 A1.out).mono ?_); (case side1 => refine (Kd.R_reads' (e := 56) (base := w.heap.size) (ok := fun k_ => True) (n := y150.length) (c := co21) ?_).2.2; exact (by (with_reducible repeat (first | apply Kd.R_alloc | apply Kd.R_drewN | apply Kd.R_drew)); exact (Kd.R_mono (Kd.R_far (p := ⟨gb156, 2, none⟩) (Kd.R_far (p := ⟨gb156, 1, none⟩) (Kd.R_far (p := ⟨gb156, 0, none⟩) (Kd.R_types HO152.out BK156.out (by decide)) (fun _ hk => hk.2) (.string (⟨#[110]⟩ : ByteArray))) (fun _ hk => hk.2) (.slice Ao21 y150.length co21)) (fun _ hk => hk.2) (.slice Ao20 y153.length co20)) (fun _ h_ => h_.1)))); (case side2 => exact (Kd.R_reads' HO152.out).2.1); (case side3 => refine (Kd.N_reads' (e := 40) (base := w.heap.size) (ok := fun k_ => (some k_ ≠ (.slice Ao21 y150.length co21 : Value).ownBlock ∧ k_ ≠ gb156)) (n := y153.length) (c := co20) ?_).2.2; exact (by (with_reducible repeat (first | apply Kd.N_alloc | apply Kd.N_drewN | apply Kd.N_drew)); exact (Kd.N_mono (Kd.N_far (p := ⟨gb156, 2, none⟩) (Kd.N_far (p := ⟨gb156, 1, none⟩) (Kd.N_far (p := ⟨gb156, 0, none⟩) (Kd.N_mono HO155.out (fun k_ hk => (⟨hk, hk.2⟩ : _ ∧ k_ ≠ gb156))) (fun _ hk => hk.2) (.string (⟨#[110]⟩ : ByteArray))) (fun _ hk => hk.2) (.slice Ao21 y150.length co21)) (fun _ hk => hk.2) (.slice Ao20 y153.length co20)) (fun _ h_ => h_.1)))); (case side4 => exact (Kd.N_reads' HO155.out).2.1); rintro e w24 ⟨v158, rfl, ho0, hb⟩; refine ⟨_, rfl, ?_⟩; have n0_ := Aside0.mk (Kd.R_below (by (with_reducible repeat (first | apply Kd.R_alloc | apply Kd.R_drewN | apply Kd.R_drew)); exact (Kd.R_mono (Kd.R_far (p := ⟨gb156, 2, none⟩) (Kd.R_far (p := ⟨gb156, 1, none⟩) (Kd.R_far (p := ⟨gb156, 0, none⟩) (Kd.R_types HO152.out BK156.out (by decide)) (fun _ hk => hk.2) (.string (⟨#[110]⟩ : ByteArray))) (fun _ hk => hk.2) (.slice Ao21 y150.length co21)) (fun _ hk => hk.2) (.slice Ao20 y153.length co20)) (fun _ h_ => h_.1))) hb); have n1_ := Aside0.mk (Kd.N_elder' (by (with_reducible repeat (first | apply Kd.N_alloc | apply Kd.N_drewN | apply Kd.N_drew)); exact (Kd.N_mono (Kd.N_far (p := ⟨gb156, 2, none⟩) (Kd.N_far (p := ⟨gb156, 1, none⟩) (Kd.N_far (p := ⟨gb156, 0, none⟩) (Kd.N_mono HO155.out (fun k_ hk => (⟨hk, hk.2⟩ : _ ∧ k_ ≠ gb156))) (fun _ hk => hk.2) (.string (⟨#[110]⟩ : ByteArray))) (fun _ hk => hk.2) (.slice Ao21 y150.length co21)) (fun _ hk => hk.2) (.slice Ao20 y153.length co20)) (fun _ h_ => h_.1))) (Kd.R_base ho0) hb); have n2_ := Aside0.mk (Kd.R_lower ho0 (below_size (by repeat (first | (with_reducible first | exact HB.out | apply below_alloc | apply pw_below_drewN | apply below_drew1 | refine below_set ?_ GE156.out) | exact HB.out)))); have n3_ := Aside0.mk (blk_below (g := gb156) (o := .cells #[.string (⟨#[110]⟩ : ByteArray), .slice Ao21 y150.length co21, .slice Ao20 y153.length co20] 25 (0, 0)) (by (with_reducible repeat (first | refine blk_drewN ?_ _ | refine blk_drew ?_ | refine blk_alloc ?_ _)); refine blk_put (cs := #[.string (⟨#[110]⟩ : ByteArray), .slice Ao21 y150.length co21, .slice none 0 0]) ?_ 2 _ rfl; (with_reducible repeat (first | refine blk_drewN ?_ _ | refine blk_drew ?_ | refine blk_alloc ?_ _)); refine blk_put (cs := #[.string (⟨#[110]⟩ : ByteArray), .slice none 0 0, .slice none 0 0]) ?_ 1 _ rfl; (with_reducible repeat (first | refine blk_drewN ?_ _ | refine blk_drew ?_ | refine blk_alloc ?_ _)); refine blk_put (cs := #[.string (⟨#[]⟩ : ByteArray), .slice none 0 0, .slice none 0 0]) ?_ 0 _ rfl; (with_reducible repeat (first | refine blk_drewN ?_ _ | refine blk_drew ?_ | refine blk_alloc ?_ _)); exact BK156.out) hb); have n4_ := Aside0.mk (below_step (by repeat (first | (with_reducible first | exact HB.out | apply below_alloc | apply pw_below_drewN | apply below_drew1 | refine below_set ?_ GE156.out) | exact HB.out)) hb); clear HO152; clear HO155; clear BK156; clear HB; have HO152 := n0_; have HO155 := n1_; have HO159 := n2_; have BK156 := n3_; have HB := n4_; clear n0_ n1_ n2_ n3_ n4_; (try clear hb); (try clear hb2); (try clear hk); (try clear hi); (try clear ho0); have hcz25_0 : w24.cell? ⟨gb156, 0, none⟩ = some (.string (⟨#[110]⟩ : ByteArray)) := (blk_cell BK156.out 0).trans rfl; have hcz25_1 : w24.cell? ⟨gb156, 1, none⟩ = some (.slice Ao21 y150.length co21) := (blk_cell BK156.out 1).trans rfl; have hcz25_2 : w24.cell? ⟨gb156, 2, none⟩ = some (.slice Ao20 y153.length co20) := (blk_cell BK156.out 2).trans rfl; have hfz25_0 := blk_frozen BK156.out 0; have hfz25_1 := blk_frozen BK156.out 1; have hfz25_2 := blk_frozen BK156.out 2) | ((with_reducible refine gate_callee (f := 30) rfl ?_); refine goesL_ (some 30) rfl rfl Try.func30 (by kernel_rfl) rfl #[.agg #[.string (⟨#[110]⟩ : ByteArray), .slice Ao21 y150.length co21, .slice Ao20 y153.length co20]] rfl (by (try simp only [List.map_toArray, List.map_cons, List.map_nil]); first | done | rfl | (simp only [List.length_drop, List.length_take]; rfl)) ?_; (with_reducible refine (siphon_Traps.calls k (⟨#[110]⟩ : ByteArray) _ _ y150 _ _ y153 t161 t164 _ ?side1 ?side2 ?side3 ?side4 A2.out).mono ?_); (case side1 => repeat (first | exact (Kd.R_reads' HO152.out).2.2 | (with_reducible refine Kd.C_alloc ?_ _) | (with_reducible refine Kd.C_drewN ?_ _) | (with_reducible refine Kd.C_drew ?_))); (case side2 => exact (Kd.R_reads' HO152.out).2.1); (case side3 => repeat (first | exact (Kd.N_reads' HO155.out).2.2 | (with_reducible refine Kd.C_alloc ?_ _) | (with_reducible refine Kd.C_drewN ?_ _) | (with_reducible refine Kd.C_drew ?_))); (case side4 => exact (Kd.N_reads' HO155.out).2.1); rintro e w26 ⟨v162, rfl, ho0, hb⟩; refine ⟨_, rfl, ?_⟩; have n0_ := Aside0.mk (Kd.R_below (by (with_reducible repeat (first | apply Kd.R_alloc | apply Kd.R_drewN | apply Kd.R_drew)); exact HO152.out) hb); have n1_ := Aside0.mk (Kd.N_elder' (by (with_reducible repeat (first | apply Kd.N_alloc | apply Kd.N_drewN | apply Kd.N_drew)); exact HO155.out) (Kd.R_base ho0) hb); have n2_ := Aside0.mk (Kd.R_elder' (by (with_reducible repeat (first | apply Kd.R_alloc | apply Kd.R_drewN | apply Kd.R_drew)); exact HO159.out) (Kd.R_base ho0) hb); have n3_ := Aside0.mk (Kd.R_lower (Kd.R_new' ho0 (Kd.R_lt (by (with_reducible repeat (first | apply Kd.R_alloc | apply Kd.R_drewN | apply Kd.R_drew)); exact HO159.out))) (below_size (by repeat (first | (with_reducible first | exact HB.out | apply below_alloc | apply pw_below_drewN | apply below_drew1 | refine below_set ?_ GE156.out) | exact HB.out)))); have n4_ := Aside0.mk (blk_below (g := gb156) (o := .cells #[.string (⟨#[110]⟩ : ByteArray), .slice Ao21 y150.length co21, .slice Ao20 y153.length co20] 25 (0, 0)) (by (with_reducible repeat (first | refine blk_drewN ?_ _ | refine blk_drew ?_ | refine blk_alloc ?_ _)); exact BK156.out) hb); have n5_ := Aside0.mk (below_step (by repeat (first | (with_reducible first | exact HB.out | apply below_alloc | apply pw_below_drewN | apply below_drew1 | refine below_set ?_ GE156.out) | exact HB.out)) hb); clear HO152; clear HO155; clear HO159; clear BK156; clear HB; have HO152 := n0_; have HO155 := n1_; have HO159 := n2_; have HO163 := n3_; have BK156 := n4_; have HB := n5_; clear n0_ n1_ n2_ n3_ n4_ n5_; (try clear hb); (try clear hb2); (try clear hk); (try clear hi); (try clear ho0); obtain ⟨Ao27, co27, eo27⟩ := Kd.R_slice HO159.out; subst eo27; have p165 : 0 ≤ (0 : Int) := (by omega); have q165 : 0 < (t157.length : Int) := of_decide_eq_true (by first | (with_reducible assumption) | assumption); obtain ⟨ad165, e165, hx165_0⟩ := Kd.at_int (Kd.R_reads' HO159.out).2.2 0 p165 q165; cases e165; have qi165 : (0 < t157.length) = True := eq_true (by omega); (try rw [show ((0 : Int)).toNat = 0 from rfl] at hx165_0); (try rw [Addr.add_zero'] at hx165_0); replace p165 := eq_true p165; replace q165 := eq_true q165; obtain ⟨Ao28, co28, eo28⟩ := Kd.R_slice HO163.out; subst eo28; have p166 : 0 ≤ (0 : Int) := (by omega); have q166 : 0 < (t161.length : Int) := of_decide_eq_true (by first | (with_reducible assumption) | assumption); obtain ⟨ad166, e166, hx166_0⟩ := Kd.at_int (Kd.R_reads' HO163.out).2.2 0 p166 q166; cases e166; have qi166 : (0 < t161.length) = True := eq_true (by omega); (try rw [show ((0 : Int)).toNat = 0 from rfl] at hx166_0); (try rw [Addr.add_zero'] at hx166_0); replace p166 := eq_true p166; replace q166 := eq_true q166))
        go_ret
        exact ⟨by first | rfl | (simp [errW_none, errW_some] <;> rfl) | (simp [*, errW_none, errW_some] <;> rfl), by repeat (first | (with_reducible first | exact HB.out | apply below_alloc | apply pw_below_drewN | apply below_drew1 | refine below_set ?_ GE156.out) | exact HB.out)⟩
       ·
        rw [if_neg c9] at H
        exact absurd H (by simp)
      ·
       rw [if_neg c8] at H
       have c8b0 : ((t161.length : Int) == 1) = false := beq_eq_false_iff_ne.mpr c8
       have c8b1 : ((t161.length : Int) != 1) = true := bne_iff_ne.mpr c8
       exact absurd ((Option.some.inj H).trans hrT_.out) Bool.false_ne_true
     ·
      rw [if_neg c7] at H
      have c7b0 : ((rd t157 0) == 3) = false := beq_eq_false_iff_ne.mpr c7
      have c7b1 : ((rd t157 0) != 3) = true := bne_iff_ne.mpr c7
      exact absurd ((Option.some.inj H).trans hrT_.out) Bool.false_ne_true
    ·
     rw [if_neg c6] at H
     exact absurd H (by simp)
   ·
    rw [if_neg c5] at H
    have c5b0 : ((t157.length : Int) == 1) = false := beq_eq_false_iff_ne.mpr c5
    have c5b1 : ((t157.length : Int) != 1) = true := bne_iff_ne.mpr c5
    exact absurd ((Option.some.inj H).trans hrT_.out) Bool.false_ne_true
  ·
   rw [if_neg c4] at H
   have c4b0 : (t164 == 0) = false := beq_eq_false_iff_ne.mpr c4
   have c4b1 : (t164 != 0) = true := bne_iff_ne.mpr c4
   exact absurd ((Option.some.inj H).trans hrT_.out) Bool.false_ne_true
 ·
  rw [if_neg c3] at H
  have c3b0 : (t160 == 0) = false := beq_eq_false_iff_ne.mpr c3
  have c3b1 : (t160 != 0) = true := bne_iff_ne.mpr c3
  exact absurd ((Option.some.inj H).trans hrT_.out) Bool.false_ne_true


/-! ### siphon_is: function 34 -/
def siphon_is.f (k : Nat) (a0_0 : ByteArray) (l0_1 : List (S56)) (l0_2 : List (S40)) (a1 : Int) (a2 : Bool) : Option (Bool) := (net_Check.f k a0_0 l0_1 l0_2).bind fun bt168 => (if bt168.1 = 0 then ((bitset_All.f k (l0_1.length : Int)).bind fun t170 => ((bitset_Subset.f a1 t170).bind fun t171 => (if t171 = true then ((siphon_holds.f k a0_0 l0_1 l0_2 a1 a2).bind fun t172 => (some t172)) else (some false)))) else (some false))
theorem siphon_is.mono : ∀ a0 a1 a2 a3 a4 k, LeO (siphon_is.f k a0 a1 a2 a3 a4) (siphon_is.f (k + 1) a0 a1 a2 a3 a4) := by
 intro a0 a1 a2 a3 a4 k
 unfold siphon_is.f
 repeat' first
   | (with_reducible exact bitset_All.mono _ _)
   | (with_reducible exact net_Check.mono _ _ _ _)
   | (with_reducible exact siphon_holds.mono _ _ _ _ _ _)
   | (with_reducible exact LeO.refl _)
   | (with_reducible exact LeO.none _)
   | (with_reducible refine LeO.ite ?_ ?_)
   | (with_reducible refine LeO.bind ?_ (fun _ => ?_))
   | exact bitset_All.mono _ _
   | exact net_Check.mono _ _ _ _
   | exact siphon_holds.mono _ _ _ _ _ _
   | exact LeO.none _
   | refine LeO.ite ?_ ?_
   | refine LeO.bind ?_ (fun _ => ?_)

/-! ### petrinetref09_Name: function 61 -/
mutual
def petrinetref09_Name.j0 : Nat → ByteArray → Bool → Option (Bool)
 | 0, _, _ => none
 | k + 1, x0, x14 => if x14 = true then (some false) else (petrinetref09_Name.l0 k x0 0)
def petrinetref09_Name.l0 : Nat → ByteArray → Int → Option (Bool)
 | 0, _, _ => none
 | k + 1, x0, x3 => if x3 < (x0.size : Int) then (if 0 ≤ x3 then (if (bt x0 x3) ≥ 97 then (if (bt x0 x3) ≤ 122 then (if (bt x0 x3) ≥ 48 then (if (bt x0 x3) ≤ 57 then (petrinetref09_Name.l0 k x0 (wrap64 (x3 + 1))) else (petrinetref09_Name.l0 k x0 (wrap64 (x3 + 1)))) else (petrinetref09_Name.l0 k x0 (wrap64 (x3 + 1)))) else (if (bt x0 x3) ≥ 48 then (if (bt x0 x3) ≤ 57 then (if ((bt x0 x3) = 95) then (petrinetref09_Name.l0 k x0 (wrap64 (x3 + 1))) else (if x3 = 0 then (some false) else (petrinetref09_Name.l0 k x0 (wrap64 (x3 + 1))))) else (if ((bt x0 x3) = 95) then (petrinetref09_Name.l0 k x0 (wrap64 (x3 + 1))) else (if ((bt x0 x3) = 46) then (if x3 = 0 then (some false) else (petrinetref09_Name.l0 k x0 (wrap64 (x3 + 1)))) else (some false)))) else (if ((bt x0 x3) = 95) then (petrinetref09_Name.l0 k x0 (wrap64 (x3 + 1))) else (if ((bt x0 x3) = 46) then (if x3 = 0 then (some false) else (petrinetref09_Name.l0 k x0 (wrap64 (x3 + 1)))) else (some false))))) else (if (bt x0 x3) ≥ 48 then (if (bt x0 x3) ≤ 57 then (if ((bt x0 x3) = 95) then (petrinetref09_Name.l0 k x0 (wrap64 (x3 + 1))) else (if x3 = 0 then (some false) else (petrinetref09_Name.l0 k x0 (wrap64 (x3 + 1))))) else (if ((bt x0 x3) = 95) then (petrinetref09_Name.l0 k x0 (wrap64 (x3 + 1))) else (if ((bt x0 x3) = 46) then (if x3 = 0 then (some false) else (petrinetref09_Name.l0 k x0 (wrap64 (x3 + 1)))) else (some false)))) else (if ((bt x0 x3) = 95) then (petrinetref09_Name.l0 k x0 (wrap64 (x3 + 1))) else (if ((bt x0 x3) = 46) then (if x3 = 0 then (some false) else (petrinetref09_Name.l0 k x0 (wrap64 (x3 + 1)))) else (some false))))) else (none)) else (some true)
end
def petrinetref09_Name.f (k : Nat) (a0 : ByteArray) : Option (Bool) := if (a0.size : Int) < 1 then (petrinetref09_Name.j0 k a0 true) else (petrinetref09_Name.j0 k a0 (decide ((a0.size : Int) > 16)))
theorem petrinetref09_Name.mono_l : ∀ k, (∀ y0 y1, LeO (petrinetref09_Name.j0 k y0 y1) (petrinetref09_Name.j0 (k + 1) y0 y1)) ∧ (∀ y0 y1, LeO (petrinetref09_Name.l0 k y0 y1) (petrinetref09_Name.l0 (k + 1) y0 y1))
 | 0 => ⟨fun _ _ r h => by simp [petrinetref09_Name.j0] at h, fun _ _ r h => by simp [petrinetref09_Name.l0] at h⟩
 | k + 1 => by
  obtain ⟨ih0, ih1⟩ := petrinetref09_Name.mono_l k
  refine ⟨?_, ?_⟩
  ·
   intro y0 y1
   unfold petrinetref09_Name.j0
   repeat' first
   | (with_reducible exact ih0 _ _)
   | (with_reducible exact ih1 _ _)
   | (with_reducible exact LeO.refl _)
   | (with_reducible exact LeO.none _)
   | (with_reducible refine LeO.ite ?_ ?_)
   | (with_reducible refine LeO.bind ?_ (fun _ => ?_))
   | exact ih0 _ _
   | exact ih1 _ _
   | exact LeO.none _
   | refine LeO.ite ?_ ?_
   | refine LeO.bind ?_ (fun _ => ?_)
  ·
   intro y0 y1
   unfold petrinetref09_Name.l0
   repeat' first
   | (with_reducible exact ih0 _ _)
   | (with_reducible exact ih1 _ _)
   | (with_reducible exact LeO.refl _)
   | (with_reducible exact LeO.none _)
   | (with_reducible refine LeO.ite ?_ ?_)
   | (with_reducible refine LeO.bind ?_ (fun _ => ?_))
   | exact ih0 _ _
   | exact ih1 _ _
   | exact LeO.none _
   | refine LeO.ite ?_ ?_
   | refine LeO.bind ?_ (fun _ => ?_)
theorem petrinetref09_Name.mono : ∀ a0 k, LeO (petrinetref09_Name.f k a0) (petrinetref09_Name.f (k + 1) a0) := by
 intro a0 k
 obtain ⟨ih0, ih1⟩ := petrinetref09_Name.mono_l k
 unfold petrinetref09_Name.f
 repeat' first
   | (with_reducible exact ih0 _ _)
   | (with_reducible exact ih1 _ _)
   | (with_reducible exact LeO.refl _)
   | (with_reducible exact LeO.none _)
   | (with_reducible refine LeO.ite ?_ ?_)
   | (with_reducible refine LeO.bind ?_ (fun _ => ?_))
   | exact ih0 _ _
   | exact ih1 _ _
   | exact LeO.none _
   | refine LeO.ite ?_ ?_
   | refine LeO.bind ?_ (fun _ => ?_)
set_option maxHeartbeats 8000000 in
set_option maxRecDepth 100000 in
theorem petrinetref09_Name.calls (k : Nat) (a0 : ByteArray) (r : Bool) (w : World) (h : petrinetref09_Name.f k a0 = some r) :
  Calls Try.prog 61 #[.string a0] w fun e w' => e = .returned (.bool r) ∧ Drawn0 w w' := by
 have H : (if (a0.size : Int) < 1 then (petrinetref09_Name.j0 k a0 true) else (petrinetref09_Name.j0 k a0 (decide ((a0.size : Int) > 16)))) = some r := h
 clear h
 have HC2 := Aside0.mk H
 clear H
 go_enter Try.func61, Try.ntmps61
 go_upto_region 1 with (fail)
 go_cut [14] (fun v14 wc => ∃ (kq : Nat) (x14_1 : Bool), v14 = .bool x14_1 ∧ Aside0 (petrinetref09_Name.j0 kq a0 x14_1 = some r) ∧ Aside0 (kq ≤ k) ∧ Drawn0 w wc)
 case first =>
  have H := HC2.out
  clear HC2
  by_cases c3 : (a0.size : Int) < 1
  ·
   rw [if_pos c3] at H
   have c3b0 : decide ((a0.size : Int) < 1) = true := decide_eq_true c3
   have c3b1 : decide (a0.size < 1) = true := decide_eq_true (by omega)
   clear c3
   (first | rw [c3b0] | (simp only [i64_w, i32_w]; rw [c3b0]) | skip)
   have H' := Aside0.mk H
   clear H
   go_wp2
   go_meet
   case rel => exact ⟨_, (true), (by first | rfl | (simp; done) | (simp [*]; done) | (simp [i64_w]; done)), H', ⟨by first | omega | exact Nat.le_refl _⟩, by repeat (first | exact Drawn0.refl _ | apply Drawn0.step)⟩
  ·
   rw [if_neg c3] at H
   have c3b0 : decide ((a0.size : Int) < 1) = false := decide_eq_false c3
   have c3b1 : decide (a0.size < 1) = false := decide_eq_false (by omega)
   clear c3
   (first | rw [c3b0] | (simp only [i64_w, i32_w]; rw [c3b0]) | skip)
   have H' := Aside0.mk H
   clear H
   go_wp2
   go_meet
   case rel => exact ⟨_, (decide ((a0.size : Int) > 16)), (by first | rfl | (simp; done) | (simp [*]; done) | (simp [i64_w]; done)), H', ⟨by first | omega | exact Nat.le_refl _⟩, by repeat (first | exact Drawn0.refl _ | apply Drawn0.step)⟩
 case rest =>
  clear HC2
  try clear p2
  try clear c3
  try clear c3b0
  try clear c3b1
  obtain ⟨kq, x14_1, rfl, HA, HJ1, ⟨mc1, rfl⟩⟩ := hcut
  cases kq with
  | zero => exact absurd HA.out (by simp [petrinetref09_Name.j0])
  | succ kj1 =>
   have H := HA.out
   clear HA
   simp only [petrinetref09_Name.j0] at H
   by_cases c4 : x14_1 = true
   ·
    subst c4
    have H1 : (some false) = some r := by rw [if_pos rfl] at H; exact H
    clear H
    have H := H1
    clear H1
    obtain rfl := Option.some.inj H
    go_wp2
    go_ret
    exact ⟨by first | rfl | (simp; done) | (simp [*]; done), by repeat (first | exact Drawn0.refl _ | apply Drawn0.step)⟩
   ·
    replace c4 := Bool.eq_false_iff.mpr c4
    subst c4
    have H1 : (petrinetref09_Name.l0 kj1 a0 0) = some r := by rw [if_neg (show ¬ (false = true) by decide)] at H; exact H
    clear H
    have H := H1
    clear H1
    have H' := Aside0.mk H
    clear H
    go_wp2
    go_loopg [3] kj1 (fun kq v3 w' => ∃ (x3_2 : Int), v3 = .int .i64 x3_2 ∧ Aside0 (petrinetref09_Name.l0 kq a0 x3_2 = some r) ∧ Aside0 (kq ≤ kj1) ∧ Drawn0 w w')
    case atStart => exact ⟨(0), (by first | rfl | (simp; done) | (simp [*]; done) | (simp [i64_w]; done)), H', ⟨Nat.le_refl _⟩, by repeat (first | exact Drawn0.refl _ | apply Drawn0.step)⟩
    case round =>
     clear H'
     try clear c1
     try clear p2
     try clear c3
     try clear c3b0
     try clear c3b1
     try clear c4
     try clear p2
     obtain ⟨x3_2, rfl, HA, HK2, ⟨m2, rfl⟩⟩ := hrel
     cases gk with
     | zero => exact absurd HA.out (by simp [petrinetref09_Name.l0])
     | succ k2 =>
      have H := HA.out
      clear HA
      simp only [petrinetref09_Name.l0] at H
      by_cases c5 : x3_2 < (a0.size : Int)
      ·
       rw [if_pos c5] at H
       have c5b0 : decide (x3_2 < (a0.size : Int)) = true := decide_eq_true c5
       clear c5
       by_cases c6 : 0 ≤ x3_2
       ·
        rw [if_pos c6] at H
        have c6b0 : decide (0 ≤ x3_2) = true := decide_eq_true c6
        clear c6
        by_cases c8 : (bt a0 x3_2) ≥ 97
        ·
         rw [if_pos c8] at H
         have c8b0 : decide (97 ≤ (bt a0 x3_2)) = true := decide_eq_true c8
         clear c8
         by_cases c9 : (bt a0 x3_2) ≤ 122
         ·
          rw [if_pos c9] at H
          have c9b0 : decide ((bt a0 x3_2) ≤ 122) = true := decide_eq_true c9
          clear c9
          by_cases c10 : (bt a0 x3_2) ≥ 48
          ·
           rw [if_pos c10] at H
           have c10b0 : decide (48 ≤ (bt a0 x3_2)) = true := decide_eq_true c10
           clear c10
           by_cases c11 : (bt a0 x3_2) ≤ 57
           ·
            rw [if_pos c11] at H
            have c11b0 : decide ((bt a0 x3_2) ≤ 57) = true := decide_eq_true c11
            clear c11
            have H' := Aside0.mk H
            clear H
            have p7 : 0 ≤ (x3_2 : Int) := of_decide_eq_true (by first | (with_reducible assumption) | assumption)
            have q7 : x3_2 < (a0.size : Int) := of_decide_eq_true (by first | (with_reducible assumption) | assumption)
            have hx7 := bt_at a0 x3_2
            replace p7 := eq_true p7
            replace q7 := eq_true q7
            go_wp2
            go_roundg k2
            case measure => have := HJ1.out; have := HK2.out; omega
            case rel => exact ⟨(wrap64 (x3_2 + 1)), (by first | rfl | (simp; done) | (simp [*]; done) | (simp [i64_w]; done)), H', ⟨by have := HJ1.out; have := HK2.out; omega⟩, by repeat (first | exact Drawn0.refl _ | apply Drawn0.step)⟩
           ·
            rw [if_neg c11] at H
            have c11b0 : decide ((bt a0 x3_2) ≤ 57) = false := decide_eq_false c11
            clear c11
            have H' := Aside0.mk H
            clear H
            have p7 : 0 ≤ (x3_2 : Int) := of_decide_eq_true (by first | (with_reducible assumption) | assumption)
            have q7 : x3_2 < (a0.size : Int) := of_decide_eq_true (by first | (with_reducible assumption) | assumption)
            have hx7 := bt_at a0 x3_2
            replace p7 := eq_true p7
            replace q7 := eq_true q7
            go_wp2
            go_roundg k2
            case measure => have := HJ1.out; have := HK2.out; omega
            case rel => exact ⟨(wrap64 (x3_2 + 1)), (by first | rfl | (simp; done) | (simp [*]; done) | (simp [i64_w]; done)), H', ⟨by have := HJ1.out; have := HK2.out; omega⟩, by repeat (first | exact Drawn0.refl _ | apply Drawn0.step)⟩
          ·
           rw [if_neg c10] at H
           have c10b0 : decide (48 ≤ (bt a0 x3_2)) = false := decide_eq_false c10
           clear c10
           have H' := Aside0.mk H
           clear H
           have p7 : 0 ≤ (x3_2 : Int) := of_decide_eq_true (by first | (with_reducible assumption) | assumption)
           have q7 : x3_2 < (a0.size : Int) := of_decide_eq_true (by first | (with_reducible assumption) | assumption)
           have hx7 := bt_at a0 x3_2
           replace p7 := eq_true p7
           replace q7 := eq_true q7
           go_wp2
           go_roundg k2
           case measure => have := HJ1.out; have := HK2.out; omega
           case rel => exact ⟨(wrap64 (x3_2 + 1)), (by first | rfl | (simp; done) | (simp [*]; done) | (simp [i64_w]; done)), H', ⟨by have := HJ1.out; have := HK2.out; omega⟩, by repeat (first | exact Drawn0.refl _ | apply Drawn0.step)⟩
         ·
          rw [if_neg c9] at H
          have c9b0 : decide ((bt a0 x3_2) ≤ 122) = false := decide_eq_false c9
          clear c9
          by_cases c12 : (bt a0 x3_2) ≥ 48
          ·
           rw [if_pos c12] at H
           have c12b0 : decide (48 ≤ (bt a0 x3_2)) = true := decide_eq_true c12
           clear c12
           by_cases c13 : (bt a0 x3_2) ≤ 57
           ·
            rw [if_pos c13] at H
            have c13b0 : decide ((bt a0 x3_2) ≤ 57) = true := decide_eq_true c13
            clear c13
            by_cases c14 : ((bt a0 x3_2) = 95)
            ·
             rw [if_pos c14] at H
             have c14b0 : ((bt a0 x3_2) == 95) = true := beq_iff_eq.mpr c14
             have c14b1 : ((bt a0 x3_2) != 95) = false := bne_eq_false_iff_eq.mpr c14
             clear c14
             have H' := Aside0.mk H
             clear H
             have p7 : 0 ≤ (x3_2 : Int) := of_decide_eq_true (by first | (with_reducible assumption) | assumption)
             have q7 : x3_2 < (a0.size : Int) := of_decide_eq_true (by first | (with_reducible assumption) | assumption)
             have hx7 := bt_at a0 x3_2
             replace p7 := eq_true p7
             replace q7 := eq_true q7
             go_wp2
             go_roundg k2
             case measure => have := HJ1.out; have := HK2.out; omega
             case rel => exact ⟨(wrap64 (x3_2 + 1)), (by first | rfl | (simp; done) | (simp [*]; done) | (simp [i64_w]; done)), H', ⟨by have := HJ1.out; have := HK2.out; omega⟩, by repeat (first | exact Drawn0.refl _ | apply Drawn0.step)⟩
            ·
             rw [if_neg c14] at H
             have c14b0 : ((bt a0 x3_2) == 95) = false := beq_eq_false_iff_ne.mpr c14
             have c14b1 : ((bt a0 x3_2) != 95) = true := bne_iff_ne.mpr c14
             by_cases c15 : x3_2 = 0
             ·
              rw [if_pos c15] at H
              have c15b0 : (x3_2 == 0) = true := beq_iff_eq.mpr c15
              have c15b1 : (x3_2 != 0) = false := bne_eq_false_iff_eq.mpr c15
              clear c15
              obtain rfl := Option.some.inj H
              have p7 : 0 ≤ (x3_2 : Int) := of_decide_eq_true (by first | (with_reducible assumption) | assumption)
              have q7 : x3_2 < (a0.size : Int) := of_decide_eq_true (by first | (with_reducible assumption) | assumption)
              have hx7 := bt_at a0 x3_2
              replace p7 := eq_true p7
              replace q7 := eq_true q7
              go_wp2
              go_ret
              exact ⟨by first | rfl | (simp; done) | (simp [*]; done), by repeat (first | exact Drawn0.refl _ | apply Drawn0.step)⟩
             ·
              rw [if_neg c15] at H
              have c15b0 : (x3_2 == 0) = false := beq_eq_false_iff_ne.mpr c15
              have c15b1 : (x3_2 != 0) = true := bne_iff_ne.mpr c15
              have H' := Aside0.mk H
              clear H
              have p7 : 0 ≤ (x3_2 : Int) := of_decide_eq_true (by first | (with_reducible assumption) | assumption)
              have q7 : x3_2 < (a0.size : Int) := of_decide_eq_true (by first | (with_reducible assumption) | assumption)
              have hx7 := bt_at a0 x3_2
              replace p7 := eq_true p7
              replace q7 := eq_true q7
              go_wp2
              go_roundg k2
              case measure => have := HJ1.out; have := HK2.out; omega
              case rel => exact ⟨(wrap64 (x3_2 + 1)), (by first | rfl | (simp; done) | (simp [*]; done) | (simp [i64_w]; done)), H', ⟨by have := HJ1.out; have := HK2.out; omega⟩, by repeat (first | exact Drawn0.refl _ | apply Drawn0.step)⟩
           ·
            rw [if_neg c13] at H
            have c13b0 : decide ((bt a0 x3_2) ≤ 57) = false := decide_eq_false c13
            clear c13
            by_cases c16 : ((bt a0 x3_2) = 95)
            ·
             rw [if_pos c16] at H
             have c16b0 : ((bt a0 x3_2) == 95) = true := beq_iff_eq.mpr c16
             have c16b1 : ((bt a0 x3_2) != 95) = false := bne_eq_false_iff_eq.mpr c16
             clear c16
             have H' := Aside0.mk H
             clear H
             have p7 : 0 ≤ (x3_2 : Int) := of_decide_eq_true (by first | (with_reducible assumption) | assumption)
             have q7 : x3_2 < (a0.size : Int) := of_decide_eq_true (by first | (with_reducible assumption) | assumption)
             have hx7 := bt_at a0 x3_2
             replace p7 := eq_true p7
             replace q7 := eq_true q7
             go_wp2
             go_roundg k2
             case measure => have := HJ1.out; have := HK2.out; omega
             case rel => exact ⟨(wrap64 (x3_2 + 1)), (by first | rfl | (simp; done) | (simp [*]; done) | (simp [i64_w]; done)), H', ⟨by have := HJ1.out; have := HK2.out; omega⟩, by repeat (first | exact Drawn0.refl _ | apply Drawn0.step)⟩
            ·
             rw [if_neg c16] at H
             have c16b0 : ((bt a0 x3_2) == 95) = false := beq_eq_false_iff_ne.mpr c16
             have c16b1 : ((bt a0 x3_2) != 95) = true := bne_iff_ne.mpr c16
             by_cases c17 : ((bt a0 x3_2) = 46)
             ·
              rw [if_pos c17] at H
              have c17b0 : ((bt a0 x3_2) == 46) = true := beq_iff_eq.mpr c17
              have c17b1 : ((bt a0 x3_2) != 46) = false := bne_eq_false_iff_eq.mpr c17
              clear c17
              by_cases c18 : x3_2 = 0
              ·
               rw [if_pos c18] at H
               have c18b0 : (x3_2 == 0) = true := beq_iff_eq.mpr c18
               have c18b1 : (x3_2 != 0) = false := bne_eq_false_iff_eq.mpr c18
               clear c18
               obtain rfl := Option.some.inj H
               have p7 : 0 ≤ (x3_2 : Int) := of_decide_eq_true (by first | (with_reducible assumption) | assumption)
               have q7 : x3_2 < (a0.size : Int) := of_decide_eq_true (by first | (with_reducible assumption) | assumption)
               have hx7 := bt_at a0 x3_2
               replace p7 := eq_true p7
               replace q7 := eq_true q7
               go_wp2
               go_ret
               exact ⟨by first | rfl | (simp; done) | (simp [*]; done), by repeat (first | exact Drawn0.refl _ | apply Drawn0.step)⟩
              ·
               rw [if_neg c18] at H
               have c18b0 : (x3_2 == 0) = false := beq_eq_false_iff_ne.mpr c18
               have c18b1 : (x3_2 != 0) = true := bne_iff_ne.mpr c18
               have H' := Aside0.mk H
               clear H
               have p7 : 0 ≤ (x3_2 : Int) := of_decide_eq_true (by first | (with_reducible assumption) | assumption)
               have q7 : x3_2 < (a0.size : Int) := of_decide_eq_true (by first | (with_reducible assumption) | assumption)
               have hx7 := bt_at a0 x3_2
               replace p7 := eq_true p7
               replace q7 := eq_true q7
               go_wp2
               go_roundg k2
               case measure => have := HJ1.out; have := HK2.out; omega
               case rel => exact ⟨(wrap64 (x3_2 + 1)), (by first | rfl | (simp; done) | (simp [*]; done) | (simp [i64_w]; done)), H', ⟨by have := HJ1.out; have := HK2.out; omega⟩, by repeat (first | exact Drawn0.refl _ | apply Drawn0.step)⟩
             ·
              rw [if_neg c17] at H
              have c17b0 : ((bt a0 x3_2) == 46) = false := beq_eq_false_iff_ne.mpr c17
              have c17b1 : ((bt a0 x3_2) != 46) = true := bne_iff_ne.mpr c17
              obtain rfl := Option.some.inj H
              have p7 : 0 ≤ (x3_2 : Int) := of_decide_eq_true (by first | (with_reducible assumption) | assumption)
              have q7 : x3_2 < (a0.size : Int) := of_decide_eq_true (by first | (with_reducible assumption) | assumption)
              have hx7 := bt_at a0 x3_2
              replace p7 := eq_true p7
              replace q7 := eq_true q7
              go_wp2
              go_ret
              exact ⟨by first | rfl | (simp; done) | (simp [*]; done), by repeat (first | exact Drawn0.refl _ | apply Drawn0.step)⟩
          ·
           rw [if_neg c12] at H
           have c12b0 : decide (48 ≤ (bt a0 x3_2)) = false := decide_eq_false c12
           clear c12
           by_cases c19 : ((bt a0 x3_2) = 95)
           ·
            rw [if_pos c19] at H
            have c19b0 : ((bt a0 x3_2) == 95) = true := beq_iff_eq.mpr c19
            have c19b1 : ((bt a0 x3_2) != 95) = false := bne_eq_false_iff_eq.mpr c19
            clear c19
            have H' := Aside0.mk H
            clear H
            have p7 : 0 ≤ (x3_2 : Int) := of_decide_eq_true (by first | (with_reducible assumption) | assumption)
            have q7 : x3_2 < (a0.size : Int) := of_decide_eq_true (by first | (with_reducible assumption) | assumption)
            have hx7 := bt_at a0 x3_2
            replace p7 := eq_true p7
            replace q7 := eq_true q7
            go_wp2
            go_roundg k2
            case measure => have := HJ1.out; have := HK2.out; omega
            case rel => exact ⟨(wrap64 (x3_2 + 1)), (by first | rfl | (simp; done) | (simp [*]; done) | (simp [i64_w]; done)), H', ⟨by have := HJ1.out; have := HK2.out; omega⟩, by repeat (first | exact Drawn0.refl _ | apply Drawn0.step)⟩
           ·
            rw [if_neg c19] at H
            have c19b0 : ((bt a0 x3_2) == 95) = false := beq_eq_false_iff_ne.mpr c19
            have c19b1 : ((bt a0 x3_2) != 95) = true := bne_iff_ne.mpr c19
            by_cases c20 : ((bt a0 x3_2) = 46)
            ·
             rw [if_pos c20] at H
             have c20b0 : ((bt a0 x3_2) == 46) = true := beq_iff_eq.mpr c20
             have c20b1 : ((bt a0 x3_2) != 46) = false := bne_eq_false_iff_eq.mpr c20
             clear c20
             by_cases c21 : x3_2 = 0
             ·
              rw [if_pos c21] at H
              have c21b0 : (x3_2 == 0) = true := beq_iff_eq.mpr c21
              have c21b1 : (x3_2 != 0) = false := bne_eq_false_iff_eq.mpr c21
              clear c21
              obtain rfl := Option.some.inj H
              have p7 : 0 ≤ (x3_2 : Int) := of_decide_eq_true (by first | (with_reducible assumption) | assumption)
              have q7 : x3_2 < (a0.size : Int) := of_decide_eq_true (by first | (with_reducible assumption) | assumption)
              have hx7 := bt_at a0 x3_2
              replace p7 := eq_true p7
              replace q7 := eq_true q7
              go_wp2
              go_ret
              exact ⟨by first | rfl | (simp; done) | (simp [*]; done), by repeat (first | exact Drawn0.refl _ | apply Drawn0.step)⟩
             ·
              rw [if_neg c21] at H
              have c21b0 : (x3_2 == 0) = false := beq_eq_false_iff_ne.mpr c21
              have c21b1 : (x3_2 != 0) = true := bne_iff_ne.mpr c21
              have H' := Aside0.mk H
              clear H
              have p7 : 0 ≤ (x3_2 : Int) := of_decide_eq_true (by first | (with_reducible assumption) | assumption)
              have q7 : x3_2 < (a0.size : Int) := of_decide_eq_true (by first | (with_reducible assumption) | assumption)
              have hx7 := bt_at a0 x3_2
              replace p7 := eq_true p7
              replace q7 := eq_true q7
              go_wp2
              go_roundg k2
              case measure => have := HJ1.out; have := HK2.out; omega
              case rel => exact ⟨(wrap64 (x3_2 + 1)), (by first | rfl | (simp; done) | (simp [*]; done) | (simp [i64_w]; done)), H', ⟨by have := HJ1.out; have := HK2.out; omega⟩, by repeat (first | exact Drawn0.refl _ | apply Drawn0.step)⟩
            ·
             rw [if_neg c20] at H
             have c20b0 : ((bt a0 x3_2) == 46) = false := beq_eq_false_iff_ne.mpr c20
             have c20b1 : ((bt a0 x3_2) != 46) = true := bne_iff_ne.mpr c20
             obtain rfl := Option.some.inj H
             have p7 : 0 ≤ (x3_2 : Int) := of_decide_eq_true (by first | (with_reducible assumption) | assumption)
             have q7 : x3_2 < (a0.size : Int) := of_decide_eq_true (by first | (with_reducible assumption) | assumption)
             have hx7 := bt_at a0 x3_2
             replace p7 := eq_true p7
             replace q7 := eq_true q7
             go_wp2
             go_ret
             exact ⟨by first | rfl | (simp; done) | (simp [*]; done), by repeat (first | exact Drawn0.refl _ | apply Drawn0.step)⟩
        ·
         rw [if_neg c8] at H
         have c8b0 : decide (97 ≤ (bt a0 x3_2)) = false := decide_eq_false c8
         clear c8
         by_cases c22 : (bt a0 x3_2) ≥ 48
         ·
          rw [if_pos c22] at H
          have c22b0 : decide (48 ≤ (bt a0 x3_2)) = true := decide_eq_true c22
          clear c22
          by_cases c23 : (bt a0 x3_2) ≤ 57
          ·
           rw [if_pos c23] at H
           have c23b0 : decide ((bt a0 x3_2) ≤ 57) = true := decide_eq_true c23
           clear c23
           by_cases c24 : ((bt a0 x3_2) = 95)
           ·
            rw [if_pos c24] at H
            have c24b0 : ((bt a0 x3_2) == 95) = true := beq_iff_eq.mpr c24
            have c24b1 : ((bt a0 x3_2) != 95) = false := bne_eq_false_iff_eq.mpr c24
            clear c24
            have H' := Aside0.mk H
            clear H
            have p7 : 0 ≤ (x3_2 : Int) := of_decide_eq_true (by first | (with_reducible assumption) | assumption)
            have q7 : x3_2 < (a0.size : Int) := of_decide_eq_true (by first | (with_reducible assumption) | assumption)
            have hx7 := bt_at a0 x3_2
            replace p7 := eq_true p7
            replace q7 := eq_true q7
            go_wp2
            go_roundg k2
            case measure => have := HJ1.out; have := HK2.out; omega
            case rel => exact ⟨(wrap64 (x3_2 + 1)), (by first | rfl | (simp; done) | (simp [*]; done) | (simp [i64_w]; done)), H', ⟨by have := HJ1.out; have := HK2.out; omega⟩, by repeat (first | exact Drawn0.refl _ | apply Drawn0.step)⟩
           ·
            rw [if_neg c24] at H
            have c24b0 : ((bt a0 x3_2) == 95) = false := beq_eq_false_iff_ne.mpr c24
            have c24b1 : ((bt a0 x3_2) != 95) = true := bne_iff_ne.mpr c24
            by_cases c25 : x3_2 = 0
            ·
             rw [if_pos c25] at H
             have c25b0 : (x3_2 == 0) = true := beq_iff_eq.mpr c25
             have c25b1 : (x3_2 != 0) = false := bne_eq_false_iff_eq.mpr c25
             clear c25
             obtain rfl := Option.some.inj H
             have p7 : 0 ≤ (x3_2 : Int) := of_decide_eq_true (by first | (with_reducible assumption) | assumption)
             have q7 : x3_2 < (a0.size : Int) := of_decide_eq_true (by first | (with_reducible assumption) | assumption)
             have hx7 := bt_at a0 x3_2
             replace p7 := eq_true p7
             replace q7 := eq_true q7
             go_wp2
             go_ret
             exact ⟨by first | rfl | (simp; done) | (simp [*]; done), by repeat (first | exact Drawn0.refl _ | apply Drawn0.step)⟩
            ·
             rw [if_neg c25] at H
             have c25b0 : (x3_2 == 0) = false := beq_eq_false_iff_ne.mpr c25
             have c25b1 : (x3_2 != 0) = true := bne_iff_ne.mpr c25
             have H' := Aside0.mk H
             clear H
             have p7 : 0 ≤ (x3_2 : Int) := of_decide_eq_true (by first | (with_reducible assumption) | assumption)
             have q7 : x3_2 < (a0.size : Int) := of_decide_eq_true (by first | (with_reducible assumption) | assumption)
             have hx7 := bt_at a0 x3_2
             replace p7 := eq_true p7
             replace q7 := eq_true q7
             go_wp2
             go_roundg k2
             case measure => have := HJ1.out; have := HK2.out; omega
             case rel => exact ⟨(wrap64 (x3_2 + 1)), (by first | rfl | (simp; done) | (simp [*]; done) | (simp [i64_w]; done)), H', ⟨by have := HJ1.out; have := HK2.out; omega⟩, by repeat (first | exact Drawn0.refl _ | apply Drawn0.step)⟩
          ·
           rw [if_neg c23] at H
           have c23b0 : decide ((bt a0 x3_2) ≤ 57) = false := decide_eq_false c23
           clear c23
           by_cases c26 : ((bt a0 x3_2) = 95)
           ·
            rw [if_pos c26] at H
            have c26b0 : ((bt a0 x3_2) == 95) = true := beq_iff_eq.mpr c26
            have c26b1 : ((bt a0 x3_2) != 95) = false := bne_eq_false_iff_eq.mpr c26
            clear c26
            have H' := Aside0.mk H
            clear H
            have p7 : 0 ≤ (x3_2 : Int) := of_decide_eq_true (by first | (with_reducible assumption) | assumption)
            have q7 : x3_2 < (a0.size : Int) := of_decide_eq_true (by first | (with_reducible assumption) | assumption)
            have hx7 := bt_at a0 x3_2
            replace p7 := eq_true p7
            replace q7 := eq_true q7
            go_wp2
            go_roundg k2
            case measure => have := HJ1.out; have := HK2.out; omega
            case rel => exact ⟨(wrap64 (x3_2 + 1)), (by first | rfl | (simp; done) | (simp [*]; done) | (simp [i64_w]; done)), H', ⟨by have := HJ1.out; have := HK2.out; omega⟩, by repeat (first | exact Drawn0.refl _ | apply Drawn0.step)⟩
           ·
            rw [if_neg c26] at H
            have c26b0 : ((bt a0 x3_2) == 95) = false := beq_eq_false_iff_ne.mpr c26
            have c26b1 : ((bt a0 x3_2) != 95) = true := bne_iff_ne.mpr c26
            by_cases c27 : ((bt a0 x3_2) = 46)
            ·
             rw [if_pos c27] at H
             have c27b0 : ((bt a0 x3_2) == 46) = true := beq_iff_eq.mpr c27
             have c27b1 : ((bt a0 x3_2) != 46) = false := bne_eq_false_iff_eq.mpr c27
             clear c27
             by_cases c28 : x3_2 = 0
             ·
              rw [if_pos c28] at H
              have c28b0 : (x3_2 == 0) = true := beq_iff_eq.mpr c28
              have c28b1 : (x3_2 != 0) = false := bne_eq_false_iff_eq.mpr c28
              clear c28
              obtain rfl := Option.some.inj H
              have p7 : 0 ≤ (x3_2 : Int) := of_decide_eq_true (by first | (with_reducible assumption) | assumption)
              have q7 : x3_2 < (a0.size : Int) := of_decide_eq_true (by first | (with_reducible assumption) | assumption)
              have hx7 := bt_at a0 x3_2
              replace p7 := eq_true p7
              replace q7 := eq_true q7
              go_wp2
              go_ret
              exact ⟨by first | rfl | (simp; done) | (simp [*]; done), by repeat (first | exact Drawn0.refl _ | apply Drawn0.step)⟩
             ·
              rw [if_neg c28] at H
              have c28b0 : (x3_2 == 0) = false := beq_eq_false_iff_ne.mpr c28
              have c28b1 : (x3_2 != 0) = true := bne_iff_ne.mpr c28
              have H' := Aside0.mk H
              clear H
              have p7 : 0 ≤ (x3_2 : Int) := of_decide_eq_true (by first | (with_reducible assumption) | assumption)
              have q7 : x3_2 < (a0.size : Int) := of_decide_eq_true (by first | (with_reducible assumption) | assumption)
              have hx7 := bt_at a0 x3_2
              replace p7 := eq_true p7
              replace q7 := eq_true q7
              go_wp2
              go_roundg k2
              case measure => have := HJ1.out; have := HK2.out; omega
              case rel => exact ⟨(wrap64 (x3_2 + 1)), (by first | rfl | (simp; done) | (simp [*]; done) | (simp [i64_w]; done)), H', ⟨by have := HJ1.out; have := HK2.out; omega⟩, by repeat (first | exact Drawn0.refl _ | apply Drawn0.step)⟩
            ·
             rw [if_neg c27] at H
             have c27b0 : ((bt a0 x3_2) == 46) = false := beq_eq_false_iff_ne.mpr c27
             have c27b1 : ((bt a0 x3_2) != 46) = true := bne_iff_ne.mpr c27
             obtain rfl := Option.some.inj H
             have p7 : 0 ≤ (x3_2 : Int) := of_decide_eq_true (by first | (with_reducible assumption) | assumption)
             have q7 : x3_2 < (a0.size : Int) := of_decide_eq_true (by first | (with_reducible assumption) | assumption)
             have hx7 := bt_at a0 x3_2
             replace p7 := eq_true p7
             replace q7 := eq_true q7
             go_wp2
             go_ret
             exact ⟨by first | rfl | (simp; done) | (simp [*]; done), by repeat (first | exact Drawn0.refl _ | apply Drawn0.step)⟩
         ·
          rw [if_neg c22] at H
          have c22b0 : decide (48 ≤ (bt a0 x3_2)) = false := decide_eq_false c22
          clear c22
          by_cases c29 : ((bt a0 x3_2) = 95)
          ·
           rw [if_pos c29] at H
           have c29b0 : ((bt a0 x3_2) == 95) = true := beq_iff_eq.mpr c29
           have c29b1 : ((bt a0 x3_2) != 95) = false := bne_eq_false_iff_eq.mpr c29
           clear c29
           have H' := Aside0.mk H
           clear H
           have p7 : 0 ≤ (x3_2 : Int) := of_decide_eq_true (by first | (with_reducible assumption) | assumption)
           have q7 : x3_2 < (a0.size : Int) := of_decide_eq_true (by first | (with_reducible assumption) | assumption)
           have hx7 := bt_at a0 x3_2
           replace p7 := eq_true p7
           replace q7 := eq_true q7
           go_wp2
           go_roundg k2
           case measure => have := HJ1.out; have := HK2.out; omega
           case rel => exact ⟨(wrap64 (x3_2 + 1)), (by first | rfl | (simp; done) | (simp [*]; done) | (simp [i64_w]; done)), H', ⟨by have := HJ1.out; have := HK2.out; omega⟩, by repeat (first | exact Drawn0.refl _ | apply Drawn0.step)⟩
          ·
           rw [if_neg c29] at H
           have c29b0 : ((bt a0 x3_2) == 95) = false := beq_eq_false_iff_ne.mpr c29
           have c29b1 : ((bt a0 x3_2) != 95) = true := bne_iff_ne.mpr c29
           by_cases c30 : ((bt a0 x3_2) = 46)
           ·
            rw [if_pos c30] at H
            have c30b0 : ((bt a0 x3_2) == 46) = true := beq_iff_eq.mpr c30
            have c30b1 : ((bt a0 x3_2) != 46) = false := bne_eq_false_iff_eq.mpr c30
            clear c30
            by_cases c31 : x3_2 = 0
            ·
             rw [if_pos c31] at H
             have c31b0 : (x3_2 == 0) = true := beq_iff_eq.mpr c31
             have c31b1 : (x3_2 != 0) = false := bne_eq_false_iff_eq.mpr c31
             clear c31
             obtain rfl := Option.some.inj H
             have p7 : 0 ≤ (x3_2 : Int) := of_decide_eq_true (by first | (with_reducible assumption) | assumption)
             have q7 : x3_2 < (a0.size : Int) := of_decide_eq_true (by first | (with_reducible assumption) | assumption)
             have hx7 := bt_at a0 x3_2
             replace p7 := eq_true p7
             replace q7 := eq_true q7
             go_wp2
             go_ret
             exact ⟨by first | rfl | (simp; done) | (simp [*]; done), by repeat (first | exact Drawn0.refl _ | apply Drawn0.step)⟩
            ·
             rw [if_neg c31] at H
             have c31b0 : (x3_2 == 0) = false := beq_eq_false_iff_ne.mpr c31
             have c31b1 : (x3_2 != 0) = true := bne_iff_ne.mpr c31
             have H' := Aside0.mk H
             clear H
             have p7 : 0 ≤ (x3_2 : Int) := of_decide_eq_true (by first | (with_reducible assumption) | assumption)
             have q7 : x3_2 < (a0.size : Int) := of_decide_eq_true (by first | (with_reducible assumption) | assumption)
             have hx7 := bt_at a0 x3_2
             replace p7 := eq_true p7
             replace q7 := eq_true q7
             go_wp2
             go_roundg k2
             case measure => have := HJ1.out; have := HK2.out; omega
             case rel => exact ⟨(wrap64 (x3_2 + 1)), (by first | rfl | (simp; done) | (simp [*]; done) | (simp [i64_w]; done)), H', ⟨by have := HJ1.out; have := HK2.out; omega⟩, by repeat (first | exact Drawn0.refl _ | apply Drawn0.step)⟩
           ·
            rw [if_neg c30] at H
            have c30b0 : ((bt a0 x3_2) == 46) = false := beq_eq_false_iff_ne.mpr c30
            have c30b1 : ((bt a0 x3_2) != 46) = true := bne_iff_ne.mpr c30
            obtain rfl := Option.some.inj H
            have p7 : 0 ≤ (x3_2 : Int) := of_decide_eq_true (by first | (with_reducible assumption) | assumption)
            have q7 : x3_2 < (a0.size : Int) := of_decide_eq_true (by first | (with_reducible assumption) | assumption)
            have hx7 := bt_at a0 x3_2
            replace p7 := eq_true p7
            replace q7 := eq_true q7
            go_wp2
            go_ret
            exact ⟨by first | rfl | (simp; done) | (simp [*]; done), by repeat (first | exact Drawn0.refl _ | apply Drawn0.step)⟩
       ·
        rw [if_neg c6] at H
        exact absurd H (by simp)
      ·
       rw [if_neg c5] at H
       have c5b0 : decide (x3_2 < (a0.size : Int)) = false := decide_eq_false c5
       clear c5
       obtain rfl := Option.some.inj H
       go_wp2
       go_ret
       exact ⟨by first | rfl | (simp; done) | (simp [*]; done), by repeat (first | exact Drawn0.refl _ | apply Drawn0.step)⟩




section
-- STUBBED 62
/-! ### petrinetref09_place: function 62: by hand -/
open Go.Proofs.Ytaphehdbjbogaaa.Iter
attribute [local go_sem] Instr.field asAgg

def placeE (p : S56) : Int := if p.f2 < 0 ∨ 1048576 < p.f2 then 1 else if p.f1 < 0 ∨ 1048576 < p.f1 then 10 else if p.f2 = 0 then 0 else if p.f2 < p.f1 then 10 else 0
/-- The first error of place i, behind its name. -/
def placeF (l1 : List S56) (p : S56) (i : Nat) : Option Int := if ((l1.take i).any fun y => y.f0.toList == p.f0.toList) = true then some 6 else some (placeE p)
def petrinetref09_place.f (k : Nat) (a0_0 : ByteArray) (l0_1 : List S56) (l0_2 : List S40) (a1 : Int) : Option Int := if 0 ≤ a1 ∧ a1 < (l0_1.length : Int) ∧ l0_1.length ≤ 1000 then (petrinetref09_Name.f k (rd_T56 l0_1 a1).f0).bind fun b => if b = true then placeF l0_1 (rd_T56 l0_1 a1) a1.toNat else some 5 else none
theorem petrinetref09_place.mono (a0 : ByteArray) (a1 : List S56) (a2 : List S40) (a3 : Int) (k : Nat) : LeO (petrinetref09_place.f k a0 a1 a2 a3) (petrinetref09_place.f (k + 1) a0 a1 a2 a3) := by
  unfold petrinetref09_place.f
  split
  · refine LeO.bind (petrinetref09_Name.mono _ _) fun b => ?_
    split
    · exact LeO.refl _
    · exact LeO.refl _
  · exact LeO.refl _
theorem np3 {W : World} {g : Nat} {t : TypeId} {x y z : Value} (h : Blk W g t [x, y, z]) : W.cell? ⟨g, 0, none⟩ = some x ∧ W.cell? ⟨g, 1, none⟩ = some y ∧ W.cell? ⟨g, 2, none⟩ = some z := by
  refine ⟨?_, ?_, ?_⟩ <;> simp [World.cell?, show W.heap[g]? = _ from h]

set_option maxHeartbeats 16000000 in
set_option maxRecDepth 100000 in
theorem petrinetref09_place.calls (k : Nat) (a0_0 : ByteArray) (A0_1 : Option Addr) (c0_1 : Nat) (l0_1 : List S56) (A0_2 : Option Addr) (c0_2 : Nat) (l0_2 : List S40) (a1 : Int) (r : Int) (w : World) (hr0_1 : Kd.C k56 w A0_1 l0_1.length l0_1) (hc0_1 : l0_1.length ≤ c0_1) (hr0_2 : Kd.C k40 w A0_2 l0_2.length l0_2) (hc0_2 : l0_2.length ≤ c0_2) (h : petrinetref09_place.f k a0_0 l0_1 l0_2 a1 = some r) :
    Calls Try.prog 62 #[.agg #[.string a0_0, .slice A0_1 l0_1.length c0_1, .slice A0_2 l0_2.length c0_2], .int .i64 a1] w fun e w' => e = .returned (.int .i64 r) ∧ Below w.heap.size w w' := by
  have HR1 := Aside0.mk hr0_1
  clear hr0_1 hc0_1 hr0_2 hc0_2
  unfold petrinetref09_place.f at h
  by_cases hin : 0 ≤ a1 ∧ a1 < (l0_1.length : Int) ∧ l0_1.length ≤ 1000
  · rw [if_pos hin] at h
    obtain ⟨h0, hlt0, hn1⟩ := hin
    obtain ⟨i, rfl⟩ : ∃ i : Nat, a1 = (i : Int) := ⟨a1.toNat, by omega⟩
    have hil : i < l0_1.length := by omega
    obtain ⟨b, hb, h⟩ := Option.bind_eq_some_iff.mp h
    obtain ⟨ad, e1, hx0, hx1, hx2⟩ := at_T56 HR1.out (i : Int) (by omega) (by omega)
    cases e1
    rw [Int.toNat_natCast] at hx0 hx1 hx2 h
    generalize rd_T56 l0_1 (i : Int) = p at h hb hx0 hx1 hx2
    have HN := Aside0.mk hb
    have HH0 := Aside0.mk h
    clear h hb h0
    go_enter Try.func62, Try.ntmps62
    go_upto_region 2 with (first | ((with_reducible refine gate_dst (N := 2) rfl ?_); refine box_event ?hg (N := 2) ?hd (cs := #[.string a0_0, .slice (some ad) l0_1.length c0_1, .slice A0_2 l0_2.length c0_2]) (t := 25) ?hr ?_; (case hd => rfl); (case hg => rfl); (case hr => first | (go_simp; done) | (go_simp; rfl)); intro g1 hg1 w1 hbox1 hb1; have HS1 := Aside0.mk (show Blk w1 g1 25 [.string a0_0, .slice (some ad) l0_1.length c0_1, .slice A0_2 l0_2.length c0_2] from hbox1); obtain ⟨s0, s1, s2⟩ := np3 HS1.out; have HB1 := Aside0.mk hb1; have HGA := Aside0.mk hg1; replace hx0 := (hb1.cell (World.block_lt_of_cell? w _ hx0)).trans hx0; replace hx1 := (hb1.cell (World.block_lt_of_cell? w _ hx1)).trans hx1; replace hx2 := (hb1.cell (World.block_lt_of_cell? w _ hx2)).trans hx2; clear hbox1 hb1 hg1) | ((with_reducible refine gate_dst (N := 5) rfl ?_); refine box_event ?hg (N := 5) ?hd (cs := #[.string ⟨#[]⟩, .int .i64 0, .int .i64 0]) (t := 56) ?hr ?_; (case hd => rfl); (case hg => rfl); (case hr => first | (go_simp; done) | (go_simp; rfl)); intro g2 hg2 w4 hbox hb4; have HG4 := Aside0.mk (show Blk w4 g2 56 [.string ⟨#[]⟩, .int .i64 0, .int .i64 0] from hbox); have hz0 := blk_cell hbox 0; have hz1 := blk_cell hbox 1; have hz2 := blk_cell hbox 2; have hq0 := blk_frozen hbox 0; have hq1 := blk_frozen hbox 1; have hq2 := blk_frozen hbox 2; have HB4 := Aside0.mk hb4; have HGB := Aside0.mk hg2; clear hbox hb4 hg2))
    obtain ⟨wr, hW5⟩ : ∃ W5, ((w4.setCell ⟨g2, 0, none⟩ (.string p.f0)).setCell ⟨g2, 1, none⟩ (.int .i64 p.f1)).setCell ⟨g2, 2, none⟩ (.int .i64 p.f2) = W5 := ⟨_, rfl⟩
    have HG := Aside0.mk (show Blk wr g2 56 [.string p.f0, .int .i64 p.f1, .int .i64 p.f2] from hW5 ▸ blk_set 2 _ (blk_set 1 _ (blk_set 0 _ HG4.out)))
    have hb5 : Below w1.heap.size w1 wr := by rw [← hW5]; exact ((HB4.out.setCell (p := ⟨g2, 0, none⟩) (by rw [HGB.out]; exact Nat.le_refl _) _).setCell (p := ⟨g2, 1, none⟩) (by rw [HGB.out]; exact Nat.le_refl _) _).setCell (p := ⟨g2, 2, none⟩) (by rw [HGB.out]; exact Nat.le_refl _) _
    rw [hW5]
    have HS := Aside0.mk (blk_later HS1.out hb5)
    have HB := Aside0.mk (below_step HB1.out hb5)
    clear hW5 HG4 HB4 HGB hb5 HS1 HB1 HGA hz0 hz1 hz2 hq0 hq1 hq2 hx0 hx1 hx2 s0 s1 s2
    obtain ⟨s0, s1, s2⟩ := np3 HS.out
    obtain ⟨t0, t1, t2⟩ := np3 HG.out
    cases b with
    | false =>
      have h := HH0.out
      have h : some (5 : Int) = some r := h
      obtain rfl := Option.some.inj h
      clear h
      go_wp2_with (go_at_call 61; (with_reducible refine (petrinetref09_Name.calls k p.f0 false _ HN.out).mono ?_); rintro e w' ⟨rfl, ⟨nd, rfl⟩⟩)
      go_ret
      exact ⟨rfl, by (with_reducible repeat (first | apply pw_below_drewN | apply below_drew1)); exact HB.out⟩
    | true =>
      have h := HH0.out
      rw [if_pos rfl] at h
      have HH := Aside0.mk h
      clear h HH0
      go_wp2_with (go_at_call 61; (with_reducible refine (petrinetref09_Name.calls k p.f0 true _ HN.out).mono ?_); rintro e w' ⟨rfl, ⟨nd, rfl⟩⟩)
      clear s0 s1 s2 t0 t1 t2
      go_loopw [6] (fun v6 wr => ∃ j : Nat, v6 = .int .i64 j ∧ j ≤ i ∧ Aside0 (((l0_1.take j).any fun y => y.f0.toList == p.f0.toList) = false) ∧ Aside0 (Blk wr g1 25 [.string a0_0, .slice (some ad) l0_1.length c0_1, .slice A0_2 l0_2.length c0_2]) ∧ Aside0 (Blk wr g2 56 [.string p.f0, .int .i64 p.f1, .int .i64 p.f2]) ∧ Aside0 (Below w.heap.size w wr)) (fun v6 _ => i - (intOf v6).toNat)
      case atStart => exact ⟨0, rfl, Nat.zero_le _, ⟨rfl⟩, ⟨HS.out⟩, ⟨HG.out⟩, ⟨by (with_reducible repeat (first | apply pw_below_drewN | apply below_drew1)); exact HB.out⟩⟩
      case round =>
        clear HS HG HB
        obtain ⟨j, rfl, hj, HQ, HS, HG, HB⟩ := hrel
        obtain ⟨s0, s1, s2⟩ := np3 HS.out
        obtain ⟨t0, t1, t2⟩ := np3 HG.out
        by_cases hjl : j < i
        · have hjm : j < l0_1.length := by omega
          obtain ⟨ad2, e2, hy0, _, _⟩ := at_T56 HR1.out (j : Int) (by omega) (by omega)
          cases e2
          rw [Int.toNat_natCast] at hy0
          replace hy0 := (HB.out.cell (World.block_lt_of_cell? w _ hy0)).trans hy0
          have hrd : rd_T56 l0_1 (j : Int) = l0_1[j] := by simp [rd_T56, hjm]
          rw [hrd] at hy0
          clear hrd
          obtain ⟨x, hx⟩ : ∃ x, x = l0_1[j] := ⟨_, rfl⟩
          rw [← hx] at hy0
          by_cases hxs : x.f0.toList = p.f0.toList
          · have hbeq : (x.f0.toList == p.f0.toList) = true := beq_iff_eq.mpr hxs
            have hr : r = 6 := by
              have e : placeF l0_1 p i = some 6 := by unfold placeF; rw [if_pos]; exact List.any_eq_true.2 ⟨x, (by rw [hx]; exact List.mem_iff_getElem.2 ⟨j, by rw [List.length_take]; omega, List.getElem_take⟩), hbeq⟩
              have H := HH.out
              rw [e] at H
              exact (Option.some.inj H).symm
            subst hr
            clear hx hxs
            go_wp2
            go_region
            go_wp2
            go_ret
            exact ⟨rfl, by (with_reducible repeat (first | apply pw_below_drewN | apply below_drew1)); exact HB.out⟩
          · have hbeq : (x.f0.toList == p.f0.toList) = false := beq_eq_false_iff_ne.mpr hxs
            have HQ2 := Aside0.mk (show ((l0_1.take (j + 1)).any fun y => y.f0.toList == p.f0.toList) = false by rw [List.take_succ_eq_append_getElem hjm, List.any_append, HQ.out, ← hx]; simp [hbeq])
            clear hx hxs
            go_wp2
            go_region
            go_wp2
            go_roundw
            case rel => exact ⟨j + 1, by go_num, by omega, HQ2, ⟨HS.out⟩, ⟨HG.out⟩, ⟨by (with_reducible repeat (first | apply pw_below_drewN | apply below_drew1)); exact HB.out⟩⟩
            case measure => simp [intOf]; omega
        · obtain rfl : j = i := by omega
          have h := HH.out
          unfold placeF at h
          rw [HQ.out, if_neg (by decide)] at h
          have h := Option.some.inj h
          unfold placeE at h
          clear HH HQ hj hjl
          by_cases c2 : p.f2 < 0 ∨ 1048576 < p.f2
          · rw [if_pos c2] at h
            subst h
            have hc : p.f2 < 0 ∨ (¬ p.f2 < 0 ∧ 1048576 < p.f2) := by omega
            clear c2
            rcases hc with b1 | ⟨b1, b2⟩
            all_goals
              go_wp2
              go_ret
              exact ⟨rfl, HB.out⟩
          · rw [if_neg c2] at h
            have b1 : ¬ p.f2 < 0 := by omega
            have b2 : ¬ 1048576 < p.f2 := by omega
            clear c2
            by_cases c1 : p.f1 < 0 ∨ 1048576 < p.f1
            · rw [if_pos c1] at h
              subst h
              have hc : p.f1 < 0 ∨ (¬ p.f1 < 0 ∧ 1048576 < p.f1) := by omega
              clear c1
              rcases hc with b3 | ⟨b3, b4⟩
              all_goals
                go_wp2
                go_ret
                exact ⟨rfl, HB.out⟩
            · rw [if_neg c1] at h
              have b3 : ¬ p.f1 < 0 := by omega
              have b4 : ¬ 1048576 < p.f1 := by omega
              clear c1
              by_cases c0 : p.f2 = 0
              · rw [if_pos c0] at h
                subst h
                have q1 : (p.f2 != 0) = false := by rw [c0]; rfl
                clear c0
                go_wp2
                go_ret
                exact ⟨rfl, HB.out⟩
              · rw [if_neg c0] at h
                have q1 : (p.f2 != 0) = true := bne_iff_ne.2 c0
                clear c0
                by_cases c5 : p.f2 < p.f1
                · rw [if_pos c5] at h
                  subst h
                  go_wp2
                  go_ret
                  exact ⟨rfl, HB.out⟩
                · rw [if_neg c5] at h
                  subst h
                  go_wp2
                  go_ret
                  exact ⟨rfl, HB.out⟩
  · rw [if_neg hin] at h
    cases h


end



end Go.Proofs.Ytaphehdbjbogaaa.Pr
