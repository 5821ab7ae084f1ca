/- Functions that the statement reaches: what each answers, and that the program answers it (written by a program of this work). -/
import Derived.Test.YtihjbomgbbfifaaProg
import Derived.Below
import Derived.Deep.Draws
import Derived.Deep.AppendLies
import Derived.Maps.AppendAt
import Derived.OwnWalk
import Derived.Laws.BytesArg
import Derived.Laws.MakeOwn
import Derived.Laws.OwnMore
import Derived.Deep.OwnRows
import Derived.Tactics
import Derived.Lib.ConvBytes
import Derived.Laws.Slices
import Derived.WalkKit
import Derived.KernelRfl
import Derived.RowKit3
import Derived.Deep.LoopGhost
import Derived.Deep.QuietTactic
import Derived.BigQuiet
import Derived.WideLaws
import Derived.Deep.DeepCutAuto
import Derived.Deep.CutBlock
import Derived.Deep.RegionHeld3
import Derived.Laws.Rows
import Derived.Lib.AppendStr
import Derived.ArgAppend
import Derived.Laws.IdiomCopy
import Derived.OrdersHeld
import Derived.Laws.BitsLemmas
import Derived.RowKit
import Derived.WalkMore
import Derived.Test.YtihjbomgbbfifaaWWords
import Derived.Test.YtihjbomgbbfifaaWLast
import Derived.Test.YtihjbomgbbfifaaWTab
import Derived.Test.YtihjbomgbbfifaaWFour
import Derived.Test.YtihjbomgbbfifaaWQPut
import Derived.Test.YtihjbomgbbfifaaWApart
import Derived.Test.YtihjbomgbbfifaaWArr
import Derived.Test.YtihjbomgbbfifaaWZeros
import Derived.Test.YtihjbomgbbfifaaWFoot
import Derived.Test.YtihjbomgbbfifaaWKept
import Derived.Test.YtihjbomgbbfifaaWShare
import Derived.Test.YtihjbomgbbfifaaWN
import Derived.Test.YtihjbomgbbfifaaWEqStruct
import Derived.Test.YtihjbomgbbfifaaWRepsOne
import Derived.Test.YtihjbomgbbfifaaWGuard
import Derived.Test.YtihjbomgbbfifaaWNEv
import Derived.Test.YtihjbomgbbfifaaWMore
import Derived.Test.YtihjbomgbbfifaaBase
import Derived.Test.YtihjbomgbbfifaaQRegionUnions0
import Derived.Test.YtihjbomgbbfifaaQRegionUnions1
namespace Go.Proofs.Ytihjbomgbbfifaa.Pr
open Go.RowKit Go.Proofs.YtihjbomgbbfifaaW.PrintWords Go.Proofs.YtihjbomgbbfifaaW.PrintLast Go.Proofs.YtihjbomgbbfifaaW.PrintMore
attribute [local go_sem] Instr.field asAgg
attribute [local go_sem] max2_int min2_int max_two min_two max_three min_three max_four min_four   -- for this text's walks alone
set_option linter.unusedVariables false
set_option linter.unusedSimpArgs false
/-! ### petrinetlaw46_RegionUnions: function 5 -/
def petrinetlaw46_RegionUnions.j0 : Nat → Int → Int → Bool → Int → List ByteArray → List (S45) → Option (Bool)
 | 0, _, _, _, _, _, _ => none
 | k + 1, x1, x2, x20, x245000, x245001, x245002 => if x20 = true then ((petrinetlaw46_exampleHolds.f k).bind fun t248 => (some t248)) else (if (Go.bits .and .u64 x1 x2) = 0 then ((region_Is.f k x245000 x245001 x245002 (Go.bits .or .u64 x1 x2)).bind fun t249 => (if t249 = true then (if (Go.bits .and .u64 x1 x2) = x1 then ((region_Is.f k x245000 x245001 x245002 (IntKind.u64.wrap (x2 - x1))).bind fun t250 => (if t250 = true then (if (Go.bits .and .u64 x1 x2) = x2 then ((region_Is.f k x245000 x245001 x245002 (IntKind.u64.wrap (x1 - x2))).bind fun t251 => (if t251 = true then ((petrinetlaw46_exampleHolds.f k).bind fun t252 => (some t252)) else (some false))) else ((petrinetlaw46_exampleHolds.f k).bind fun t253 => (some t253))) else (some false))) else (if (Go.bits .and .u64 x1 x2) = x2 then ((region_Is.f k x245000 x245001 x245002 (IntKind.u64.wrap (x1 - x2))).bind fun t254 => (if t254 = true then ((petrinetlaw46_exampleHolds.f k).bind fun t255 => (some t255)) else (some false))) else ((petrinetlaw46_exampleHolds.f k).bind fun t256 => (some t256)))) else (some false))) else (if (Go.bits .and .u64 x1 x2) = x1 then ((region_Is.f k x245000 x245001 x245002 (IntKind.u64.wrap (x2 - x1))).bind fun t257 => (if t257 = true then (if (Go.bits .and .u64 x1 x2) = x2 then ((region_Is.f k x245000 x245001 x245002 (IntKind.u64.wrap (x1 - x2))).bind fun t258 => (if t258 = true then ((petrinetlaw46_exampleHolds.f k).bind fun t259 => (some t259)) else (some false))) else ((petrinetlaw46_exampleHolds.f k).bind fun t260 => (some t260))) else (some false))) else (if (Go.bits .and .u64 x1 x2) = x2 then ((region_Is.f k x245000 x245001 x245002 (IntKind.u64.wrap (x1 - x2))).bind fun t261 => (if t261 = true then ((petrinetlaw46_exampleHolds.f k).bind fun t262 => (some t262)) else (some false))) else ((petrinetlaw46_exampleHolds.f k).bind fun t263 => (some t263)))))
def petrinetlaw46_RegionUnions.f (k : Nat) (a0_0 : Int) (l0_1 : List ByteArray) (l0_2 : List (S45)) (a1 : Int) (a2 : Int) : Option (Bool) := (petrinetref46_Large.f a0_0 l0_1 l0_2).bind fun t245 => (if t245 = true then (petrinetlaw46_RegionUnions.j0 k a1 a2 true a0_0 l0_1 l0_2) else ((region_Is.f k a0_0 l0_1 l0_2 a1).bind fun t246 => (if t246 = true then ((region_Is.f k a0_0 l0_1 l0_2 a2).bind fun t247 => (petrinetlaw46_RegionUnions.j0 k a1 a2 (!t247) a0_0 l0_1 l0_2)) else (petrinetlaw46_RegionUnions.j0 k a1 a2 true a0_0 l0_1 l0_2))))
theorem petrinetlaw46_RegionUnions.mono_l : ∀ k, (∀ y0 y1 y2 y3 y4 y5, LeO (petrinetlaw46_RegionUnions.j0 k y0 y1 y2 y3 y4 y5) (petrinetlaw46_RegionUnions.j0 (k + 1) y0 y1 y2 y3 y4 y5))
 | 0 => fun _ _ _ _ _ _ r h => by simp [petrinetlaw46_RegionUnions.j0] at h
 | k + 1 => by
  have ih0 := petrinetlaw46_RegionUnions.mono_l k
  ·
   intro y0 y1 y2 y3 y4 y5
   unfold petrinetlaw46_RegionUnions.j0
   repeat' first
   | (with_reducible exact ih0 _ _ _ _ _ _)
   | (with_reducible exact petrinetlaw46_exampleHolds.mono _)
   | (with_reducible exact region_Is.mono _ _ _ _ _)
   | (with_reducible exact LeO.refl _)
   | (with_reducible exact LeO.none _)
   | (with_reducible refine LeO.ite ?_ ?_)
   | (with_reducible refine LeO.bind ?_ (fun _ => ?_))
   | exact ih0 _ _ _ _ _ _
   | exact petrinetlaw46_exampleHolds.mono _
   | exact region_Is.mono _ _ _ _ _
   | exact LeO.none _
   | refine LeO.ite ?_ ?_
   | refine LeO.bind ?_ (fun _ => ?_)
theorem petrinetlaw46_RegionUnions.mono : ∀ a0 a1 a2 a3 a4 k, LeO (petrinetlaw46_RegionUnions.f k a0 a1 a2 a3 a4) (petrinetlaw46_RegionUnions.f (k + 1) a0 a1 a2 a3 a4) := by
 intro a0 a1 a2 a3 a4 k
 have ih0 := petrinetlaw46_RegionUnions.mono_l k
 unfold petrinetlaw46_RegionUnions.f
 repeat' first
   | (with_reducible exact ih0 _ _ _ _ _ _)
   | (with_reducible exact petrinetlaw46_exampleHolds.mono _)
   | (with_reducible exact region_Is.mono _ _ _ _ _)
   | (with_reducible exact LeO.refl _)
   | (with_reducible exact LeO.none _)
   | (with_reducible refine LeO.ite ?_ ?_)
   | (with_reducible refine LeO.bind ?_ (fun _ => ?_))
   | exact ih0 _ _ _ _ _ _
   | exact petrinetlaw46_exampleHolds.mono _
   | exact region_Is.mono _ _ _ _ _
   | exact LeO.none _
   | refine LeO.ite ?_ ?_
   | refine LeO.bind ?_ (fun _ => ?_)
set_option maxHeartbeats 8000000 in
set_option maxRecDepth 100000 in
theorem petrinetlaw46_RegionUnions.calls (k : Nat) (a0_0 : Int) (A0_1 : Option Addr) (c0_1 : Nat) (l0_1 : List ByteArray) (A0_2 : Option Addr) (c0_2 : Nat) (l0_2 : List (S45)) (a1 : Int) (a2 : Int) (r : Bool) (w : World) (hr0_1 : Kd.C Kd.string w A0_1 l0_1.length l0_1) (hc0_1 : l0_1.length ≤ c0_1) (hr0_2 : Kd.C k45 w A0_2 l0_2.length l0_2) (hc0_2 : l0_2.length ≤ c0_2) (h : petrinetlaw46_RegionUnions.f k a0_0 l0_1 l0_2 a1 a2 = some r) (hrT_ : Aside0 (r = true)) :
  Calls Try.prog 5 #[.agg #[.int .i64 a0_0, .slice A0_1 l0_1.length c0_1, .slice A0_2 l0_2.length c0_2], .int .u64 a1, .int .u64 a2] w fun e w' => e = .returned (.bool r) ∧ Below w.heap.size w w' := by
 have hu25 := Try.underlying25
 have hu3 := Try.underlying3
 have hu22 := Try.underlying22
 have hu23 := Try.underlying23
 have HR0_1 := Aside0.mk hr0_1
 have HC0_1 := Aside0.mk hc0_1
 clear hr0_1 hc0_1
 have HR0_2 := Aside0.mk hr0_2
 have HC0_2 := Aside0.mk hc0_2
 clear hr0_2 hc0_2
 have HB := Aside0.mk (Below.refl w.heap.size w)
 have H : ((petrinetref46_Large.f a0_0 l0_1 l0_2).bind fun t245 => (if t245 = true then (petrinetlaw46_RegionUnions.j0 k a1 a2 true a0_0 l0_1 l0_2) else ((region_Is.f k a0_0 l0_1 l0_2 a1).bind fun t246 => (if t246 = true then ((region_Is.f k a0_0 l0_1 l0_2 a2).bind fun t247 => (petrinetlaw46_RegionUnions.j0 k a1 a2 (!t247) a0_0 l0_1 l0_2)) else (petrinetlaw46_RegionUnions.j0 k a1 a2 true a0_0 l0_1 l0_2))))) = some r := h
 clear h
 have HC4 := Aside0.mk H
 clear H
 go_enter Try.func5, Try.ntmps5
 go_upto_region 1 with (first | ((with_reducible refine gate_dst (N := 3) rfl ?_); refine box_event ?hg (N := 3) ?hd (cs := #[.int .i64 a0_0, .slice A0_1 l0_1.length c0_1, .slice A0_2 l0_2.length c0_2]) (t := 25) ?hr ?_; (case hd => rfl); (case hg => rfl); (case hr => first | (go_simp; done) | (go_simp; rfl)); intro gb244 hg w5 hbox hb; have n0_ := Aside0.mk (below_step (by repeat (first | (with_reducible first | exact HB.out | apply below_alloc | apply pw_below_drewN | apply below_drew1) | exact HB.out)) hb); have n1_ := Aside0.mk (hbox); have n2_ := Aside0.mk ((by rw [hg]; exact (below_size (by repeat (first | (with_reducible first | exact HB.out | apply below_alloc | apply pw_below_drewN | apply below_drew1) | exact HB.out))) : w.heap.size ≤ gb244)); have n3_ := Aside0.mk ((by rw [hg]; exact (below_size (by repeat (first | (with_reducible first | exact HB.out | apply below_alloc | apply pw_below_drewN | apply below_drew1) | exact HB.out))) : w.heap.size ≤ gb244)); clear HB; have HB := n0_; have BK244 := n1_; have GW244 := n2_; have GE244 := n3_; clear n0_ n1_ n2_ n3_; clear hb hbox hg))
 (try simp only [Act.put, List.setIfInBounds_toArray, List.set_cons_zero, List.set_cons_succ])
 go_cut [20] (fun v20 wc => ∃ (kq : Nat) (x20_3 : Bool), v20 = .bool x20_3 ∧ Aside0 (petrinetlaw46_RegionUnions.j0 kq a1 a2 x20_3 a0_0 l0_1 l0_2 = some r) ∧ Aside0 (kq ≤ k) ∧ Aside0 (wc.heap[gb244]? = some (.cells #[.int .i64 a0_0, (.slice A0_1 l0_1.length c0_1), (.slice A0_2 l0_2.length c0_2)] 25 (0, 0))) ∧ Aside0 (Below w.heap.size w wc))
 case first =>
  have H := HC4.out
  clear HC4
  replace H := Option.bind_eq_some_iff.mp H
  obtain ⟨t245, A60, H⟩ := H
  replace H : (if t245 = true then (petrinetlaw46_RegionUnions.j0 k a1 a2 true a0_0 l0_1 l0_2) else ((region_Is.f k a0_0 l0_1 l0_2 a1).bind fun t246 => (if t246 = true then ((region_Is.f k a0_0 l0_1 l0_2 a2).bind fun t247 => (petrinetlaw46_RegionUnions.j0 k a1 a2 (!t247) a0_0 l0_1 l0_2)) else (petrinetlaw46_RegionUnions.j0 k a1 a2 true a0_0 l0_1 l0_2)))) = some r := H
  have A6 := Aside0.mk A60
  clear A60
  by_cases c7 : t245 = true
  ·
   subst c7
   have H1 : (petrinetlaw46_RegionUnions.j0 k a1 a2 true a0_0 l0_1 l0_2) = some r := by rw [if_pos rfl] at H; exact H
   clear H
   have H := H1
   clear H1
   have H' := Aside0.mk H
   clear H
   have hcz8_0 : w5.cell? ⟨gb244, 0, none⟩ = some (.int .i64 a0_0) := (blk_cell BK244.out 0).trans rfl
   have hcz8_1 : w5.cell? ⟨gb244, 1, none⟩ = some (.slice A0_1 l0_1.length c0_1) := (blk_cell BK244.out 1).trans rfl
   have hcz8_2 : w5.cell? ⟨gb244, 2, none⟩ = some (.slice A0_2 l0_2.length c0_2) := (blk_cell BK244.out 2).trans rfl
   have hfz8_0 := blk_frozen BK244.out 0
   have hfz8_1 := blk_frozen BK244.out 1
   have hfz8_2 := blk_frozen BK244.out 2
   go_wp2_with (first | ((with_reducible refine gate_callee (f := 10) rfl ?_); refine goesL_ (some 8) rfl rfl Try.func10 (by kernel_rfl) rfl #[.agg #[.int .i64 a0_0, .slice A0_1 l0_1.length c0_1, .slice A0_2 l0_2.length c0_2]] rfl (by (try simp only [List.map_toArray, List.map_cons, List.map_nil]); first | done | rfl | (simp only [List.length_drop, List.length_take]; rfl)) ?_; (with_reducible refine (petrinetref46_Large.calls a0_0 _ _ l0_1 _ _ l0_2 true _ ?side1 ?side2 ?side3 ?side4 A6.out).mono ?_); (case side1 => repeat (first | exact (Kd.C_below HR0_1.out HB.out) | (with_reducible refine Kd.C_alloc ?_ _) | (with_reducible refine Kd.C_drewN ?_ _) | (with_reducible refine Kd.C_drew ?_))); (case side2 => exact HC0_1.out); (case side3 => repeat (first | exact (Kd.C_below HR0_2.out HB.out) | (with_reducible refine Kd.C_alloc ?_ _) | (with_reducible refine Kd.C_drewN ?_ _) | (with_reducible refine Kd.C_drew ?_))); (case side4 => exact HC0_2.out); rintro e w9 ⟨rfl, hb⟩; refine ⟨_, rfl, ?_⟩; have n0_ := Aside0.mk (blk_below (g := gb244) (o := .cells #[.int .i64 a0_0, .slice A0_1 l0_1.length c0_1, .slice A0_2 l0_2.length c0_2] 25 (0, 0)) (by (with_reducible repeat (first | refine blk_drewN ?_ _ | refine blk_drew ?_ | refine blk_alloc ?_ _)); exact BK244.out) hb); have n1_ := Aside0.mk (below_step (by repeat (first | (with_reducible first | exact HB.out | apply below_alloc | apply pw_below_drewN | apply below_drew1 | refine below_set ?_ GE244.out) | exact HB.out)) hb); clear BK244; clear HB; have BK244 := n0_; have HB := n1_; clear n0_ n1_; (try clear hb); (try clear hb2); (try clear hk); (try clear hi)))
   go_meet
   case rel => exact ⟨_, (true), (by first | rfl | (simp; done) | (simp [*]; done) | (simp [i64_w]; done)), H', ⟨by first | omega | exact Nat.le_refl _⟩, ⟨by (with_reducible repeat (first | refine blk_drewN ?_ _ | refine blk_drew ?_ | refine blk_alloc ?_ _)); exact BK244.out⟩, ⟨by repeat (first | (with_reducible first | exact HB.out | apply below_alloc | apply pw_below_drewN | apply below_drew1 | refine below_set ?_ GE244.out) | exact HB.out)⟩⟩
  ·
   replace c7 := Bool.eq_false_iff.mpr c7
   subst c7
   have H1 : ((region_Is.f k a0_0 l0_1 l0_2 a1).bind fun t246 => (if t246 = true then ((region_Is.f k a0_0 l0_1 l0_2 a2).bind fun t247 => (petrinetlaw46_RegionUnions.j0 k a1 a2 (!t247) a0_0 l0_1 l0_2)) else (petrinetlaw46_RegionUnions.j0 k a1 a2 true a0_0 l0_1 l0_2))) = some r := by rw [if_neg (show ¬ (false = true) by decide)] at H; exact H
   clear H
   have H := H1
   clear H1
   replace H := Option.bind_eq_some_iff.mp H
   obtain ⟨t246, A100, H⟩ := H
   replace H : (if t246 = true then ((region_Is.f k a0_0 l0_1 l0_2 a2).bind fun t247 => (petrinetlaw46_RegionUnions.j0 k a1 a2 (!t247) a0_0 l0_1 l0_2)) else (petrinetlaw46_RegionUnions.j0 k a1 a2 true a0_0 l0_1 l0_2)) = some r := H
   have A10 := Aside0.mk A100
   clear A100
   by_cases c11 : t246 = true
   ·
    subst c11
    have H1 : ((region_Is.f k a0_0 l0_1 l0_2 a2).bind fun t247 => (petrinetlaw46_RegionUnions.j0 k a1 a2 (!t247) a0_0 l0_1 l0_2)) = some r := by rw [if_pos rfl] at H; exact H
    clear H
    have H := H1
    clear H1
    replace H := Option.bind_eq_some_iff.mp H
    obtain ⟨t247, A120, H⟩ := H
    replace H : (petrinetlaw46_RegionUnions.j0 k a1 a2 (!t247) a0_0 l0_1 l0_2) = some r := H
    have A12 := Aside0.mk A120
    clear A120
    have H' := Aside0.mk H
    clear H
    have hcz13_0 : w5.cell? ⟨gb244, 0, none⟩ = some (.int .i64 a0_0) := (blk_cell BK244.out 0).trans rfl
    have hcz13_1 : w5.cell? ⟨gb244, 1, none⟩ = some (.slice A0_1 l0_1.length c0_1) := (blk_cell BK244.out 1).trans rfl
    have hcz13_2 : w5.cell? ⟨gb244, 2, none⟩ = some (.slice A0_2 l0_2.length c0_2) := (blk_cell BK244.out 2).trans rfl
    have hfz13_0 := blk_frozen BK244.out 0
    have hfz13_1 := blk_frozen BK244.out 1
    have hfz13_2 := blk_frozen BK244.out 2
    go_wp2_with (first | ((with_reducible refine gate_callee (f := 10) rfl ?_); refine goesL_ (some 8) rfl rfl Try.func10 (by kernel_rfl) rfl #[.agg #[.int .i64 a0_0, .slice A0_1 l0_1.length c0_1, .slice A0_2 l0_2.length c0_2]] rfl (by (try simp only [List.map_toArray, List.map_cons, List.map_nil]); first | done | rfl | (simp only [List.length_drop, List.length_take]; rfl)) ?_; (with_reducible refine (petrinetref46_Large.calls a0_0 _ _ l0_1 _ _ l0_2 false _ ?side1 ?side2 ?side3 ?side4 A6.out).mono ?_); (case side1 => repeat (first | exact (Kd.C_below HR0_1.out HB.out) | (with_reducible refine Kd.C_alloc ?_ _) | (with_reducible refine Kd.C_drewN ?_ _) | (with_reducible refine Kd.C_drew ?_))); (case side2 => exact HC0_1.out); (case side3 => repeat (first | exact (Kd.C_below HR0_2.out HB.out) | (with_reducible refine Kd.C_alloc ?_ _) | (with_reducible refine Kd.C_drewN ?_ _) | (with_reducible refine Kd.C_drew ?_))); (case side4 => exact HC0_2.out); rintro e w14 ⟨rfl, hb⟩; refine ⟨_, rfl, ?_⟩; have n0_ := Aside0.mk (blk_below (g := gb244) (o := .cells #[.int .i64 a0_0, .slice A0_1 l0_1.length c0_1, .slice A0_2 l0_2.length c0_2] 25 (0, 0)) (by (with_reducible repeat (first | refine blk_drewN ?_ _ | refine blk_drew ?_ | refine blk_alloc ?_ _)); exact BK244.out) hb); have n1_ := Aside0.mk (below_step (by repeat (first | (with_reducible first | exact HB.out | apply below_alloc | apply pw_below_drewN | apply below_drew1 | refine below_set ?_ GE244.out) | exact HB.out)) hb); clear BK244; clear HB; have BK244 := n0_; have HB := n1_; clear n0_ n1_; (try clear hb); (try clear hb2); (try clear hk); (try clear hi); have hcz15_0 : w14.cell? ⟨gb244, 0, none⟩ = some (.int .i64 a0_0) := (blk_cell BK244.out 0).trans rfl; have hcz15_1 : w14.cell? ⟨gb244, 1, none⟩ = some (.slice A0_1 l0_1.length c0_1) := (blk_cell BK244.out 1).trans rfl; have hcz15_2 : w14.cell? ⟨gb244, 2, none⟩ = some (.slice A0_2 l0_2.length c0_2) := (blk_cell BK244.out 2).trans rfl; have hfz15_0 := blk_frozen BK244.out 0; have hfz15_1 := blk_frozen BK244.out 1; have hfz15_2 := blk_frozen BK244.out 2) | (go_at_call 18; (with_reducible refine (region_Is.calls k a0_0 _ _ l0_1 _ _ l0_2 a1 true _ ?side1 ?side2 ?side3 ?side4 A10.out).mono ?_); (case side1 => repeat (first | exact (Kd.C_below HR0_1.out HB.out) | (with_reducible refine Kd.C_alloc ?_ _) | (with_reducible refine Kd.C_drewN ?_ _) | (with_reducible refine Kd.C_drew ?_))); (case side2 => exact HC0_1.out); (case side3 => repeat (first | exact (Kd.C_below HR0_2.out HB.out) | (with_reducible refine Kd.C_alloc ?_ _) | (with_reducible refine Kd.C_drewN ?_ _) | (with_reducible refine Kd.C_drew ?_))); (case side4 => exact HC0_2.out); rintro e w16 ⟨rfl, hb⟩; have n0_ := Aside0.mk (blk_below (g := gb244) (o := .cells #[.int .i64 a0_0, .slice A0_1 l0_1.length c0_1, .slice A0_2 l0_2.length c0_2] 25 (0, 0)) (by (with_reducible repeat (first | refine blk_drewN ?_ _ | refine blk_drew ?_ | refine blk_alloc ?_ _)); exact BK244.out) hb); have n1_ := Aside0.mk (below_step (by repeat (first | (with_reducible first | exact HB.out | apply below_alloc | apply pw_below_drewN | apply below_drew1 | refine below_set ?_ GE244.out) | exact HB.out)) hb); clear BK244; clear HB; have BK244 := n0_; have HB := n1_; clear n0_ n1_; (try clear hb); (try clear hb2); (try clear hk); (try clear hi); have hcz17_0 : w16.cell? ⟨gb244, 0, none⟩ = some (.int .i64 a0_0) := (blk_cell BK244.out 0).trans rfl; have hcz17_1 : w16.cell? ⟨gb244, 1, none⟩ = some (.slice A0_1 l0_1.length c0_1) := (blk_cell BK244.out 1).trans rfl; have hcz17_2 : w16.cell? ⟨gb244, 2, none⟩ = some (.slice A0_2 l0_2.length c0_2) := (blk_cell BK244.out 2).trans rfl; have hfz17_0 := blk_frozen BK244.out 0; have hfz17_1 := blk_frozen BK244.out 1; have hfz17_2 := blk_frozen BK244.out 2) | (go_at_call 18; (with_reducible refine (region_Is.calls k a0_0 _ _ l0_1 _ _ l0_2 a2 t247 _ ?side1 ?side2 ?side3 ?side4 A12.out).mono ?_); (case side1 => repeat (first | exact (Kd.C_below HR0_1.out HB.out) | (with_reducible refine Kd.C_alloc ?_ _) | (with_reducible refine Kd.C_drewN ?_ _) | (with_reducible refine Kd.C_drew ?_))); (case side2 => exact HC0_1.out); (case side3 => repeat (first | exact (Kd.C_below HR0_2.out HB.out) | (with_reducible refine Kd.C_alloc ?_ _) | (with_reducible refine Kd.C_drewN ?_ _) | (with_reducible refine Kd.C_drew ?_))); (case side4 => exact HC0_2.out); rintro e w18 ⟨rfl, hb⟩; have n0_ := Aside0.mk (blk_below (g := gb244) (o := .cells #[.int .i64 a0_0, .slice A0_1 l0_1.length c0_1, .slice A0_2 l0_2.length c0_2] 25 (0, 0)) (by (with_reducible repeat (first | refine blk_drewN ?_ _ | refine blk_drew ?_ | refine blk_alloc ?_ _)); exact BK244.out) hb); have n1_ := Aside0.mk (below_step (by repeat (first | (with_reducible first | exact HB.out | apply below_alloc | apply pw_below_drewN | apply below_drew1 | refine below_set ?_ GE244.out) | exact HB.out)) hb); clear BK244; clear HB; have BK244 := n0_; have HB := n1_; clear n0_ n1_; (try clear hb); (try clear hb2); (try clear hk); (try clear hi)))
    go_meet
    case rel => exact ⟨_, (!t247), (by first | rfl | (simp; done) | (simp [*]; done) | (simp [i64_w]; done)), H', ⟨by first | omega | exact Nat.le_refl _⟩, ⟨by (with_reducible repeat (first | refine blk_drewN ?_ _ | refine blk_drew ?_ | refine blk_alloc ?_ _)); exact BK244.out⟩, ⟨by repeat (first | (with_reducible first | exact HB.out | apply below_alloc | apply pw_below_drewN | apply below_drew1 | refine below_set ?_ GE244.out) | exact HB.out)⟩⟩
   ·
    replace c11 := Bool.eq_false_iff.mpr c11
    subst c11
    have H1 : (petrinetlaw46_RegionUnions.j0 k a1 a2 true a0_0 l0_1 l0_2) = some r := by rw [if_neg (show ¬ (false = true) by decide)] at H; exact H
    clear H
    have H := H1
    clear H1
    have H' := Aside0.mk H
    clear H
    have hcz19_0 : w5.cell? ⟨gb244, 0, none⟩ = some (.int .i64 a0_0) := (blk_cell BK244.out 0).trans rfl
    have hcz19_1 : w5.cell? ⟨gb244, 1, none⟩ = some (.slice A0_1 l0_1.length c0_1) := (blk_cell BK244.out 1).trans rfl
    have hcz19_2 : w5.cell? ⟨gb244, 2, none⟩ = some (.slice A0_2 l0_2.length c0_2) := (blk_cell BK244.out 2).trans rfl
    have hfz19_0 := blk_frozen BK244.out 0
    have hfz19_1 := blk_frozen BK244.out 1
    have hfz19_2 := blk_frozen BK244.out 2
    go_wp2_with (first | ((with_reducible refine gate_callee (f := 10) rfl ?_); refine goesL_ (some 8) rfl rfl Try.func10 (by kernel_rfl) rfl #[.agg #[.int .i64 a0_0, .slice A0_1 l0_1.length c0_1, .slice A0_2 l0_2.length c0_2]] rfl (by (try simp only [List.map_toArray, List.map_cons, List.map_nil]); first | done | rfl | (simp only [List.length_drop, List.length_take]; rfl)) ?_; (with_reducible refine (petrinetref46_Large.calls a0_0 _ _ l0_1 _ _ l0_2 false _ ?side1 ?side2 ?side3 ?side4 A6.out).mono ?_); (case side1 => repeat (first | exact (Kd.C_below HR0_1.out HB.out) | (with_reducible refine Kd.C_alloc ?_ _) | (with_reducible refine Kd.C_drewN ?_ _) | (with_reducible refine Kd.C_drew ?_))); (case side2 => exact HC0_1.out); (case side3 => repeat (first | exact (Kd.C_below HR0_2.out HB.out) | (with_reducible refine Kd.C_alloc ?_ _) | (with_reducible refine Kd.C_drewN ?_ _) | (with_reducible refine Kd.C_drew ?_))); (case side4 => exact HC0_2.out); rintro e w20 ⟨rfl, hb⟩; refine ⟨_, rfl, ?_⟩; have n0_ := Aside0.mk (blk_below (g := gb244) (o := .cells #[.int .i64 a0_0, .slice A0_1 l0_1.length c0_1, .slice A0_2 l0_2.length c0_2] 25 (0, 0)) (by (with_reducible repeat (first | refine blk_drewN ?_ _ | refine blk_drew ?_ | refine blk_alloc ?_ _)); exact BK244.out) hb); have n1_ := Aside0.mk (below_step (by repeat (first | (with_reducible first | exact HB.out | apply below_alloc | apply pw_below_drewN | apply below_drew1 | refine below_set ?_ GE244.out) | exact HB.out)) hb); clear BK244; clear HB; have BK244 := n0_; have HB := n1_; clear n0_ n1_; (try clear hb); (try clear hb2); (try clear hk); (try clear hi); have hcz21_0 : w20.cell? ⟨gb244, 0, none⟩ = some (.int .i64 a0_0) := (blk_cell BK244.out 0).trans rfl; have hcz21_1 : w20.cell? ⟨gb244, 1, none⟩ = some (.slice A0_1 l0_1.length c0_1) := (blk_cell BK244.out 1).trans rfl; have hcz21_2 : w20.cell? ⟨gb244, 2, none⟩ = some (.slice A0_2 l0_2.length c0_2) := (blk_cell BK244.out 2).trans rfl; have hfz21_0 := blk_frozen BK244.out 0; have hfz21_1 := blk_frozen BK244.out 1; have hfz21_2 := blk_frozen BK244.out 2) | (go_at_call 18; (with_reducible refine (region_Is.calls k a0_0 _ _ l0_1 _ _ l0_2 a1 false _ ?side1 ?side2 ?side3 ?side4 A10.out).mono ?_); (case side1 => repeat (first | exact (Kd.C_below HR0_1.out HB.out) | (with_reducible refine Kd.C_alloc ?_ _) | (with_reducible refine Kd.C_drewN ?_ _) | (with_reducible refine Kd.C_drew ?_))); (case side2 => exact HC0_1.out); (case side3 => repeat (first | exact (Kd.C_below HR0_2.out HB.out) | (with_reducible refine Kd.C_alloc ?_ _) | (with_reducible refine Kd.C_drewN ?_ _) | (with_reducible refine Kd.C_drew ?_))); (case side4 => exact HC0_2.out); rintro e w22 ⟨rfl, hb⟩; have n0_ := Aside0.mk (blk_below (g := gb244) (o := .cells #[.int .i64 a0_0, .slice A0_1 l0_1.length c0_1, .slice A0_2 l0_2.length c0_2] 25 (0, 0)) (by (with_reducible repeat (first | refine blk_drewN ?_ _ | refine blk_drew ?_ | refine blk_alloc ?_ _)); exact BK244.out) hb); have n1_ := Aside0.mk (below_step (by repeat (first | (with_reducible first | exact HB.out | apply below_alloc | apply pw_below_drewN | apply below_drew1 | refine below_set ?_ GE244.out) | exact HB.out)) hb); clear BK244; clear HB; have BK244 := n0_; have HB := n1_; clear n0_ n1_; (try clear hb); (try clear hb2); (try clear hk); (try clear hi)))
    go_meet
    case rel => exact ⟨_, (true), (by first | rfl | (simp; done) | (simp [*]; done) | (simp [i64_w]; done)), H', ⟨by first | omega | exact Nat.le_refl _⟩, ⟨by (with_reducible repeat (first | refine blk_drewN ?_ _ | refine blk_drew ?_ | refine blk_alloc ?_ _)); exact BK244.out⟩, ⟨by repeat (first | (with_reducible first | exact HB.out | apply below_alloc | apply pw_below_drewN | apply below_drew1 | refine below_set ?_ GE244.out) | exact HB.out)⟩⟩
 case rest =>
  clear HC4
  try clear c1
  try clear p2
  try clear c5
  try clear c7
  try clear c10
  try clear c11
  try clear hcz13_0
  try clear hcz13_1
  try clear hcz13_2
  try clear hcz15_0
  try clear hcz15_1
  try clear hcz15_2
  try clear hcz17_0
  try clear hcz17_1
  try clear hcz17_2
  try clear hcz19_0
  try clear hcz19_1
  try clear hcz19_2
  try clear hcz21_0
  try clear hcz21_1
  try clear hcz21_2
  try clear hcz8_0
  try clear hcz8_1
  try clear hcz8_2
  try clear hfz13_0
  try clear hfz13_1
  try clear hfz13_2
  try clear hfz15_0
  try clear hfz15_1
  try clear hfz15_2
  try clear hfz17_0
  try clear hfz17_1
  try clear hfz17_2
  try clear hfz19_0
  try clear hfz19_1
  try clear hfz19_2
  try clear hfz21_0
  try clear hfz21_1
  try clear hfz21_2
  try clear hfz8_0
  try clear hfz8_1
  try clear hfz8_2
  obtain ⟨kq, x20_3, rfl, HA, HJ3, BK244, HB⟩ := hcut
  cases kq with
  | zero => exact absurd HA.out (by simp [petrinetlaw46_RegionUnions.j0])
  | succ kj3 =>
   have H := HA.out
   clear HA
   simp only [petrinetlaw46_RegionUnions.j0] at H
   by_cases c23 : x20_3 = true
   ·
    subst c23
    have H1 : ((petrinetlaw46_exampleHolds.f kj3).bind fun t248 => (some t248)) = some r := by rw [if_pos rfl] at H; exact H
    clear H
    have H := H1
    clear H1
    replace H := Option.bind_eq_some_iff.mp H
    obtain ⟨t248, A240, H⟩ := H
    replace H : (some t248) = some r := H
    have A24 := Aside0.mk A240
    clear A240
    obtain rfl := Option.some.inj H
    go_wp2_with (first | ((with_reducible refine gate_callee (f := 11) rfl ?_); refine goesL_ (some 21) rfl rfl Try.func11 (by kernel_rfl) rfl #[] rfl (by (try simp only [List.map_toArray, List.map_cons, List.map_nil]); first | done | rfl | (simp only [List.length_drop, List.length_take]; rfl)) ?_; (with_reducible refine (petrinetlaw46_exampleHolds.calls kj3  t248 _ A24.out (by first | exact hrT_ | exact ⟨rfl⟩)).mono ?_); rintro e w25 ⟨rfl, hb⟩; refine ⟨_, rfl, ?_⟩; have n0_ := Aside0.mk (blk_below (g := gb244) (o := .cells #[.int .i64 a0_0, .slice A0_1 l0_1.length c0_1, .slice A0_2 l0_2.length c0_2] 25 (0, 0)) (by (with_reducible repeat (first | refine blk_drewN ?_ _ | refine blk_drew ?_ | refine blk_alloc ?_ _)); exact BK244.out) hb); have n1_ := Aside0.mk (below_step (by repeat (first | (with_reducible first | exact HB.out | apply below_alloc | apply pw_below_drewN | apply below_drew1 | refine below_set ?_ GE244.out) | exact HB.out)) hb); clear BK244; clear HB; have BK244 := n0_; have HB := n1_; clear n0_ n1_; (try clear hb); (try clear hb2); (try clear hk); (try clear hi)))
    go_ret
    exact ⟨by first | rfl | (simp [errW_none, errW_some] <;> rfl) | (simp [*, errW_none, errW_some] <;> rfl), by repeat (first | (with_reducible first | exact HB.out | apply below_alloc | apply pw_below_drewN | apply below_drew1 | refine below_set ?_ GE244.out) | exact HB.out)⟩
   ·
    replace c23 := Bool.eq_false_iff.mpr c23
    subst c23
    have H1 : (if (Go.bits .and .u64 a1 a2) = 0 then ((region_Is.f kj3 a0_0 l0_1 l0_2 (Go.bits .or .u64 a1 a2)).bind fun t249 => (if t249 = true then (if (Go.bits .and .u64 a1 a2) = a1 then ((region_Is.f kj3 a0_0 l0_1 l0_2 (IntKind.u64.wrap (a2 - a1))).bind fun t250 => (if t250 = true then (if (Go.bits .and .u64 a1 a2) = a2 then ((region_Is.f kj3 a0_0 l0_1 l0_2 (IntKind.u64.wrap (a1 - a2))).bind fun t251 => (if t251 = true then ((petrinetlaw46_exampleHolds.f kj3).bind fun t252 => (some t252)) else (some false))) else ((petrinetlaw46_exampleHolds.f kj3).bind fun t253 => (some t253))) else (some false))) else (if (Go.bits .and .u64 a1 a2) = a2 then ((region_Is.f kj3 a0_0 l0_1 l0_2 (IntKind.u64.wrap (a1 - a2))).bind fun t254 => (if t254 = true then ((petrinetlaw46_exampleHolds.f kj3).bind fun t255 => (some t255)) else (some false))) else ((petrinetlaw46_exampleHolds.f kj3).bind fun t256 => (some t256)))) else (some false))) else (if (Go.bits .and .u64 a1 a2) = a1 then ((region_Is.f kj3 a0_0 l0_1 l0_2 (IntKind.u64.wrap (a2 - a1))).bind fun t257 => (if t257 = true then (if (Go.bits .and .u64 a1 a2) = a2 then ((region_Is.f kj3 a0_0 l0_1 l0_2 (IntKind.u64.wrap (a1 - a2))).bind fun t258 => (if t258 = true then ((petrinetlaw46_exampleHolds.f kj3).bind fun t259 => (some t259)) else (some false))) else ((petrinetlaw46_exampleHolds.f kj3).bind fun t260 => (some t260))) else (some false))) else (if (Go.bits .and .u64 a1 a2) = a2 then ((region_Is.f kj3 a0_0 l0_1 l0_2 (IntKind.u64.wrap (a1 - a2))).bind fun t261 => (if t261 = true then ((petrinetlaw46_exampleHolds.f kj3).bind fun t262 => (some t262)) else (some false))) else ((petrinetlaw46_exampleHolds.f kj3).bind fun t263 => (some t263))))) = some r := by rw [if_neg (show ¬ (false = true) by decide)] at H; exact H
    clear H
    have H := H1
    clear H1
    by_cases c26 : (Go.bits .and .u64 a1 a2) = 0
    ·
     rw [if_pos c26] at H
     have c26b0 : ((Go.bits .and .u64 a1 a2) == 0) = true := beq_iff_eq.mpr c26
     have c26b1 : ((Go.bits .and .u64 a1 a2) != 0) = false := bne_eq_false_iff_eq.mpr c26
     clear c26
     replace H := Option.bind_eq_some_iff.mp H
     obtain ⟨t249, A270, H⟩ := H
     replace H : (if t249 = true then (if (Go.bits .and .u64 a1 a2) = a1 then ((region_Is.f kj3 a0_0 l0_1 l0_2 (IntKind.u64.wrap (a2 - a1))).bind fun t250 => (if t250 = true then (if (Go.bits .and .u64 a1 a2) = a2 then ((region_Is.f kj3 a0_0 l0_1 l0_2 (IntKind.u64.wrap (a1 - a2))).bind fun t251 => (if t251 = true then ((petrinetlaw46_exampleHolds.f kj3).bind fun t252 => (some t252)) else (some false))) else ((petrinetlaw46_exampleHolds.f kj3).bind fun t253 => (some t253))) else (some false))) else (if (Go.bits .and .u64 a1 a2) = a2 then ((region_Is.f kj3 a0_0 l0_1 l0_2 (IntKind.u64.wrap (a1 - a2))).bind fun t254 => (if t254 = true then ((petrinetlaw46_exampleHolds.f kj3).bind fun t255 => (some t255)) else (some false))) else ((petrinetlaw46_exampleHolds.f kj3).bind fun t256 => (some t256)))) else (some false)) = some r := H
     have A27 := Aside0.mk A270
     clear A270
     by_cases c28 : t249 = true
     ·
      subst c28
      have H1 : (if (Go.bits .and .u64 a1 a2) = a1 then ((region_Is.f kj3 a0_0 l0_1 l0_2 (IntKind.u64.wrap (a2 - a1))).bind fun t250 => (if t250 = true then (if (Go.bits .and .u64 a1 a2) = a2 then ((region_Is.f kj3 a0_0 l0_1 l0_2 (IntKind.u64.wrap (a1 - a2))).bind fun t251 => (if t251 = true then ((petrinetlaw46_exampleHolds.f kj3).bind fun t252 => (some t252)) else (some false))) else ((petrinetlaw46_exampleHolds.f kj3).bind fun t253 => (some t253))) else (some false))) else (if (Go.bits .and .u64 a1 a2) = a2 then ((region_Is.f kj3 a0_0 l0_1 l0_2 (IntKind.u64.wrap (a1 - a2))).bind fun t254 => (if t254 = true then ((petrinetlaw46_exampleHolds.f kj3).bind fun t255 => (some t255)) else (some false))) else ((petrinetlaw46_exampleHolds.f kj3).bind fun t256 => (some t256)))) = some r := by rw [if_pos rfl] at H; exact H
      clear H
      have H := H1
      clear H1
      by_cases c29 : (Go.bits .and .u64 a1 a2) = a1
      ·
       rw [if_pos c29] at H
       have c29b0 : ((Go.bits .and .u64 a1 a2) == a1) = true := beq_iff_eq.mpr c29
       have c29b1 : ((Go.bits .and .u64 a1 a2) != a1) = false := bne_eq_false_iff_eq.mpr c29
       clear c29
       replace H := Option.bind_eq_some_iff.mp H
       obtain ⟨t250, A300, H⟩ := H
       replace H : (if t250 = true then (if (Go.bits .and .u64 a1 a2) = a2 then ((region_Is.f kj3 a0_0 l0_1 l0_2 (IntKind.u64.wrap (a1 - a2))).bind fun t251 => (if t251 = true then ((petrinetlaw46_exampleHolds.f kj3).bind fun t252 => (some t252)) else (some false))) else ((petrinetlaw46_exampleHolds.f kj3).bind fun t253 => (some t253))) else (some false)) = some r := H
       have A30 := Aside0.mk A300
       clear A300
       by_cases c31 : t250 = true
       ·
        subst c31
        have H1 : (if (Go.bits .and .u64 a1 a2) = a2 then ((region_Is.f kj3 a0_0 l0_1 l0_2 (IntKind.u64.wrap (a1 - a2))).bind fun t251 => (if t251 = true then ((petrinetlaw46_exampleHolds.f kj3).bind fun t252 => (some t252)) else (some false))) else ((petrinetlaw46_exampleHolds.f kj3).bind fun t253 => (some t253))) = some r := by rw [if_pos rfl] at H; exact H
        clear H
        have H := H1
        clear H1
        by_cases c32 : (Go.bits .and .u64 a1 a2) = a2
        ·
         rw [if_pos c32] at H
         have c32b0 : ((Go.bits .and .u64 a1 a2) == a2) = true := beq_iff_eq.mpr c32
         have c32b1 : ((Go.bits .and .u64 a1 a2) != a2) = false := bne_eq_false_iff_eq.mpr c32
         clear c32
         replace H := Option.bind_eq_some_iff.mp H
         obtain ⟨t251, A330, H⟩ := H
         replace H : (if t251 = true then ((petrinetlaw46_exampleHolds.f kj3).bind fun t252 => (some t252)) else (some false)) = some r := H
         have A33 := Aside0.mk A330
         clear A330
         by_cases c34 : t251 = true
         ·
          subst c34
          have H1 : ((petrinetlaw46_exampleHolds.f kj3).bind fun t252 => (some t252)) = some r := by rw [if_pos rfl] at H; exact H
          clear H
          have H := H1
          clear H1
          replace H := Option.bind_eq_some_iff.mp H
          obtain ⟨t252, A350, H⟩ := H
          replace H : (some t252) = some r := H
          have A35 := Aside0.mk A350
          clear A350
          obtain rfl := Option.some.inj H
          have hcz36_0 : wc.cell? ⟨gb244, 0, none⟩ = some (.int .i64 a0_0) := (blk_cell BK244.out 0).trans rfl
          have hcz36_1 : wc.cell? ⟨gb244, 1, none⟩ = some (.slice A0_1 l0_1.length c0_1) := (blk_cell BK244.out 1).trans rfl
          have hcz36_2 : wc.cell? ⟨gb244, 2, none⟩ = some (.slice A0_2 l0_2.length c0_2) := (blk_cell BK244.out 2).trans rfl
          have hfz36_0 := blk_frozen BK244.out 0
          have hfz36_1 := blk_frozen BK244.out 1
          have hfz36_2 := blk_frozen BK244.out 2
          go_wp2_with (first | (go_at_call 18; (with_reducible refine (region_Is.calls kj3 a0_0 _ _ l0_1 _ _ l0_2 (Go.bits .or .u64 a1 a2) true _ ?side1 ?side2 ?side3 ?side4 A27.out).mono ?_); (case side1 => repeat (first | exact (Kd.C_below HR0_1.out HB.out) | (with_reducible refine Kd.C_alloc ?_ _) | (with_reducible refine Kd.C_drewN ?_ _) | (with_reducible refine Kd.C_drew ?_))); (case side2 => exact HC0_1.out); (case side3 => repeat (first | exact (Kd.C_below HR0_2.out HB.out) | (with_reducible refine Kd.C_alloc ?_ _) | (with_reducible refine Kd.C_drewN ?_ _) | (with_reducible refine Kd.C_drew ?_))); (case side4 => exact HC0_2.out); rintro e w37 ⟨rfl, hb⟩; have n0_ := Aside0.mk (blk_below (g := gb244) (o := .cells #[.int .i64 a0_0, .slice A0_1 l0_1.length c0_1, .slice A0_2 l0_2.length c0_2] 25 (0, 0)) (by (with_reducible repeat (first | refine blk_drewN ?_ _ | refine blk_drew ?_ | refine blk_alloc ?_ _)); exact BK244.out) hb); have n1_ := Aside0.mk (below_step (by repeat (first | (with_reducible first | exact HB.out | apply below_alloc | apply pw_below_drewN | apply below_drew1 | refine below_set ?_ GE244.out) | exact HB.out)) hb); clear BK244; clear HB; have BK244 := n0_; have HB := n1_; clear n0_ n1_; (try clear hb); (try clear hb2); (try clear hk); (try clear hi); have hcz38_0 : w37.cell? ⟨gb244, 0, none⟩ = some (.int .i64 a0_0) := (blk_cell BK244.out 0).trans rfl; have hcz38_1 : w37.cell? ⟨gb244, 1, none⟩ = some (.slice A0_1 l0_1.length c0_1) := (blk_cell BK244.out 1).trans rfl; have hcz38_2 : w37.cell? ⟨gb244, 2, none⟩ = some (.slice A0_2 l0_2.length c0_2) := (blk_cell BK244.out 2).trans rfl; have hfz38_0 := blk_frozen BK244.out 0; have hfz38_1 := blk_frozen BK244.out 1; have hfz38_2 := blk_frozen BK244.out 2) | (go_at_call 18; (with_reducible refine (region_Is.calls kj3 a0_0 _ _ l0_1 _ _ l0_2 (IntKind.u64.wrap (a2 - a1)) true _ ?side1 ?side2 ?side3 ?side4 A30.out).mono ?_); (case side1 => repeat (first | exact (Kd.C_below HR0_1.out HB.out) | (with_reducible refine Kd.C_alloc ?_ _) | (with_reducible refine Kd.C_drewN ?_ _) | (with_reducible refine Kd.C_drew ?_))); (case side2 => exact HC0_1.out); (case side3 => repeat (first | exact (Kd.C_below HR0_2.out HB.out) | (with_reducible refine Kd.C_alloc ?_ _) | (with_reducible refine Kd.C_drewN ?_ _) | (with_reducible refine Kd.C_drew ?_))); (case side4 => exact HC0_2.out); rintro e w39 ⟨rfl, hb⟩; have n0_ := Aside0.mk (blk_below (g := gb244) (o := .cells #[.int .i64 a0_0, .slice A0_1 l0_1.length c0_1, .slice A0_2 l0_2.length c0_2] 25 (0, 0)) (by (with_reducible repeat (first | refine blk_drewN ?_ _ | refine blk_drew ?_ | refine blk_alloc ?_ _)); exact BK244.out) hb); have n1_ := Aside0.mk (below_step (by repeat (first | (with_reducible first | exact HB.out | apply below_alloc | apply pw_below_drewN | apply below_drew1 | refine below_set ?_ GE244.out) | exact HB.out)) hb); clear BK244; clear HB; have BK244 := n0_; have HB := n1_; clear n0_ n1_; (try clear hb); (try clear hb2); (try clear hk); (try clear hi); have hcz40_0 : w39.cell? ⟨gb244, 0, none⟩ = some (.int .i64 a0_0) := (blk_cell BK244.out 0).trans rfl; have hcz40_1 : w39.cell? ⟨gb244, 1, none⟩ = some (.slice A0_1 l0_1.length c0_1) := (blk_cell BK244.out 1).trans rfl; have hcz40_2 : w39.cell? ⟨gb244, 2, none⟩ = some (.slice A0_2 l0_2.length c0_2) := (blk_cell BK244.out 2).trans rfl; have hfz40_0 := blk_frozen BK244.out 0; have hfz40_1 := blk_frozen BK244.out 1; have hfz40_2 := blk_frozen BK244.out 2) | (go_at_call 18; (with_reducible refine (region_Is.calls kj3 a0_0 _ _ l0_1 _ _ l0_2 (IntKind.u64.wrap (a1 - a2)) true _ ?side1 ?side2 ?side3 ?side4 A33.out).mono ?_); (case side1 => repeat (first | exact (Kd.C_below HR0_1.out HB.out) | (with_reducible refine Kd.C_alloc ?_ _) | (with_reducible refine Kd.C_drewN ?_ _) | (with_reducible refine Kd.C_drew ?_))); (case side2 => exact HC0_1.out); (case side3 => repeat (first | exact (Kd.C_below HR0_2.out HB.out) | (with_reducible refine Kd.C_alloc ?_ _) | (with_reducible refine Kd.C_drewN ?_ _) | (with_reducible refine Kd.C_drew ?_))); (case side4 => exact HC0_2.out); rintro e w41 ⟨rfl, hb⟩; have n0_ := Aside0.mk (blk_below (g := gb244) (o := .cells #[.int .i64 a0_0, .slice A0_1 l0_1.length c0_1, .slice A0_2 l0_2.length c0_2] 25 (0, 0)) (by (with_reducible repeat (first | refine blk_drewN ?_ _ | refine blk_drew ?_ | refine blk_alloc ?_ _)); exact BK244.out) hb); have n1_ := Aside0.mk (below_step (by repeat (first | (with_reducible first | exact HB.out | apply below_alloc | apply pw_below_drewN | apply below_drew1 | refine below_set ?_ GE244.out) | exact HB.out)) hb); clear BK244; clear HB; have BK244 := n0_; have HB := n1_; clear n0_ n1_; (try clear hb); (try clear hb2); (try clear hk); (try clear hi)) | ((with_reducible refine gate_callee (f := 11) rfl ?_); refine goesL_ (some 64) rfl rfl Try.func11 (by kernel_rfl) rfl #[] rfl (by (try simp only [List.map_toArray, List.map_cons, List.map_nil]); first | done | rfl | (simp only [List.length_drop, List.length_take]; rfl)) ?_; (with_reducible refine (petrinetlaw46_exampleHolds.calls kj3  t252 _ A35.out (by first | exact hrT_ | exact ⟨rfl⟩)).mono ?_); rintro e w42 ⟨rfl, hb⟩; refine ⟨_, rfl, ?_⟩; have n0_ := Aside0.mk (blk_below (g := gb244) (o := .cells #[.int .i64 a0_0, .slice A0_1 l0_1.length c0_1, .slice A0_2 l0_2.length c0_2] 25 (0, 0)) (by (with_reducible repeat (first | refine blk_drewN ?_ _ | refine blk_drew ?_ | refine blk_alloc ?_ _)); exact BK244.out) hb); have n1_ := Aside0.mk (below_step (by repeat (first | (with_reducible first | exact HB.out | apply below_alloc | apply pw_below_drewN | apply below_drew1 | refine below_set ?_ GE244.out) | exact HB.out)) hb); clear BK244; clear HB; have BK244 := n0_; have HB := n1_; clear n0_ n1_; (try clear hb); (try clear hb2); (try clear hk); (try clear hi)))
          go_ret
          exact ⟨by first | rfl | (simp [errW_none, errW_some] <;> rfl) | (simp [*, errW_none, errW_some] <;> rfl), by repeat (first | (with_reducible first | exact HB.out | apply below_alloc | apply pw_below_drewN | apply below_drew1 | refine below_set ?_ GE244.out) | exact HB.out)⟩
         ·
          replace c34 := Bool.eq_false_iff.mpr c34
          subst c34
          have H1 : (some false) = some r := by rw [if_neg (show ¬ (false = true) by decide)] at H; exact H
          clear H
          have H := H1
          clear H1
          exact absurd ((Option.some.inj H).trans hrT_.out) Bool.false_ne_true
        ·
         rw [if_neg c32] at H
         have c32b0 : ((Go.bits .and .u64 a1 a2) == a2) = false := beq_eq_false_iff_ne.mpr c32
         have c32b1 : ((Go.bits .and .u64 a1 a2) != a2) = true := bne_iff_ne.mpr c32
         replace H := Option.bind_eq_some_iff.mp H
         obtain ⟨t253, A430, H⟩ := H
         replace H : (some t253) = some r := H
         have A43 := Aside0.mk A430
         clear A430
         obtain rfl := Option.some.inj H
         have hcz44_0 : wc.cell? ⟨gb244, 0, none⟩ = some (.int .i64 a0_0) := (blk_cell BK244.out 0).trans rfl
         have hcz44_1 : wc.cell? ⟨gb244, 1, none⟩ = some (.slice A0_1 l0_1.length c0_1) := (blk_cell BK244.out 1).trans rfl
         have hcz44_2 : wc.cell? ⟨gb244, 2, none⟩ = some (.slice A0_2 l0_2.length c0_2) := (blk_cell BK244.out 2).trans rfl
         have hfz44_0 := blk_frozen BK244.out 0
         have hfz44_1 := blk_frozen BK244.out 1
         have hfz44_2 := blk_frozen BK244.out 2
         go_wp2_with (first | (go_at_call 18; (with_reducible refine (region_Is.calls kj3 a0_0 _ _ l0_1 _ _ l0_2 (Go.bits .or .u64 a1 a2) true _ ?side1 ?side2 ?side3 ?side4 A27.out).mono ?_); (case side1 => repeat (first | exact (Kd.C_below HR0_1.out HB.out) | (with_reducible refine Kd.C_alloc ?_ _) | (with_reducible refine Kd.C_drewN ?_ _) | (with_reducible refine Kd.C_drew ?_))); (case side2 => exact HC0_1.out); (case side3 => repeat (first | exact (Kd.C_below HR0_2.out HB.out) | (with_reducible refine Kd.C_alloc ?_ _) | (with_reducible refine Kd.C_drewN ?_ _) | (with_reducible refine Kd.C_drew ?_))); (case side4 => exact HC0_2.out); rintro e w45 ⟨rfl, hb⟩; have n0_ := Aside0.mk (blk_below (g := gb244) (o := .cells #[.int .i64 a0_0, .slice A0_1 l0_1.length c0_1, .slice A0_2 l0_2.length c0_2] 25 (0, 0)) (by (with_reducible repeat (first | refine blk_drewN ?_ _ | refine blk_drew ?_ | refine blk_alloc ?_ _)); exact BK244.out) hb); have n1_ := Aside0.mk (below_step (by repeat (first | (with_reducible first | exact HB.out | apply below_alloc | apply pw_below_drewN | apply below_drew1 | refine below_set ?_ GE244.out) | exact HB.out)) hb); clear BK244; clear HB; have BK244 := n0_; have HB := n1_; clear n0_ n1_; (try clear hb); (try clear hb2); (try clear hk); (try clear hi); have hcz46_0 : w45.cell? ⟨gb244, 0, none⟩ = some (.int .i64 a0_0) := (blk_cell BK244.out 0).trans rfl; have hcz46_1 : w45.cell? ⟨gb244, 1, none⟩ = some (.slice A0_1 l0_1.length c0_1) := (blk_cell BK244.out 1).trans rfl; have hcz46_2 : w45.cell? ⟨gb244, 2, none⟩ = some (.slice A0_2 l0_2.length c0_2) := (blk_cell BK244.out 2).trans rfl; have hfz46_0 := blk_frozen BK244.out 0; have hfz46_1 := blk_frozen BK244.out 1; have hfz46_2 := blk_frozen BK244.out 2) | (go_at_call 18; (with_reducible refine (region_Is.calls kj3 a0_0 _ _ l0_1 _ _ l0_2 (IntKind.u64.wrap (a2 - a1)) true _ ?side1 ?side2 ?side3 ?side4 A30.out).mono ?_); (case side1 => repeat (first | exact (Kd.C_below HR0_1.out HB.out) | (with_reducible refine Kd.C_alloc ?_ _) | (with_reducible refine Kd.C_drewN ?_ _) | (with_reducible refine Kd.C_drew ?_))); (case side2 => exact HC0_1.out); (case side3 => repeat (first | exact (Kd.C_below HR0_2.out HB.out) | (with_reducible refine Kd.C_alloc ?_ _) | (with_reducible refine Kd.C_drewN ?_ _) | (with_reducible refine Kd.C_drew ?_))); (case side4 => exact HC0_2.out); rintro e w47 ⟨rfl, hb⟩; have n0_ := Aside0.mk (blk_below (g := gb244) (o := .cells #[.int .i64 a0_0, .slice A0_1 l0_1.length c0_1, .slice A0_2 l0_2.length c0_2] 25 (0, 0)) (by (with_reducible repeat (first | refine blk_drewN ?_ _ | refine blk_drew ?_ | refine blk_alloc ?_ _)); exact BK244.out) hb); have n1_ := Aside0.mk (below_step (by repeat (first | (with_reducible first | exact HB.out | apply below_alloc | apply pw_below_drewN | apply below_drew1 | refine below_set ?_ GE244.out) | exact HB.out)) hb); clear BK244; clear HB; have BK244 := n0_; have HB := n1_; clear n0_ n1_; (try clear hb); (try clear hb2); (try clear hk); (try clear hi)) | ((with_reducible refine gate_callee (f := 11) rfl ?_); refine goesL_ (some 64) rfl rfl Try.func11 (by kernel_rfl) rfl #[] rfl (by (try simp only [List.map_toArray, List.map_cons, List.map_nil]); first | done | rfl | (simp only [List.length_drop, List.length_take]; rfl)) ?_; (with_reducible refine (petrinetlaw46_exampleHolds.calls kj3  t253 _ A43.out (by first | exact hrT_ | exact ⟨rfl⟩)).mono ?_); rintro e w48 ⟨rfl, hb⟩; refine ⟨_, rfl, ?_⟩; have n0_ := Aside0.mk (blk_below (g := gb244) (o := .cells #[.int .i64 a0_0, .slice A0_1 l0_1.length c0_1, .slice A0_2 l0_2.length c0_2] 25 (0, 0)) (by (with_reducible repeat (first | refine blk_drewN ?_ _ | refine blk_drew ?_ | refine blk_alloc ?_ _)); exact BK244.out) hb); have n1_ := Aside0.mk (below_step (by repeat (first | (with_reducible first | exact HB.out | apply below_alloc | apply pw_below_drewN | apply below_drew1 | refine below_set ?_ GE244.out) | exact HB.out)) hb); clear BK244; clear HB; have BK244 := n0_; have HB := n1_; clear n0_ n1_; (try clear hb); (try clear hb2); (try clear hk); (try clear hi)))
         go_ret
         exact ⟨by first | rfl | (simp [errW_none, errW_some] <;> rfl) | (simp [*, errW_none, errW_some] <;> rfl), by repeat (first | (with_reducible first | exact HB.out | apply below_alloc | apply pw_below_drewN | apply below_drew1 | refine below_set ?_ GE244.out) | exact HB.out)⟩
       ·
        replace c31 := Bool.eq_false_iff.mpr c31
        subst c31
        have H1 : (some false) = some r := by rw [if_neg (show ¬ (false = true) by decide)] at H; exact H
        clear H
        have H := H1
        clear H1
        exact absurd ((Option.some.inj H).trans hrT_.out) Bool.false_ne_true
      ·
       rw [if_neg c29] at H
       have c29b0 : ((Go.bits .and .u64 a1 a2) == a1) = false := beq_eq_false_iff_ne.mpr c29
       have c29b1 : ((Go.bits .and .u64 a1 a2) != a1) = true := bne_iff_ne.mpr c29
       by_cases c49 : (Go.bits .and .u64 a1 a2) = a2
       ·
        rw [if_pos c49] at H
        have c49b0 : ((Go.bits .and .u64 a1 a2) == a2) = true := beq_iff_eq.mpr c49
        have c49b1 : ((Go.bits .and .u64 a1 a2) != a2) = false := bne_eq_false_iff_eq.mpr c49
        clear c49
        replace H := Option.bind_eq_some_iff.mp H
        obtain ⟨t254, A500, H⟩ := H
        replace H : (if t254 = true then ((petrinetlaw46_exampleHolds.f kj3).bind fun t255 => (some t255)) else (some false)) = some r := H
        have A50 := Aside0.mk A500
        clear A500
        by_cases c51 : t254 = true
        ·
         subst c51
         have H1 : ((petrinetlaw46_exampleHolds.f kj3).bind fun t255 => (some t255)) = some r := by rw [if_pos rfl] at H; exact H
         clear H
         have H := H1
         clear H1
         replace H := Option.bind_eq_some_iff.mp H
         obtain ⟨t255, A520, H⟩ := H
         replace H : (some t255) = some r := H
         have A52 := Aside0.mk A520
         clear A520
         obtain rfl := Option.some.inj H
         have hcz53_0 : wc.cell? ⟨gb244, 0, none⟩ = some (.int .i64 a0_0) := (blk_cell BK244.out 0).trans rfl
         have hcz53_1 : wc.cell? ⟨gb244, 1, none⟩ = some (.slice A0_1 l0_1.length c0_1) := (blk_cell BK244.out 1).trans rfl
         have hcz53_2 : wc.cell? ⟨gb244, 2, none⟩ = some (.slice A0_2 l0_2.length c0_2) := (blk_cell BK244.out 2).trans rfl
         have hfz53_0 := blk_frozen BK244.out 0
         have hfz53_1 := blk_frozen BK244.out 1
         have hfz53_2 := blk_frozen BK244.out 2
         go_wp2_with (first | (go_at_call 18; (with_reducible refine (region_Is.calls kj3 a0_0 _ _ l0_1 _ _ l0_2 (Go.bits .or .u64 a1 a2) true _ ?side1 ?side2 ?side3 ?side4 A27.out).mono ?_); (case side1 => repeat (first | exact (Kd.C_below HR0_1.out HB.out) | (with_reducible refine Kd.C_alloc ?_ _) | (with_reducible refine Kd.C_drewN ?_ _) | (with_reducible refine Kd.C_drew ?_))); (case side2 => exact HC0_1.out); (case side3 => repeat (first | exact (Kd.C_below HR0_2.out HB.out) | (with_reducible refine Kd.C_alloc ?_ _) | (with_reducible refine Kd.C_drewN ?_ _) | (with_reducible refine Kd.C_drew ?_))); (case side4 => exact HC0_2.out); rintro e w54 ⟨rfl, hb⟩; have n0_ := Aside0.mk (blk_below (g := gb244) (o := .cells #[.int .i64 a0_0, .slice A0_1 l0_1.length c0_1, .slice A0_2 l0_2.length c0_2] 25 (0, 0)) (by (with_reducible repeat (first | refine blk_drewN ?_ _ | refine blk_drew ?_ | refine blk_alloc ?_ _)); exact BK244.out) hb); have n1_ := Aside0.mk (below_step (by repeat (first | (with_reducible first | exact HB.out | apply below_alloc | apply pw_below_drewN | apply below_drew1 | refine below_set ?_ GE244.out) | exact HB.out)) hb); clear BK244; clear HB; have BK244 := n0_; have HB := n1_; clear n0_ n1_; (try clear hb); (try clear hb2); (try clear hk); (try clear hi); have hcz55_0 : w54.cell? ⟨gb244, 0, none⟩ = some (.int .i64 a0_0) := (blk_cell BK244.out 0).trans rfl; have hcz55_1 : w54.cell? ⟨gb244, 1, none⟩ = some (.slice A0_1 l0_1.length c0_1) := (blk_cell BK244.out 1).trans rfl; have hcz55_2 : w54.cell? ⟨gb244, 2, none⟩ = some (.slice A0_2 l0_2.length c0_2) := (blk_cell BK244.out 2).trans rfl; have hfz55_0 := blk_frozen BK244.out 0; have hfz55_1 := blk_frozen BK244.out 1; have hfz55_2 := blk_frozen BK244.out 2) | (go_at_call 18; (with_reducible refine (region_Is.calls kj3 a0_0 _ _ l0_1 _ _ l0_2 (IntKind.u64.wrap (a1 - a2)) true _ ?side1 ?side2 ?side3 ?side4 A50.out).mono ?_); (case side1 => repeat (first | exact (Kd.C_below HR0_1.out HB.out) | (with_reducible refine Kd.C_alloc ?_ _) | (with_reducible refine Kd.C_drewN ?_ _) | (with_reducible refine Kd.C_drew ?_))); (case side2 => exact HC0_1.out); (case side3 => repeat (first | exact (Kd.C_below HR0_2.out HB.out) | (with_reducible refine Kd.C_alloc ?_ _) | (with_reducible refine Kd.C_drewN ?_ _) | (with_reducible refine Kd.C_drew ?_))); (case side4 => exact HC0_2.out); rintro e w56 ⟨rfl, hb⟩; have n0_ := Aside0.mk (blk_below (g := gb244) (o := .cells #[.int .i64 a0_0, .slice A0_1 l0_1.length c0_1, .slice A0_2 l0_2.length c0_2] 25 (0, 0)) (by (with_reducible repeat (first | refine blk_drewN ?_ _ | refine blk_drew ?_ | refine blk_alloc ?_ _)); exact BK244.out) hb); have n1_ := Aside0.mk (below_step (by repeat (first | (with_reducible first | exact HB.out | apply below_alloc | apply pw_below_drewN | apply below_drew1 | refine below_set ?_ GE244.out) | exact HB.out)) hb); clear BK244; clear HB; have BK244 := n0_; have HB := n1_; clear n0_ n1_; (try clear hb); (try clear hb2); (try clear hk); (try clear hi)) | ((with_reducible refine gate_callee (f := 11) rfl ?_); refine goesL_ (some 64) rfl rfl Try.func11 (by kernel_rfl) rfl #[] rfl (by (try simp only [List.map_toArray, List.map_cons, List.map_nil]); first | done | rfl | (simp only [List.length_drop, List.length_take]; rfl)) ?_; (with_reducible refine (petrinetlaw46_exampleHolds.calls kj3  t255 _ A52.out (by first | exact hrT_ | exact ⟨rfl⟩)).mono ?_); rintro e w57 ⟨rfl, hb⟩; refine ⟨_, rfl, ?_⟩; have n0_ := Aside0.mk (blk_below (g := gb244) (o := .cells #[.int .i64 a0_0, .slice A0_1 l0_1.length c0_1, .slice A0_2 l0_2.length c0_2] 25 (0, 0)) (by (with_reducible repeat (first | refine blk_drewN ?_ _ | refine blk_drew ?_ | refine blk_alloc ?_ _)); exact BK244.out) hb); have n1_ := Aside0.mk (below_step (by repeat (first | (with_reducible first | exact HB.out | apply below_alloc | apply pw_below_drewN | apply below_drew1 | refine below_set ?_ GE244.out) | exact HB.out)) hb); clear BK244; clear HB; have BK244 := n0_; have HB := n1_; clear n0_ n1_; (try clear hb); (try clear hb2); (try clear hk); (try clear hi)))
         go_ret
         exact ⟨by first | rfl | (simp [errW_none, errW_some] <;> rfl) | (simp [*, errW_none, errW_some] <;> rfl), by repeat (first | (with_reducible first | exact HB.out | apply below_alloc | apply pw_below_drewN | apply below_drew1 | refine below_set ?_ GE244.out) | exact HB.out)⟩
        ·
         replace c51 := Bool.eq_false_iff.mpr c51
         subst c51
         have H1 : (some false) = some r := by rw [if_neg (show ¬ (false = true) by decide)] at H; exact H
         clear H
         have H := H1
         clear H1
         exact absurd ((Option.some.inj H).trans hrT_.out) Bool.false_ne_true
       ·
        rw [if_neg c49] at H
        have c49b0 : ((Go.bits .and .u64 a1 a2) == a2) = false := beq_eq_false_iff_ne.mpr c49
        have c49b1 : ((Go.bits .and .u64 a1 a2) != a2) = true := bne_iff_ne.mpr c49
        replace H := Option.bind_eq_some_iff.mp H
        obtain ⟨t256, A580, H⟩ := H
        replace H : (some t256) = some r := H
        have A58 := Aside0.mk A580
        clear A580
        obtain rfl := Option.some.inj H
        have hcz59_0 : wc.cell? ⟨gb244, 0, none⟩ = some (.int .i64 a0_0) := (blk_cell BK244.out 0).trans rfl
        have hcz59_1 : wc.cell? ⟨gb244, 1, none⟩ = some (.slice A0_1 l0_1.length c0_1) := (blk_cell BK244.out 1).trans rfl
        have hcz59_2 : wc.cell? ⟨gb244, 2, none⟩ = some (.slice A0_2 l0_2.length c0_2) := (blk_cell BK244.out 2).trans rfl
        have hfz59_0 := blk_frozen BK244.out 0
        have hfz59_1 := blk_frozen BK244.out 1
        have hfz59_2 := blk_frozen BK244.out 2
        go_wp2_with (first | (go_at_call 18; (with_reducible refine (region_Is.calls kj3 a0_0 _ _ l0_1 _ _ l0_2 (Go.bits .or .u64 a1 a2) true _ ?side1 ?side2 ?side3 ?side4 A27.out).mono ?_); (case side1 => repeat (first | exact (Kd.C_below HR0_1.out HB.out) | (with_reducible refine Kd.C_alloc ?_ _) | (with_reducible refine Kd.C_drewN ?_ _) | (with_reducible refine Kd.C_drew ?_))); (case side2 => exact HC0_1.out); (case side3 => repeat (first | exact (Kd.C_below HR0_2.out HB.out) | (with_reducible refine Kd.C_alloc ?_ _) | (with_reducible refine Kd.C_drewN ?_ _) | (with_reducible refine Kd.C_drew ?_))); (case side4 => exact HC0_2.out); rintro e w60 ⟨rfl, hb⟩; have n0_ := Aside0.mk (blk_below (g := gb244) (o := .cells #[.int .i64 a0_0, .slice A0_1 l0_1.length c0_1, .slice A0_2 l0_2.length c0_2] 25 (0, 0)) (by (with_reducible repeat (first | refine blk_drewN ?_ _ | refine blk_drew ?_ | refine blk_alloc ?_ _)); exact BK244.out) hb); have n1_ := Aside0.mk (below_step (by repeat (first | (with_reducible first | exact HB.out | apply below_alloc | apply pw_below_drewN | apply below_drew1 | refine below_set ?_ GE244.out) | exact HB.out)) hb); clear BK244; clear HB; have BK244 := n0_; have HB := n1_; clear n0_ n1_; (try clear hb); (try clear hb2); (try clear hk); (try clear hi)) | ((with_reducible refine gate_callee (f := 11) rfl ?_); refine goesL_ (some 64) rfl rfl Try.func11 (by kernel_rfl) rfl #[] rfl (by (try simp only [List.map_toArray, List.map_cons, List.map_nil]); first | done | rfl | (simp only [List.length_drop, List.length_take]; rfl)) ?_; (with_reducible refine (petrinetlaw46_exampleHolds.calls kj3  t256 _ A58.out (by first | exact hrT_ | exact ⟨rfl⟩)).mono ?_); rintro e w61 ⟨rfl, hb⟩; refine ⟨_, rfl, ?_⟩; have n0_ := Aside0.mk (blk_below (g := gb244) (o := .cells #[.int .i64 a0_0, .slice A0_1 l0_1.length c0_1, .slice A0_2 l0_2.length c0_2] 25 (0, 0)) (by (with_reducible repeat (first | refine blk_drewN ?_ _ | refine blk_drew ?_ | refine blk_alloc ?_ _)); exact BK244.out) hb); have n1_ := Aside0.mk (below_step (by repeat (first | (with_reducible first | exact HB.out | apply below_alloc | apply pw_below_drewN | apply below_drew1 | refine below_set ?_ GE244.out) | exact HB.out)) hb); clear BK244; clear HB; have BK244 := n0_; have HB := n1_; clear n0_ n1_; (try clear hb); (try clear hb2); (try clear hk); (try clear hi)))
        go_ret
        exact ⟨by first | rfl | (simp [errW_none, errW_some] <;> rfl) | (simp [*, errW_none, errW_some] <;> rfl), by repeat (first | (with_reducible first | exact HB.out | apply below_alloc | apply pw_below_drewN | apply below_drew1 | refine below_set ?_ GE244.out) | exact HB.out)⟩
     ·
      replace c28 := Bool.eq_false_iff.mpr c28
      subst c28
      have H1 : (some false) = some r := by rw [if_neg (show ¬ (false = true) by decide)] at H; exact H
      clear H
      have H := H1
      clear H1
      exact absurd ((Option.some.inj H).trans hrT_.out) Bool.false_ne_true
    ·
     rw [if_neg c26] at H
     have c26b0 : ((Go.bits .and .u64 a1 a2) == 0) = false := beq_eq_false_iff_ne.mpr c26
     have c26b1 : ((Go.bits .and .u64 a1 a2) != 0) = true := bne_iff_ne.mpr c26
     by_cases c62 : (Go.bits .and .u64 a1 a2) = a1
     ·
      rw [if_pos c62] at H
      have c62b0 : ((Go.bits .and .u64 a1 a2) == a1) = true := beq_iff_eq.mpr c62
      have c62b1 : ((Go.bits .and .u64 a1 a2) != a1) = false := bne_eq_false_iff_eq.mpr c62
      clear c62
      replace H := Option.bind_eq_some_iff.mp H
      obtain ⟨t257, A630, H⟩ := H
      replace H : (if t257 = true then (if (Go.bits .and .u64 a1 a2) = a2 then ((region_Is.f kj3 a0_0 l0_1 l0_2 (IntKind.u64.wrap (a1 - a2))).bind fun t258 => (if t258 = true then ((petrinetlaw46_exampleHolds.f kj3).bind fun t259 => (some t259)) else (some false))) else ((petrinetlaw46_exampleHolds.f kj3).bind fun t260 => (some t260))) else (some false)) = some r := H
      have A63 := Aside0.mk A630
      clear A630
      by_cases c64 : t257 = true
      ·
       subst c64
       have H1 : (if (Go.bits .and .u64 a1 a2) = a2 then ((region_Is.f kj3 a0_0 l0_1 l0_2 (IntKind.u64.wrap (a1 - a2))).bind fun t258 => (if t258 = true then ((petrinetlaw46_exampleHolds.f kj3).bind fun t259 => (some t259)) else (some false))) else ((petrinetlaw46_exampleHolds.f kj3).bind fun t260 => (some t260))) = some r := by rw [if_pos rfl] at H; exact H
       clear H
       have H := H1
       clear H1
       by_cases c65 : (Go.bits .and .u64 a1 a2) = a2
       ·
        rw [if_pos c65] at H
        have c65b0 : ((Go.bits .and .u64 a1 a2) == a2) = true := beq_iff_eq.mpr c65
        have c65b1 : ((Go.bits .and .u64 a1 a2) != a2) = false := bne_eq_false_iff_eq.mpr c65
        clear c65
        replace H := Option.bind_eq_some_iff.mp H
        obtain ⟨t258, A660, H⟩ := H
        replace H : (if t258 = true then ((petrinetlaw46_exampleHolds.f kj3).bind fun t259 => (some t259)) else (some false)) = some r := H
        have A66 := Aside0.mk A660
        clear A660
        by_cases c67 : t258 = true
        ·
         subst c67
         have H1 : ((petrinetlaw46_exampleHolds.f kj3).bind fun t259 => (some t259)) = some r := by rw [if_pos rfl] at H; exact H
         clear H
         have H := H1
         clear H1
         replace H := Option.bind_eq_some_iff.mp H
         obtain ⟨t259, A680, H⟩ := H
         replace H : (some t259) = some r := H
         have A68 := Aside0.mk A680
         clear A680
         obtain rfl := Option.some.inj H
         have hcz69_0 : wc.cell? ⟨gb244, 0, none⟩ = some (.int .i64 a0_0) := (blk_cell BK244.out 0).trans rfl
         have hcz69_1 : wc.cell? ⟨gb244, 1, none⟩ = some (.slice A0_1 l0_1.length c0_1) := (blk_cell BK244.out 1).trans rfl
         have hcz69_2 : wc.cell? ⟨gb244, 2, none⟩ = some (.slice A0_2 l0_2.length c0_2) := (blk_cell BK244.out 2).trans rfl
         have hfz69_0 := blk_frozen BK244.out 0
         have hfz69_1 := blk_frozen BK244.out 1
         have hfz69_2 := blk_frozen BK244.out 2
         go_wp2_with (first | (go_at_call 18; (with_reducible refine (region_Is.calls kj3 a0_0 _ _ l0_1 _ _ l0_2 (IntKind.u64.wrap (a2 - a1)) true _ ?side1 ?side2 ?side3 ?side4 A63.out).mono ?_); (case side1 => repeat (first | exact (Kd.C_below HR0_1.out HB.out) | (with_reducible refine Kd.C_alloc ?_ _) | (with_reducible refine Kd.C_drewN ?_ _) | (with_reducible refine Kd.C_drew ?_))); (case side2 => exact HC0_1.out); (case side3 => repeat (first | exact (Kd.C_below HR0_2.out HB.out) | (with_reducible refine Kd.C_alloc ?_ _) | (with_reducible refine Kd.C_drewN ?_ _) | (with_reducible refine Kd.C_drew ?_))); (case side4 => exact HC0_2.out); rintro e w70 ⟨rfl, hb⟩; have n0_ := Aside0.mk (blk_below (g := gb244) (o := .cells #[.int .i64 a0_0, .slice A0_1 l0_1.length c0_1, .slice A0_2 l0_2.length c0_2] 25 (0, 0)) (by (with_reducible repeat (first | refine blk_drewN ?_ _ | refine blk_drew ?_ | refine blk_alloc ?_ _)); exact BK244.out) hb); have n1_ := Aside0.mk (below_step (by repeat (first | (with_reducible first | exact HB.out | apply below_alloc | apply pw_below_drewN | apply below_drew1 | refine below_set ?_ GE244.out) | exact HB.out)) hb); clear BK244; clear HB; have BK244 := n0_; have HB := n1_; clear n0_ n1_; (try clear hb); (try clear hb2); (try clear hk); (try clear hi); have hcz71_0 : w70.cell? ⟨gb244, 0, none⟩ = some (.int .i64 a0_0) := (blk_cell BK244.out 0).trans rfl; have hcz71_1 : w70.cell? ⟨gb244, 1, none⟩ = some (.slice A0_1 l0_1.length c0_1) := (blk_cell BK244.out 1).trans rfl; have hcz71_2 : w70.cell? ⟨gb244, 2, none⟩ = some (.slice A0_2 l0_2.length c0_2) := (blk_cell BK244.out 2).trans rfl; have hfz71_0 := blk_frozen BK244.out 0; have hfz71_1 := blk_frozen BK244.out 1; have hfz71_2 := blk_frozen BK244.out 2) | (go_at_call 18; (with_reducible refine (region_Is.calls kj3 a0_0 _ _ l0_1 _ _ l0_2 (IntKind.u64.wrap (a1 - a2)) true _ ?side1 ?side2 ?side3 ?side4 A66.out).mono ?_); (case side1 => repeat (first | exact (Kd.C_below HR0_1.out HB.out) | (with_reducible refine Kd.C_alloc ?_ _) | (with_reducible refine Kd.C_drewN ?_ _) | (with_reducible refine Kd.C_drew ?_))); (case side2 => exact HC0_1.out); (case side3 => repeat (first | exact (Kd.C_below HR0_2.out HB.out) | (with_reducible refine Kd.C_alloc ?_ _) | (with_reducible refine Kd.C_drewN ?_ _) | (with_reducible refine Kd.C_drew ?_))); (case side4 => exact HC0_2.out); rintro e w72 ⟨rfl, hb⟩; have n0_ := Aside0.mk (blk_below (g := gb244) (o := .cells #[.int .i64 a0_0, .slice A0_1 l0_1.length c0_1, .slice A0_2 l0_2.length c0_2] 25 (0, 0)) (by (with_reducible repeat (first | refine blk_drewN ?_ _ | refine blk_drew ?_ | refine blk_alloc ?_ _)); exact BK244.out) hb); have n1_ := Aside0.mk (below_step (by repeat (first | (with_reducible first | exact HB.out | apply below_alloc | apply pw_below_drewN | apply below_drew1 | refine below_set ?_ GE244.out) | exact HB.out)) hb); clear BK244; clear HB; have BK244 := n0_; have HB := n1_; clear n0_ n1_; (try clear hb); (try clear hb2); (try clear hk); (try clear hi)) | ((with_reducible refine gate_callee (f := 11) rfl ?_); refine goesL_ (some 64) rfl rfl Try.func11 (by kernel_rfl) rfl #[] rfl (by (try simp only [List.map_toArray, List.map_cons, List.map_nil]); first | done | rfl | (simp only [List.length_drop, List.length_take]; rfl)) ?_; (with_reducible refine (petrinetlaw46_exampleHolds.calls kj3  t259 _ A68.out (by first | exact hrT_ | exact ⟨rfl⟩)).mono ?_); rintro e w73 ⟨rfl, hb⟩; refine ⟨_, rfl, ?_⟩; have n0_ := Aside0.mk (blk_below (g := gb244) (o := .cells #[.int .i64 a0_0, .slice A0_1 l0_1.length c0_1, .slice A0_2 l0_2.length c0_2] 25 (0, 0)) (by (with_reducible repeat (first | refine blk_drewN ?_ _ | refine blk_drew ?_ | refine blk_alloc ?_ _)); exact BK244.out) hb); have n1_ := Aside0.mk (below_step (by repeat (first | (with_reducible first | exact HB.out | apply below_alloc | apply pw_below_drewN | apply below_drew1 | refine below_set ?_ GE244.out) | exact HB.out)) hb); clear BK244; clear HB; have BK244 := n0_; have HB := n1_; clear n0_ n1_; (try clear hb); (try clear hb2); (try clear hk); (try clear hi)))
         go_ret
         exact ⟨by first | rfl | (simp [errW_none, errW_some] <;> rfl) | (simp [*, errW_none, errW_some] <;> rfl), by repeat (first | (with_reducible first | exact HB.out | apply below_alloc | apply pw_below_drewN | apply below_drew1 | refine below_set ?_ GE244.out) | exact HB.out)⟩
        ·
         replace c67 := Bool.eq_false_iff.mpr c67
         subst c67
         have H1 : (some false) = some r := by rw [if_neg (show ¬ (false = true) by decide)] at H; exact H
         clear H
         have H := H1
         clear H1
         exact absurd ((Option.some.inj H).trans hrT_.out) Bool.false_ne_true
       ·
        rw [if_neg c65] at H
        have c65b0 : ((Go.bits .and .u64 a1 a2) == a2) = false := beq_eq_false_iff_ne.mpr c65
        have c65b1 : ((Go.bits .and .u64 a1 a2) != a2) = true := bne_iff_ne.mpr c65
        replace H := Option.bind_eq_some_iff.mp H
        obtain ⟨t260, A740, H⟩ := H
        replace H : (some t260) = some r := H
        have A74 := Aside0.mk A740
        clear A740
        obtain rfl := Option.some.inj H
        have hcz75_0 : wc.cell? ⟨gb244, 0, none⟩ = some (.int .i64 a0_0) := (blk_cell BK244.out 0).trans rfl
        have hcz75_1 : wc.cell? ⟨gb244, 1, none⟩ = some (.slice A0_1 l0_1.length c0_1) := (blk_cell BK244.out 1).trans rfl
        have hcz75_2 : wc.cell? ⟨gb244, 2, none⟩ = some (.slice A0_2 l0_2.length c0_2) := (blk_cell BK244.out 2).trans rfl
        have hfz75_0 := blk_frozen BK244.out 0
        have hfz75_1 := blk_frozen BK244.out 1
        have hfz75_2 := blk_frozen BK244.out 2
        go_wp2_with (first | (go_at_call 18; (with_reducible refine (region_Is.calls kj3 a0_0 _ _ l0_1 _ _ l0_2 (IntKind.u64.wrap (a2 - a1)) true _ ?side1 ?side2 ?side3 ?side4 A63.out).mono ?_); (case side1 => repeat (first | exact (Kd.C_below HR0_1.out HB.out) | (with_reducible refine Kd.C_alloc ?_ _) | (with_reducible refine Kd.C_drewN ?_ _) | (with_reducible refine Kd.C_drew ?_))); (case side2 => exact HC0_1.out); (case side3 => repeat (first | exact (Kd.C_below HR0_2.out HB.out) | (with_reducible refine Kd.C_alloc ?_ _) | (with_reducible refine Kd.C_drewN ?_ _) | (with_reducible refine Kd.C_drew ?_))); (case side4 => exact HC0_2.out); rintro e w76 ⟨rfl, hb⟩; have n0_ := Aside0.mk (blk_below (g := gb244) (o := .cells #[.int .i64 a0_0, .slice A0_1 l0_1.length c0_1, .slice A0_2 l0_2.length c0_2] 25 (0, 0)) (by (with_reducible repeat (first | refine blk_drewN ?_ _ | refine blk_drew ?_ | refine blk_alloc ?_ _)); exact BK244.out) hb); have n1_ := Aside0.mk (below_step (by repeat (first | (with_reducible first | exact HB.out | apply below_alloc | apply pw_below_drewN | apply below_drew1 | refine below_set ?_ GE244.out) | exact HB.out)) hb); clear BK244; clear HB; have BK244 := n0_; have HB := n1_; clear n0_ n1_; (try clear hb); (try clear hb2); (try clear hk); (try clear hi)) | ((with_reducible refine gate_callee (f := 11) rfl ?_); refine goesL_ (some 64) rfl rfl Try.func11 (by kernel_rfl) rfl #[] rfl (by (try simp only [List.map_toArray, List.map_cons, List.map_nil]); first | done | rfl | (simp only [List.length_drop, List.length_take]; rfl)) ?_; (with_reducible refine (petrinetlaw46_exampleHolds.calls kj3  t260 _ A74.out (by first | exact hrT_ | exact ⟨rfl⟩)).mono ?_); rintro e w77 ⟨rfl, hb⟩; refine ⟨_, rfl, ?_⟩; have n0_ := Aside0.mk (blk_below (g := gb244) (o := .cells #[.int .i64 a0_0, .slice A0_1 l0_1.length c0_1, .slice A0_2 l0_2.length c0_2] 25 (0, 0)) (by (with_reducible repeat (first | refine blk_drewN ?_ _ | refine blk_drew ?_ | refine blk_alloc ?_ _)); exact BK244.out) hb); have n1_ := Aside0.mk (below_step (by repeat (first | (with_reducible first | exact HB.out | apply below_alloc | apply pw_below_drewN | apply below_drew1 | refine below_set ?_ GE244.out) | exact HB.out)) hb); clear BK244; clear HB; have BK244 := n0_; have HB := n1_; clear n0_ n1_; (try clear hb); (try clear hb2); (try clear hk); (try clear hi)))
        go_ret
        exact ⟨by first | rfl | (simp [errW_none, errW_some] <;> rfl) | (simp [*, errW_none, errW_some] <;> rfl), by repeat (first | (with_reducible first | exact HB.out | apply below_alloc | apply pw_below_drewN | apply below_drew1 | refine below_set ?_ GE244.out) | exact HB.out)⟩
      ·
       replace c64 := Bool.eq_false_iff.mpr c64
       subst c64
       have H1 : (some false) = some r := by rw [if_neg (show ¬ (false = true) by decide)] at H; exact H
       clear H
       have H := H1
       clear H1
       exact absurd ((Option.some.inj H).trans hrT_.out) Bool.false_ne_true
     ·
      rw [if_neg c62] at H
      have c62b0 : ((Go.bits .and .u64 a1 a2) == a1) = false := beq_eq_false_iff_ne.mpr c62
      have c62b1 : ((Go.bits .and .u64 a1 a2) != a1) = true := bne_iff_ne.mpr c62
      by_cases c78 : (Go.bits .and .u64 a1 a2) = a2
      ·
       rw [if_pos c78] at H
       have c78b0 : ((Go.bits .and .u64 a1 a2) == a2) = true := beq_iff_eq.mpr c78
       have c78b1 : ((Go.bits .and .u64 a1 a2) != a2) = false := bne_eq_false_iff_eq.mpr c78
       clear c78
       replace H := Option.bind_eq_some_iff.mp H
       obtain ⟨t261, A790, H⟩ := H
       replace H : (if t261 = true then ((petrinetlaw46_exampleHolds.f kj3).bind fun t262 => (some t262)) else (some false)) = some r := H
       have A79 := Aside0.mk A790
       clear A790
       by_cases c80 : t261 = true
       ·
        subst c80
        have H1 : ((petrinetlaw46_exampleHolds.f kj3).bind fun t262 => (some t262)) = some r := by rw [if_pos rfl] at H; exact H
        clear H
        have H := H1
        clear H1
        replace H := Option.bind_eq_some_iff.mp H
        obtain ⟨t262, A810, H⟩ := H
        replace H : (some t262) = some r := H
        have A81 := Aside0.mk A810
        clear A810
        obtain rfl := Option.some.inj H
        have hcz82_0 : wc.cell? ⟨gb244, 0, none⟩ = some (.int .i64 a0_0) := (blk_cell BK244.out 0).trans rfl
        have hcz82_1 : wc.cell? ⟨gb244, 1, none⟩ = some (.slice A0_1 l0_1.length c0_1) := (blk_cell BK244.out 1).trans rfl
        have hcz82_2 : wc.cell? ⟨gb244, 2, none⟩ = some (.slice A0_2 l0_2.length c0_2) := (blk_cell BK244.out 2).trans rfl
        have hfz82_0 := blk_frozen BK244.out 0
        have hfz82_1 := blk_frozen BK244.out 1
        have hfz82_2 := blk_frozen BK244.out 2
        go_wp2_with (first | (go_at_call 18; (with_reducible refine (region_Is.calls kj3 a0_0 _ _ l0_1 _ _ l0_2 (IntKind.u64.wrap (a1 - a2)) true _ ?side1 ?side2 ?side3 ?side4 A79.out).mono ?_); (case side1 => repeat (first | exact (Kd.C_below HR0_1.out HB.out) | (with_reducible refine Kd.C_alloc ?_ _) | (with_reducible refine Kd.C_drewN ?_ _) | (with_reducible refine Kd.C_drew ?_))); (case side2 => exact HC0_1.out); (case side3 => repeat (first | exact (Kd.C_below HR0_2.out HB.out) | (with_reducible refine Kd.C_alloc ?_ _) | (with_reducible refine Kd.C_drewN ?_ _) | (with_reducible refine Kd.C_drew ?_))); (case side4 => exact HC0_2.out); rintro e w83 ⟨rfl, hb⟩; have n0_ := Aside0.mk (blk_below (g := gb244) (o := .cells #[.int .i64 a0_0, .slice A0_1 l0_1.length c0_1, .slice A0_2 l0_2.length c0_2] 25 (0, 0)) (by (with_reducible repeat (first | refine blk_drewN ?_ _ | refine blk_drew ?_ | refine blk_alloc ?_ _)); exact BK244.out) hb); have n1_ := Aside0.mk (below_step (by repeat (first | (with_reducible first | exact HB.out | apply below_alloc | apply pw_below_drewN | apply below_drew1 | refine below_set ?_ GE244.out) | exact HB.out)) hb); clear BK244; clear HB; have BK244 := n0_; have HB := n1_; clear n0_ n1_; (try clear hb); (try clear hb2); (try clear hk); (try clear hi)) | ((with_reducible refine gate_callee (f := 11) rfl ?_); refine goesL_ (some 64) rfl rfl Try.func11 (by kernel_rfl) rfl #[] rfl (by (try simp only [List.map_toArray, List.map_cons, List.map_nil]); first | done | rfl | (simp only [List.length_drop, List.length_take]; rfl)) ?_; (with_reducible refine (petrinetlaw46_exampleHolds.calls kj3  t262 _ A81.out (by first | exact hrT_ | exact ⟨rfl⟩)).mono ?_); rintro e w84 ⟨rfl, hb⟩; refine ⟨_, rfl, ?_⟩; have n0_ := Aside0.mk (blk_below (g := gb244) (o := .cells #[.int .i64 a0_0, .slice A0_1 l0_1.length c0_1, .slice A0_2 l0_2.length c0_2] 25 (0, 0)) (by (with_reducible repeat (first | refine blk_drewN ?_ _ | refine blk_drew ?_ | refine blk_alloc ?_ _)); exact BK244.out) hb); have n1_ := Aside0.mk (below_step (by repeat (first | (with_reducible first | exact HB.out | apply below_alloc | apply pw_below_drewN | apply below_drew1 | refine below_set ?_ GE244.out) | exact HB.out)) hb); clear BK244; clear HB; have BK244 := n0_; have HB := n1_; clear n0_ n1_; (try clear hb); (try clear hb2); (try clear hk); (try clear hi)))
        go_ret
        exact ⟨by first | rfl | (simp [errW_none, errW_some] <;> rfl) | (simp [*, errW_none, errW_some] <;> rfl), by repeat (first | (with_reducible first | exact HB.out | apply below_alloc | apply pw_below_drewN | apply below_drew1 | refine below_set ?_ GE244.out) | exact HB.out)⟩
       ·
        replace c80 := Bool.eq_false_iff.mpr c80
        subst c80
        have H1 : (some false) = some r := by rw [if_neg (show ¬ (false = true) by decide)] at H; exact H
        clear H
        have H := H1
        clear H1
        exact absurd ((Option.some.inj H).trans hrT_.out) Bool.false_ne_true
      ·
       rw [if_neg c78] at H
       have c78b0 : ((Go.bits .and .u64 a1 a2) == a2) = false := beq_eq_false_iff_ne.mpr c78
       have c78b1 : ((Go.bits .and .u64 a1 a2) != a2) = true := bne_iff_ne.mpr c78
       replace H := Option.bind_eq_some_iff.mp H
       obtain ⟨t263, A850, H⟩ := H
       replace H : (some t263) = some r := H
       have A85 := Aside0.mk A850
       clear A850
       obtain rfl := Option.some.inj H
       go_wp2_with (first | ((with_reducible refine gate_callee (f := 11) rfl ?_); refine goesL_ (some 64) rfl rfl Try.func11 (by kernel_rfl) rfl #[] rfl (by (try simp only [List.map_toArray, List.map_cons, List.map_nil]); first | done | rfl | (simp only [List.length_drop, List.length_take]; rfl)) ?_; (with_reducible refine (petrinetlaw46_exampleHolds.calls kj3  t263 _ A85.out (by first | exact hrT_ | exact ⟨rfl⟩)).mono ?_); rintro e w86 ⟨rfl, hb⟩; refine ⟨_, rfl, ?_⟩; have n0_ := Aside0.mk (blk_below (g := gb244) (o := .cells #[.int .i64 a0_0, .slice A0_1 l0_1.length c0_1, .slice A0_2 l0_2.length c0_2] 25 (0, 0)) (by (with_reducible repeat (first | refine blk_drewN ?_ _ | refine blk_drew ?_ | refine blk_alloc ?_ _)); exact BK244.out) hb); have n1_ := Aside0.mk (below_step (by repeat (first | (with_reducible first | exact HB.out | apply below_alloc | apply pw_below_drewN | apply below_drew1 | refine below_set ?_ GE244.out) | exact HB.out)) hb); clear BK244; clear HB; have BK244 := n0_; have HB := n1_; clear n0_ n1_; (try clear hb); (try clear hb2); (try clear hk); (try clear hi)))
       go_ret
       exact ⟨by first | rfl | (simp [errW_none, errW_some] <;> rfl) | (simp [*, errW_none, errW_some] <;> rfl), by repeat (first | (with_reducible first | exact HB.out | apply below_alloc | apply pw_below_drewN | apply below_drew1 | refine below_set ?_ GE244.out) | exact HB.out)⟩


/-! ### petrinetref46_Is: function 19 -/
def petrinetref46_Is.f (k : Nat) (a0_0 : Int) (l0_1 : List ByteArray) (l0_2 : List (S45)) (a1 : Int) : Option (Bool) := (petrinetref46_good.f k a0_0 l0_1 l0_2 a1).bind fun t265 => (if t265 = true then ((petrinetref46_region.f k a0_0 l0_1 l0_2 a1).bind fun t266 => (some t266)) else (some false))
theorem petrinetref46_Is.mono : ∀ a0 a1 a2 a3 k, LeO (petrinetref46_Is.f k a0 a1 a2 a3) (petrinetref46_Is.f (k + 1) a0 a1 a2 a3) := by
 intro a0 a1 a2 a3 k
 unfold petrinetref46_Is.f
 repeat' first
   | (with_reducible exact petrinetref46_good.mono _ _ _ _ _)
   | (with_reducible exact petrinetref46_region.mono _ _ _ _ _)
   | (with_reducible exact LeO.refl _)
   | (with_reducible exact LeO.none _)
   | (with_reducible refine LeO.ite ?_ ?_)
   | (with_reducible refine LeO.bind ?_ (fun _ => ?_))
   | exact petrinetref46_good.mono _ _ _ _ _
   | exact petrinetref46_region.mono _ _ _ _ _
   | exact LeO.none _
   | refine LeO.ite ?_ ?_
   | refine LeO.bind ?_ (fun _ => ?_)

/-! ### petrinetref06_Ints: function 20 -/
def petrinetref06_Ints.l0 : Nat → List Int → List Int → Int → Option (Bool)
 | 0, _, _, _ => none
 | k + 1, x0, x1, x5 => if x5 < (x0.length : Int) then (if 0 ≤ x5 then (if x5 < (x1.length : Int) then (if (rd x0 x5) = (rd x1 x5) then (petrinetref06_Ints.l0 k x0 x1 (wrap64 (x5 + 1))) else (some false)) else (none)) else (none)) else (some true)
def petrinetref06_Ints.f (k : Nat) (l0 : List Int) (l1 : List Int) : Option (Bool) := if (l0.length : Int) = (l1.length : Int) then (petrinetref06_Ints.l0 k l0 l1 0) else (some false)
theorem petrinetref06_Ints.mono_l : ∀ k, (∀ y0 y1 y2, LeO (petrinetref06_Ints.l0 k y0 y1 y2) (petrinetref06_Ints.l0 (k + 1) y0 y1 y2))
 | 0 => fun _ _ _ r h => by simp [petrinetref06_Ints.l0] at h
 | k + 1 => by
  have ih0 := petrinetref06_Ints.mono_l k
  ·
   intro y0 y1 y2
   unfold petrinetref06_Ints.l0
   repeat' first
   | (with_reducible exact ih0 _ _ _)
   | (with_reducible exact LeO.refl _)
   | (with_reducible exact LeO.none _)
   | (with_reducible refine LeO.ite ?_ ?_)
   | (with_reducible refine LeO.bind ?_ (fun _ => ?_))
   | exact ih0 _ _ _
   | exact LeO.none _
   | refine LeO.ite ?_ ?_
   | refine LeO.bind ?_ (fun _ => ?_)
theorem petrinetref06_Ints.mono : ∀ a0 a1 k, LeO (petrinetref06_Ints.f k a0 a1) (petrinetref06_Ints.f (k + 1) a0 a1) := by
 intro a0 a1 k
 have ih0 := petrinetref06_Ints.mono_l k
 unfold petrinetref06_Ints.f
 repeat' first
   | (with_reducible exact ih0 _ _ _)
   | (with_reducible exact LeO.refl _)
   | (with_reducible exact LeO.none _)
   | (with_reducible refine LeO.ite ?_ ?_)
   | (with_reducible refine LeO.bind ?_ (fun _ => ?_))
   | exact ih0 _ _ _
   | exact LeO.none _
   | refine LeO.ite ?_ ?_
   | refine LeO.bind ?_ (fun _ => ?_)

/-! ### region_signed: function 36 -/
def region_signed.l0 : Nat → Int → Int → List Int → Int → Int → Int → List ByteArray → List (S45) → Option (List Int)
 | 0, _, _, _, _, _, _, _, _ => none
 | k + 1, x1, x2, x7, x17, x18, x270000, x270001, x270002 => if x18 < x17 then ((region_sign.f k x270000 x270001 x270002 x1 x18).bind fun bt271 => (if bt271.1 = x2 then (if x7.length < 17592186044416 then (region_signed.l0 k x1 x2 (x7 ++ [x18]) x17 (wrap64 (x18 + 1)) x270000 x270001 x270002) else (none)) else (region_signed.l0 k x1 x2 x7 x17 (wrap64 (x18 + 1)) x270000 x270001 x270002))) else (some x7)
def region_signed.f (k : Nat) (a0_0 : Int) (l0_1 : List ByteArray) (l0_2 : List (S45)) (a1 : Int) (a2 : Int) : Option (List Int) := (region_Is.f k a0_0 l0_1 l0_2 a1).bind fun t270 => (if t270 = true then (region_signed.l0 k a1 a2 ([] : List Int) (l0_1.length : Int) 0 a0_0 l0_1 l0_2) else (some ([] : List Int)))
theorem region_signed.mono_l : ∀ k, (∀ y0 y1 y2 y3 y4 y5 y6 y7, LeO (region_signed.l0 k y0 y1 y2 y3 y4 y5 y6 y7) (region_signed.l0 (k + 1) y0 y1 y2 y3 y4 y5 y6 y7))
 | 0 => fun _ _ _ _ _ _ _ _ r h => by simp [region_signed.l0] at h
 | k + 1 => by
  have ih0 := region_signed.mono_l k
  ·
   intro y0 y1 y2 y3 y4 y5 y6 y7
   unfold region_signed.l0
   repeat' first
   | (with_reducible exact ih0 _ _ _ _ _ _ _ _)
   | (with_reducible exact region_Is.mono _ _ _ _ _)
   | (with_reducible exact region_sign.mono _ _ _ _ _ _)
   | (with_reducible exact LeO.refl _)
   | (with_reducible exact LeO.none _)
   | (with_reducible refine LeO.ite ?_ ?_)
   | (with_reducible refine LeO.bind ?_ (fun _ => ?_))
   | exact ih0 _ _ _ _ _ _ _ _
   | exact region_Is.mono _ _ _ _ _
   | exact region_sign.mono _ _ _ _ _ _
   | exact LeO.none _
   | refine LeO.ite ?_ ?_
   | refine LeO.bind ?_ (fun _ => ?_)
theorem region_signed.mono : ∀ a0 a1 a2 a3 a4 k, LeO (region_signed.f k a0 a1 a2 a3 a4) (region_signed.f (k + 1) a0 a1 a2 a3 a4) := by
 intro a0 a1 a2 a3 a4 k
 have ih0 := region_signed.mono_l k
 unfold region_signed.f
 repeat' first
   | (with_reducible exact ih0 _ _ _ _ _ _ _ _)
   | (with_reducible exact region_Is.mono _ _ _ _ _)
   | (with_reducible exact region_sign.mono _ _ _ _ _ _)
   | (with_reducible exact LeO.refl _)
   | (with_reducible exact LeO.none _)
   | (with_reducible refine LeO.ite ?_ ?_)
   | (with_reducible refine LeO.bind ?_ (fun _ => ?_))
   | exact ih0 _ _ _ _ _ _ _ _
   | exact region_Is.mono _ _ _ _ _
   | exact region_sign.mono _ _ _ _ _ _
   | exact LeO.none _
   | refine LeO.ite ?_ ?_
   | refine LeO.bind ?_ (fun _ => ?_)

/-! ### region_Pre: function 21 -/
def region_Pre.f (k : Nat) (a0_0 : Int) (l0_1 : List ByteArray) (l0_2 : List (S45)) (a1 : Int) : Option (List Int) := (region_signed.f k a0_0 l0_1 l0_2 a1 (-1)).bind fun t277 => (some t277)
theorem region_Pre.mono : ∀ a0 a1 a2 a3 k, LeO (region_Pre.f k a0 a1 a2 a3) (region_Pre.f (k + 1) a0 a1 a2 a3) := by
 intro a0 a1 a2 a3 k
 unfold region_Pre.f
 repeat' first
   | (with_reducible exact region_signed.mono _ _ _ _ _ _)
   | (with_reducible exact LeO.refl _)
   | (with_reducible exact LeO.none _)
   | (with_reducible refine LeO.ite ?_ ?_)
   | (with_reducible refine LeO.bind ?_ (fun _ => ?_))
   | exact region_signed.mono _ _ _ _ _ _
   | exact LeO.none _
   | refine LeO.ite ?_ ?_
   | refine LeO.bind ?_ (fun _ => ?_)



/-! ### petrinetref46_With: function 22 -/
mutual
def petrinetref46_With.l0 : Nat → Int → Int → List Int → Int → Int → List ByteArray → List (S45) → Option (List Int)
 | 0, _, _, _, _, _, _, _ => none
 | k + 1, x1, x2, x7, x8, x281000, x281001, x281002 => if x8 < (x281001.length : Int) then ((petrinetref46_Is.f k x281000 x281001 x281002 x1).bind fun t281 => (petrinetref46_With.j1 k x1 x2 x7 x8 t281 x281000 x281001 x281002)) else (petrinetref46_With.j1 k x1 x2 x7 x8 false x281000 x281001 x281002)
def petrinetref46_With.j1 : Nat → Int → Int → List Int → Int → Bool → Int → List ByteArray → List (S45) → Option (List Int)
 | 0, _, _, _, _, _, _, _, _ => none
 | k + 1, x1, x2, x7, x8, x20, x281000, x281001, x281002 => if x20 = true then ((petrinetref46_sign.f k x281000 x281001 x281002 x1 x8).bind fun bt282 => (if bt282.1 = x2 then (if x7.length < 17592186044416 then (petrinetref46_With.l0 k x1 x2 (x7 ++ [x8]) (wrap64 (x8 + 1)) x281000 x281001 x281002) else (none)) else (petrinetref46_With.l0 k x1 x2 x7 (wrap64 (x8 + 1)) x281000 x281001 x281002))) else (some x7)
end
def petrinetref46_With.f (k : Nat) (a0_0 : Int) (l0_1 : List ByteArray) (l0_2 : List (S45)) (a1 : Int) (a2 : Int) : Option (List Int) := petrinetref46_With.l0 k a1 a2 ([] : List Int) 0 a0_0 l0_1 l0_2
theorem petrinetref46_With.mono_l : ∀ k, (∀ y0 y1 y2 y3 y4 y5 y6, LeO (petrinetref46_With.l0 k y0 y1 y2 y3 y4 y5 y6) (petrinetref46_With.l0 (k + 1) y0 y1 y2 y3 y4 y5 y6)) ∧ (∀ y0 y1 y2 y3 y4 y5 y6 y7, LeO (petrinetref46_With.j1 k y0 y1 y2 y3 y4 y5 y6 y7) (petrinetref46_With.j1 (k + 1) y0 y1 y2 y3 y4 y5 y6 y7))
 | 0 => ⟨fun _ _ _ _ _ _ _ r h => by simp [petrinetref46_With.l0] at h, fun _ _ _ _ _ _ _ _ r h => by simp [petrinetref46_With.j1] at h⟩
 | k + 1 => by
  obtain ⟨ih0, ih1⟩ := petrinetref46_With.mono_l k
  refine ⟨?_, ?_⟩
  ·
   intro y0 y1 y2 y3 y4 y5 y6
   unfold petrinetref46_With.l0
   repeat' first
   | (with_reducible exact ih0 _ _ _ _ _ _ _)
   | (with_reducible exact ih1 _ _ _ _ _ _ _ _)
   | (with_reducible exact petrinetref46_Is.mono _ _ _ _ _)
   | (with_reducible exact petrinetref46_sign.mono _ _ _ _ _ _)
   | (with_reducible exact LeO.refl _)
   | (with_reducible exact LeO.none _)
   | (with_reducible refine LeO.ite ?_ ?_)
   | (with_reducible refine LeO.bind ?_ (fun _ => ?_))
   | exact ih0 _ _ _ _ _ _ _
   | exact ih1 _ _ _ _ _ _ _ _
   | exact petrinetref46_Is.mono _ _ _ _ _
   | exact petrinetref46_sign.mono _ _ _ _ _ _
   | exact LeO.none _
   | refine LeO.ite ?_ ?_
   | refine LeO.bind ?_ (fun _ => ?_)
  ·
   intro y0 y1 y2 y3 y4 y5 y6 y7
   unfold petrinetref46_With.j1
   repeat' first
   | (with_reducible exact ih0 _ _ _ _ _ _ _)
   | (with_reducible exact ih1 _ _ _ _ _ _ _ _)
   | (with_reducible exact petrinetref46_Is.mono _ _ _ _ _)
   | (with_reducible exact petrinetref46_sign.mono _ _ _ _ _ _)
   | (with_reducible exact LeO.refl _)
   | (with_reducible exact LeO.none _)
   | (with_reducible refine LeO.ite ?_ ?_)
   | (with_reducible refine LeO.bind ?_ (fun _ => ?_))
   | exact ih0 _ _ _ _ _ _ _
   | exact ih1 _ _ _ _ _ _ _ _
   | exact petrinetref46_Is.mono _ _ _ _ _
   | exact petrinetref46_sign.mono _ _ _ _ _ _
   | exact LeO.none _
   | refine LeO.ite ?_ ?_
   | refine LeO.bind ?_ (fun _ => ?_)
theorem petrinetref46_With.mono : ∀ a0 a1 a2 a3 a4 k, LeO (petrinetref46_With.f k a0 a1 a2 a3 a4) (petrinetref46_With.f (k + 1) a0 a1 a2 a3 a4) := by
 intro a0 a1 a2 a3 a4 k
 obtain ⟨ih0, ih1⟩ := petrinetref46_With.mono_l k
 unfold petrinetref46_With.f
 repeat' first
   | (with_reducible exact ih0 _ _ _ _ _ _ _)
   | (with_reducible exact ih1 _ _ _ _ _ _ _ _)
   | (with_reducible exact petrinetref46_Is.mono _ _ _ _ _)
   | (with_reducible exact petrinetref46_sign.mono _ _ _ _ _ _)
   | (with_reducible exact LeO.refl _)
   | (with_reducible exact LeO.none _)
   | (with_reducible refine LeO.ite ?_ ?_)
   | (with_reducible refine LeO.bind ?_ (fun _ => ?_))
   | exact ih0 _ _ _ _ _ _ _
   | exact ih1 _ _ _ _ _ _ _ _
   | exact petrinetref46_Is.mono _ _ _ _ _
   | exact petrinetref46_sign.mono _ _ _ _ _ _
   | exact LeO.none _
   | refine LeO.ite ?_ ?_
   | refine LeO.bind ?_ (fun _ => ?_)

/-! ### region_Post: function 23 -/
def region_Post.f (k : Nat) (a0_0 : Int) (l0_1 : List ByteArray) (l0_2 : List (S45)) (a1 : Int) : Option (List Int) := (region_signed.f k a0_0 l0_1 l0_2 a1 1).bind fun t288 => (some t288)
theorem region_Post.mono : ∀ a0 a1 a2 a3 k, LeO (region_Post.f k a0 a1 a2 a3) (region_Post.f (k + 1) a0 a1 a2 a3) := by
 intro a0 a1 a2 a3 k
 unfold region_Post.f
 repeat' first
   | (with_reducible exact region_signed.mono _ _ _ _ _ _)
   | (with_reducible exact LeO.refl _)
   | (with_reducible exact LeO.none _)
   | (with_reducible refine LeO.ite ?_ ?_)
   | (with_reducible refine LeO.bind ?_ (fun _ => ?_))
   | exact region_signed.mono _ _ _ _ _ _
   | exact LeO.none _
   | refine LeO.ite ?_ ?_
   | refine LeO.bind ?_ (fun _ => ?_)



/-! ### bitset_smallest: function 51 -/
def bitset_smallest.l0 : Nat → Int → List Int → Int → Int → Option (Bool)
 | 0, _, _, _, _ => none
 | k + 1, x1, x7, x8, x9 => if x9 < x8 then (if 0 ≤ x9 then (if x9 < (x7.length : Int) then (if (rd x7 x9) = x1 then (bitset_smallest.l0 k x1 x7 x8 (wrap64 (x9 + 1))) else ((bitset_Subset.f (rd x7 x9) x1).bind fun t333 => (if t333 = true then (some false) else (bitset_smallest.l0 k x1 x7 x8 (wrap64 (x9 + 1)))))) else (none)) else (none)) else (some true)
def bitset_smallest.f (k : Nat) (l0 : List Int) (a1 : Int) : Option (Bool) := bitset_smallest.l0 k a1 l0 (l0.length : Int) 0
theorem bitset_smallest.mono_l : ∀ k, (∀ y0 y1 y2 y3, LeO (bitset_smallest.l0 k y0 y1 y2 y3) (bitset_smallest.l0 (k + 1) y0 y1 y2 y3))
 | 0 => fun _ _ _ _ r h => by simp [bitset_smallest.l0] at h
 | k + 1 => by
  have ih0 := bitset_smallest.mono_l k
  ·
   intro y0 y1 y2 y3
   unfold bitset_smallest.l0
   repeat' first
   | (with_reducible exact ih0 _ _ _ _)
   | (with_reducible exact LeO.refl _)
   | (with_reducible exact LeO.none _)
   | (with_reducible refine LeO.ite ?_ ?_)
   | (with_reducible refine LeO.bind ?_ (fun _ => ?_))
   | exact ih0 _ _ _ _
   | exact LeO.none _
   | refine LeO.ite ?_ ?_
   | refine LeO.bind ?_ (fun _ => ?_)
theorem bitset_smallest.mono : ∀ a0 a1 k, LeO (bitset_smallest.f k a0 a1) (bitset_smallest.f (k + 1) a0 a1) := by
 intro a0 a1 k
 have ih0 := bitset_smallest.mono_l k
 unfold bitset_smallest.f
 repeat' first
   | (with_reducible exact ih0 _ _ _ _)
   | (with_reducible exact LeO.refl _)
   | (with_reducible exact LeO.none _)
   | (with_reducible refine LeO.ite ?_ ?_)
   | (with_reducible refine LeO.bind ?_ (fun _ => ?_))
   | exact ih0 _ _ _ _
   | exact LeO.none _
   | refine LeO.ite ?_ ?_
   | refine LeO.bind ?_ (fun _ => ?_)



section
-- STUBBED 61
/-! ### bitset_Len: function 61: by hand -/
open Go.Shelf Go.Proofs.Ytihjbomgbbfifaa.Iter
attribute [local go_sem] Oper.semAt_some

def bitset_Len.f (a0 : Int) : Option (Int) := some ((elemsTo a0 64).length : Int)

/-- Between two rounds: the count so far. -/
def LenI (w : World) (s : Int) (pre : List Nat) (W : World) : Prop :=
  (Boxed W w.heap.size 3 (.int .i64 (pre.length : Int)) ∧ Boxed W (w.heap.size + 1) 26 (.int .u64 s)) ∧ Below w.heap.size w W

end



/-! ### bitset_before: function 52 -/
def bitset_before.f (a0 : Int) (a1 : Int) : Option (Bool) := (bitset_Len.f a0).bind fun t334 => ((bitset_Len.f a1).bind fun t335 => (if t334 = t335 then (some (decide (a0 < a1))) else (some (decide (t334 < t335)))))



section
-- STUBBED 39
/-! ### bitset_Minimal: function 39: by hand -/
open Go.Proofs.Ytihjbomgbbfifaa.Iter

/-! ### what the three functions tell -/
def subB (a b : Int) : Bool := Go.bits .andNot .u64 a b == 0
def smallestB (l : List Int) (s : Int) : Bool := l.all fun t => t == s || !subB t s
def beforeB (a b : Int) : Bool := if ((elemsTo a 64).length : Int) = (elemsTo b 64).length then decide (a < b) else decide (((elemsTo a 64).length : Int) < (elemsTo b 64).length)
def posOf (out : List Int) (s : Int) : Nat := (out.takeWhile (beforeB · s)).length
def insL (out : List Int) (s : Int) : List Int := if out[posOf out s]? = some s then out else out.take (posOf out s) ++ s :: out.drop (posOf out s)
def stepL (l : List Int) (out : List Int) (s : Int) : List Int := if smallestB l s then insL out s else out
def minimalL (l : List Int) : List Int := l.foldl (stepL l) []
def bitset_Minimal.f (l0 : List Int) : Option (List Int) := if l0.length ≤ 1099511627776 then some (minimalL l0) else none

theorem before_f (a b : Int) : bitset_before.f a b = some (beforeB a b) := by
  simp only [bitset_before.f, bitset_Len.f, Option.bind_some, beforeB]
  split <;> rfl
theorem smallest_l0 (s : Int) (l : List Int) (hl : l.length ≤ 1099511627776) : ∀ (d k i : Nat), i ≤ l.length → l.length - i = d → d < k →
    bitset_smallest.l0 k s l (l.length : Int) (i : Int) = some ((l.drop i).all fun t => t == s || !subB t s) := by
  intro d
  induction d with
  | zero =>
    intro k i hi hd hk
    obtain ⟨k, rfl⟩ : ∃ m, k = m + 1 := ⟨k - 1, by omega⟩
    simp only [bitset_smallest.l0]
    rw [if_neg (by omega), List.drop_of_length_le (by omega)]
    rfl
  | succ d ih =>
    intro k i hi hd hk
    obtain ⟨k, rfl⟩ : ∃ m, k = m + 1 := ⟨k - 1, by omega⟩
    have hlt : i < l.length := by omega
    have hrd : rd l (i : Int) = l[i] := by simp [rd, hlt]
    have hw : wrap64 ((i : Int) + 1) = ((i + 1 : Nat) : Int) := by unfold wrap64; omega
    have hdr : l.drop i = l[i] :: l.drop (i + 1) := List.drop_eq_getElem_cons hlt
    simp only [bitset_smallest.l0]
    rw [if_pos (by omega), if_pos (by omega), if_pos (by omega), hw, hrd, ih k (i + 1) (by omega) (by omega) (by omega), hdr]
    simp only [bitset_Subset.f, Option.bind_some, List.all_cons]
    by_cases e : l[i] = s
    · rw [if_pos e]; simp [e]
    · rw [if_neg e]
      have e' : (l[i] == s) = false := by simpa using e
      rw [e']
      cases hb : (Go.bits .andNot .u64 l[i] s == 0) with
      | true => simp [subB, hb]
      | false => simp [subB, hb]
theorem smallest_f (l : List Int) (s : Int) (hl : l.length ≤ 1099511627776) : bitset_smallest.f (l.length + 1) l s = some (smallestB l s) := by
  have := smallest_l0 s l hl l.length (l.length + 1) 0 (by omega) (by omega) (by omega)
  simpa [bitset_smallest.f, smallestB] using this
theorem takeWhile_at {α : Type} (p : α → Bool) : ∀ (l : List α) (j : Nat), (∀ q, (h : q < l.length) → q < j → p l[q] = true) → j ≤ l.length → (∀ h : j < l.length, p l[j] = false) → (l.takeWhile p).length = j
  | [], j, _, h2, _ => by simp at h2; simp [h2]
  | x :: l, 0, _, _, h3 => by
    have := h3 (by simp)
    simp at this
    simp [this]
  | x :: l, j + 1, h1, h2, h3 => by
    have hx : p x = true := h1 0 (by simp) (by omega)
    rw [List.takeWhile_cons, if_pos hx, List.length_cons, takeWhile_at p l j (fun q hq hj => h1 (q + 1) (by simp; omega) (by omega)) (by simp at h2; omega) (fun h => h3 (by simp; omega))]
theorem insL_len (out : List Int) (s : Int) : (insL out s).length ≤ out.length + 1 := by
  unfold insL
  split
  · omega
  · simp; omega
theorem minimalTo_len (l : List Int) : ∀ (m : List Int) (out : List Int), (m.foldl (stepL l) out).length ≤ out.length + m.length
  | [], out => by simp
  | s :: m, out => by
    rw [List.foldl_cons]
    refine Nat.le_trans (minimalTo_len l m _) ?_
    have : (stepL l out s).length ≤ out.length + 1 := by
      unfold stepL
      split
      · exact insL_len out s
      · omega
    simp; omega

end



/-! ### petrinetref06_minimal: function 53 -/
def petrinetref06_minimal.l0 : Nat → List Int → Int → Int → Option (Bool)
 | 0, _, _, _ => none
 | k + 1, x0, x1, x5 => if x5 < (x0.length : Int) then (if 0 ≤ x5 then (if (rd x0 x5) = x1 then (petrinetref06_minimal.l0 k x0 x1 (wrap64 (x5 + 1))) else ((petrinetref06_Subset.f k (rd x0 x5) x1).bind fun t351 => (if t351 = true then (some false) else (petrinetref06_minimal.l0 k x0 x1 (wrap64 (x5 + 1)))))) else (none)) else (some true)
def petrinetref06_minimal.f (k : Nat) (l0 : List Int) (a1 : Int) : Option (Bool) := petrinetref06_minimal.l0 k l0 a1 0
theorem petrinetref06_minimal.mono_l : ∀ k, (∀ y0 y1 y2, LeO (petrinetref06_minimal.l0 k y0 y1 y2) (petrinetref06_minimal.l0 (k + 1) y0 y1 y2))
 | 0 => fun _ _ _ r h => by simp [petrinetref06_minimal.l0] at h
 | k + 1 => by
  have ih0 := petrinetref06_minimal.mono_l k
  ·
   intro y0 y1 y2
   unfold petrinetref06_minimal.l0
   repeat' first
   | (with_reducible exact ih0 _ _ _)
   | (with_reducible exact petrinetref06_Subset.mono _ _ _)
   | (with_reducible exact LeO.refl _)
   | (with_reducible exact LeO.none _)
   | (with_reducible refine LeO.ite ?_ ?_)
   | (with_reducible refine LeO.bind ?_ (fun _ => ?_))
   | exact ih0 _ _ _
   | exact petrinetref06_Subset.mono _ _ _
   | exact LeO.none _
   | refine LeO.ite ?_ ?_
   | refine LeO.bind ?_ (fun _ => ?_)
theorem petrinetref06_minimal.mono : ∀ a0 a1 k, LeO (petrinetref06_minimal.f k a0 a1) (petrinetref06_minimal.f (k + 1) a0 a1) := by
 intro a0 a1 k
 have ih0 := petrinetref06_minimal.mono_l k
 unfold petrinetref06_minimal.f
 repeat' first
   | (with_reducible exact ih0 _ _ _)
   | (with_reducible exact petrinetref06_Subset.mono _ _ _)
   | (with_reducible exact LeO.refl _)
   | (with_reducible exact LeO.none _)
   | (with_reducible refine LeO.ite ?_ ?_)
   | (with_reducible refine LeO.bind ?_ (fun _ => ?_))
   | exact ih0 _ _ _
   | exact petrinetref06_Subset.mono _ _ _
   | exact LeO.none _
   | refine LeO.ite ?_ ?_
   | refine LeO.bind ?_ (fun _ => ?_)

/-! ### petrinetref06_Len: function 62 -/
def petrinetref06_Len.f (k : Nat) (a0 : Int) : Option (Int) := (petrinetref06_List.f k a0).bind fun t352 => (some (t352.length : Int))
theorem petrinetref06_Len.mono : ∀ a0 k, LeO (petrinetref06_Len.f k a0) (petrinetref06_Len.f (k + 1) a0) := by
 intro a0 k
 unfold petrinetref06_Len.f
 repeat' first
   | (with_reducible exact petrinetref06_List.mono _ _)
   | (with_reducible exact LeO.refl _)
   | (with_reducible exact LeO.none _)
   | (with_reducible refine LeO.ite ?_ ?_)
   | (with_reducible refine LeO.bind ?_ (fun _ => ?_))
   | exact petrinetref06_List.mono _ _
   | exact LeO.none _
   | refine LeO.ite ?_ ?_
   | refine LeO.bind ?_ (fun _ => ?_)

/-! ### petrinetref06_before: function 54 -/
def petrinetref06_before.f (k : Nat) (a0 : Int) (a1 : Int) : Option (Bool) := (petrinetref06_Len.f k a0).bind fun t355 => ((petrinetref06_Len.f k a1).bind fun t356 => (if t355 < t356 then (some true) else ((petrinetref06_Len.f k a0).bind fun t357 => ((petrinetref06_Len.f k a1).bind fun t358 => (if t357 = t358 then (some (decide (a0 < a1))) else (some false))))))
theorem petrinetref06_before.mono : ∀ a0 a1 k, LeO (petrinetref06_before.f k a0 a1) (petrinetref06_before.f (k + 1) a0 a1) := by
 intro a0 a1 k
 unfold petrinetref06_before.f
 repeat' first
   | (with_reducible exact petrinetref06_Len.mono _ _)
   | (with_reducible exact LeO.refl _)
   | (with_reducible exact LeO.none _)
   | (with_reducible refine LeO.ite ?_ ?_)
   | (with_reducible refine LeO.bind ?_ (fun _ => ?_))
   | exact petrinetref06_Len.mono _ _
   | exact LeO.none _
   | refine LeO.ite ?_ ?_
   | refine LeO.bind ?_ (fun _ => ?_)



/-! ### petrinetref06_Minimal: function 40 -/
mutual
def petrinetref06_Minimal.l0 : Nat → List Int → List Int → Int → Option (List Int)
 | 0, _, _, _ => none
 | k + 1, x0, x3, x4 => if x4 < (x0.length : Int) then (if 0 ≤ x4 then ((petrinetref06_minimal.f k x0 (rd x0 x4)).bind fun t360 => (if t360 = true then (petrinetref06_Minimal.l1 k x0 x3 x4 0 false 0) else (petrinetref06_Minimal.l0 k x0 x3 (wrap64 (x4 + 1))))) else (none)) else (some x3)
def petrinetref06_Minimal.l1 : Nat → List Int → List Int → Int → Int → Bool → Int → Option (List Int)
 | 0, _, _, _, _, _, _ => none
 | k + 1, x0, x3, x4, x5, x6, x7 => if x7 < (x3.length : Int) then (if 0 ≤ x7 then (if 0 ≤ x4 then (if x4 < (x0.length : Int) then (if (rd x3 x7) = (rd x0 x4) then ((petrinetref06_before.f k (rd x3 x7) (rd x0 x4)).bind fun t383 => (if t383 = true then (petrinetref06_Minimal.l1 k x0 x3 x4 (wrap64 (x7 + 1)) true (wrap64 (x7 + 1))) else (petrinetref06_Minimal.l1 k x0 x3 x4 x5 true (wrap64 (x7 + 1))))) else ((petrinetref06_before.f k (rd x3 x7) (rd x0 x4)).bind fun t386 => (if t386 = true then (petrinetref06_Minimal.l1 k x0 x3 x4 (wrap64 (x7 + 1)) x6 (wrap64 (x7 + 1))) else (petrinetref06_Minimal.l1 k x0 x3 x4 x5 x6 (wrap64 (x7 + 1)))))) else (none)) else (none)) else (none)) else (if x6 = true then (petrinetref06_Minimal.l0 k x0 x3 (wrap64 (x4 + 1))) else (if 0 ≤ x5 then (if x5 ≤ (x3.length : Int) then ((some (x3.take (x5 : Int).toNat : List Int)).bind fun y361 => (if ([] : List Int).length + y361.length < 17592186044416 then ((some (([] : List Int) ++ y361 : List Int)).bind fun y365 => (if 0 ≤ x4 then (if x4 < (x0.length : Int) then (if y365.length < 17592186044416 then ((some (y365 ++ [rd x0 x4] : List Int)).bind fun y369 => ((some (x3.drop (x5 : Int).toNat : List Int)).bind fun y372 => (if y369.length + y372.length < 17592186044416 then (petrinetref06_Minimal.l0 k x0 (y369 ++ y372) (wrap64 (x4 + 1))) else (none)))) else (none)) else (none)) else (none))) else (none))) else (none)) else (none)))
end
def petrinetref06_Minimal.f (k : Nat) (l0 : List Int) : Option (List Int) := petrinetref06_Minimal.l0 k l0 ([] : List Int) 0
theorem petrinetref06_Minimal.mono_l : ∀ k, (∀ y0 y1 y2, LeO (petrinetref06_Minimal.l0 k y0 y1 y2) (petrinetref06_Minimal.l0 (k + 1) y0 y1 y2)) ∧ (∀ y0 y1 y2 y3 y4 y5, LeO (petrinetref06_Minimal.l1 k y0 y1 y2 y3 y4 y5) (petrinetref06_Minimal.l1 (k + 1) y0 y1 y2 y3 y4 y5))
 | 0 => ⟨fun _ _ _ r h => by simp [petrinetref06_Minimal.l0] at h, fun _ _ _ _ _ _ r h => by simp [petrinetref06_Minimal.l1] at h⟩
 | k + 1 => by
  obtain ⟨ih0, ih1⟩ := petrinetref06_Minimal.mono_l k
  refine ⟨?_, ?_⟩
  ·
   intro y0 y1 y2
   unfold petrinetref06_Minimal.l0
   repeat' first
   | (with_reducible exact ih0 _ _ _)
   | (with_reducible exact ih1 _ _ _ _ _ _)
   | (with_reducible exact petrinetref06_before.mono _ _ _)
   | (with_reducible exact petrinetref06_minimal.mono _ _ _)
   | (with_reducible exact LeO.refl _)
   | (with_reducible exact LeO.none _)
   | (with_reducible refine LeO.ite ?_ ?_)
   | (with_reducible refine LeO.bind ?_ (fun _ => ?_))
   | exact ih0 _ _ _
   | exact ih1 _ _ _ _ _ _
   | exact petrinetref06_before.mono _ _ _
   | exact petrinetref06_minimal.mono _ _ _
   | exact LeO.none _
   | refine LeO.ite ?_ ?_
   | refine LeO.bind ?_ (fun _ => ?_)
  ·
   intro y0 y1 y2 y3 y4 y5
   unfold petrinetref06_Minimal.l1
   repeat' first
   | (with_reducible exact ih0 _ _ _)
   | (with_reducible exact ih1 _ _ _ _ _ _)
   | (with_reducible exact petrinetref06_before.mono _ _ _)
   | (with_reducible exact petrinetref06_minimal.mono _ _ _)
   | (with_reducible exact LeO.refl _)
   | (with_reducible exact LeO.none _)
   | (with_reducible refine LeO.ite ?_ ?_)
   | (with_reducible refine LeO.bind ?_ (fun _ => ?_))
   | exact ih0 _ _ _
   | exact ih1 _ _ _ _ _ _
   | exact petrinetref06_before.mono _ _ _
   | exact petrinetref06_minimal.mono _ _ _
   | exact LeO.none _
   | refine LeO.ite ?_ ?_
   | refine LeO.bind ?_ (fun _ => ?_)
theorem petrinetref06_Minimal.mono : ∀ a0 k, LeO (petrinetref06_Minimal.f k a0) (petrinetref06_Minimal.f (k + 1) a0) := by
 intro a0 k
 obtain ⟨ih0, ih1⟩ := petrinetref06_Minimal.mono_l k
 unfold petrinetref06_Minimal.f
 repeat' first
   | (with_reducible exact ih0 _ _ _)
   | (with_reducible exact ih1 _ _ _ _ _ _)
   | (with_reducible exact petrinetref06_before.mono _ _ _)
   | (with_reducible exact petrinetref06_minimal.mono _ _ _)
   | (with_reducible exact LeO.refl _)
   | (with_reducible exact LeO.none _)
   | (with_reducible refine LeO.ite ?_ ?_)
   | (with_reducible refine LeO.bind ?_ (fun _ => ?_))
   | exact ih0 _ _ _
   | exact ih1 _ _ _ _ _ _
   | exact petrinetref06_before.mono _ _ _
   | exact petrinetref06_minimal.mono _ _ _
   | exact LeO.none _
   | refine LeO.ite ?_ ?_
   | refine LeO.bind ?_ (fun _ => ?_)



end Go.Proofs.Ytihjbomgbbfifaa.Pr
