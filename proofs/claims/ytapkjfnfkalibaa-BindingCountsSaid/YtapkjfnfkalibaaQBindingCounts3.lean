/- Functions that the statement reaches: what each answers, and that the program answers it (written by a program of this work). -/
import Derived.Test.YtapkjfnfkalibaaProg
import Derived.Below
import Derived.Deep.Draws
import Derived.Deep.AppendLies
import Derived.Maps.AppendAt
import Derived.OwnWalk
import Derived.Laws.BytesArg
import Derived.Laws.MakeOwn
import Derived.Laws.OwnMore
import Derived.Deep.OwnRows
import Derived.Tactics
import Derived.Lib.ConvBytes
import Derived.Laws.Slices
import Derived.WalkKit
import Derived.KernelRfl
import Derived.RowKit3
import Derived.Deep.LoopGhost
import Derived.Deep.QuietTactic
import Derived.BigQuiet
import Derived.WideLaws
import Derived.Deep.DeepCutAuto
import Derived.Deep.CutBlock
import Derived.Deep.RegionHeld3
import Derived.Laws.Rows
import Derived.Lib.AppendStr
import Derived.ArgAppend
import Derived.Laws.IdiomCopy
import Derived.OrdersHeld
import Derived.Laws.BitsLemmas
import Derived.RowKit
import Derived.WalkMore
import Derived.Test.YtapkjfnfkalibaaVBindingCounts
import Derived.Shelf.Strings.OnBuilder
import Derived.Test.YtapkjfnfkalibaaBBindingCounts
import Derived.Sort.QuietIn
import Derived.Sort.LoopGhostIn
import Derived.Shelf.RegionOpen
import Derived.Test.YtapkjfnfkalibaaQBindingCounts0
import Derived.Test.YtapkjfnfkalibaaQBindingCounts1
import Derived.Test.YtapkjfnfkalibaaQBindingCounts2
namespace Go.Proofs.Ytapkjfnfkalibaa.Pr
open Go.RowKit Go.Proofs.YtapkjfnfkalibaaW.PrintWords Go.Proofs.YtapkjfnfkalibaaW.PrintLast Go.Proofs.YtapkjfnfkalibaaW.PrintMore
attribute [local go_sem] Instr.field asAgg
attribute [local go_sem] max2_int min2_int max_two min_two max_three min_three max_four min_four   -- for this text's walks alone
set_option linter.unusedVariables false
set_option linter.unusedSimpArgs false
/-! ### binding_Holds: function 18 -/
def binding_Holds.f (k : Nat) (l0 : List (S51)) (a1_0 : ByteArray) (l1_1 : List (S48)) (l1_2 : List (S62)) (l1_3 : List (S111)) (l1_4 : List (S111)) (l2 : List Int) : Option (Bool) := (binding_Check.f l0 a1_0 l1_1 l1_2 l1_3 l1_4).bind fun t155 => (if t155 = 0 then ((binding_is.f k l0 a1_0 l1_1 l1_2 l1_3 l1_4 l2).bind fun t156 => (if t156 = true then ((binding_holds.f a1_0 l1_1 l1_2 l1_3 l1_4 l2).bind fun t157 => (some t157)) else (some false))) else (some false))
theorem binding_Holds.mono : ∀ a0 a1 a2 a3 a4 a5 a6 k, LeO (binding_Holds.f k a0 a1 a2 a3 a4 a5 a6) (binding_Holds.f (k + 1) a0 a1 a2 a3 a4 a5 a6) := by
 intro a0 a1 a2 a3 a4 a5 a6 k
 unfold binding_Holds.f
 repeat' first
   | (with_reducible exact binding_is.mono _ _ _ _ _ _ _ _)
   | (with_reducible exact LeO.refl _)
   | (with_reducible exact LeO.none _)
   | (with_reducible refine LeO.ite ?_ ?_)
   | (with_reducible refine LeO.bind ?_ (fun _ => ?_))
   | exact binding_is.mono _ _ _ _ _ _ _ _
   | exact LeO.none _
   | refine LeO.ite ?_ ?_
   | refine LeO.bind ?_ (fun _ => ?_)
set_option maxHeartbeats 8000000 in
set_option maxRecDepth 100000 in
theorem binding_Holds.calls (k : Nat) (A0 : Option Addr) (c0 : Nat) (l0 : List (S51)) (a1_0 : ByteArray) (A1_1 : Option Addr) (c1_1 : Nat) (l1_1 : List (S48)) (A1_2 : Option Addr) (c1_2 : Nat) (l1_2 : List (S62)) (A1_3 : Option Addr) (c1_3 : Nat) (l1_3 : List (S111)) (A1_4 : Option Addr) (c1_4 : Nat) (l1_4 : List (S111)) (A2 : Option Addr) (c2 : Nat) (l2 : List Int) (r : Bool) (w : World) (hr0 : Kd.C k51 w A0 l0.length l0) (hc0 : l0.length ≤ c0) (hr1_1 : Kd.C k48 w A1_1 l1_1.length l1_1) (hc1_1 : l1_1.length ≤ c1_1) (hr1_2 : Kd.C k62 w A1_2 l1_2.length l1_2) (hc1_2 : l1_2.length ≤ c1_2) (hr1_3 : Kd.C k111 w A1_3 l1_3.length l1_3) (hc1_3 : l1_3.length ≤ c1_3) (hr1_4 : Kd.C k111 w A1_4 l1_4.length l1_4) (hc1_4 : l1_4.length ≤ c1_4) (hr2 : Kd.C (Kd.int .i64) w A2 l2.length l2) (hc2 : l2.length ≤ c2) (h : binding_Holds.f k l0 a1_0 l1_1 l1_2 l1_3 l1_4 l2 = some r) :
  Calls Try.prog 18 #[.slice A0 l0.length c0, .agg #[.string a1_0, .slice A1_1 l1_1.length c1_1, .slice A1_2 l1_2.length c1_2, .slice A1_3 l1_3.length c1_3, .slice A1_4 l1_4.length c1_4], .slice A2 l2.length c2] w fun e w' => e = .returned (.bool r) ∧ Below w.heap.size w w' := by
 have hu27 := Try.underlying27
 have hu9 := Try.underlying9
 have hu23 := Try.underlying23
 have hu24 := Try.underlying24
 have hu25 := Try.underlying25
 have HR0 := Aside0.mk hr0
 have HC0 := Aside0.mk hc0
 clear hr0 hc0
 have HR1_1 := Aside0.mk hr1_1
 have HC1_1 := Aside0.mk hc1_1
 clear hr1_1 hc1_1
 have HR1_2 := Aside0.mk hr1_2
 have HC1_2 := Aside0.mk hc1_2
 clear hr1_2 hc1_2
 have HR1_3 := Aside0.mk hr1_3
 have HC1_3 := Aside0.mk hc1_3
 clear hr1_3 hc1_3
 have HR1_4 := Aside0.mk hr1_4
 have HC1_4 := Aside0.mk hc1_4
 clear hr1_4 hc1_4
 have HR2 := Aside0.mk hr2
 have HC2 := Aside0.mk hc2
 clear hr2 hc2
 have HB := Aside0.mk (Below.refl w.heap.size w)
 have H : ((binding_Check.f l0 a1_0 l1_1 l1_2 l1_3 l1_4).bind fun t155 => (if t155 = 0 then ((binding_is.f k l0 a1_0 l1_1 l1_2 l1_3 l1_4 l2).bind fun t156 => (if t156 = true then ((binding_holds.f a1_0 l1_1 l1_2 l1_3 l1_4 l2).bind fun t157 => (some t157)) else (some false))) else (some false))) = some r := h
 clear h
 replace H := Option.bind_eq_some_iff.mp H
 obtain ⟨t155, A40, H⟩ := H
 replace H : (if t155 = 0 then ((binding_is.f k l0 a1_0 l1_1 l1_2 l1_3 l1_4 l2).bind fun t156 => (if t156 = true then ((binding_holds.f a1_0 l1_1 l1_2 l1_3 l1_4 l2).bind fun t157 => (some t157)) else (some false))) else (some false)) = some r := H
 have A4 := Aside0.mk A40
 clear A40
 by_cases c5 : t155 = 0
 ·rw [if_pos c5] at H
  have c5b0 : (t155 == 0) = true := beq_iff_eq.mpr c5
  have c5b1 : (t155 != 0) = false := bne_eq_false_iff_eq.mpr c5
  clear c5
  replace H := Option.bind_eq_some_iff.mp H
  obtain ⟨t156, A60, H⟩ := H
  replace H : (if t156 = true then ((binding_holds.f a1_0 l1_1 l1_2 l1_3 l1_4 l2).bind fun t157 => (some t157)) else (some false)) = some r := H
  have A6 := Aside0.mk A60
  clear A60
  by_cases c7 : t156 = true
  ·subst c7
   have H1 : ((binding_holds.f a1_0 l1_1 l1_2 l1_3 l1_4 l2).bind fun t157 => (some t157)) = some r := by rw [if_pos rfl] at H; exact H
   clear H
   have H := H1
   clear H1
   replace H := Option.bind_eq_some_iff.mp H
   obtain ⟨t157, A80, H⟩ := H
   replace H : (some t157) = some r := H
   have A8 := Aside0.mk A80
   clear A80
   obtain rfl := Option.some.inj H
   go_enter Try.func18, Try.ntmps18
   go_wp2_with (first | ((with_reducible refine gate_dst (N := 4) rfl ?_); refine box_event ?hg (N := 4) ?hd (cs := #[.string a1_0, .slice A1_1 l1_1.length c1_1, .slice A1_2 l1_2.length c1_2, .slice A1_3 l1_3.length c1_3, .slice A1_4 l1_4.length c1_4]) (t := 27) ?hr ?_; (case hd => rfl); (case hg => rfl); (case hr => first | (go_simp; done) | (go_simp; rfl)); intro gb154 hg w9 hbox hb; have n0_ := Aside0.mk (below_step (by repeat (first | (with_reducible first | exact HB.out | apply below_alloc | apply pw_below_drewN | apply below_drew1) | exact HB.out)) hb); have n1_ := Aside0.mk (hbox); have n2_ := Aside0.mk ((by rw [hg]; exact (below_size (by repeat (first | (with_reducible first | exact HB.out | apply below_alloc | apply pw_below_drewN | apply below_drew1) | exact HB.out))) : w.heap.size ≤ gb154)); have n3_ := Aside0.mk ((by rw [hg]; exact (below_size (by repeat (first | (with_reducible first | exact HB.out | apply below_alloc | apply pw_below_drewN | apply below_drew1) | exact HB.out))) : w.heap.size ≤ gb154)); clear HB; have HB := n0_; have BK154 := n1_; have GW154 := n2_; have GE154 := n3_; clear n0_ n1_ n2_ n3_; clear hb hbox hg; have hcz10_0 : w9.cell? ⟨gb154, 0, none⟩ = some (.string a1_0) := (blk_cell BK154.out 0).trans rfl; have hcz10_1 : w9.cell? ⟨gb154, 1, none⟩ = some (.slice A1_1 l1_1.length c1_1) := (blk_cell BK154.out 1).trans rfl; have hcz10_2 : w9.cell? ⟨gb154, 2, none⟩ = some (.slice A1_2 l1_2.length c1_2) := (blk_cell BK154.out 2).trans rfl; have hcz10_3 : w9.cell? ⟨gb154, 3, none⟩ = some (.slice A1_3 l1_3.length c1_3) := (blk_cell BK154.out 3).trans rfl; have hcz10_4 : w9.cell? ⟨gb154, 4, none⟩ = some (.slice A1_4 l1_4.length c1_4) := (blk_cell BK154.out 4).trans rfl; have hfz10_0 := blk_frozen BK154.out 0; have hfz10_1 := blk_frozen BK154.out 1; have hfz10_2 := blk_frozen BK154.out 2; have hfz10_3 := blk_frozen BK154.out 3; have hfz10_4 := blk_frozen BK154.out 4) | ((with_reducible refine gate_callee (f := 11) rfl ?_); refine goesL_ (some 9) rfl rfl Try.func11 (by kernel_rfl) rfl #[.slice A0 l0.length c0, .agg #[.string a1_0, .slice A1_1 l1_1.length c1_1, .slice A1_2 l1_2.length c1_2, .slice A1_3 l1_3.length c1_3, .slice A1_4 l1_4.length c1_4]] rfl (by (try simp only [List.map_toArray, List.map_cons, List.map_nil]); first | done | rfl | (simp only [List.length_drop, List.length_take]; rfl)) ?_; (with_reducible refine (binding_Check.calls _ _ l0 a1_0 _ _ l1_1 _ _ l1_2 _ _ l1_3 _ _ l1_4 t155 _ ?side1 ?side2 ?side3 ?side4 ?side5 ?side6 ?side7 ?side8 ?side9 ?side10 A4.out).mono ?_); (case side1 => repeat (first | exact (Kd.C_below HR0.out HB.out) | (with_reducible refine Kd.C_alloc ?_ _) | (with_reducible refine Kd.C_drewN ?_ _) | (with_reducible refine Kd.C_drew ?_))); (case side2 => exact HC0.out); (case side3 => repeat (first | exact (Kd.C_below HR1_1.out HB.out) | (with_reducible refine Kd.C_alloc ?_ _) | (with_reducible refine Kd.C_drewN ?_ _) | (with_reducible refine Kd.C_drew ?_))); (case side4 => exact HC1_1.out); (case side5 => repeat (first | exact (Kd.C_below HR1_2.out HB.out) | (with_reducible refine Kd.C_alloc ?_ _) | (with_reducible refine Kd.C_drewN ?_ _) | (with_reducible refine Kd.C_drew ?_))); (case side6 => exact HC1_2.out); (case side7 => repeat (first | exact (Kd.C_below HR1_3.out HB.out) | (with_reducible refine Kd.C_alloc ?_ _) | (with_reducible refine Kd.C_drewN ?_ _) | (with_reducible refine Kd.C_drew ?_))); (case side8 => exact HC1_3.out); (case side9 => repeat (first | exact (Kd.C_below HR1_4.out HB.out) | (with_reducible refine Kd.C_alloc ?_ _) | (with_reducible refine Kd.C_drewN ?_ _) | (with_reducible refine Kd.C_drew ?_))); (case side10 => exact HC1_4.out); rintro e w11 ⟨rfl, hb⟩; refine ⟨_, rfl, ?_⟩; have n0_ := Aside0.mk (blk_below (g := gb154) (o := .cells #[.string a1_0, .slice A1_1 l1_1.length c1_1, .slice A1_2 l1_2.length c1_2, .slice A1_3 l1_3.length c1_3, .slice A1_4 l1_4.length c1_4] 27 (0, 0)) (by (with_reducible repeat (first | refine blk_drewN ?_ _ | refine blk_drew ?_ | refine blk_alloc ?_ _)); exact BK154.out) hb); have n1_ := Aside0.mk (below_step (by repeat (first | (with_reducible first | exact HB.out | apply below_alloc | apply pw_below_drewN | apply below_drew1 | refine below_set ?_ GE154.out) | exact HB.out)) hb); clear BK154; clear HB; have BK154 := n0_; have HB := n1_; clear n0_ n1_; (try clear hb); (try clear hb2); (try clear hk); (try clear hi); have hcz12_0 : w11.cell? ⟨gb154, 0, none⟩ = some (.string a1_0) := (blk_cell BK154.out 0).trans rfl; have hcz12_1 : w11.cell? ⟨gb154, 1, none⟩ = some (.slice A1_1 l1_1.length c1_1) := (blk_cell BK154.out 1).trans rfl; have hcz12_2 : w11.cell? ⟨gb154, 2, none⟩ = some (.slice A1_2 l1_2.length c1_2) := (blk_cell BK154.out 2).trans rfl; have hcz12_3 : w11.cell? ⟨gb154, 3, none⟩ = some (.slice A1_3 l1_3.length c1_3) := (blk_cell BK154.out 3).trans rfl; have hcz12_4 : w11.cell? ⟨gb154, 4, none⟩ = some (.slice A1_4 l1_4.length c1_4) := (blk_cell BK154.out 4).trans rfl; have hfz12_0 := blk_frozen BK154.out 0; have hfz12_1 := blk_frozen BK154.out 1; have hfz12_2 := blk_frozen BK154.out 2; have hfz12_3 := blk_frozen BK154.out 3; have hfz12_4 := blk_frozen BK154.out 4) | (go_at_call 37; (with_reducible refine (binding_is.calls k _ _ l0 a1_0 _ _ l1_1 _ _ l1_2 _ _ l1_3 _ _ l1_4 _ _ l2 true _ ?side1 ?side2 ?side3 ?side4 ?side5 ?side6 ?side7 ?side8 ?side9 ?side10 ?side11 ?side12 A6.out).mono ?_); (case side1 => repeat (first | exact (Kd.C_below HR0.out HB.out) | (with_reducible refine Kd.C_alloc ?_ _) | (with_reducible refine Kd.C_drewN ?_ _) | (with_reducible refine Kd.C_drew ?_))); (case side2 => exact HC0.out); (case side3 => repeat (first | exact (Kd.C_below HR1_1.out HB.out) | (with_reducible refine Kd.C_alloc ?_ _) | (with_reducible refine Kd.C_drewN ?_ _) | (with_reducible refine Kd.C_drew ?_))); (case side4 => exact HC1_1.out); (case side5 => repeat (first | exact (Kd.C_below HR1_2.out HB.out) | (with_reducible refine Kd.C_alloc ?_ _) | (with_reducible refine Kd.C_drewN ?_ _) | (with_reducible refine Kd.C_drew ?_))); (case side6 => exact HC1_2.out); (case side7 => repeat (first | exact (Kd.C_below HR1_3.out HB.out) | (with_reducible refine Kd.C_alloc ?_ _) | (with_reducible refine Kd.C_drewN ?_ _) | (with_reducible refine Kd.C_drew ?_))); (case side8 => exact HC1_3.out); (case side9 => repeat (first | exact (Kd.C_below HR1_4.out HB.out) | (with_reducible refine Kd.C_alloc ?_ _) | (with_reducible refine Kd.C_drewN ?_ _) | (with_reducible refine Kd.C_drew ?_))); (case side10 => exact HC1_4.out); (case side11 => repeat (first | exact (Kd.C_below HR2.out HB.out) | (with_reducible refine Kd.C_alloc ?_ _) | (with_reducible refine Kd.C_drewN ?_ _) | (with_reducible refine Kd.C_drew ?_))); (case side12 => exact HC2.out); rintro e w13 ⟨rfl, hb⟩; have n0_ := Aside0.mk (blk_below (g := gb154) (o := .cells #[.string a1_0, .slice A1_1 l1_1.length c1_1, .slice A1_2 l1_2.length c1_2, .slice A1_3 l1_3.length c1_3, .slice A1_4 l1_4.length c1_4] 27 (0, 0)) (by (with_reducible repeat (first | refine blk_drewN ?_ _ | refine blk_drew ?_ | refine blk_alloc ?_ _)); exact BK154.out) hb); have n1_ := Aside0.mk (below_step (by repeat (first | (with_reducible first | exact HB.out | apply below_alloc | apply pw_below_drewN | apply below_drew1 | refine below_set ?_ GE154.out) | exact HB.out)) hb); clear BK154; clear HB; have BK154 := n0_; have HB := n1_; clear n0_ n1_; (try clear hb); (try clear hb2); (try clear hk); (try clear hi); have hcz14_0 : w13.cell? ⟨gb154, 0, none⟩ = some (.string a1_0) := (blk_cell BK154.out 0).trans rfl; have hcz14_1 : w13.cell? ⟨gb154, 1, none⟩ = some (.slice A1_1 l1_1.length c1_1) := (blk_cell BK154.out 1).trans rfl; have hcz14_2 : w13.cell? ⟨gb154, 2, none⟩ = some (.slice A1_2 l1_2.length c1_2) := (blk_cell BK154.out 2).trans rfl; have hcz14_3 : w13.cell? ⟨gb154, 3, none⟩ = some (.slice A1_3 l1_3.length c1_3) := (blk_cell BK154.out 3).trans rfl; have hcz14_4 : w13.cell? ⟨gb154, 4, none⟩ = some (.slice A1_4 l1_4.length c1_4) := (blk_cell BK154.out 4).trans rfl; have hfz14_0 := blk_frozen BK154.out 0; have hfz14_1 := blk_frozen BK154.out 1; have hfz14_2 := blk_frozen BK154.out 2; have hfz14_3 := blk_frozen BK154.out 3; have hfz14_4 := blk_frozen BK154.out 4) | (go_at_call 42; (with_reducible refine (binding_holds.calls a1_0 _ _ l1_1 _ _ l1_2 _ _ l1_3 _ _ l1_4 _ _ l2 t157 _ ?side1 ?side2 ?side3 ?side4 ?side5 ?side6 ?side7 ?side8 ?side9 ?side10 A8.out).mono ?_); (case side1 => repeat (first | exact (Kd.C_below HR1_1.out HB.out) | (with_reducible refine Kd.C_alloc ?_ _) | (with_reducible refine Kd.C_drewN ?_ _) | (with_reducible refine Kd.C_drew ?_))); (case side2 => exact HC1_1.out); (case side3 => repeat (first | exact (Kd.C_below HR1_2.out HB.out) | (with_reducible refine Kd.C_alloc ?_ _) | (with_reducible refine Kd.C_drewN ?_ _) | (with_reducible refine Kd.C_drew ?_))); (case side4 => exact HC1_2.out); (case side5 => repeat (first | exact (Kd.C_below HR1_3.out HB.out) | (with_reducible refine Kd.C_alloc ?_ _) | (with_reducible refine Kd.C_drewN ?_ _) | (with_reducible refine Kd.C_drew ?_))); (case side6 => exact HC1_3.out); (case side7 => repeat (first | exact (Kd.C_below HR1_4.out HB.out) | (with_reducible refine Kd.C_alloc ?_ _) | (with_reducible refine Kd.C_drewN ?_ _) | (with_reducible refine Kd.C_drew ?_))); (case side8 => exact HC1_4.out); (case side9 => repeat (first | exact (Kd.C_below HR2.out HB.out) | (with_reducible refine Kd.C_alloc ?_ _) | (with_reducible refine Kd.C_drewN ?_ _) | (with_reducible refine Kd.C_drew ?_))); (case side10 => exact HC2.out); rintro e w15 ⟨rfl, hb⟩; have n0_ := Aside0.mk (blk_below (g := gb154) (o := .cells #[.string a1_0, .slice A1_1 l1_1.length c1_1, .slice A1_2 l1_2.length c1_2, .slice A1_3 l1_3.length c1_3, .slice A1_4 l1_4.length c1_4] 27 (0, 0)) (by (with_reducible repeat (first | refine blk_drewN ?_ _ | refine blk_drew ?_ | refine blk_alloc ?_ _)); exact BK154.out) hb); have n1_ := Aside0.mk (below_step (by repeat (first | (with_reducible first | exact HB.out | apply below_alloc | apply pw_below_drewN | apply below_drew1 | refine below_set ?_ GE154.out) | exact HB.out)) hb); clear BK154; clear HB; have BK154 := n0_; have HB := n1_; clear n0_ n1_; (try clear hb); (try clear hb2); (try clear hk); (try clear hi)))
   go_ret
   exact ⟨by first | rfl | (simp [errW_none, errW_some] <;> rfl) | (simp [*, errW_none, errW_some] <;> rfl), by repeat (first | (with_reducible first | exact HB.out | apply below_alloc | apply pw_below_drewN | apply below_drew1 | refine below_set ?_ GE154.out) | exact HB.out)⟩
  ·replace c7 := Bool.eq_false_iff.mpr c7
   subst c7
   have H1 : (some false) = some r := by rw [if_neg (show ¬ (false = true) by decide)] at H; exact H
   clear H
   have H := H1
   clear H1
   obtain rfl := Option.some.inj H
   go_enter Try.func18, Try.ntmps18
   go_wp2_with (first | ((with_reducible refine gate_dst (N := 4) rfl ?_); refine box_event ?hg (N := 4) ?hd (cs := #[.string a1_0, .slice A1_1 l1_1.length c1_1, .slice A1_2 l1_2.length c1_2, .slice A1_3 l1_3.length c1_3, .slice A1_4 l1_4.length c1_4]) (t := 27) ?hr ?_; (case hd => rfl); (case hg => rfl); (case hr => first | (go_simp; done) | (go_simp; rfl)); intro gb154 hg w16 hbox hb; have n0_ := Aside0.mk (below_step (by repeat (first | (with_reducible first | exact HB.out | apply below_alloc | apply pw_below_drewN | apply below_drew1) | exact HB.out)) hb); have n1_ := Aside0.mk (hbox); have n2_ := Aside0.mk ((by rw [hg]; exact (below_size (by repeat (first | (with_reducible first | exact HB.out | apply below_alloc | apply pw_below_drewN | apply below_drew1) | exact HB.out))) : w.heap.size ≤ gb154)); have n3_ := Aside0.mk ((by rw [hg]; exact (below_size (by repeat (first | (with_reducible first | exact HB.out | apply below_alloc | apply pw_below_drewN | apply below_drew1) | exact HB.out))) : w.heap.size ≤ gb154)); clear HB; have HB := n0_; have BK154 := n1_; have GW154 := n2_; have GE154 := n3_; clear n0_ n1_ n2_ n3_; clear hb hbox hg; have hcz17_0 : w16.cell? ⟨gb154, 0, none⟩ = some (.string a1_0) := (blk_cell BK154.out 0).trans rfl; have hcz17_1 : w16.cell? ⟨gb154, 1, none⟩ = some (.slice A1_1 l1_1.length c1_1) := (blk_cell BK154.out 1).trans rfl; have hcz17_2 : w16.cell? ⟨gb154, 2, none⟩ = some (.slice A1_2 l1_2.length c1_2) := (blk_cell BK154.out 2).trans rfl; have hcz17_3 : w16.cell? ⟨gb154, 3, none⟩ = some (.slice A1_3 l1_3.length c1_3) := (blk_cell BK154.out 3).trans rfl; have hcz17_4 : w16.cell? ⟨gb154, 4, none⟩ = some (.slice A1_4 l1_4.length c1_4) := (blk_cell BK154.out 4).trans rfl; have hfz17_0 := blk_frozen BK154.out 0; have hfz17_1 := blk_frozen BK154.out 1; have hfz17_2 := blk_frozen BK154.out 2; have hfz17_3 := blk_frozen BK154.out 3; have hfz17_4 := blk_frozen BK154.out 4) | ((with_reducible refine gate_callee (f := 11) rfl ?_); refine goesL_ (some 9) rfl rfl Try.func11 (by kernel_rfl) rfl #[.slice A0 l0.length c0, .agg #[.string a1_0, .slice A1_1 l1_1.length c1_1, .slice A1_2 l1_2.length c1_2, .slice A1_3 l1_3.length c1_3, .slice A1_4 l1_4.length c1_4]] rfl (by (try simp only [List.map_toArray, List.map_cons, List.map_nil]); first | done | rfl | (simp only [List.length_drop, List.length_take]; rfl)) ?_; (with_reducible refine (binding_Check.calls _ _ l0 a1_0 _ _ l1_1 _ _ l1_2 _ _ l1_3 _ _ l1_4 t155 _ ?side1 ?side2 ?side3 ?side4 ?side5 ?side6 ?side7 ?side8 ?side9 ?side10 A4.out).mono ?_); (case side1 => repeat (first | exact (Kd.C_below HR0.out HB.out) | (with_reducible refine Kd.C_alloc ?_ _) | (with_reducible refine Kd.C_drewN ?_ _) | (with_reducible refine Kd.C_drew ?_))); (case side2 => exact HC0.out); (case side3 => repeat (first | exact (Kd.C_below HR1_1.out HB.out) | (with_reducible refine Kd.C_alloc ?_ _) | (with_reducible refine Kd.C_drewN ?_ _) | (with_reducible refine Kd.C_drew ?_))); (case side4 => exact HC1_1.out); (case side5 => repeat (first | exact (Kd.C_below HR1_2.out HB.out) | (with_reducible refine Kd.C_alloc ?_ _) | (with_reducible refine Kd.C_drewN ?_ _) | (with_reducible refine Kd.C_drew ?_))); (case side6 => exact HC1_2.out); (case side7 => repeat (first | exact (Kd.C_below HR1_3.out HB.out) | (with_reducible refine Kd.C_alloc ?_ _) | (with_reducible refine Kd.C_drewN ?_ _) | (with_reducible refine Kd.C_drew ?_))); (case side8 => exact HC1_3.out); (case side9 => repeat (first | exact (Kd.C_below HR1_4.out HB.out) | (with_reducible refine Kd.C_alloc ?_ _) | (with_reducible refine Kd.C_drewN ?_ _) | (with_reducible refine Kd.C_drew ?_))); (case side10 => exact HC1_4.out); rintro e w18 ⟨rfl, hb⟩; refine ⟨_, rfl, ?_⟩; have n0_ := Aside0.mk (blk_below (g := gb154) (o := .cells #[.string a1_0, .slice A1_1 l1_1.length c1_1, .slice A1_2 l1_2.length c1_2, .slice A1_3 l1_3.length c1_3, .slice A1_4 l1_4.length c1_4] 27 (0, 0)) (by (with_reducible repeat (first | refine blk_drewN ?_ _ | refine blk_drew ?_ | refine blk_alloc ?_ _)); exact BK154.out) hb); have n1_ := Aside0.mk (below_step (by repeat (first | (with_reducible first | exact HB.out | apply below_alloc | apply pw_below_drewN | apply below_drew1 | refine below_set ?_ GE154.out) | exact HB.out)) hb); clear BK154; clear HB; have BK154 := n0_; have HB := n1_; clear n0_ n1_; (try clear hb); (try clear hb2); (try clear hk); (try clear hi); have hcz19_0 : w18.cell? ⟨gb154, 0, none⟩ = some (.string a1_0) := (blk_cell BK154.out 0).trans rfl; have hcz19_1 : w18.cell? ⟨gb154, 1, none⟩ = some (.slice A1_1 l1_1.length c1_1) := (blk_cell BK154.out 1).trans rfl; have hcz19_2 : w18.cell? ⟨gb154, 2, none⟩ = some (.slice A1_2 l1_2.length c1_2) := (blk_cell BK154.out 2).trans rfl; have hcz19_3 : w18.cell? ⟨gb154, 3, none⟩ = some (.slice A1_3 l1_3.length c1_3) := (blk_cell BK154.out 3).trans rfl; have hcz19_4 : w18.cell? ⟨gb154, 4, none⟩ = some (.slice A1_4 l1_4.length c1_4) := (blk_cell BK154.out 4).trans rfl; have hfz19_0 := blk_frozen BK154.out 0; have hfz19_1 := blk_frozen BK154.out 1; have hfz19_2 := blk_frozen BK154.out 2; have hfz19_3 := blk_frozen BK154.out 3; have hfz19_4 := blk_frozen BK154.out 4) | (go_at_call 37; (with_reducible refine (binding_is.calls k _ _ l0 a1_0 _ _ l1_1 _ _ l1_2 _ _ l1_3 _ _ l1_4 _ _ l2 false _ ?side1 ?side2 ?side3 ?side4 ?side5 ?side6 ?side7 ?side8 ?side9 ?side10 ?side11 ?side12 A6.out).mono ?_); (case side1 => repeat (first | exact (Kd.C_below HR0.out HB.out) | (with_reducible refine Kd.C_alloc ?_ _) | (with_reducible refine Kd.C_drewN ?_ _) | (with_reducible refine Kd.C_drew ?_))); (case side2 => exact HC0.out); (case side3 => repeat (first | exact (Kd.C_below HR1_1.out HB.out) | (with_reducible refine Kd.C_alloc ?_ _) | (with_reducible refine Kd.C_drewN ?_ _) | (with_reducible refine Kd.C_drew ?_))); (case side4 => exact HC1_1.out); (case side5 => repeat (first | exact (Kd.C_below HR1_2.out HB.out) | (with_reducible refine Kd.C_alloc ?_ _) | (with_reducible refine Kd.C_drewN ?_ _) | (with_reducible refine Kd.C_drew ?_))); (case side6 => exact HC1_2.out); (case side7 => repeat (first | exact (Kd.C_below HR1_3.out HB.out) | (with_reducible refine Kd.C_alloc ?_ _) | (with_reducible refine Kd.C_drewN ?_ _) | (with_reducible refine Kd.C_drew ?_))); (case side8 => exact HC1_3.out); (case side9 => repeat (first | exact (Kd.C_below HR1_4.out HB.out) | (with_reducible refine Kd.C_alloc ?_ _) | (with_reducible refine Kd.C_drewN ?_ _) | (with_reducible refine Kd.C_drew ?_))); (case side10 => exact HC1_4.out); (case side11 => repeat (first | exact (Kd.C_below HR2.out HB.out) | (with_reducible refine Kd.C_alloc ?_ _) | (with_reducible refine Kd.C_drewN ?_ _) | (with_reducible refine Kd.C_drew ?_))); (case side12 => exact HC2.out); rintro e w20 ⟨rfl, hb⟩; have n0_ := Aside0.mk (blk_below (g := gb154) (o := .cells #[.string a1_0, .slice A1_1 l1_1.length c1_1, .slice A1_2 l1_2.length c1_2, .slice A1_3 l1_3.length c1_3, .slice A1_4 l1_4.length c1_4] 27 (0, 0)) (by (with_reducible repeat (first | refine blk_drewN ?_ _ | refine blk_drew ?_ | refine blk_alloc ?_ _)); exact BK154.out) hb); have n1_ := Aside0.mk (below_step (by repeat (first | (with_reducible first | exact HB.out | apply below_alloc | apply pw_below_drewN | apply below_drew1 | refine below_set ?_ GE154.out) | exact HB.out)) hb); clear BK154; clear HB; have BK154 := n0_; have HB := n1_; clear n0_ n1_; (try clear hb); (try clear hb2); (try clear hk); (try clear hi)))
   go_ret
   exact ⟨by first | rfl | (simp [errW_none, errW_some] <;> rfl) | (simp [*, errW_none, errW_some] <;> rfl), by repeat (first | (with_reducible first | exact HB.out | apply below_alloc | apply pw_below_drewN | apply below_drew1 | refine below_set ?_ GE154.out) | exact HB.out)⟩
 ·rw [if_neg c5] at H
  have c5b0 : (t155 == 0) = false := beq_eq_false_iff_ne.mpr c5
  have c5b1 : (t155 != 0) = true := bne_iff_ne.mpr c5
  obtain rfl := Option.some.inj H
  go_enter Try.func18, Try.ntmps18
  go_wp2_with (first | ((with_reducible refine gate_dst (N := 4) rfl ?_); refine box_event ?hg (N := 4) ?hd (cs := #[.string a1_0, .slice A1_1 l1_1.length c1_1, .slice A1_2 l1_2.length c1_2, .slice A1_3 l1_3.length c1_3, .slice A1_4 l1_4.length c1_4]) (t := 27) ?hr ?_; (case hd => rfl); (case hg => rfl); (case hr => first | (go_simp; done) | (go_simp; rfl)); intro gb154 hg w21 hbox hb; have n0_ := Aside0.mk (below_step (by repeat (first | (with_reducible first | exact HB.out | apply below_alloc | apply pw_below_drewN | apply below_drew1) | exact HB.out)) hb); have n1_ := Aside0.mk (hbox); have n2_ := Aside0.mk ((by rw [hg]; exact (below_size (by repeat (first | (with_reducible first | exact HB.out | apply below_alloc | apply pw_below_drewN | apply below_drew1) | exact HB.out))) : w.heap.size ≤ gb154)); have n3_ := Aside0.mk ((by rw [hg]; exact (below_size (by repeat (first | (with_reducible first | exact HB.out | apply below_alloc | apply pw_below_drewN | apply below_drew1) | exact HB.out))) : w.heap.size ≤ gb154)); clear HB; have HB := n0_; have BK154 := n1_; have GW154 := n2_; have GE154 := n3_; clear n0_ n1_ n2_ n3_; clear hb hbox hg; have hcz22_0 : w21.cell? ⟨gb154, 0, none⟩ = some (.string a1_0) := (blk_cell BK154.out 0).trans rfl; have hcz22_1 : w21.cell? ⟨gb154, 1, none⟩ = some (.slice A1_1 l1_1.length c1_1) := (blk_cell BK154.out 1).trans rfl; have hcz22_2 : w21.cell? ⟨gb154, 2, none⟩ = some (.slice A1_2 l1_2.length c1_2) := (blk_cell BK154.out 2).trans rfl; have hcz22_3 : w21.cell? ⟨gb154, 3, none⟩ = some (.slice A1_3 l1_3.length c1_3) := (blk_cell BK154.out 3).trans rfl; have hcz22_4 : w21.cell? ⟨gb154, 4, none⟩ = some (.slice A1_4 l1_4.length c1_4) := (blk_cell BK154.out 4).trans rfl; have hfz22_0 := blk_frozen BK154.out 0; have hfz22_1 := blk_frozen BK154.out 1; have hfz22_2 := blk_frozen BK154.out 2; have hfz22_3 := blk_frozen BK154.out 3; have hfz22_4 := blk_frozen BK154.out 4) | ((with_reducible refine gate_callee (f := 11) rfl ?_); refine goesL_ (some 9) rfl rfl Try.func11 (by kernel_rfl) rfl #[.slice A0 l0.length c0, .agg #[.string a1_0, .slice A1_1 l1_1.length c1_1, .slice A1_2 l1_2.length c1_2, .slice A1_3 l1_3.length c1_3, .slice A1_4 l1_4.length c1_4]] rfl (by (try simp only [List.map_toArray, List.map_cons, List.map_nil]); first | done | rfl | (simp only [List.length_drop, List.length_take]; rfl)) ?_; (with_reducible refine (binding_Check.calls _ _ l0 a1_0 _ _ l1_1 _ _ l1_2 _ _ l1_3 _ _ l1_4 t155 _ ?side1 ?side2 ?side3 ?side4 ?side5 ?side6 ?side7 ?side8 ?side9 ?side10 A4.out).mono ?_); (case side1 => repeat (first | exact (Kd.C_below HR0.out HB.out) | (with_reducible refine Kd.C_alloc ?_ _) | (with_reducible refine Kd.C_drewN ?_ _) | (with_reducible refine Kd.C_drew ?_))); (case side2 => exact HC0.out); (case side3 => repeat (first | exact (Kd.C_below HR1_1.out HB.out) | (with_reducible refine Kd.C_alloc ?_ _) | (with_reducible refine Kd.C_drewN ?_ _) | (with_reducible refine Kd.C_drew ?_))); (case side4 => exact HC1_1.out); (case side5 => repeat (first | exact (Kd.C_below HR1_2.out HB.out) | (with_reducible refine Kd.C_alloc ?_ _) | (with_reducible refine Kd.C_drewN ?_ _) | (with_reducible refine Kd.C_drew ?_))); (case side6 => exact HC1_2.out); (case side7 => repeat (first | exact (Kd.C_below HR1_3.out HB.out) | (with_reducible refine Kd.C_alloc ?_ _) | (with_reducible refine Kd.C_drewN ?_ _) | (with_reducible refine Kd.C_drew ?_))); (case side8 => exact HC1_3.out); (case side9 => repeat (first | exact (Kd.C_below HR1_4.out HB.out) | (with_reducible refine Kd.C_alloc ?_ _) | (with_reducible refine Kd.C_drewN ?_ _) | (with_reducible refine Kd.C_drew ?_))); (case side10 => exact HC1_4.out); rintro e w23 ⟨rfl, hb⟩; refine ⟨_, rfl, ?_⟩; have n0_ := Aside0.mk (blk_below (g := gb154) (o := .cells #[.string a1_0, .slice A1_1 l1_1.length c1_1, .slice A1_2 l1_2.length c1_2, .slice A1_3 l1_3.length c1_3, .slice A1_4 l1_4.length c1_4] 27 (0, 0)) (by (with_reducible repeat (first | refine blk_drewN ?_ _ | refine blk_drew ?_ | refine blk_alloc ?_ _)); exact BK154.out) hb); have n1_ := Aside0.mk (below_step (by repeat (first | (with_reducible first | exact HB.out | apply below_alloc | apply pw_below_drewN | apply below_drew1 | refine below_set ?_ GE154.out) | exact HB.out)) hb); clear BK154; clear HB; have BK154 := n0_; have HB := n1_; clear n0_ n1_; (try clear hb); (try clear hb2); (try clear hk); (try clear hi)))
  go_ret
  exact ⟨by first | rfl | (simp [errW_none, errW_some] <;> rfl) | (simp [*, errW_none, errW_some] <;> rfl), by repeat (first | (with_reducible first | exact HB.out | apply below_alloc | apply pw_below_drewN | apply below_drew1 | refine below_set ?_ GE154.out) | exact HB.out)⟩

-- NOT PRINTED: function 60 (abi_NoEscape)

-- NOT PRINTED: function 58 (strings_Builder_copyCheck)

-- NOT PRINTED: function 61 (bytealg_MakeNoZero)

-- NOT PRINTED: function 59 (strings_Builder_grow)

-- NOT PRINTED: function 53 (strings_Builder_Grow)

-- NOT PRINTED: function 54 (strings_Builder_WriteString)

-- NOT PRINTED: function 55 (strings_Builder_String)




section
-- STUBBED 43
/-! ### strings_Join: function 43: by hand -/
open Go.Shelf
def joinRen : Go.Shelf.Ren := ⟨fun | 156 => 43 | 165 => 53 | 166 => 54 | 169 => 55 | 240 => 58 | 241 => 59 | 276 => 60 | 277 => 61 | n => n, fun | 31 => 49 | 9 => 9 | 3 => 3 | 4 => 4 | 0 => 0 | 20 => 20 | 72 => 83 | 76 => 87 | 70 => 80 | 37 => 81 | 75 => 86 | 127 => 92 | 164 => 93 | 5 => 5 | 80 => 89 | n => n, fun | n => n⟩
theorem joinLays : Go.Proofs.Lays.n156 Try.prog joinRen := {
  mixed := by kernel_rfl
  f156 := Try.func43.trans (congrArg some (by kernel_rfl))
  f165 := Try.func53.trans (congrArg some (by kernel_rfl))
  f166 := Try.func54.trans (congrArg some (by kernel_rfl))
  f169 := Try.func55.trans (congrArg some (by kernel_rfl))
  f240 := Try.func58.trans (congrArg some (by kernel_rfl))
  f241 := Try.func59.trans (congrArg some (by kernel_rfl))
  f276 := Try.func60.trans (congrArg some (by kernel_rfl))
  f277 := Try.func61.trans (congrArg some (by kernel_rfl))
  t0 := Try.underlying0
  a0 := Try.isAgg0
  z0 := Try.sizeOf0
  v0 := Try.zeroValue0
  t3 := Try.underlying3
  a3 := Try.isAgg3
  z3 := Try.sizeOf3
  v3 := Try.zeroValue3
  t4 := Try.underlying4
  a4 := Try.isAgg4
  z4 := Try.sizeOf4
  v4 := Try.zeroValue4
  t9 := Try.underlying9
  a9 := Try.isAgg9
  z9 := Try.sizeOf9
  v9 := Try.zeroValue9
  t20 := Try.underlying20
  a20 := Try.isAgg20
  z20 := Try.sizeOf20
  v20 := Try.zeroValue20
  t31 := Try.underlying49
  a31 := Try.isAgg49
  z31 := Try.sizeOf49
  v31 := Try.zeroValue49
  t37 := Try.underlying81
  a37 := Try.isAgg81
  z37 := Try.sizeOf81
  v37 := Try.zeroValue81
  t70 := Try.underlying80
  a70 := Try.isAgg80
  z70 := Try.sizeOf80
  v70 := Try.zeroValue80
  t72 := Try.underlying83
  a72 := Try.isAgg83
  z72 := Try.sizeOf83
  v72 := Try.zeroValue83
  t75 := Try.underlying86
  a75 := Try.isAgg86
  z75 := Try.sizeOf86
  v75 := Try.zeroValue86
  t76 := Try.underlying87
  a76 := Try.isAgg87
  z76 := Try.sizeOf87
  v76 := Try.zeroValue87
  t127 := Try.underlying92
  a127 := Try.isAgg92
  z127 := Try.sizeOf92
  v127 := Try.zeroValue92
  t164 := Try.underlying93
  a164 := Try.isAgg93
  z164 := Try.sizeOf93
  v164 := Try.zeroValue93 }
theorem joinExtra : Builder.Extra Try.prog joinRen := {
  sizeBuilder := by kernel_rfl
  liesBuilder := by kernel_rfl
  t5 := Try.underlying5
  a5 := Try.isAgg5
  z5 := Try.sizeOf5
  v5 := Try.zeroValue5
  infoByte := by kernel_rfl
  cellsByte := by kernel_rfl
  sizeByte := by kernel_rfl
  neB5 := by decide }
theorem join_none (a : Option Addr) (c : Nat) (sep : ByteArray) (w : World) :
    Calls Try.prog 43 #[.slice a 0 c, .string sep] w fun e w' => e = .returned (.string ⟨#[]⟩) ∧ w' = w := Go.Proofs.Any.strings_Join_none joinLays joinExtra a c sep w
theorem join_some (bk o c : Nat) (xs : List ByteArray) (sep : ByteArray) (w : World) (hcells : ∀ (j : Nat) x, xs[j]? = some x → w.cell? ⟨bk, o + j, none⟩ = some (.string x)) (hbk : bk < w.heap.size) (hN : xs.length ≤ 140737488355328) (hcap : xs.length ≤ c) (hlen : (Lib.join (xs.map (·.data.toList)) sep.data.toList).length ≤ 140737488355328) :
    Calls Try.prog 43 #[.slice (some ⟨bk, o, none⟩) xs.length c, .string sep] w fun e w' => e = .returned (.string ⟨(Lib.join (xs.map (·.data.toList)) sep.data.toList).toArray⟩) ∧ Below w.heap.size w w' := Go.Proofs.Any.strings_Join joinLays joinExtra bk o c xs sep w hcells hbk hN hcap hlen
def joinB (l0 : List ByteArray) (sep : ByteArray) : ByteArray := ⟨(Lib.join (l0.map (·.data.toList)) sep.data.toList).toArray⟩
def strings_Join.f (l0 : List ByteArray) (a1 : ByteArray) : Option ByteArray := if l0.length ≤ 1000 ∧ (Lib.join (l0.map (·.data.toList)) a1.data.toList).length ≤ 1099511627776 then some (joinB l0 a1) else none
theorem strings_Join.calls (A0 : Option Addr) (c0 : Nat) (l0 : List ByteArray) (a1 : ByteArray) (r : ByteArray) (w : World) (hr0 : Kd.C Kd.string w A0 l0.length l0) (hc0 : l0.length ≤ c0) (h : strings_Join.f l0 a1 = some r) :
    Calls Try.prog 43 #[.slice A0 l0.length c0, .string a1] w fun e w' => e = .returned (.string r) ∧ Below w.heap.size w w' := by
  unfold strings_Join.f at h
  split at h
  · rename_i hle
    obtain rfl := Option.some.inj h
    cases hl : l0 with
    | nil =>
      refine (join_none A0 c0 a1 w).mono ?_
      rintro e w' ⟨rfl, rfl⟩
      exact ⟨by simp [joinB, Lib.join], Below.refl _ _⟩
    | cons x0 xs =>
      rw [← hl]
      have hpos : 0 < l0.length := by rw [hl]; simp
      obtain ⟨ad, e, hx⟩ := Kd.at_string hr0 0 (by omega) (by omega)
      have hx' : w.cell? ad = some (.string (rdOf ByteArray.empty l0 0)) := by simpa [Addr.add] using hx
      have hsp : ad.spot = none := by
        unfold World.cell? at hx'
        split at hx'
        · split at hx'
          · cases hx'
          · rename_i hs
            cases hq : ad.spot with
            | none => rfl
            | some q => rw [hq] at hs; simp at hs
        · cases hx'
      obtain ⟨bk, o, sp⟩ := ad
      simp only at hsp
      subst hsp
      subst e
      refine join_some bk o c0 l0 a1 w ?_ (World.block_lt_of_cell? w _ hx') (by omega) hc0 (by omega)
      intro j x hj
      obtain ⟨hjl, hjx⟩ := List.getElem?_eq_some_iff.1 hj
      obtain ⟨ad2, e2, h2⟩ := Kd.at_string hr0 (j : Int) (by omega) (by omega)
      cases e2
      rw [Int.toNat_natCast] at h2
      have hr : rdOf ByteArray.empty l0 (j : Int) = x := by simp [rdOf, hj]
      rw [hr] at h2
      rw [← h2]
      unfold Addr.add
      split
      · rename_i h0; subst h0; rfl
      · rfl
  · cases h


end



/-! ### binding_Text: function 20 -/
mutual
def binding_Text.j0 : Nat → List (S51) → List Int → Bool → ByteArray → List (S48) → List (S62) → List (S111) → List (S111) → Option (ByteArray)
 | 0, _, _, _, _, _, _, _, _ => none
 | k + 1, x0, x2, x20, x159000, x159001, x159002, x159003, x159004 => if x20 = true then (some (⟨#[]⟩ : ByteArray)) else (if (x2.length : Int) = 0 then (some (⟨#[45]⟩ : ByteArray)) else (binding_Text.l0 k x0 x2 ([] : List ByteArray) x159001 (x159001.length : Int) 0))
def binding_Text.l0 : Nat → List (S51) → List Int → List ByteArray → List (S48) → Int → Int → Option (ByteArray)
 | 0, _, _, _, _, _, _ => none
 | k + 1, x0, x2, x7, x25, x26, x27 => if x27 < x26 then (if 0 ≤ x27 then (if x27 < (x25.length : Int) then (if ((rd_T48 x25 x27).f0).size + 1 ≤ 9223372036854775807 then (if 0 ≤ ((rd_T48 x25 x27).f1) then (if ((rd_T48 x25 x27).f1) < (x0.length : Int) then (if x27 < (x2.length : Int) then (if 0 ≤ (rd x2 x27) then (if (rd x2 x27) < (((rd_T51 x0 ((rd_T48 x25 x27).f1)).f1).length : Int) then (if (((rd_T48 x25 x27).f0) ++ (⟨#[61]⟩ : ByteArray)).size + (rdOf ByteArray.empty ((rd_T51 x0 ((rd_T48 x25 x27).f1)).f1) (rd x2 x27)).size ≤ 9223372036854775807 then (if x7.length < 8796093022208 then (binding_Text.l0 k x0 x2 (x7 ++ [(((rd_T48 x25 x27).f0) ++ (⟨#[61]⟩ : ByteArray)) ++ (rdOf ByteArray.empty ((rd_T51 x0 ((rd_T48 x25 x27).f1)).f1) (rd x2 x27))]) x25 x26 (wrap64 (x27 + 1))) else (none)) else (none)) else (none)) else (none)) else (none)) else (none)) else (none)) else (none)) else (none)) else (none)) else ((strings_Join.f x7 (⟨#[44]⟩ : ByteArray)).bind fun t169 => (some t169))
end
def binding_Text.f (k : Nat) (l0 : List (S51)) (a1_0 : ByteArray) (l1_1 : List (S48)) (l1_2 : List (S62)) (l1_3 : List (S111)) (l1_4 : List (S111)) (l2 : List Int) : Option (ByteArray) := (binding_Check.f l0 a1_0 l1_1 l1_2 l1_3 l1_4).bind fun t159 => (if t159 = 0 then ((binding_is.f k l0 a1_0 l1_1 l1_2 l1_3 l1_4 l2).bind fun t160 => (binding_Text.j0 k l0 l2 (!t160) a1_0 l1_1 l1_2 l1_3 l1_4)) else (binding_Text.j0 k l0 l2 true a1_0 l1_1 l1_2 l1_3 l1_4))
theorem binding_Text.mono_l : ∀ k, (∀ y0 y1 y2 y3 y4 y5 y6 y7, LeO (binding_Text.j0 k y0 y1 y2 y3 y4 y5 y6 y7) (binding_Text.j0 (k + 1) y0 y1 y2 y3 y4 y5 y6 y7)) ∧ (∀ y0 y1 y2 y3 y4 y5, LeO (binding_Text.l0 k y0 y1 y2 y3 y4 y5) (binding_Text.l0 (k + 1) y0 y1 y2 y3 y4 y5))
 | 0 => ⟨fun _ _ _ _ _ _ _ _ r h => by simp [binding_Text.j0] at h, fun _ _ _ _ _ _ r h => by simp [binding_Text.l0] at h⟩
 | k + 1 => by
  obtain ⟨ih0, ih1⟩ := binding_Text.mono_l k
  refine ⟨?_, ?_⟩
  ·intro y0 y1 y2 y3 y4 y5 y6 y7
   unfold binding_Text.j0
   repeat' first
   | (with_reducible exact ih0 _ _ _ _ _ _ _ _)
   | (with_reducible exact ih1 _ _ _ _ _ _)
   | (with_reducible exact binding_is.mono _ _ _ _ _ _ _ _)
   | (with_reducible exact LeO.refl _)
   | (with_reducible exact LeO.none _)
   | (with_reducible refine LeO.ite ?_ ?_)
   | (with_reducible refine LeO.bind ?_ (fun _ => ?_))
   | exact ih0 _ _ _ _ _ _ _ _
   | exact ih1 _ _ _ _ _ _
   | exact binding_is.mono _ _ _ _ _ _ _ _
   | exact LeO.none _
   | refine LeO.ite ?_ ?_
   | refine LeO.bind ?_ (fun _ => ?_)
  ·intro y0 y1 y2 y3 y4 y5
   unfold binding_Text.l0
   repeat' first
   | (with_reducible exact ih0 _ _ _ _ _ _ _ _)
   | (with_reducible exact ih1 _ _ _ _ _ _)
   | (with_reducible exact binding_is.mono _ _ _ _ _ _ _ _)
   | (with_reducible exact LeO.refl _)
   | (with_reducible exact LeO.none _)
   | (with_reducible refine LeO.ite ?_ ?_)
   | (with_reducible refine LeO.bind ?_ (fun _ => ?_))
   | exact ih0 _ _ _ _ _ _ _ _
   | exact ih1 _ _ _ _ _ _
   | exact binding_is.mono _ _ _ _ _ _ _ _
   | exact LeO.none _
   | refine LeO.ite ?_ ?_
   | refine LeO.bind ?_ (fun _ => ?_)
theorem binding_Text.mono : ∀ a0 a1 a2 a3 a4 a5 a6 k, LeO (binding_Text.f k a0 a1 a2 a3 a4 a5 a6) (binding_Text.f (k + 1) a0 a1 a2 a3 a4 a5 a6) := by
 intro a0 a1 a2 a3 a4 a5 a6 k
 obtain ⟨ih0, ih1⟩ := binding_Text.mono_l k
 unfold binding_Text.f
 repeat' first
   | (with_reducible exact ih0 _ _ _ _ _ _ _ _)
   | (with_reducible exact ih1 _ _ _ _ _ _)
   | (with_reducible exact binding_is.mono _ _ _ _ _ _ _ _)
   | (with_reducible exact LeO.refl _)
   | (with_reducible exact LeO.none _)
   | (with_reducible refine LeO.ite ?_ ?_)
   | (with_reducible refine LeO.bind ?_ (fun _ => ?_))
   | exact ih0 _ _ _ _ _ _ _ _
   | exact ih1 _ _ _ _ _ _
   | exact binding_is.mono _ _ _ _ _ _ _ _
   | exact LeO.none _
   | refine LeO.ite ?_ ?_
   | refine LeO.bind ?_ (fun _ => ?_)
def binding_Text.T9 : Bool × List (List Nat × List Nat) := (true, [([], []), ([], []), ([1], [1]), ([2], [2]), ([], []), ([], []), ([5], [5]), ([4, 6], [4, 6]), ([7], [7]), ([8], [8]), ([], []), ([], []), ([10, 11], [10, 11]), ([12], [12]), ([9, 13], [9, 13]), ([14], [14]), ([3, 15], [3, 15]), ([16], [16]), ([0, 17], [0, 17]), ([18, 18, 0, 1, 2, 3, 4, 5, 6, 7, 8, 9, 10, 11, 12, 13, 14, 15, 16, 17, 18], [0, 18])])
def binding_Text.B9 : List Nat := [0, 0, 2, 6, 0, 0, 32, 112, 240, 496, 0, 0, 3072, 7168, 16368, 32752, 65534, 131070, 262143, 524287]
theorem binding_Text.tab9 : rtab .any (opsOf Try.f20 9) = binding_Text.T9 := by kernel_rfl
theorem binding_Text.bits9 : waitsOk binding_Text.T9.2 binding_Text.B9 = true := by kernel_rfl
set_option maxHeartbeats 8000000 in
set_option maxRecDepth 100000 in
theorem binding_Text.calls (k : Nat) (A0 : Option Addr) (c0 : Nat) (l0 : List (S51)) (a1_0 : ByteArray) (A1_1 : Option Addr) (c1_1 : Nat) (l1_1 : List (S48)) (A1_2 : Option Addr) (c1_2 : Nat) (l1_2 : List (S62)) (A1_3 : Option Addr) (c1_3 : Nat) (l1_3 : List (S111)) (A1_4 : Option Addr) (c1_4 : Nat) (l1_4 : List (S111)) (A2 : Option Addr) (c2 : Nat) (l2 : List Int) (r : ByteArray) (w : World) (hr0 : Kd.C k51 w A0 l0.length l0) (hc0 : l0.length ≤ c0) (hr1_1 : Kd.C k48 w A1_1 l1_1.length l1_1) (hc1_1 : l1_1.length ≤ c1_1) (hr1_2 : Kd.C k62 w A1_2 l1_2.length l1_2) (hc1_2 : l1_2.length ≤ c1_2) (hr1_3 : Kd.C k111 w A1_3 l1_3.length l1_3) (hc1_3 : l1_3.length ≤ c1_3) (hr1_4 : Kd.C k111 w A1_4 l1_4.length l1_4) (hc1_4 : l1_4.length ≤ c1_4) (hr2 : Kd.C (Kd.int .i64) w A2 l2.length l2) (hc2 : l2.length ≤ c2) (h : binding_Text.f k l0 a1_0 l1_1 l1_2 l1_3 l1_4 l2 = some r) :
  Calls Try.prog 20 #[.slice A0 l0.length c0, .agg #[.string a1_0, .slice A1_1 l1_1.length c1_1, .slice A1_2 l1_2.length c1_2, .slice A1_3 l1_3.length c1_3, .slice A1_4 l1_4.length c1_4], .slice A2 l2.length c2] w fun e w' => e = .returned (.string r) ∧ Below w.heap.size w w' := by
 have hu27 := Try.underlying27
 have hu9 := Try.underlying9
 have hu23 := Try.underlying23
 have hu24 := Try.underlying24
 have hu25 := Try.underlying25
 have hu48 := Try.underlying48
 have hu3 := Try.underlying3
 have hu9 := Try.underlying9
 have HR0 := Aside0.mk hr0
 have HC0 := Aside0.mk hc0
 clear hr0 hc0
 have HR1_1 := Aside0.mk hr1_1
 have HC1_1 := Aside0.mk hc1_1
 clear hr1_1 hc1_1
 have HR1_2 := Aside0.mk hr1_2
 have HC1_2 := Aside0.mk hc1_2
 clear hr1_2 hc1_2
 have HR1_3 := Aside0.mk hr1_3
 have HC1_3 := Aside0.mk hc1_3
 clear hr1_3 hc1_3
 have HR1_4 := Aside0.mk hr1_4
 have HC1_4 := Aside0.mk hc1_4
 clear hr1_4 hc1_4
 have HR2 := Aside0.mk hr2
 have HC2 := Aside0.mk hc2
 clear hr2 hc2
 have HB := Aside0.mk (Below.refl w.heap.size w)
 have H : ((binding_Check.f l0 a1_0 l1_1 l1_2 l1_3 l1_4).bind fun t159 => (if t159 = 0 then ((binding_is.f k l0 a1_0 l1_1 l1_2 l1_3 l1_4 l2).bind fun t160 => (binding_Text.j0 k l0 l2 (!t160) a1_0 l1_1 l1_2 l1_3 l1_4)) else (binding_Text.j0 k l0 l2 true a1_0 l1_1 l1_2 l1_3 l1_4))) = some r := h
 clear h
 have HC4 := Aside0.mk H
 clear H
 go_enter Try.func20, Try.ntmps20
 go_upto_region 1 with (first | ((with_reducible refine gate_dst (N := 4) rfl ?_); refine box_event ?hg (N := 4) ?hd (cs := #[.string a1_0, .slice A1_1 l1_1.length c1_1, .slice A1_2 l1_2.length c1_2, .slice A1_3 l1_3.length c1_3, .slice A1_4 l1_4.length c1_4]) (t := 27) ?hr ?_; (case hd => rfl); (case hg => rfl); (case hr => first | (go_simp; done) | (go_simp; rfl)); intro gb158 hg w5 hbox hb; have n0_ := Aside0.mk (below_step (by repeat (first | (with_reducible first | exact HB.out | apply below_alloc | apply pw_below_drewN | apply below_drew1) | exact HB.out)) hb); have n1_ := Aside0.mk (hbox); have n2_ := Aside0.mk ((by rw [hg]; exact (below_size (by repeat (first | (with_reducible first | exact HB.out | apply below_alloc | apply pw_below_drewN | apply below_drew1) | exact HB.out))) : w.heap.size ≤ gb158)); have n3_ := Aside0.mk ((by rw [hg]; exact (below_size (by repeat (first | (with_reducible first | exact HB.out | apply below_alloc | apply pw_below_drewN | apply below_drew1) | exact HB.out))) : w.heap.size ≤ gb158)); clear HB; have HB := n0_; have BK158 := n1_; have GW158 := n2_; have GE158 := n3_; clear n0_ n1_ n2_ n3_; clear hb hbox hg))
 (try simp only [Act.put, List.setIfInBounds_toArray, List.set_cons_zero, List.set_cons_succ])
 go_cut [20] (fun v20 wc => ∃ (kq : Nat) (x20_3 : Bool), v20 = .bool x20_3 ∧ Aside0 (binding_Text.j0 kq l0 l2 x20_3 a1_0 l1_1 l1_2 l1_3 l1_4 = some r) ∧ Aside0 (kq ≤ k) ∧ Aside0 (wc.heap[gb158]? = some (.cells #[.string a1_0, (.slice A1_1 l1_1.length c1_1), (.slice A1_2 l1_2.length c1_2), (.slice A1_3 l1_3.length c1_3), (.slice A1_4 l1_4.length c1_4)] 27 (0, 0))) ∧ Aside0 (Below w.heap.size w wc))
 case first =>
  have H := HC4.out
  clear HC4
  replace H := Option.bind_eq_some_iff.mp H
  obtain ⟨t159, A60, H⟩ := H
  replace H : (if t159 = 0 then ((binding_is.f k l0 a1_0 l1_1 l1_2 l1_3 l1_4 l2).bind fun t160 => (binding_Text.j0 k l0 l2 (!t160) a1_0 l1_1 l1_2 l1_3 l1_4)) else (binding_Text.j0 k l0 l2 true a1_0 l1_1 l1_2 l1_3 l1_4)) = some r := H
  have A6 := Aside0.mk A60
  clear A60
  by_cases c7 : t159 = 0
  ·rw [if_pos c7] at H
   have c7b0 : (t159 == 0) = true := beq_iff_eq.mpr c7
   have c7b1 : (t159 != 0) = false := bne_eq_false_iff_eq.mpr c7
   clear c7
   (first | rw [c7b0] | (simp only [i64_w, i32_w]; rw [c7b0]) | skip)
   replace H := Option.bind_eq_some_iff.mp H
   obtain ⟨t160, A80, H⟩ := H
   replace H : (binding_Text.j0 k l0 l2 (!t160) a1_0 l1_1 l1_2 l1_3 l1_4) = some r := H
   have A8 := Aside0.mk A80
   clear A80
   have H' := Aside0.mk H
   clear H
   have hcz9_0 : w5.cell? ⟨gb158, 0, none⟩ = some (.string a1_0) := (blk_cell BK158.out 0).trans rfl
   have hcz9_1 : w5.cell? ⟨gb158, 1, none⟩ = some (.slice A1_1 l1_1.length c1_1) := (blk_cell BK158.out 1).trans rfl
   have hcz9_2 : w5.cell? ⟨gb158, 2, none⟩ = some (.slice A1_2 l1_2.length c1_2) := (blk_cell BK158.out 2).trans rfl
   have hcz9_3 : w5.cell? ⟨gb158, 3, none⟩ = some (.slice A1_3 l1_3.length c1_3) := (blk_cell BK158.out 3).trans rfl
   have hcz9_4 : w5.cell? ⟨gb158, 4, none⟩ = some (.slice A1_4 l1_4.length c1_4) := (blk_cell BK158.out 4).trans rfl
   have hfz9_0 := blk_frozen BK158.out 0
   have hfz9_1 := blk_frozen BK158.out 1
   have hfz9_2 := blk_frozen BK158.out 2
   have hfz9_3 := blk_frozen BK158.out 3
   have hfz9_4 := blk_frozen BK158.out 4
   go_wp2_with (first | ((with_reducible refine gate_callee (f := 11) rfl ?_); refine goesL_ (some 12) rfl rfl Try.func11 (by kernel_rfl) rfl #[.slice A0 l0.length c0, .agg #[.string a1_0, .slice A1_1 l1_1.length c1_1, .slice A1_2 l1_2.length c1_2, .slice A1_3 l1_3.length c1_3, .slice A1_4 l1_4.length c1_4]] rfl (by (try simp only [List.map_toArray, List.map_cons, List.map_nil]); first | done | rfl | (simp only [List.length_drop, List.length_take]; rfl)) ?_; (with_reducible refine (binding_Check.calls _ _ l0 a1_0 _ _ l1_1 _ _ l1_2 _ _ l1_3 _ _ l1_4 t159 _ ?side1 ?side2 ?side3 ?side4 ?side5 ?side6 ?side7 ?side8 ?side9 ?side10 A6.out).mono ?_); (case side1 => repeat (first | exact (Kd.C_below HR0.out HB.out) | (with_reducible refine Kd.C_alloc ?_ _) | (with_reducible refine Kd.C_drewN ?_ _) | (with_reducible refine Kd.C_drew ?_))); (case side2 => exact HC0.out); (case side3 => repeat (first | exact (Kd.C_below HR1_1.out HB.out) | (with_reducible refine Kd.C_alloc ?_ _) | (with_reducible refine Kd.C_drewN ?_ _) | (with_reducible refine Kd.C_drew ?_))); (case side4 => exact HC1_1.out); (case side5 => repeat (first | exact (Kd.C_below HR1_2.out HB.out) | (with_reducible refine Kd.C_alloc ?_ _) | (with_reducible refine Kd.C_drewN ?_ _) | (with_reducible refine Kd.C_drew ?_))); (case side6 => exact HC1_2.out); (case side7 => repeat (first | exact (Kd.C_below HR1_3.out HB.out) | (with_reducible refine Kd.C_alloc ?_ _) | (with_reducible refine Kd.C_drewN ?_ _) | (with_reducible refine Kd.C_drew ?_))); (case side8 => exact HC1_3.out); (case side9 => repeat (first | exact (Kd.C_below HR1_4.out HB.out) | (with_reducible refine Kd.C_alloc ?_ _) | (with_reducible refine Kd.C_drewN ?_ _) | (with_reducible refine Kd.C_drew ?_))); (case side10 => exact HC1_4.out); rintro e w10 ⟨rfl, hb⟩; refine ⟨_, rfl, ?_⟩; have n0_ := Aside0.mk (blk_below (g := gb158) (o := .cells #[.string a1_0, .slice A1_1 l1_1.length c1_1, .slice A1_2 l1_2.length c1_2, .slice A1_3 l1_3.length c1_3, .slice A1_4 l1_4.length c1_4] 27 (0, 0)) (by (with_reducible repeat (first | refine blk_drewN ?_ _ | refine blk_drew ?_ | refine blk_alloc ?_ _)); exact BK158.out) hb); have n1_ := Aside0.mk (below_step (by repeat (first | (with_reducible first | exact HB.out | apply below_alloc | apply pw_below_drewN | apply below_drew1 | refine below_set ?_ GE158.out) | exact HB.out)) hb); clear BK158; clear HB; have BK158 := n0_; have HB := n1_; clear n0_ n1_; (try clear hb); (try clear hb2); (try clear hk); (try clear hi); have hcz11_0 : w10.cell? ⟨gb158, 0, none⟩ = some (.string a1_0) := (blk_cell BK158.out 0).trans rfl; have hcz11_1 : w10.cell? ⟨gb158, 1, none⟩ = some (.slice A1_1 l1_1.length c1_1) := (blk_cell BK158.out 1).trans rfl; have hcz11_2 : w10.cell? ⟨gb158, 2, none⟩ = some (.slice A1_2 l1_2.length c1_2) := (blk_cell BK158.out 2).trans rfl; have hcz11_3 : w10.cell? ⟨gb158, 3, none⟩ = some (.slice A1_3 l1_3.length c1_3) := (blk_cell BK158.out 3).trans rfl; have hcz11_4 : w10.cell? ⟨gb158, 4, none⟩ = some (.slice A1_4 l1_4.length c1_4) := (blk_cell BK158.out 4).trans rfl; have hfz11_0 := blk_frozen BK158.out 0; have hfz11_1 := blk_frozen BK158.out 1; have hfz11_2 := blk_frozen BK158.out 2; have hfz11_3 := blk_frozen BK158.out 3; have hfz11_4 := blk_frozen BK158.out 4) | (go_at_call 37; (with_reducible refine (binding_is.calls k _ _ l0 a1_0 _ _ l1_1 _ _ l1_2 _ _ l1_3 _ _ l1_4 _ _ l2 t160 _ ?side1 ?side2 ?side3 ?side4 ?side5 ?side6 ?side7 ?side8 ?side9 ?side10 ?side11 ?side12 A8.out).mono ?_); (case side1 => repeat (first | exact (Kd.C_below HR0.out HB.out) | (with_reducible refine Kd.C_alloc ?_ _) | (with_reducible refine Kd.C_drewN ?_ _) | (with_reducible refine Kd.C_drew ?_))); (case side2 => exact HC0.out); (case side3 => repeat (first | exact (Kd.C_below HR1_1.out HB.out) | (with_reducible refine Kd.C_alloc ?_ _) | (with_reducible refine Kd.C_drewN ?_ _) | (with_reducible refine Kd.C_drew ?_))); (case side4 => exact HC1_1.out); (case side5 => repeat (first | exact (Kd.C_below HR1_2.out HB.out) | (with_reducible refine Kd.C_alloc ?_ _) | (with_reducible refine Kd.C_drewN ?_ _) | (with_reducible refine Kd.C_drew ?_))); (case side6 => exact HC1_2.out); (case side7 => repeat (first | exact (Kd.C_below HR1_3.out HB.out) | (with_reducible refine Kd.C_alloc ?_ _) | (with_reducible refine Kd.C_drewN ?_ _) | (with_reducible refine Kd.C_drew ?_))); (case side8 => exact HC1_3.out); (case side9 => repeat (first | exact (Kd.C_below HR1_4.out HB.out) | (with_reducible refine Kd.C_alloc ?_ _) | (with_reducible refine Kd.C_drewN ?_ _) | (with_reducible refine Kd.C_drew ?_))); (case side10 => exact HC1_4.out); (case side11 => repeat (first | exact (Kd.C_below HR2.out HB.out) | (with_reducible refine Kd.C_alloc ?_ _) | (with_reducible refine Kd.C_drewN ?_ _) | (with_reducible refine Kd.C_drew ?_))); (case side12 => exact HC2.out); rintro e w12 ⟨rfl, hb⟩; have n0_ := Aside0.mk (blk_below (g := gb158) (o := .cells #[.string a1_0, .slice A1_1 l1_1.length c1_1, .slice A1_2 l1_2.length c1_2, .slice A1_3 l1_3.length c1_3, .slice A1_4 l1_4.length c1_4] 27 (0, 0)) (by (with_reducible repeat (first | refine blk_drewN ?_ _ | refine blk_drew ?_ | refine blk_alloc ?_ _)); exact BK158.out) hb); have n1_ := Aside0.mk (below_step (by repeat (first | (with_reducible first | exact HB.out | apply below_alloc | apply pw_below_drewN | apply below_drew1 | refine below_set ?_ GE158.out) | exact HB.out)) hb); clear BK158; clear HB; have BK158 := n0_; have HB := n1_; clear n0_ n1_; (try clear hb); (try clear hb2); (try clear hk); (try clear hi)))
   go_meet
   case rel => exact ⟨_, (!t160), (by first | rfl | (simp; done) | (simp [*]; done) | (simp [i64_w]; done)), H', ⟨by first | omega | exact Nat.le_refl _⟩, ⟨by (with_reducible repeat (first | refine blk_drewN ?_ _ | refine blk_drew ?_ | refine blk_alloc ?_ _)); exact BK158.out⟩, ⟨by repeat (first | (with_reducible first | exact HB.out | apply below_alloc | apply pw_below_drewN | apply below_drew1 | refine below_set ?_ GE158.out) | exact HB.out)⟩⟩
  ·rw [if_neg c7] at H
   have c7b0 : (t159 == 0) = false := beq_eq_false_iff_ne.mpr c7
   have c7b1 : (t159 != 0) = true := bne_iff_ne.mpr c7
   (first | rw [c7b0] | (simp only [i64_w, i32_w]; rw [c7b0]) | skip)
   have H' := Aside0.mk H
   clear H
   have hcz13_0 : w5.cell? ⟨gb158, 0, none⟩ = some (.string a1_0) := (blk_cell BK158.out 0).trans rfl
   have hcz13_1 : w5.cell? ⟨gb158, 1, none⟩ = some (.slice A1_1 l1_1.length c1_1) := (blk_cell BK158.out 1).trans rfl
   have hcz13_2 : w5.cell? ⟨gb158, 2, none⟩ = some (.slice A1_2 l1_2.length c1_2) := (blk_cell BK158.out 2).trans rfl
   have hcz13_3 : w5.cell? ⟨gb158, 3, none⟩ = some (.slice A1_3 l1_3.length c1_3) := (blk_cell BK158.out 3).trans rfl
   have hcz13_4 : w5.cell? ⟨gb158, 4, none⟩ = some (.slice A1_4 l1_4.length c1_4) := (blk_cell BK158.out 4).trans rfl
   have hfz13_0 := blk_frozen BK158.out 0
   have hfz13_1 := blk_frozen BK158.out 1
   have hfz13_2 := blk_frozen BK158.out 2
   have hfz13_3 := blk_frozen BK158.out 3
   have hfz13_4 := blk_frozen BK158.out 4
   go_wp2_with (first | ((with_reducible refine gate_callee (f := 11) rfl ?_); refine goesL_ (some 12) rfl rfl Try.func11 (by kernel_rfl) rfl #[.slice A0 l0.length c0, .agg #[.string a1_0, .slice A1_1 l1_1.length c1_1, .slice A1_2 l1_2.length c1_2, .slice A1_3 l1_3.length c1_3, .slice A1_4 l1_4.length c1_4]] rfl (by (try simp only [List.map_toArray, List.map_cons, List.map_nil]); first | done | rfl | (simp only [List.length_drop, List.length_take]; rfl)) ?_; (with_reducible refine (binding_Check.calls _ _ l0 a1_0 _ _ l1_1 _ _ l1_2 _ _ l1_3 _ _ l1_4 t159 _ ?side1 ?side2 ?side3 ?side4 ?side5 ?side6 ?side7 ?side8 ?side9 ?side10 A6.out).mono ?_); (case side1 => repeat (first | exact (Kd.C_below HR0.out HB.out) | (with_reducible refine Kd.C_alloc ?_ _) | (with_reducible refine Kd.C_drewN ?_ _) | (with_reducible refine Kd.C_drew ?_))); (case side2 => exact HC0.out); (case side3 => repeat (first | exact (Kd.C_below HR1_1.out HB.out) | (with_reducible refine Kd.C_alloc ?_ _) | (with_reducible refine Kd.C_drewN ?_ _) | (with_reducible refine Kd.C_drew ?_))); (case side4 => exact HC1_1.out); (case side5 => repeat (first | exact (Kd.C_below HR1_2.out HB.out) | (with_reducible refine Kd.C_alloc ?_ _) | (with_reducible refine Kd.C_drewN ?_ _) | (with_reducible refine Kd.C_drew ?_))); (case side6 => exact HC1_2.out); (case side7 => repeat (first | exact (Kd.C_below HR1_3.out HB.out) | (with_reducible refine Kd.C_alloc ?_ _) | (with_reducible refine Kd.C_drewN ?_ _) | (with_reducible refine Kd.C_drew ?_))); (case side8 => exact HC1_3.out); (case side9 => repeat (first | exact (Kd.C_below HR1_4.out HB.out) | (with_reducible refine Kd.C_alloc ?_ _) | (with_reducible refine Kd.C_drewN ?_ _) | (with_reducible refine Kd.C_drew ?_))); (case side10 => exact HC1_4.out); rintro e w14 ⟨rfl, hb⟩; refine ⟨_, rfl, ?_⟩; have n0_ := Aside0.mk (blk_below (g := gb158) (o := .cells #[.string a1_0, .slice A1_1 l1_1.length c1_1, .slice A1_2 l1_2.length c1_2, .slice A1_3 l1_3.length c1_3, .slice A1_4 l1_4.length c1_4] 27 (0, 0)) (by (with_reducible repeat (first | refine blk_drewN ?_ _ | refine blk_drew ?_ | refine blk_alloc ?_ _)); exact BK158.out) hb); have n1_ := Aside0.mk (below_step (by repeat (first | (with_reducible first | exact HB.out | apply below_alloc | apply pw_below_drewN | apply below_drew1 | refine below_set ?_ GE158.out) | exact HB.out)) hb); clear BK158; clear HB; have BK158 := n0_; have HB := n1_; clear n0_ n1_; (try clear hb); (try clear hb2); (try clear hk); (try clear hi)))
   go_meet
   case rel => exact ⟨_, (true), (by first | rfl | (simp; done) | (simp [*]; done) | (simp [i64_w]; done)), H', ⟨by first | omega | exact Nat.le_refl _⟩, ⟨by (with_reducible repeat (first | refine blk_drewN ?_ _ | refine blk_drew ?_ | refine blk_alloc ?_ _)); exact BK158.out⟩, ⟨by repeat (first | (with_reducible first | exact HB.out | apply below_alloc | apply pw_below_drewN | apply below_drew1 | refine below_set ?_ GE158.out) | exact HB.out)⟩⟩
 case rest =>
  clear HC4
  try clear c1
  try clear c2
  try clear p2
  try clear c7
  try clear c7b0
  try clear c7b1
  try clear c11
  try clear hcz11_0
  try clear hcz11_1
  try clear hcz11_2
  try clear hcz11_3
  try clear hcz11_4
  try clear hcz13_0
  try clear hcz13_1
  try clear hcz13_2
  try clear hcz13_3
  try clear hcz13_4
  try clear hcz9_0
  try clear hcz9_1
  try clear hcz9_2
  try clear hcz9_3
  try clear hcz9_4
  try clear hfz11_0
  try clear hfz11_1
  try clear hfz11_2
  try clear hfz11_3
  try clear hfz11_4
  try clear hfz13_0
  try clear hfz13_1
  try clear hfz13_2
  try clear hfz13_3
  try clear hfz13_4
  try clear hfz9_0
  try clear hfz9_1
  try clear hfz9_2
  try clear hfz9_3
  try clear hfz9_4
  obtain ⟨kq, x20_3, rfl, HA, HJ3, BK158, HB⟩ := hcut
  cases kq with
  | zero => exact absurd HA.out (by simp [binding_Text.j0])
  | succ kj3 =>
   have H := HA.out
   clear HA
   simp only [binding_Text.j0] at H
   by_cases c15 : x20_3 = true
   ·subst c15
    have H1 : (some (⟨#[]⟩ : ByteArray)) = some r := by rw [if_pos rfl] at H; exact H
    clear H
    have H := H1
    clear H1
    obtain rfl := Option.some.inj H
    go_wp2
    go_ret
    exact ⟨by first | rfl | (simp [errW_none, errW_some] <;> rfl) | (simp [*, errW_none, errW_some] <;> rfl), by repeat (first | (with_reducible first | exact HB.out | apply below_alloc | apply pw_below_drewN | apply below_drew1 | refine below_set ?_ GE158.out) | exact HB.out)⟩
   ·replace c15 := Bool.eq_false_iff.mpr c15
    subst c15
    have H1 : (if (l2.length : Int) = 0 then (some (⟨#[45]⟩ : ByteArray)) else (binding_Text.l0 kj3 l0 l2 ([] : List ByteArray) l1_1 (l1_1.length : Int) 0)) = some r := by rw [if_neg (show ¬ (false = true) by decide)] at H; exact H
    clear H
    have H := H1
    clear H1
    by_cases c16 : (l2.length : Int) = 0
    ·rw [if_pos c16] at H
     have c16b0 : ((l2.length : Int) == 0) = true := beq_iff_eq.mpr c16
     have c16b1 : ((l2.length : Int) != 0) = false := bne_eq_false_iff_eq.mpr c16
     clear c16
     obtain rfl := Option.some.inj H
     go_wp2
     go_ret
     exact ⟨by first | rfl | (simp [errW_none, errW_some] <;> rfl) | (simp [*, errW_none, errW_some] <;> rfl), by repeat (first | (with_reducible first | exact HB.out | apply below_alloc | apply pw_below_drewN | apply below_drew1 | refine below_set ?_ GE158.out) | exact HB.out)⟩
    ·rw [if_neg c16] at H
     have c16b0 : ((l2.length : Int) == 0) = false := beq_eq_false_iff_ne.mpr c16
     have c16b1 : ((l2.length : Int) != 0) = true := bne_iff_ne.mpr c16
     have c16b2 : ¬ (l2 = []) := fun h_ => c16 (by rw [h_]; rfl)
     have H' := Aside0.mk H
     clear H
     have hcz17_0 : wc.cell? ⟨gb158, 0, none⟩ = some (.string a1_0) := (blk_cell BK158.out 0).trans rfl
     have hcz17_1 : wc.cell? ⟨gb158, 1, none⟩ = some (.slice A1_1 l1_1.length c1_1) := (blk_cell BK158.out 1).trans rfl
     have hcz17_2 : wc.cell? ⟨gb158, 2, none⟩ = some (.slice A1_2 l1_2.length c1_2) := (blk_cell BK158.out 2).trans rfl
     have hcz17_3 : wc.cell? ⟨gb158, 3, none⟩ = some (.slice A1_3 l1_3.length c1_3) := (blk_cell BK158.out 3).trans rfl
     have hcz17_4 : wc.cell? ⟨gb158, 4, none⟩ = some (.slice A1_4 l1_4.length c1_4) := (blk_cell BK158.out 4).trans rfl
     have hfz17_0 := blk_frozen BK158.out 0
     have hfz17_1 := blk_frozen BK158.out 1
     have hfz17_2 := blk_frozen BK158.out 2
     have hfz17_3 := blk_frozen BK158.out 3
     have hfz17_4 := blk_frozen BK158.out 4
     go_wp2
     go_loopg [7, 27] kj3 (fun kq v7 v27 w' => ∃ (x7_2 : List ByteArray) (x27_2 : Int), v27 = .int .i64 x27_2 ∧ Aside0 (binding_Text.l0 kq l0 l2 x7_2 l1_1 (l1_1.length : Int) x27_2 = some r) ∧ Aside0 (kq ≤ kj3) ∧ Aside0 (Kd.R Kd.string 9 w' w.heap.size (fun _ => True) v7 x7_2) ∧ Aside0 (w'.heap[gb158]? = some (.cells #[.string a1_0, (.slice A1_1 l1_1.length c1_1), (.slice A1_2 l1_2.length c1_2), (.slice A1_3 l1_3.length c1_3), (.slice A1_4 l1_4.length c1_4)] 27 (0, 0))) ∧ Aside0 (Below w.heap.size w w'))
     case atStart => exact ⟨(([] : List ByteArray)), (0), (by first | rfl | (simp; done) | (simp [*]; done) | (simp [i64_w]; done)), H', ⟨Nat.le_refl _⟩, ⟨by first | exact Kd.R_nil _ _ _ _ _ | exact Kd.N_nil _ _ _ _ _ | exact Kd.V_nil _ _ _ _ _ | exact Kd.Q_nil _ _ _ _ _ | exact Kd.S_nil _ _ _ _ _⟩, ⟨by (with_reducible repeat (first | refine blk_drewN ?_ _ | refine blk_drew ?_ | refine blk_alloc ?_ _)); exact BK158.out⟩, ⟨by repeat (first | (with_reducible first | exact HB.out | apply below_alloc | apply pw_below_drewN | apply below_drew1 | refine below_set ?_ GE158.out) | exact HB.out)⟩⟩
     case round =>
      clear H'
      try clear c1
      try clear c2
      try clear p2
      try clear c7
      try clear c7b0
      try clear c7b1
      try clear c11
      try clear c15
      try clear c16
      try clear c16b0
      try clear c16b1
      try clear c16b2
      try clear hcz11_0
      try clear hcz11_1
      try clear hcz11_2
      try clear hcz11_3
      try clear hcz11_4
      try clear hcz13_0
      try clear hcz13_1
      try clear hcz13_2
      try clear hcz13_3
      try clear hcz13_4
      try clear hcz17_0
      try clear hcz17_1
      try clear hcz17_2
      try clear hcz17_3
      try clear hcz17_4
      try clear hcz9_0
      try clear hcz9_1
      try clear hcz9_2
      try clear hcz9_3
      try clear hcz9_4
      try clear hfz11_0
      try clear hfz11_1
      try clear hfz11_2
      try clear hfz11_3
      try clear hfz11_4
      try clear hfz13_0
      try clear hfz13_1
      try clear hfz13_2
      try clear hfz13_3
      try clear hfz13_4
      try clear hfz17_0
      try clear hfz17_1
      try clear hfz17_2
      try clear hfz17_3
      try clear hfz17_4
      try clear hfz9_0
      try clear hfz9_1
      try clear hfz9_2
      try clear hfz9_3
      try clear hfz9_4
      try clear p2
      obtain ⟨x7_2, x27_2, rfl, HA, HK2, HO_7, BK158, HB⟩ := hrel
      cases gk with
      | zero => exact absurd HA.out (by simp [binding_Text.l0])
      | succ k2 =>
       have H := HA.out
       clear HA
       simp only [binding_Text.l0] at H
       by_cases c18 : x27_2 < (l1_1.length : Int)
       ·rw [if_pos c18] at H
        have c18b0 : decide (x27_2 < (l1_1.length : Int)) = true := decide_eq_true c18
        clear c18
        by_cases c19 : 0 ≤ x27_2
        ·rw [if_pos c19] at H
         have c19b0 : decide (0 ≤ x27_2) = true := decide_eq_true c19
         clear c19
         by_cases c20 : x27_2 < (l1_1.length : Int)
         ·rw [if_pos c20] at H
          have c20b0 : decide (x27_2 < (l1_1.length : Int)) = true := decide_eq_true c20
          clear c20
          by_cases c21 : ((rd_T48 l1_1 x27_2).f0).size + 1 ≤ 9223372036854775807
          ·rw [if_pos c21] at H
           have c21b0 := eq_true c21
           have c21b1 : decide (((rd_T48 l1_1 x27_2).f0).size + 1 ≤ 9223372036854775807) = true := decide_eq_true c21
           try have c21b2 : (9223372036854775807 < ((rd_T48 l1_1 x27_2).f0).size + 1) = False := eq_false (Nat.not_lt.2 c21)
           by_cases c22 : 0 ≤ ((rd_T48 l1_1 x27_2).f1)
           ·rw [if_pos c22] at H
            have c22b0 : decide (0 ≤ ((rd_T48 l1_1 x27_2).f1)) = true := decide_eq_true c22
            clear c22
            by_cases c23 : ((rd_T48 l1_1 x27_2).f1) < (l0.length : Int)
            ·rw [if_pos c23] at H
             have c23b0 : decide (((rd_T48 l1_1 x27_2).f1) < (l0.length : Int)) = true := decide_eq_true c23
             clear c23
             by_cases c24 : x27_2 < (l2.length : Int)
             ·rw [if_pos c24] at H
              have c24b0 : decide (x27_2 < (l2.length : Int)) = true := decide_eq_true c24
              clear c24
              by_cases c25 : 0 ≤ (rd l2 x27_2)
              ·rw [if_pos c25] at H
               have c25b0 : decide (0 ≤ (rd l2 x27_2)) = true := decide_eq_true c25
               clear c25
               by_cases c26 : (rd l2 x27_2) < (((rd_T51 l0 ((rd_T48 l1_1 x27_2).f1)).f1).length : Int)
               ·rw [if_pos c26] at H
                have c26b0 : decide ((rd l2 x27_2) < (((rd_T51 l0 ((rd_T48 l1_1 x27_2).f1)).f1).length : Int)) = true := decide_eq_true c26
                clear c26
                by_cases c27 : (((rd_T48 l1_1 x27_2).f0) ++ (⟨#[61]⟩ : ByteArray)).size + (rdOf ByteArray.empty ((rd_T51 l0 ((rd_T48 l1_1 x27_2).f1)).f1) (rd l2 x27_2)).size ≤ 9223372036854775807
                ·rw [if_pos c27] at H
                 have c27b0 := eq_true c27
                 have c27b1 : decide ((((rd_T48 l1_1 x27_2).f0) ++ (⟨#[61]⟩ : ByteArray)).size + (rdOf ByteArray.empty ((rd_T51 l0 ((rd_T48 l1_1 x27_2).f1)).f1) (rd l2 x27_2)).size ≤ 9223372036854775807) = true := decide_eq_true c27
                 try have c27b2 : (9223372036854775807 < (((rd_T48 l1_1 x27_2).f0) ++ (⟨#[61]⟩ : ByteArray)).size + (rdOf ByteArray.empty ((rd_T51 l0 ((rd_T48 l1_1 x27_2).f1)).f1) (rd l2 x27_2)).size) = False := eq_false (Nat.not_lt.2 c27)
                 try have c27b8 := c27b2
                 try simp only [ByteArray.size_append, show (⟨#[61]⟩ : ByteArray).size = 1 from rfl] at c27b8
                 by_cases c28 : x7_2.length < 8796093022208
                 ·rw [if_pos c28] at H
                  have LMc28 := Aside0.mk c28
                  clear c28
                  obtain ⟨y166, hy166⟩ : ∃ y_ : List ByteArray, y_ = (x7_2 ++ [(((rd_T48 l1_1 x27_2).f0) ++ (⟨#[61]⟩ : ByteArray)) ++ (rdOf ByteArray.empty ((rd_T51 l0 ((rd_T48 l1_1 x27_2).f1)).f1) (rd l2 x27_2))]) := ⟨_, rfl⟩
                  replace H : (binding_Text.l0 k2 l0 l2 y166 l1_1 (l1_1.length : Int) (wrap64 (x27_2 + 1))) = some r := by first | (rw [hy166]; with_reducible exact H) | (have H2_ := (Option.bind_some _ _).symm.trans H; rw [hy166]; with_reducible exact H2_) | (have H2_ := (Option.bind_some _ _).symm.trans H; with_reducible exact H2_) | with_reducible exact H | (rw [hy166]; exact H) | exact H
                  have Ny166 := Aside0.mk hy166
                  clear hy166
                  have H' := Aside0.mk H
                  clear H
                  have p161 : 0 ≤ (x27_2 : Int) := of_decide_eq_true (by first | (with_reducible assumption) | assumption)
                  have q161 : x27_2 < (l1_1.length : Int) := of_decide_eq_true (by first | (with_reducible assumption) | assumption)
                  obtain ⟨ad161, e161, hx161_0, hx161_1⟩ := at_T48 HR1_1.out x27_2 p161 q161
                  cases e161
                  replace hx161_0 := (HB.out.cell (World.block_lt_of_cell? w _ hx161_0)).trans hx161_0
                  replace hx161_1 := (HB.out.cell (World.block_lt_of_cell? w _ hx161_1)).trans hx161_1
                  replace p161 := eq_true p161
                  replace q161 := eq_true q161
                  try go_wp2_with (first | ((with_reducible refine gate_dst (N := 9) rfl ?_); refine box_event ?hg (N := 9) ?hd (cs := #[.string (⟨#[]⟩ : ByteArray), .int .i64 0]) (t := 48) ?hr ?_; (case hd => rfl); (case hg => rfl); (case hr => first | (go_simp; done) | (go_simp; rfl)); intro gb162 hg w29 hbox hb; have n0_ := Aside0.mk (Kd.R_below (by (with_reducible repeat (first | apply Kd.R_alloc | apply Kd.R_drewN | apply Kd.R_drew)); exact HO_7.out) hb); have n1_ := Aside0.mk (blk_below (g := gb158) (o := .cells #[.string a1_0, .slice (some ad161) l1_1.length c1_1, .slice A1_2 l1_2.length c1_2, .slice A1_3 l1_3.length c1_3, .slice A1_4 l1_4.length c1_4] 27 (0, 0)) (by (with_reducible repeat (first | refine blk_drewN ?_ _ | refine blk_drew ?_ | refine blk_alloc ?_ _)); exact BK158.out) hb); have n2_ := Aside0.mk (below_step (by repeat (first | (with_reducible first | exact HB.out | apply below_alloc | apply pw_below_drewN | apply below_drew1 | refine below_set ?_ GE158.out) | exact HB.out)) hb); have n3_ := Aside0.mk (hbox); have n4_ := Aside0.mk ((by rw [hg]; exact (below_size (by repeat (first | (with_reducible first | exact HB.out | apply below_alloc | apply pw_below_drewN | apply below_drew1 | refine below_set ?_ GE158.out) | exact HB.out))) : w.heap.size ≤ gb162)); have n5_ := Aside0.mk ((by rw [hg]; exact (below_size (by repeat (first | (with_reducible first | exact HB.out | apply below_alloc | apply pw_below_drewN | apply below_drew1 | refine below_set ?_ GE158.out) | exact HB.out))) : w.heap.size ≤ gb162)); have n6_ := Aside0.mk ((by rw [hg]; exact Nat.ne_of_lt (blk_lt (g := gb158) (o := .cells #[.string a1_0, .slice (some ad161) l1_1.length c1_1, .slice A1_2 l1_2.length c1_2, .slice A1_3 l1_3.length c1_3, .slice A1_4 l1_4.length c1_4] 27 (0, 0)) (by (with_reducible repeat (first | refine blk_drewN ?_ _ | refine blk_drew ?_ | refine blk_alloc ?_ _)); exact BK158.out)) : gb158 ≠ gb162)); have n7_ := Aside0.mk ((by rw [hg]; exact Nat.ne_of_gt (blk_lt (g := gb158) (o := .cells #[.string a1_0, .slice (some ad161) l1_1.length c1_1, .slice A1_2 l1_2.length c1_2, .slice A1_3 l1_3.length c1_3, .slice A1_4 l1_4.length c1_4] 27 (0, 0)) (by (with_reducible repeat (first | refine blk_drewN ?_ _ | refine blk_drew ?_ | refine blk_alloc ?_ _)); exact BK158.out)) : gb162 ≠ gb158)); clear HO_7; clear BK158; clear HB; have HO_7 := n0_; have BK158 := n1_; have HB := n2_; have BK162 := n3_; have GW162 := n4_; have GE162 := n5_; have NB158_162 := n6_; have NB162_158 := n7_; clear n0_ n1_ n2_ n3_ n4_ n5_ n6_ n7_; clear hb hbox hg; have hnb30 := NB162_158.out; have hnc30 := NB158_162.out; have hcz31_0 : w29.cell? ⟨gb162, 0, none⟩ = some (.string (⟨#[]⟩ : ByteArray)) := (blk_cell BK162.out 0).trans rfl; have hcz31_1 : w29.cell? ⟨gb162, 1, none⟩ = some (.int .i64 0) := (blk_cell BK162.out 1).trans rfl; have hfz31_0 := blk_frozen BK162.out 0; have hfz31_1 := blk_frozen BK162.out 1))
                  have n0_ : Aside0 (Kd.R Kd.string 9 ((w29.setCell ⟨gb162, 0, none⟩ (.string ((rd_T48 l1_1 x27_2).f0))).setCell ⟨gb162, 1, none⟩ (.int .i64 ((rd_T48 l1_1 x27_2).f1))) w.heap.size (fun _ => True) u7 x7_2) := ⟨by (with_reducible repeat (first | apply Kd.R_alloc | apply Kd.R_drewN | apply Kd.R_drew)); exact Kd.R_mono (Kd.R_far (p := ⟨gb162, 1, none⟩) (Kd.R_far (p := ⟨gb162, 0, none⟩) (Kd.R_types HO_7.out BK162.out (by decide)) (fun _ hk => hk.2) (.string ((rd_T48 l1_1 x27_2).f0))) (fun _ hk => hk.2) (.int .i64 ((rd_T48 l1_1 x27_2).f1))) (fun _ hk => trivial)⟩
                  have n1_ : Aside0 (((w29.setCell ⟨gb162, 0, none⟩ (.string ((rd_T48 l1_1 x27_2).f0))).setCell ⟨gb162, 1, none⟩ (.int .i64 ((rd_T48 l1_1 x27_2).f1))).heap[gb158]? = some (.cells #[.string a1_0, .slice (some ad161) l1_1.length c1_1, .slice A1_2 l1_2.length c1_2, .slice A1_3 l1_3.length c1_3, .slice A1_4 l1_4.length c1_4] 27 (0, 0))) := ⟨by (with_reducible repeat (first | refine blk_drewN ?_ _ | refine blk_drew ?_ | refine blk_alloc ?_ _)); refine blk_far ?_ NB158_162.out _; (with_reducible repeat (first | refine blk_drewN ?_ _ | refine blk_drew ?_ | refine blk_alloc ?_ _)); refine blk_far ?_ NB158_162.out _; (with_reducible repeat (first | refine blk_drewN ?_ _ | refine blk_drew ?_ | refine blk_alloc ?_ _)); exact BK158.out⟩
                  have n2_ : Aside0 (((w29.setCell ⟨gb162, 0, none⟩ (.string ((rd_T48 l1_1 x27_2).f0))).setCell ⟨gb162, 1, none⟩ (.int .i64 ((rd_T48 l1_1 x27_2).f1))).heap[gb162]? = some (.cells #[.string ((rd_T48 l1_1 x27_2).f0), .int .i64 ((rd_T48 l1_1 x27_2).f1)] 48 (0, 0))) := ⟨by (with_reducible repeat (first | refine blk_drewN ?_ _ | refine blk_drew ?_ | refine blk_alloc ?_ _)); refine blk_put (cs := #[.string ((rd_T48 l1_1 x27_2).f0), .int .i64 0]) ?_ 1 _ rfl; (with_reducible repeat (first | refine blk_drewN ?_ _ | refine blk_drew ?_ | refine blk_alloc ?_ _)); refine blk_put (cs := #[.string (⟨#[]⟩ : ByteArray), .int .i64 0]) ?_ 0 _ rfl; (with_reducible repeat (first | refine blk_drewN ?_ _ | refine blk_drew ?_ | refine blk_alloc ?_ _)); exact BK162.out⟩
                  have n3_ : Aside0 (Below w.heap.size w ((w29.setCell ⟨gb162, 0, none⟩ (.string ((rd_T48 l1_1 x27_2).f0))).setCell ⟨gb162, 1, none⟩ (.int .i64 ((rd_T48 l1_1 x27_2).f1)))) := ⟨by repeat (first | (with_reducible first | exact HB.out | apply below_alloc | apply pw_below_drewN | apply below_drew1 | refine below_set ?_ GE158.out | refine below_set ?_ GE162.out) | exact HB.out)⟩
                  (try clear HO_7)
                  (try clear BK158)
                  (try clear BK162)
                  (try clear HB)
                  generalize ((w29.setCell ⟨gb162, 0, none⟩ (.string ((rd_T48 l1_1 x27_2).f0))).setCell ⟨gb162, 1, none⟩ (.int .i64 ((rd_T48 l1_1 x27_2).f1))) = w32 at n0_ n1_ n2_ n3_ ⊢
                  have HO_7 := n0_
                  have BK158 := n1_
                  have BK162 := n2_
                  have HB := n3_
                  clear n0_ n1_ n2_ n3_
                  have n0_ := Aside0.mk (Kd.R_drew HO_7.out)
                  have n1_ := Aside0.mk (blk_drew BK158.out)
                  have n2_ := Aside0.mk (blk_drew BK162.out)
                  have n3_ := Aside0.mk (below_drew1 HB.out)
                  clear HO_7
                  clear BK158
                  clear BK162
                  clear HB
                  have HO_7 := n0_
                  have BK158 := n1_
                  have BK162 := n2_
                  have HB := n3_
                  clear n0_ n1_ n2_ n3_
                  have p163 : 0 ≤ (((rd_T48 l1_1 x27_2).f1) : Int) := of_decide_eq_true (by first | (with_reducible assumption) | assumption)
                  have q163 : ((rd_T48 l1_1 x27_2).f1) < (l0.length : Int) := of_decide_eq_true (by first | (with_reducible assumption) | assumption)
                  obtain ⟨ad163, A163_1, c163_1, e163, hx163_0, hx163_1, hl163_1, hi163_1⟩ := at_T51 HR0.out ((rd_T48 l1_1 x27_2).f1) p163 q163
                  have hw163_1 := hx163_1
                  have hw163_0 := hx163_0
                  cases e163
                  replace hx163_0 := (HB.out.cell (World.block_lt_of_cell? w _ hx163_0)).trans hx163_0
                  replace hx163_1 := (HB.out.cell (World.block_lt_of_cell? w _ hx163_1)).trans hx163_1
                  have HR163_1 := Aside0.mk hi163_1
                  have HC163_1 := Aside0.mk hl163_1
                  clear hi163_1 hl163_1
                  replace p163 := eq_true p163
                  replace q163 := eq_true q163
                  have p164 : 0 ≤ (x27_2 : Int) := of_decide_eq_true (by first | (with_reducible assumption) | assumption)
                  have q164 : x27_2 < (l2.length : Int) := of_decide_eq_true (by first | (with_reducible assumption) | assumption)
                  obtain ⟨ad164, e164, hx164_0⟩ := Kd.at_int HR2.out x27_2 p164 q164
                  have hw164_0 := hx164_0
                  cases e164
                  replace hx164_0 := (HB.out.cell (World.block_lt_of_cell? w _ hx164_0)).trans hx164_0
                  replace p164 := eq_true p164
                  replace q164 := eq_true q164
                  have p165 : 0 ≤ ((rd l2 x27_2) : Int) := of_decide_eq_true (by first | (with_reducible assumption) | assumption)
                  have q165 : (rd l2 x27_2) < (((rd_T51 l0 ((rd_T48 l1_1 x27_2).f1)).f1).length : Int) := of_decide_eq_true (by first | (with_reducible assumption) | assumption)
                  obtain ⟨ad165, e165, hx165_0⟩ := Kd.at_string HR163_1.out (rd l2 x27_2) p165 q165
                  have hw165_0 := hx165_0
                  cases e165
                  replace hx165_0 := (HB.out.cell (World.block_lt_of_cell? w _ hx165_0)).trans hx165_0
                  replace p165 := eq_true p165
                  replace q165 := eq_true q165
                  refine start_ (n := 20) (S := fun w' => w'.cell? ⟨gb162, 0, none⟩ = some (.string ((rd_T48 l1_1 x27_2).f0)) ∧ w'.cell? ⟨gb162, 1, none⟩ = some (.int .i64 ((rd_T48 l1_1 x27_2).f1)) ∧ w'.cell? (ad163.add ((((rd_T48 l1_1 x27_2).f1)).toNat * 2)) = some (.string ((rd_T51 l0 ((rd_T48 l1_1 x27_2).f1)).f0)) ∧ w'.cell? ⟨(ad163.add ((((rd_T48 l1_1 x27_2).f1)).toNat * 2)).block, (ad163.add ((((rd_T48 l1_1 x27_2).f1)).toNat * 2)).off + 1, none⟩ = some (.slice (some ad165) ((rd_T51 l0 ((rd_T48 l1_1 x27_2).f1)).f1).length c163_1) ∧ w'.cell? (ad164.add (x27_2).toNat) = some (.int .i64 (rd l2 x27_2)) ∧ w'.cell? (ad165.add ((rd l2 x27_2)).toNat) = some (.string (rdOf ByteArray.empty ((rd_T51 l0 ((rd_T48 l1_1 x27_2).f1)).f1) (rd l2 x27_2)))) (ds := []) #[false, false, false, false, false, false, false, false, false, false, false, false, false, false, false, false, false, false, false, false] (by kernel_rfl) rfl rfl ⟨(blk_cell BK162.out 0).trans rfl, (blk_cell BK162.out 1).trans rfl, ((HB.out.cell (World.block_lt_of_cell? w _ hw163_0)).trans hw163_0), ((HB.out.cell (World.block_lt_of_cell? w _ hw163_1)).trans hw163_1), ((HB.out.cell (World.block_lt_of_cell? w _ hw164_0)).trans hw164_0), ((HB.out.cell (World.block_lt_of_cell? w _ hw165_0)).trans hw165_0)⟩ (fun hHeld => ?_); refine with_tabW binding_Text.tab9 binding_Text.bits9 (fun HT_ HW_ => ?_)
                  generalize w32.drew = w33 at HO_7 BK158 BK162 HB HR163_1 hx163_0 hx163_1 hx164_0 hx165_0 hHeld ⊢
                  refine pure_ (i := 0) (N := some 32) (v := ?_) (a' := ?_) #[true, false, false, false, false, false, false, false, false, false, false, false, false, false, false, false, false, false, false, false] rfl rfl (any_of HT_.out (by kernel_rfl)) (fun _ _ _ h => h) (Or.inl ⟨by rfl, ?_⟩) ?_ ?_
                  rotate_left
                  ·intro w'
                   go_simp
                   with_reducible rfl
                  rotate_left
                  ·simp only [Act.put, List.setIfInBounds_toArray, List.set_cons_zero, List.set_cons_succ, i64_w, i32_w]
                   rfl
                  refine pure_ (i := 1) (N := some 33) (v := ?_) (a' := ?_) #[true, true, false, false, false, false, false, false, false, false, false, false, false, false, false, false, false, false, false, false] rfl rfl (any_of HT_.out (by kernel_rfl)) (fun _ _ _ h => h) (Or.inl ⟨by rfl, ?_⟩) ?_ ?_
                  rotate_left
                  ·intro w'
                   go_simp
                   with_reducible rfl
                  rotate_left
                  ·simp only [Act.put, List.setIfInBounds_toArray, List.set_cons_zero, List.set_cons_succ, i64_w, i32_w]
                   rfl
                  refine pure_ (i := 4) (N := some 36) (v := ?_) (a' := ?_) #[true, true, false, false, true, false, false, false, false, false, false, false, false, false, false, false, false, false, false, false] rfl rfl (any_of HT_.out (by kernel_rfl)) (fun _ _ _ h => h) (Or.inl ⟨by rfl, ?_⟩) ?_ ?_
                  rotate_left
                  ·intro w'
                   go_simp
                   with_reducible rfl
                  rotate_left
                  ·simp only [Act.put, List.setIfInBounds_toArray, List.set_cons_zero, List.set_cons_succ, i64_w, i32_w]
                   rfl
                  refine pure_ (i := 5) (N := some 37) (v := ?_) (a' := ?_) #[true, true, false, false, true, true, false, false, false, false, false, false, false, false, false, false, false, false, false, false] rfl rfl (any_of HT_.out (by kernel_rfl)) (fun _ _ _ h => h) (Or.inl ⟨by rfl, ?_⟩) ?_ ?_
                  rotate_left
                  ·intro w'
                   go_simp
                   with_reducible rfl
                  rotate_left
                  ·simp only [Act.put, List.setIfInBounds_toArray, List.set_cons_zero, List.set_cons_succ, i64_w, i32_w]
                   rfl
                  refine pure_ (i := 10) (N := some 42) (v := ?_) (a' := ?_) #[true, true, false, false, true, true, false, false, false, false, true, false, false, false, false, false, false, false, false, false] rfl rfl (any_of HT_.out (by kernel_rfl)) (fun _ _ _ h => h) (Or.inl ⟨by rfl, ?_⟩) ?_ ?_
                  rotate_left
                  ·intro w'
                   go_simp
                   with_reducible rfl
                  rotate_left
                  ·simp only [Act.put, List.setIfInBounds_toArray, List.set_cons_zero, List.set_cons_succ, i64_w, i32_w]
                   rfl
                  refine pure_ (i := 11) (N := some 43) (v := ?_) (a' := ?_) #[true, true, false, false, true, true, false, false, false, false, true, true, false, false, false, false, false, false, false, false] rfl rfl (any_of HT_.out (by kernel_rfl)) (fun _ _ _ h => h) (Or.inl ⟨by rfl, ?_⟩) ?_ ?_
                  rotate_left
                  ·intro w'
                   go_simp
                   with_reducible rfl
                  rotate_left
                  ·simp only [Act.put, List.setIfInBounds_toArray, List.set_cons_zero, List.set_cons_succ, i64_w, i32_w]
                   rfl
                  refine pure_ (i := 12) (N := some 44) (v := ?_) (a' := ?_) #[true, true, false, false, true, true, false, false, false, false, true, true, true, false, false, false, false, false, false, false] rfl rfl (any_of HT_.out (by kernel_rfl)) (fun _ _ _ h => h) (Or.inl ⟨by rfl, ?_⟩) ?_ ?_
                  rotate_left
                  ·intro w'
                   go_simp
                   with_reducible rfl
                  rotate_left
                  ·simp only [Act.put, List.setIfInBounds_toArray, List.set_cons_zero, List.set_cons_succ, i64_w, i32_w]
                   rfl
                  refine take_ (i := 2) (N := some 34) (v := ?_) (a' := ?_) #[true, true, true, false, true, true, false, false, false, false, true, true, true, false, false, false, false, false, false, false] rfl rfl (take_ofW HT_.out HW_.out (by kernel_rfl)) (fun _ _ _ h => h) (Or.inl ⟨by rfl, ?_⟩) hHeld ?_ ?_
                  rotate_left
                  ·rintro w' ⟨s0, s1, s2, s3, s4, s5⟩
                   go_simp
                   with_reducible rfl
                  rotate_left
                  ·simp only [Act.put, List.setIfInBounds_toArray, List.set_cons_zero, List.set_cons_succ, i64_w, i32_w]
                   rfl
                  refine pure_ (i := 3) (N := some 35) (v := ?_) (a' := ?_) #[true, true, true, true, true, true, false, false, false, false, true, true, true, false, false, false, false, false, false, false] rfl rfl (any_of HT_.out (by kernel_rfl)) (fun _ _ _ h => h) (Or.inl ⟨by rfl, ?_⟩) ?_ ?_
                  rotate_left
                  ·intro w'
                   go_simp
                   with_reducible rfl
                  rotate_left
                  ·simp only [Act.put, List.setIfInBounds_toArray, List.set_cons_zero, List.set_cons_succ, i64_w, i32_w]
                   rfl
                  refine take_ (i := 6) (N := some 38) (v := ?_) (a' := ?_) #[true, true, true, true, true, true, true, false, false, false, true, true, true, false, false, false, false, false, false, false] rfl rfl (take_ofW HT_.out HW_.out (by kernel_rfl)) (fun _ _ _ h => h) (Or.inl ⟨by rfl, ?_⟩) hHeld ?_ ?_
                  rotate_left
                  ·rintro w' ⟨s0, s1, s2, s3, s4, s5⟩
                   go_simp
                   with_reducible rfl
                  rotate_left
                  ·simp only [Act.put, List.setIfInBounds_toArray, List.set_cons_zero, List.set_cons_succ, i64_w, i32_w]
                   rfl
                  refine pure_ (i := 7) (N := some 39) (v := ?_) (a' := ?_) #[true, true, true, true, true, true, true, true, false, false, true, true, true, false, false, false, false, false, false, false] rfl rfl (any_of HT_.out (by kernel_rfl)) (fun _ _ _ h => h) (Or.inl ⟨by rfl, ?_⟩) ?_ ?_
                  rotate_left
                  ·intro w'
                   go_simp
                   with_reducible rfl
                  rotate_left
                  ·simp only [Act.put, List.setIfInBounds_toArray, List.set_cons_zero, List.set_cons_succ, i64_w, i32_w]
                   rfl
                  refine pure_ (i := 8) (N := some 40) (v := ?_) (a' := ?_) #[true, true, true, true, true, true, true, true, true, false, true, true, true, false, false, false, false, false, false, false] rfl rfl (any_of HT_.out (by kernel_rfl)) (fun _ _ _ h => h) (Or.inl ⟨by rfl, ?_⟩) ?_ ?_
                  rotate_left
                  ·intro w'
                   go_simp
                   with_reducible rfl
                  rotate_left
                  ·simp only [Act.put, List.setIfInBounds_toArray, List.set_cons_zero, List.set_cons_succ, i64_w, i32_w]
                   rfl
                  refine take_ (i := 9) (N := some 41) (v := ?_) (a' := ?_) #[true, true, true, true, true, true, true, true, true, true, true, true, true, false, false, false, false, false, false, false] rfl rfl (take_ofW HT_.out HW_.out (by kernel_rfl)) (fun _ _ _ h => h) (Or.inl ⟨by rfl, ?_⟩) hHeld ?_ ?_
                  rotate_left
                  ·rintro w' ⟨s0, s1, s2, s3, s4, s5⟩
                   go_simp
                   with_reducible rfl
                  rotate_left
                  ·simp only [Act.put, List.setIfInBounds_toArray, List.set_cons_zero, List.set_cons_succ, i64_w, i32_w]
                   rfl
                  refine take_ (i := 13) (N := some 45) (v := ?_) (a' := ?_) #[true, true, true, true, true, true, true, true, true, true, true, true, true, true, false, false, false, false, false, false] rfl rfl (take_ofW HT_.out HW_.out (by kernel_rfl)) (fun _ _ _ h => h) (Or.inl ⟨by rfl, ?_⟩) hHeld ?_ ?_
                  rotate_left
                  ·rintro w' ⟨s0, s1, s2, s3, s4, s5⟩
                   go_simp
                   with_reducible rfl
                  rotate_left
                  ·simp only [Act.put, List.setIfInBounds_toArray, List.set_cons_zero, List.set_cons_succ, i64_w, i32_w]
                   rfl
                  refine pure_ (i := 14) (N := some 46) (v := ?_) (a' := ?_) #[true, true, true, true, true, true, true, true, true, true, true, true, true, true, true, false, false, false, false, false] rfl rfl (any_of HT_.out (by kernel_rfl)) (fun _ _ _ h => h) (Or.inl ⟨by rfl, ?_⟩) ?_ ?_
                  rotate_left
                  ·intro w'
                   go_simp
                   with_reducible rfl
                  rotate_left
                  ·simp only [Act.put, List.setIfInBounds_toArray, List.set_cons_zero, List.set_cons_succ, i64_w, i32_w]
                   rfl
                  refine take_ (i := 15) (N := some 47) (v := ?_) (a' := ?_) #[true, true, true, true, true, true, true, true, true, true, true, true, true, true, true, true, false, false, false, false] rfl rfl (take_ofW HT_.out HW_.out (by kernel_rfl)) (fun _ _ _ h => h) (Or.inl ⟨by rfl, ?_⟩) hHeld ?_ ?_
                  rotate_left
                  ·rintro w' ⟨s0, s1, s2, s3, s4, s5⟩
                   go_simp
                   with_reducible rfl
                  rotate_left
                  ·simp only [Act.put, List.setIfInBounds_toArray, List.set_cons_zero, List.set_cons_succ, i64_w, i32_w]
                   rfl
                  refine pure_ (i := 16) (N := some 48) (v := ?_) (a' := ?_) #[true, true, true, true, true, true, true, true, true, true, true, true, true, true, true, true, true, false, false, false] rfl rfl (any_of HT_.out (by kernel_rfl)) (fun _ _ _ h => h) (Or.inl ⟨by rfl, ?_⟩) ?_ ?_
                  rotate_left
                  ·intro w'
                   go_simp
                   with_reducible rfl
                  rotate_left
                  ·simp only [Act.put, List.setIfInBounds_toArray, List.set_cons_zero, List.set_cons_succ, i64_w, i32_w]
                   rfl
                  refine one_ (i := 17) (N := some 49) #[true, true, true, true, true, true, true, true, true, true, true, true, true, true, true, true, true, true, false, false] rfl rfl (one_of HT_.out (by kernel_rfl)) (by decide) (fun K hK => ?_)
                  refine value_ (w1 := ?_) (v := ?_) (by rfl) rfl ?_ ?_
                  rotate_left 2
                  ·go_simp
                   constructor
                   ·rfl
                   ·rfl
                  refine hK.out _ _ ⟨(blk_cell (blk_alloc BK162.out _) 0).trans rfl, (blk_cell (blk_alloc BK162.out _) 1).trans rfl, (World.cell?_alloc_lt _ _ _ (World.block_lt_of_cell? _ _ (((HB.out.cell (World.block_lt_of_cell? w _ hw163_0)).trans hw163_0)))).trans (((HB.out.cell (World.block_lt_of_cell? w _ hw163_0)).trans hw163_0)), (World.cell?_alloc_lt _ _ _ (World.block_lt_of_cell? _ _ (((HB.out.cell (World.block_lt_of_cell? w _ hw163_1)).trans hw163_1)))).trans (((HB.out.cell (World.block_lt_of_cell? w _ hw163_1)).trans hw163_1)), (World.cell?_alloc_lt _ _ _ (World.block_lt_of_cell? _ _ (((HB.out.cell (World.block_lt_of_cell? w _ hw164_0)).trans hw164_0)))).trans (((HB.out.cell (World.block_lt_of_cell? w _ hw164_0)).trans hw164_0)), (World.cell?_alloc_lt _ _ _ (World.block_lt_of_cell? _ _ (((HB.out.cell (World.block_lt_of_cell? w _ hw165_0)).trans hw165_0)))).trans (((HB.out.cell (World.block_lt_of_cell? w _ hw165_0)).trans hw165_0))⟩ (fun hHeld => ?_)
                  clear hK K
                  refine norm_ (a' := ?_) ?_ ?_
                  rotate_left
                  ·show Act.put _ (some 49) _ = _
                   simp only [Act.put, List.setIfInBounds_toArray, List.set_cons_zero, List.set_cons_succ, i64_w, i32_w]
                   rfl
                  refine one_ (i := 18) (N := some 50) #[true, true, true, true, true, true, true, true, true, true, true, true, true, true, true, true, true, true, true, false] rfl rfl (one_of HT_.out (by kernel_rfl)) (by decide) (fun K hK => ?_)
                  refine Kd.R_append_step Kd.string (w0 := w) w.heap.size (by rfl) (.tmp 32) (.tmp 49) 49 9 (.string ⟨#[]⟩) 16 rfl Try.underlying49 info9 rfl (by decide) (by omega) u7 x7_2 ((((rd_T48 l1_1 x27_2).f0) ++ (⟨#[61]⟩ : ByteArray)) ++ (rdOf ByteArray.empty ((rd_T51 l0 ((rd_T48 l1_1 x27_2).f1)).f1) (rd l2 x27_2))) [.string ((((rd_T48 l1_1 x27_2).f0) ++ (⟨#[61]⟩ : ByteArray)) ++ (rdOf ByteArray.empty ((rd_T51 l0 ((rd_T48 l1_1 x27_2).f1)).f1) (rd l2 x27_2)))] (fun _ => True) (fun _ => False) rfl rfl ?aP (fun _ hk => hk.elim) ?aF ?aO ?aB ?aS ?aL ?_
                  (case aP => exact rfl)
                  (case aB => exact (by repeat (first | (with_reducible first | exact HB.out | apply below_alloc | apply pw_below_drewN | apply below_drew1 | refine below_set ?_ GE158.out | refine below_set ?_ GE162.out) | exact HB.out)))
                  (case aF => exact (fun _ _ => trivial))
                  (case aO => exact (by (with_reducible repeat (first | apply Kd.R_alloc | apply Kd.R_drewN | apply Kd.R_drew)); exact HO_7.out))
                  (case aS => exact (below_size (by repeat (first | (with_reducible first | exact HB.out | apply below_alloc | apply pw_below_drewN | apply below_drew1 | refine below_set ?_ GE158.out | refine below_set ?_ GE162.out) | exact HB.out))))
                  (case aL => have := LMc28.out; omega)
                  intro v167 w34 ho hb hg hat
                  rw [← Ny166.out] at ho
                  have n0_ := Aside0.mk (blk_grown (g := gb158) (o := .cells #[.string a1_0, .slice (some ad161) l1_1.length c1_1, .slice A1_2 l1_2.length c1_2, .slice A1_3 l1_3.length c1_3, .slice A1_4 l1_4.length c1_4] 27 (0, 0)) (by (with_reducible repeat (first | refine blk_drewN ?_ _ | refine blk_drew ?_ | refine blk_alloc ?_ _)); exact BK158.out) hg (Kd.R_ne HO_7.out BK158.out (by decide)))
                  have n1_ := Aside0.mk (blk_grown (g := gb162) (o := .cells #[.string ((rd_T48 l1_1 x27_2).f0), .int .i64 ((rd_T48 l1_1 x27_2).f1)] 48 (0, 0)) (by (with_reducible repeat (first | refine blk_drewN ?_ _ | refine blk_drew ?_ | refine blk_alloc ?_ _)); exact BK162.out) hg (Kd.R_ne HO_7.out BK162.out (by decide)))
                  have n2_ := Aside0.mk (hb)
                  have n3_ := Aside0.mk (ho)
                  clear BK158
                  clear BK162
                  clear HB
                  clear HO_7
                  have BK158 := n0_
                  have BK162 := n1_
                  have HB := n2_
                  have HO168 := n3_
                  clear n0_ n1_ n2_ n3_
                  clear ho hb hg hat
                  refine hK.out _ _ ⟨(blk_cell BK162.out 0).trans rfl, (blk_cell BK162.out 1).trans rfl, ((HB.out.cell (World.block_lt_of_cell? w _ hw163_0)).trans hw163_0), ((HB.out.cell (World.block_lt_of_cell? w _ hw163_1)).trans hw163_1), ((HB.out.cell (World.block_lt_of_cell? w _ hw164_0)).trans hw164_0), ((HB.out.cell (World.block_lt_of_cell? w _ hw165_0)).trans hw165_0)⟩ (fun hHeld => ?_)
                  clear hK K
                  refine norm_ (a' := ?_) ?_ ?_
                  rotate_left
                  ·show Act.put _ (some 50) _ = _
                   simp only [Act.put, List.setIfInBounds_toArray, List.set_cons_zero, List.set_cons_succ, i64_w, i32_w]
                   rfl
                  refine pure_ (i := 19) (N := some 7) (v := ?_) (a' := ?_) #[true, true, true, true, true, true, true, true, true, true, true, true, true, true, true, true, true, true, true, true] rfl rfl (any_of HT_.out (by kernel_rfl)) (fun _ _ _ h => h) (Or.inl ⟨by rfl, ?_⟩) ?_ ?_
                  rotate_left
                  ·intro w'
                   go_simp
                   with_reducible rfl
                  rotate_left
                  ·simp only [Act.put, List.setIfInBounds_toArray, List.set_cons_zero, List.set_cons_succ, i64_w, i32_w]
                   rfl
                  refine done_ (done_of HT_.out (by kernel_rfl)) ?_
                  try go_wp2
                  go_roundg k2
                  case measure => have := HJ3.out; have := HK2.out; omega
                  case rel => exact ⟨(y166), (wrap64 (x27_2 + 1)), (by first | rfl | (simp; done) | (simp [*]; done) | (simp [i64_w]; done)), H', ⟨by have := HJ3.out; have := HK2.out; omega⟩, ⟨by (with_reducible repeat (first | apply Kd.R_alloc | apply Kd.R_drewN | apply Kd.R_drew)); exact HO168.out⟩, ⟨by (with_reducible repeat (first | refine blk_drewN ?_ _ | refine blk_drew ?_ | refine blk_alloc ?_ _)); exact BK158.out⟩, ⟨by repeat (first | (with_reducible first | exact HB.out | apply below_alloc | apply pw_below_drewN | apply below_drew1 | refine below_set ?_ GE158.out | refine below_set ?_ GE162.out) | exact HB.out)⟩⟩
                 ·rw [if_neg c28] at H
                  exact absurd H (by simp)
                ·rw [if_neg c27] at H
                 exact absurd H (by simp)
               ·rw [if_neg c26] at H
                exact absurd H (by simp)
              ·rw [if_neg c25] at H
               exact absurd H (by simp)
             ·rw [if_neg c24] at H
              exact absurd H (by simp)
            ·rw [if_neg c23] at H
             exact absurd H (by simp)
           ·rw [if_neg c22] at H
            exact absurd H (by simp)
          ·rw [if_neg c21] at H
           exact absurd H (by simp)
         ·rw [if_neg c20] at H
          exact absurd H (by simp)
        ·rw [if_neg c19] at H
         exact absurd H (by simp)
       ·rw [if_neg c18] at H
        have c18b0 : decide (x27_2 < (l1_1.length : Int)) = false := decide_eq_false c18
        clear c18
        replace H := Option.bind_eq_some_iff.mp H
        obtain ⟨t169, A350, H⟩ := H
        replace H : (some t169) = some r := H
        have A35 := Aside0.mk A350
        clear A350
        obtain rfl := Option.some.inj H
        obtain ⟨Ao36, co36, eo36⟩ := Kd.R_slice HO_7.out
        subst eo36
        go_wp2_with (first | ((with_reducible refine gate_callee (f := 43) rfl ?_); refine goesL_ (some 53) rfl rfl Try.func43 (by kernel_rfl) rfl #[.slice Ao36 x7_2.length co36, .string (⟨#[44]⟩ : ByteArray)] rfl (by (try simp only [List.map_toArray, List.map_cons, List.map_nil]); first | done | rfl | (simp only [List.length_drop, List.length_take]; rfl)) ?_; (with_reducible refine (strings_Join.calls _ _ x7_2 (⟨#[44]⟩ : ByteArray) t169 _ ?side1 ?side2 A35.out).mono ?_); (case side1 => repeat (first | exact (Kd.R_reads' HO_7.out).2.2 | (with_reducible refine Kd.C_alloc ?_ _) | (with_reducible refine Kd.C_drewN ?_ _) | (with_reducible refine Kd.C_drew ?_))); (case side2 => exact (Kd.R_reads' HO_7.out).2.1); rintro e w37 ⟨rfl, hb⟩; refine ⟨_, rfl, ?_⟩; have n0_ := Aside0.mk (Kd.R_below (by (with_reducible repeat (first | apply Kd.R_alloc | apply Kd.R_drewN | apply Kd.R_drew)); exact HO_7.out) hb); have n1_ := Aside0.mk (blk_below (g := gb158) (o := .cells #[.string a1_0, .slice A1_1 l1_1.length c1_1, .slice A1_2 l1_2.length c1_2, .slice A1_3 l1_3.length c1_3, .slice A1_4 l1_4.length c1_4] 27 (0, 0)) (by (with_reducible repeat (first | refine blk_drewN ?_ _ | refine blk_drew ?_ | refine blk_alloc ?_ _)); exact BK158.out) hb); have n2_ := Aside0.mk (below_step (by repeat (first | (with_reducible first | exact HB.out | apply below_alloc | apply pw_below_drewN | apply below_drew1 | refine below_set ?_ GE158.out) | exact HB.out)) hb); clear HO_7; clear BK158; clear HB; have HO_7 := n0_; have BK158 := n1_; have HB := n2_; clear n0_ n1_ n2_; (try clear hb); (try clear hb2); (try clear hk); (try clear hi)))
        go_ret
        exact ⟨by first | rfl | (simp [errW_none, errW_some] <;> rfl) | (simp [*, errW_none, errW_some] <;> rfl), by repeat (first | (with_reducible first | exact HB.out | apply below_alloc | apply pw_below_drewN | apply below_drew1 | refine below_set ?_ GE158.out) | exact HB.out)⟩

-- NOT PRINTED: function 56 (binding_all_1)

-- NOT PRINTED: function 44 (binding_all)




section
-- STUBBED 45
/-! ### slices_Clone_int_int: function 45: by hand -/
def slices_Clone_int_int.f (l0 : List Int) : Option (List Int) := if l0.length ≤ 1000 then some l0 else none
theorem clone_empty (w : World) : Kd.R (Kd.int .i64) 3 (w.alloc (.cells #[] 3)) w.heap.size (fun _ => True) (.slice (some ⟨w.heap.size, 0, none⟩) 0 0) [] := by
  refine Kd.R_of_own (enc := Value.int .i64) (h1 := fun _ => rfl) ⟨by simp [encs], .inr ⟨w.heap.size, 0, #[], rfl, Nat.le_refl _, World.alloc_heap_new w _, Nat.le_refl _, Nat.zero_le _, rfl, rfl⟩⟩ (fun _ _ => trivial)
set_option maxHeartbeats 16000000 in
set_option maxRecDepth 100000 in
theorem slices_Clone_int_int.calls (A0 : Option Addr) (c0 : Nat) (l0 : List Int) (r : List Int) (w : World) (hr0 : Kd.C (Kd.int .i64) w A0 l0.length l0) (hc0 : l0.length ≤ c0) (h : slices_Clone_int_int.f l0 = some r) :
    Calls Try.prog 45 #[.slice A0 l0.length c0] w fun e w' => ∃ v0_ : Value, e = .returned (v0_) ∧ Kd.R (Kd.int .i64) 3 w' w.heap.size (fun _ => True) v0_ r ∧ Below w.heap.size w w' := by
  unfold slices_Clone_int_int.f at h
  by_cases hle : l0.length ≤ 1000
  · rw [if_pos hle, Option.some.injEq] at h
    subst h
    have HR := Aside0.mk hr0
    clear hc0
    cases A0 with
    | none =>
      have h0 : l0 = [] := by
        by_cases hp : 0 < l0.length
        · obtain ⟨ad, e, _⟩ := Kd.at_int hr0 0 (by omega) (by omega)
          cases e
        · exact List.length_eq_zero_iff.1 (by omega)
      subst h0
      clear hr0 HR
      have hq : ∀ (w : World), (binOp BinOp.eql 29 (.slice none (0 : Nat) c0) (.slice none 0 0)).run Try.prog w = .ok (.bool true) w := fun w => by rfl
      go_enter Try.func45, Try.ntmps45
      go_wp2
      go_ret
      exact ⟨_, rfl, Kd.R_nil _ _ _ _ _, Below.refl _ _⟩
    | some ad =>
      clear hr0
      have hq : ∀ (w : World), (binOp BinOp.eql 29 (.slice (some ad) l0.length c0) (.slice none 0 0)).run Try.prog w = .ok (.bool false) w := fun w => by rfl
      go_enter Try.func45, Try.ntmps45
      have HB := Aside0.mk (show Below w.heap.size w (w.alloc (.cells #[] 3)) from (Below.refl _ w).alloc (Nat.le_refl _) _)
      go_wp2_with ((with_reducible refine gate_builtin (b := .append) (xs := #[.tmp 5, .tmp 6]) rfl ?_); at_builtin; refine Kd.R_append_rows (Kd.int .i64) (w0 := w) w.heap.size rfl (.tmp 5) (.tmp 6) 29 3 (.int .i64 0) 8 rfl Try.underlying29 info3 rfl (by decide) (by omega) (.slice (some ⟨w.heap.size, 0, none⟩) 0 0) [] l0 (some ad) l0.length c0 (fun _ => True) (fun _ => False) rfl rfl (clone_empty w) (Kd.C_alloc HR.out _) (fun _ _ hx => hx) (fun _ hk => hk.elim) (fun _ _ => trivial) HB.out (by simp) (by simp; omega) ?_; intro v1 w1 h1 hb1 hg1 hat1; have HO := Aside0.mk h1; have HB1 := Aside0.mk hb1; clear h1 hb1 hg1 hat1)
      go_ret
      exact ⟨_, rfl, by have h_ := HO.out; rw [List.nil_append] at h_; exact h_, HB1.out⟩
  · rw [if_neg hle] at h
    cases h


end



section
-- STUBBED 24
/-! ### binding_All: function 24: by hand -/
open Go.Shelf Go.Proofs.Ytapkjfnfkalibaa.Iter
attribute [local go_sem] Oper.semAt_some

/-- The size of the color set of the j-th variable, where there is one. -/
def setOf (l0 : List S51) (vs : List S48) (j : Nat) : Int := ((rd_T51 l0 (rd_T48 vs (j : Int)).f1).f1.length : Int)
def inSets (l0 : List S51) (vs : List S48) (j : Nat) : Bool := decide (0 ≤ (rd_T48 vs (j : Int)).f1) && decide ((rd_T48 vs (j : Int)).f1 < (l0.length : Int))
/-- The next list of colors: the last one that is not at its end is one later; those behind it begin again. -/
def carry (l0 : List S51) (vs : List S48) : Nat → List Int → Option (Option (List Int))
  | 0, _ => some none
  | j + 1, b => if inSets l0 vs j = true then (if rd b (j : Int) = wrap64 (setOf l0 vs j - 1) then carry l0 vs j (b.set j 0) else some (some (b.set j (wrap64 (rd b (j : Int) + 1))))) else none
def seqB (l0 : List S51) (vs : List S48) : Nat → List Int → Option (List (List Int))
  | 0, _ => none
  | k + 1, b => (carry l0 vs vs.length b).bind fun | none => some [b] | some b' => (seqB l0 vs k b').map (b :: ·)
def okG (m : Nat) (g : S62) : Bool := decide ((0 ≤ g.f1 ∧ g.f1 < (m : Int)) ∧ 0 ≤ g.f2 ∧ g.f2 < (m : Int))
def binding_All.f (l0 : List S51) (a1_0 : ByteArray) (l1_1 : List S48) (l1_2 : List S62) (l1_3 : List S111) (l1_4 : List S111) : Option (List (List Int)) :=
  (binding_Check.f l0 a1_0 l1_1 l1_2 l1_3 l1_4).bind fun e => if e ≠ 0 then some [] else if l1_1.length ≤ 1000 then
    (seqB l0 l1_1 100000 (List.replicate l1_1.length 0)).bind fun zs => if zs.length ≤ 100000 ∧ l1_2.length ≤ 1000 ∧ l1_2.all (okG l1_1.length) = true then some (zs.filter fun b => binding_holds.f a1_0 l1_1 l1_2 l1_3 l1_4 b == some true) else none
    else none

theorem intRow_set {e B : Nat} {b : List Int} {W : World} (h : IntRow e B b W) (i : Nat) (x : Int) : IntRow e B (b.set i x) (W.setCell ⟨B, i, none⟩ (.int .i64 x)) := by
  have h2 := blk_set i (.int .i64 x) (show Blk W B e (b.map (Value.int .i64)) from h)
  rw [← List.map_set] at h2
  exact h2
theorem intRow_cell {e B : Nat} {b : List Int} {W : World} (h : IntRow e B b W) {i : Nat} (hi : i < b.length) : W.cell? ⟨B, i, none⟩ = some (.int .i64 (rd b (i : Int))) ∧ W.frozen? ⟨B, i, none⟩ = false := by
  constructor
  · simp [World.cell?, show W.heap[B]? = _ from h, rd, hi]
  · simp [World.frozen?, show W.heap[B]? = _ from h]
theorem intRow_later {e B : Nat} {b : List Int} {W W' : World} (h : IntRow e B b W) {row : Option Nat} (hg : W.grownBy W' row) (hr : row ≠ some B) : IntRow e B b W' := (hg.block B (Array.getElem?_eq_some_iff.1 h).1 (fun e => hr e.symm)).trans h
theorem made_ints (m : Nat) : madeCells (Value.int .i64 0).cells (m * 1) = ((List.replicate m (0 : Int)).map (Value.int .i64)).toArray := by
  rw [Nat.mul_one, List.map_replicate]
  apply Array.ext'
  simp [madeCells, Value.cells, Nat.mod_one, List.map_const']
theorem make_rowIn {F : Fence} {n : Nat} {P : Program} {w : World} {ops : Array Oper} {rest : List Oper} {o : Oper} {a : Act} {Q : Exit → Act → World → Prop}
    (hg : o.guard = none) (l : Operand) (t e : TypeId) (hop : o.op = Op.makeSlice t l l) (h1 : P.underlying t = some (.slice e)) (hinfo : (P.info? e).map (fun i => (i.zero, i.size, i.bytes)) = some (some (.int .i64 0), 1, 8))
    (m : Nat) (hl : a.eval l = .int .i64 (m : Int)) (hm : m ≤ 1000)
    (hK : ∀ w', IntRow e w.heap.size (List.replicate m (0 : Int)) w' → w.grownBy w' none → wpListIn F n P ops Q rest (a.put o.dst (.slice (some ⟨w.heap.size, 0, none⟩) m m)) w') :
    wpListIn F n P ops Q (o :: rest) a w := by
  obtain ⟨i0, hi, hzz⟩ := Option.map_eq_some_iff.1 hinfo
  simp only [Prod.mk.injEq] at hzz
  obtain ⟨hz0, hz1, hz2⟩ := hzz
  refine wpListIn_plain hg fun K hK' => ?_
  have hrun := run_make (P := P) (w := w) t e i0 _ h1 hi hz0 .i64 .i64 (m : Int) (m : Int) (by omega) (Int.le_refl _) (by rw [hz2]; omega) (by omega)
  rw [Int.toNat_natCast, hz1, made_ints] at hrun
  unfold Oper.wpIn
  refine ⟨?_, ?_⟩
  · simp [Oper.about, hop]
  · rw [Oper.semAt_plain F _ _ (by rw [hop]; intro c hc'; cases hc')]
    simp [execOp, hop, hl, hrun, Result.andThen]
    exact hK' _ _ (hK _ (by have h_ := World.alloc_heap_new w (.cells ((List.replicate m (0 : Int)).map (Value.int .i64)).toArray e); simpa [IntRow] using h_) (World.grownBy_alloc w _ none))

/-- The two boxes that the closure holds. -/
def Cap (T Sb : Nat) (cs : List Value) (v : Value) (W : World) : Prop := Blk W T 27 cs ∧ Boxed W Sb 22 v
def KpC (n₀ T Sb : Nat) (cs : List Value) (v : Value) (W W' : World) : Prop := Below n₀ W W' ∧ (Cap T Sb cs v W → Cap T Sb cs v W')
theorem kpC_t {n₀ T Sb : Nat} {cs : List Value} {v : Value} {X Y Z : World} (h : KpC n₀ T Sb cs v X Y) (k : KpC n₀ T Sb cs v Y Z) : KpC n₀ T Sb cs v X Z := ⟨h.1.trans k.1, fun b => k.2 (h.2 b)⟩
theorem blk_putObj {W : World} {B : Nat} {t : TypeId} {cs : List Value} (b : Blk W B t cs) {l : Nat} {o : Obj} (o' : Obj) (h : W.heap[l]? = some o) (hc : o.isCells = false) : Blk (W.putObj l o') B t cs := by
  refine ((grownBy_putObj' W l o').block B (Array.getElem?_eq_some_iff.1 b).1 ?_).trans b
  intro e
  cases e
  have b' : W.heap[B]? = some (.cells cs.toArray t (0, 0)) := b
  rw [b'] at h; cases h
  simp [Obj.isCells] at hc
theorem kpC_b {n₀ T Sb : Nat} {cs : List Value} {v : Value} {w : World} (hn : n₀ ≤ w.heap.size) (W : World) (l : Nat) (o o' : Obj) (hl : w.heap.size ≤ l) (h : W.heap[l]? = some o) (hc : o.isCells = false) (hw : o.isWalk = false) : KpC n₀ T Sb cs v W (W.putObj l o') :=
  ⟨belowK_b hn W l o o' hl h hc hw, fun b => ⟨blk_putObj b.1 o' h hc, boxed_putObj b.2 o' h hc⟩⟩
theorem cap_grown {T Sb : Nat} {cs : List Value} {v : Value} {W W' : World} {row : Option Nat} (h : Cap T Sb cs v W) (hg : W.grownBy W' row) (hT : row ≠ some T) (hS : row ≠ some Sb) : Cap T Sb cs v W' :=
  ⟨(hg.block T (Array.getElem?_eq_some_iff.1 h.1).1 (fun e => hT e.symm)).trans h.1, (hg.block Sb h.2.lt (fun e => hS e.symm)).trans h.2⟩
theorem below_grown' {n₀ : Nat} {W W' : World} {B : Nat} (hg : W.grownBy W' (some B)) (hB : n₀ ≤ B) (h : n₀ ≤ W.heap.size) : Below n₀ W W' := (Below.refl n₀ W).grown hg h (fun k e => by cases e; exact hB)
theorem cap_cells {T Sb : Nat} {a : Value} {y z u x v : Value} {W : World} (h : Cap T Sb [a, y, z, u, x] v W) : W.cell? ⟨T, 1, none⟩ = some y ∧ W.cell? ⟨Sb, 0, none⟩ = some v := by
  refine ⟨?_, h.2.cell⟩
  simp [World.cell?, show W.heap[T]? = _ from h.1]

theorem grown_set (W : World) (q B i : Nat) (v : Value) : W.grownBy ((W.drewN q).setCell ⟨B, i, none⟩ v) (some B) := ⟨rfl, rfl, rfl, by simp, fun k _ hk => Below.heap_setCell _ _ _ k (fun e => hk (by rw [e]))⟩
theorem seqB_cases {l0 : List S51} {vs : List S48} {k : Nat} {b : List Int} {rest : List (List Int)} (h : seqB l0 vs k b = some rest) :
    ∃ k' r, k = k' + 1 ∧ carry l0 vs vs.length b = some r ∧ ((r = none ∧ rest = [b]) ∨ ∃ b' rest', r = some b' ∧ seqB l0 vs k' b' = some rest' ∧ rest = b :: rest') := by
  cases k with
  | zero => simp [seqB] at h
  | succ k =>
    unfold seqB at h
    obtain ⟨r, hr, h⟩ := Option.bind_eq_some_iff.mp h
    refine ⟨k, r, rfl, hr, ?_⟩
    cases r with
    | none => exact .inl ⟨rfl, (Option.some.inj h).symm⟩
    | some b' =>
      obtain ⟨rest', h1, h2⟩ := Option.map_eq_some_iff.1 h
      exact .inr ⟨b', rest', rfl, h1, h2.symm⟩
theorem carry_len {l0 : List S51} {vs : List S48} : ∀ {j : Nat} {b b' : List Int}, carry l0 vs j b = some (some b') → b'.length = b.length
  | 0, b, b', h => by simp [carry] at h
  | j + 1, b, b', h => by
    unfold carry at h
    split at h
    · split at h
      · rw [carry_len h, List.length_set]
      · simp only [Option.some.injEq] at h
        rw [← h, List.length_set]
    · cases h

set_option maxRecDepth 100000 in
set_option maxHeartbeats 4000000 in
theorem all1_seq (n : Nat) (hn : 2 ≤ n) (n₀ T Sb B : Nat) (a1_0 : ByteArray) (l0 : List S51) (A0 : Option Addr) (c0 : Nat) (l1_1 : List S48) (A1_1 : Option Addr) (c1_1 : Nat) (u x y : Value) (ws w : World)
    (hr0 : Kd.C k51 ws A0 l0.length l0) (hr1 : Kd.C k48 ws A1_1 l1_1.length l1_1) (hb0 : Below ws.heap.size ws w) (hn0 : n₀ = ws.heap.size) (hl : l1_1.length ≤ 1000)
    (hT : T < B) (hS : Sb < B) (hB : n₀ ≤ B) (K0 : Nat) (zs : List (List Int)) (hz : seqB l0 l1_1 K0 (List.replicate l1_1.length 0) = some zs)
    (hcap : Cap T Sb [.string a1_0, .slice A1_1 l1_1.length c1_1, u, x, y] (.slice A0 l0.length c0) w) :
    SeqRow Fence.wide n Try.prog 56 #[.pointer (some ⟨T, 0, none⟩), .pointer (some ⟨Sb, 0, none⟩)] (fun _ : List Int => #[.slice (some ⟨B, 0, none⟩) l1_1.length l1_1.length]) B
      (KpC n₀ T Sb [.string a1_0, .slice A1_1 l1_1.length c1_1, u, x, y] (.slice A0 l0.length c0)) (fun b W => b.length = l1_1.length ∧ IntRow 3 B b W) (fun xs => xs = zs) zs.length w := by
  intro l J W hW hWB hJ hY hJ0
  subst hn0
  have hcapW : Cap T Sb [.string a1_0, .slice A1_1 l1_1.length c1_1, u, x, y] (.slice A0 l0.length c0) W := ⟨blk_later hcap.1 hW, boxed_later hcap.2 hW⟩
  have hbW : Below ws.heap.size ws W := hb0.trans (hW.mono hb0.size)
  have hY := Aside0.mk hY
  have HZ := Aside0.mk hz
  have HR0 := Aside0.mk hr0
  have HR1 := Aside0.mk hr1
  obtain ⟨hc1, hc2⟩ := cap_cells hcapW
  clear hz hr0 hr1 hcap hW hb0
  refine callsIn_of_wp Try.func56 rfl trivial ?_ rfl
  simp only [Try.ntmps56, List.size_toArray, List.length_cons, List.length_nil, Nat.reduceAdd, Nat.reduceSub, Array.replicate_succ, Array.replicate_zero, List.push_toArray, List.append_toArray, List.nil_append, List.cons_append]
  gi_wp2_with (gi_at_make; refine make_rowIn rfl (.tmp 8) 29 3 rfl Try.underlying29 info3 l1_1.length rfl hl ?_; intro W1 hIR hgW)
  rw [hWB] at hIR
  have hK0 : KpC ws.heap.size T Sb [.string a1_0, .slice A1_1 l1_1.length c1_1, u, x, y] (.slice A0 l0.length c0) W W1 := ⟨(Below.refl _ W).grown hgW (by omega) (fun k e => by cases e), fun c => cap_grown c hgW (by simp) (by simp)⟩
  have hJ1 := hJ [] W W1 none hJ0 hgW (by simp)
  have h1 : 1 ≤ n := by omega
  clear hJ0 hc1 hc2 hgW
  gi_loopg [5] K0 (fun k v5 wr => ∃ pre b, J pre wr ∧ Aside0 (b.length = l1_1.length) ∧ IntRow 3 B b wr ∧ KpC ws.heap.size T Sb [.string a1_0, .slice A1_1 l1_1.length c1_1, u, x, y] (.slice A0 l0.length c0) W wr ∧ Aside0 (∃ rest, seqB l0 l1_1 k b = some rest ∧ pre ++ rest = zs))
  case atStart => exact ⟨[], _, hJ1, ⟨by simp⟩, hIR, hK0, ⟨_, HZ.out, rfl⟩⟩
  case round =>
    clear hJ1 hIR hK0
    obtain ⟨pre, b, hJ1, HL, hIR, hK1, HS⟩ := hrel
    obtain ⟨rest, hs, hz⟩ := HS.out
    obtain ⟨k', r, hk, hcar, hr⟩ := seqB_cases hs
    have hpl : pre.length < zs.length := by
      rw [← hz, List.length_append]
      rcases hr with ⟨_, rfl⟩ | ⟨_, _, _, _, rfl⟩ <;> simp
    have HC := Aside0.mk hcar
    have HR := Aside0.mk (And.intro hr hz)
    have HK := Aside0.mk hk
    clear hs hz hcar hr HS hk
    obtain ⟨fn, tmps, assign, body, hy, hR⟩ := hY.out pre b wr hJ1 ⟨HL.out, hIR⟩ hK1 hpl
    gi_wp2
    refine hR.mono ?_
    clear hR hy
    rintro e W3 ⟨rfl, hJ3, ⟨hl3, hI3⟩, hk3⟩
    have hK3 := kpC_t hK1 hk3
    have HL3 := Aside0.mk hl3
    have HW := Aside0.mk (show wrap64 ((l1_1.length : Int) - 1) = (l1_1.length : Int) - 1 by unfold wrap64; omega)
    clear hl3 hJ1 hIR hK1 hk3
    gi_wp2
    gi_loopw [5] (fun v5 wr => ∃ (j : Nat) (i : Int) (b' : List Int), v5 = .int .i64 i ∧ Aside0 (i = (j : Int) - 1) ∧ j ≤ l1_1.length ∧ Aside0 (b'.length = l1_1.length) ∧ IntRow 3 B b' wr ∧ Aside0 (carry l0 l1_1 j b' = some r) ∧ J (pre ++ [b]) wr ∧ KpC ws.heap.size T Sb [.string a1_0, .slice A1_1 l1_1.length c1_1, u, x, y] (.slice A0 l0.length c0) W wr) (fun v5 _ => (intOf v5 + 1).toNat)
    case atStart => exact ⟨l1_1.length, _, b, rfl, ⟨by first | rfl | exact HW.out⟩, Nat.le_refl _, HL3, hI3, HC, hJ3, hK3⟩
    case round =>
      clear hJ3 hI3 hK3 HC HL3 HW
      obtain ⟨j, i, b', rfl, HI, hj, HL', hI', HC', hJ', hK'⟩ := hrel
      cases j with
      | zero =>
        obtain rfl : i = -1 := by have := HI.out; omega
        have hrn : r = none := by have h_ := HC'.out; rw [carry] at h_; exact (Option.some.inj h_).symm
        subst hrn
        have hxs : pre ++ [b] = zs := by
          obtain ⟨hr, hz⟩ := HR.out
          rcases hr with ⟨_, rfl⟩ | ⟨_, _, h_, _⟩
          · exact hz
          · cases h_
        have HXS := Aside0.mk hxs
        clear hxs
        gi_wp2
        gi_quiet (fail)
        gi_wp2
        refine bodyPost_ret (results_none rfl _ _ _) rfl ?_
        exact ⟨⟨_, rfl⟩, _, HXS.out, hJ _ wr _ none hJ' ⟨rfl, rfl, rfl, Nat.le_refl _, fun _ _ _ => rfl⟩ (by simp)⟩
      | succ j =>
        obtain rfl : i = (j : Int) := by have := HI.out; omega
        clear HI
        have hcc := HC'.out
        rw [carry] at hcc
        by_cases hin : inSets l0 l1_1 j = true
        · rw [if_pos hin] at hcc
          obtain ⟨hi0, hi1⟩ : (0 ≤ (rd_T48 l1_1 (j : Int)).f1) ∧ (rd_T48 l1_1 (j : Int)).f1 < (l0.length : Int) := by
            unfold inSets at hin
            rw [Bool.and_eq_true] at hin
            exact ⟨of_decide_eq_true hin.1, of_decide_eq_true hin.2⟩
          have hbw : Below ws.heap.size ws wr := hbW.trans hK'.1
          obtain ⟨ad1, e1, hx0, hx1⟩ := at_T48 HR1.out (j : Int) (by omega) (by omega)
          obtain ⟨vj, evj⟩ : ∃ v, v = rd_T48 l1_1 (j : Int) := ⟨_, rfl⟩
          obtain ⟨ad0, As, cs, e0, hy0, hy1, hys, hyr⟩ := at_T51 HR0.out vj.f1 (by rw [evj]; exact hi0) (by rw [evj]; exact hi1)
          rw [← evj] at hx0 hx1 hi0 hi1
          replace hx1 := (hbw.cell (World.block_lt_of_cell? ws _ hx1)).trans hx1
          replace hy1 := (hbw.cell (World.block_lt_of_cell? ws _ hy1)).trans hy1
          rw [Int.toNat_natCast] at hx1
          cases e1
          cases e0
          obtain ⟨hcT, hcS⟩ := cap_cells (hK'.2 hcapW)
          obtain ⟨hcb, hcf⟩ := intRow_cell hI' (show j < b'.length by rw [HL'.out]; omega)
          obtain ⟨bj, ebj⟩ : ∃ v, v = rd b' (j : Int) := ⟨_, rfl⟩
          obtain ⟨sz, esz⟩ : ∃ v, v = ((rd_T51 l0 vj.f1).f1.length : Int) := ⟨_, rfl⟩
          rw [← ebj] at hcb hcc
          have hss : setOf l0 l1_1 j = sz := by rw [esz, evj, setOf]
          rw [hss] at hcc
          have r1 : (0 ≤ vj.f1) = True := eq_true hi0
          have r2 : (vj.f1 < (l0.length : Int)) = True := eq_true hi1
          have r3 : ((j : Int) < (l1_1.length : Int)) = True := eq_true (by omega)
          have HSZ := Aside0.mk esz
          have HIN := Aside0.mk hin
          have HEV := Aside0.mk evj
          have HEB := Aside0.mk ebj
          have HCC := Aside0.mk hcc
          clear hx0 hy0 hys hyr hi0 hi1 hcc hss hin evj ebj esz hbw
          have hpj : decide (0 ≤ (j : Int)) = true := decide_eq_true (by omega)
          by_cases hq : bj = wrap64 (sz - 1)
          · have heb : (bj == wrap64 (sz - 1)) = true := beq_iff_eq.2 hq
            have hcc := HCC.out
            rw [if_pos hq] at hcc
            have HC2 := Aside0.mk hcc
            clear hcc HCC hq
            rw [HSZ.out] at heb
            gi_wp2
            gi_quiet (fail)
            gi_wp2
            have hg := grown_set wr nq B j (.int .i64 0)
            exact ⟨⟨j, (j : Int) - 1, b'.set j 0, rfl, ⟨rfl⟩, by omega, ⟨by rw [List.length_set]; exact HL'.out⟩, intRow_set (W := wr.drewN nq) hI' j 0, HC2, hJ _ _ _ _ hJ' hg (fun r e => by cases e; rfl), kpC_t hK' ⟨below_grown' hg hB (by have := hK'.1.size; have := hbW.size; omega), fun c => cap_grown c hg (fun e => by cases e; omega) (fun e => by cases e; omega)⟩⟩, by simp [intOf] <;> omega⟩
          · have heb : (bj == wrap64 (sz - 1)) = false := beq_eq_false_iff_ne.2 hq
            have hcc := HCC.out
            rw [if_neg hq] at hcc
            have HC2 := Aside0.mk hcc
            clear hcc HCC hq
            rw [HSZ.out] at heb
            gi_wp2
            gi_quiet (fail)
            gi_wp2
            have hg := grown_set wr nq B j (.int .i64 (wrap64 (bj + 1)))
            have hre : r = some (b'.set j (wrap64 (bj + 1))) := (Option.some.inj HC2.out).symm
            gi_roundg k'
            case measure => have := HK.out; omega
            case rel =>
              refine ⟨pre ++ [b], b'.set j (wrap64 (bj + 1)), hJ _ _ _ _ hJ' hg (fun r e => by cases e; rfl), ⟨by rw [List.length_set]; exact HL'.out⟩, intRow_set (W := wr.drewN nq) hI' j _, kpC_t hK' ⟨below_grown' hg hB (by have := hK'.1.size; have := hbW.size; omega), fun c => cap_grown c hg (fun e => by cases e; omega) (fun e => by cases e; omega)⟩, ⟨?_⟩⟩
              obtain ⟨hr, hz⟩ := HR.out
              rcases hr with ⟨h_, _⟩ | ⟨b2, rest', h_, h2, rfl⟩
              · rw [hre] at h_; cases h_
              · rw [hre] at h_
                cases h_
                exact ⟨rest', h2, by rw [← hz]; simp⟩
        · rw [if_neg hin] at hcc
          cases hcc

set_option maxHeartbeats 1000000 in
/-- all(sets, t): both are boxed; the function value captures the boxes. -/
theorem ball_in (F : Fence) (n : Nat) (hf : F.fn 44) (hro : F.round = none) (v a y z u x : Value) (hv : v.oneCell' = true) (w : World) :
    CallsIn F n Try.prog 44 #[v, .agg #[a, y, z, u, x]] w fun e w' => e = .returned (.func (.func 56) #[] #[.pointer (some ⟨w.heap.size + 1, 0, none⟩), .pointer (some ⟨w.heap.size, 0, none⟩)]) ∧ w' = (w.alloc (.cells #[v] 22)).alloc (.cells #[a, y, z, u, x] 27) := by
  refine callsIn_of_wp Try.func44 rfl hf ?_ hro
  simp only [Try.ntmps44, List.size_toArray, List.length_cons, List.length_nil, Nat.reduceAdd, Nat.reduceSub, Array.replicate_succ, Array.replicate_zero, List.push_toArray, List.append_toArray, List.nil_append, List.cons_append]
  gi_wp2
  go_ret
  exact ⟨rfl, rfl⟩

theorem intRow_C {B : Nat} {b : List Int} {W : World} (h : IntRow 3 B b W) (hm : b.length ≤ 1000) : Kd.C (Kd.int .i64) W (some ⟨B, 0, none⟩) b.length b :=
  (Kd.R_reads' (c := b.length) (Kd.R_of_own (enc := Value.int .i64) (h1 := fun _ => rfl) (e := 3) (ok := fun _ => True) (base := 0) ⟨by simp [encs], .inr ⟨B, b.length, (b.map (Value.int .i64)).toArray, rfl, Nat.zero_le _, h, Nat.le_refl _, by simp only [maxLen]; omega, by simp, by simp [encs]; exact List.take_of_length_le (by simp)⟩⟩ (fun _ _ => trivial))).2.2
section
variable {F : Fence} {n : Nat} {P : Program} {ops : Array Oper} {o : Oper} {a : Act} {Q : Exit → Act → World → Prop} {α : Type}
theorem R_append_if (d : Kd α) {W : World} {K : Act → World → Prop} {E : Prop} (base : Nat) (hgd : o.guard = none) (s x : Operand) (t e : TypeId) (z : Value) (bytes : Nat)
    (ho : o.op = .call { callee := .builtin .append, args := #[s, x], argTypes := #[t, t] })
    (ht : P.underlying t = some (.slice e)) (hinfo : (P.info? e).map (fun i => (i.zero, i.size, i.bytes)) = some (some z, d.sz, bytes)) (hz : z.cells.size = d.sz) (hs0 : 0 < d.sz) (hb0 : 0 < bytes)
    (v : Value) (xs : List α) (p : α) (cs : List Value) (ok okp : Nat → Prop) (hs : a.eval s = v) (hx : a.eval x = .slice (some ⟨W.heap.size, 0, none⟩) 1 1) (hp : d.M W base okp p cs) (hokp : ∀ k, okp k → ok k ∧ some k ≠ v.ownBlock) (hfresh : ∀ k, W.heap.size ≤ k → ok k)
    (HO : d.R e W base ok v xs) (hbase : base ≤ W.heap.size) (hl : (xs.length + 1) * bytes ≤ 140737488355328)
    (h : ∀ v1 w1, d.R e w1 base ok v1 (xs ++ [p]) → (W.alloc (.cells cs.toArray e)).grownBy w1 v.ownBlock → (∃ g cap, v1 = .slice (some ⟨g, 0, none⟩) (xs.length + 1) cap) → K (a.put o.dst v1) w1) :
    if Region.wanted o (yielded ops a.tmps) = true then Oper.wpIn F n P o a (W.alloc (.cells cs.toArray e)) K Q else E := by
  rw [if_pos (by simp [Region.wanted, hgd])]
  obtain ⟨h0, inner, hown, hr⟩ := HO
  obtain ⟨i0, hi, hzz⟩ := Option.map_eq_some_iff.1 hinfo
  simp only [Prod.mk.injEq] at hzz
  obtain ⟨hz0, hz1, hz2⟩ := hzz
  have hcs := d.K_len (d.K_of_M hp)
  have hlen : xs.length + 1 ≤ 140737488355328 := Nat.le_trans (Nat.le_mul_of_pos_right _ hb0) hl
  obtain ⟨v1, w1, hrun, hown1, r2, hat, hg⟩ := run_append_own_at (P := P) (W.alloc (.cells cs.toArray e)) base t o.type e i0 z d.sz bytes ht hi hz0 hz1 hz2 hz hs0 v xs.length inner (hown.alloc _) ⟨W.heap.size, 0, none⟩ 1 1 cs (by rw [hcs]; simp)
    (by simpa using World.news_of_block (cs := cs.toArray) (t := e) (fr := (0, 0)) (heap_alloc_new W (.cells cs.toArray e))) (d.K_one (d.K_of_M hp)) (by simp only [maxLen]; omega) hl (by simp; omega)
  have hK := h v1 w1 (Kd.R_appended h0 hr hp hokp hfresh hown1 (World.grownBy.trans (World.grownBy_alloc W _ _) r2) (by
    rcases hg with hat | hat
    · exact .inl hat
    · exact .inr ⟨_, hat, by simp⟩)) r2 (ownsRow_succ hown1)
  unfold Oper.wpIn
  refine ⟨?_, ?_⟩
  · simp [Oper.about, ho, resolve, Target.leads, Sem.run_pure]
  · rw [Oper.semAt_plain F _ _ (by rw [ho]; intro c hc'; cases hc')]
    simp [execOp, ho, resolve, invoke, builtin, hs, hx, hrun, Result.andThen]
    exact hK
theorem S_append_if (d : Kd α) {W : World} {K : Act → World → Prop} {E : Prop} (base : Nat) (hgd : o.guard = none) (s x : Operand) (t e : TypeId) (z : Value) (bytes : Nat)
    (ho : o.op = .call { callee := .builtin .append, args := #[s, x], argTypes := #[t, t] })
    (ht : P.underlying t = some (.slice e)) (hinfo : (P.info? e).map (fun i => (i.zero, i.size, i.bytes)) = some (some z, d.sz, bytes)) (hz : z.cells.size = d.sz) (hs0 : 0 < d.sz) (hb0 : 0 < bytes)
    (v : Value) (xs : List α) (p : α) (cs : List Value) (ok okp : Nat → Prop) (hs : a.eval s = v) (hx : a.eval x = .slice (some ⟨W.heap.size, 0, none⟩) 1 1) (hp : d.M W base okp p cs) (hokp : ∀ k, okp k → ok k ∧ some k ≠ v.ownBlock) (hfresh : ∀ k, W.heap.size ≤ k → ok k)
    (HO : Kd.S d e W base (fun k => ok k ∧ ¬ okp k) v xs) (hbase : base ≤ W.heap.size) (hl : (xs.length + 1) * bytes ≤ 140737488355328)
    (h : ∀ v1 w1, Kd.S d e w1 base ok v1 (xs ++ [p]) → (W.alloc (.cells cs.toArray e)).grownBy w1 v.ownBlock → (∃ g cap, v1 = .slice (some ⟨g, 0, none⟩) (xs.length + 1) cap) → K (a.put o.dst v1) w1) :
    if Region.wanted o (yielded ops a.tmps) = true then Oper.wpIn F n P o a (W.alloc (.cells cs.toArray e)) K Q else E := by
  obtain ⟨f, hf, hR⟩ := Kd.S_tag HO xs.length okp (fun _ hk h2 => h2.2 hk)
  refine R_append_if (Kd.tag f d) base hgd s x t e z bytes ho ht hinfo hz hs0 hb0 v xs.zipIdx (p, xs.length) cs ok okp hs hx (d.M_mono (fun k hk => ⟨hk, hf k hk⟩) hp) hokp hfresh (Kd.R_mono hR (fun _ hk => hk.1)) hbase (by rw [List.length_zipIdx]; exact hl) ?_
  intro v1 w1 hr
  rw [← Kd.zip_snoc] at hr
  rw [List.length_zipIdx]
  exact h v1 w1 ⟨f, hr⟩
end

/-- What the loop has gathered. -/
def outB (a1_0 : ByteArray) (l1_1 : List S48) (l1_2 : List S62) (l1_3 : List S111) (l1_4 : List S111) (pre : List (List Int)) : List (List Int) := pre.filter fun b => binding_holds.f a1_0 l1_1 l1_2 l1_3 l1_4 b == some true
theorem holds_some {m : Nat} {b : List Int} (hb : b.length = m) : ∀ {gs : List S62}, gs.all (okG m) = true → ∃ r, holdsGo b gs = some r
  | [], _ => ⟨true, rfl⟩
  | g :: gs, h => by
    rw [List.all_cons, Bool.and_eq_true] at h
    have hg := of_decide_eq_true h.1
    rw [← hb] at hg
    rw [holdsGo, if_pos hg]
    split
    · exact ⟨_, rfl⟩
    · exact holds_some hb h.2
/-- Between two rounds: n₁: the variable's box; the rows lie from b on; the iterator's own row is b + 2. -/
def AllI (w : World) (n₁ b : Nat) (cs : List Value) (v0 : Value) (f : List (List Int) → List (List Int)) (pre : List (List Int)) (W : World) : Prop :=
  ((∃ v, Boxed W n₁ 45 v ∧ Kd.S (Kd.slice 3 (Kd.int .i64)) 29 W b (fun k => k ≠ b + 2) v (f pre)) ∧ Blk W w.heap.size 27 cs ∧ (Blk W (n₁ + 1 + 1) 27 cs ∧ Boxed W (n₁ + 1) 22 v0)) ∧ Below w.heap.size w W
theorem allI_own (w : World) (n₁ b : Nat) (cs : List Value) (v0 : Value) (f : List (List Int) → List (List Int)) (B : Nat) (hB : w.heap.size ≤ B) : OwnFrom B (AllI w n₁ b cs v0 f) :=
  OwnFrom.and (Own.from (Own.and' (Own.ex fun v => Own.and' (boxed_own _ _ fun _ => v) (S_own _ _ _ _ (fun _ => v) f)) (Own.and' (blk_own _ _ fun _ => _) (Own.and' (blk_own _ _ fun _ => _) (boxed_own _ _ fun _ => _)))) _) (ownFrom_below (Nat.le_refl _) hB)
theorem allI_row (w : World) (n₁ b : Nat) (cs : List Value) (v0 : Value) (f : List (List Int) → List (List Int)) (hn : w.heap.size < n₁) (hb : n₁ + 3 ≤ b) (pre : List (List Int)) (X Y : World) (h : AllI w n₁ b cs v0 f pre X) (hg : X.grownBy Y (some (b + 2))) : AllI w n₁ b cs v0 f pre Y := by
  obtain ⟨⟨⟨v, hv, hS⟩, hT, hT2, hS2⟩, hB⟩ := h
  refine ⟨⟨⟨v, hv.kept hg (by simp <;> omega), Kd.S_step hS (fun k hk hlt => hg.block k hlt (fun e => hk (by cases e; rfl)))⟩, (hg.block _ (Array.getElem?_eq_some_iff.1 hT).1 (by simp <;> omega)).trans hT, (hg.block _ (Array.getElem?_eq_some_iff.1 hT2).1 (by simp <;> omega)).trans hT2, hS2.kept hg (by simp <;> omega)⟩, ?_⟩
  exact hB.trans (below_grown' hg (by omega) hB.size)
theorem blk5 {W : World} {g : Nat} {t : TypeId} {a b c d e : Value} (h : Blk W g t [a, b, c, d, e]) : W.cell? ⟨g, 0, none⟩ = some a ∧ W.cell? ⟨g, 1, none⟩ = some b ∧ W.cell? ⟨g, 2, none⟩ = some c ∧ W.cell? ⟨g, 3, none⟩ = some d ∧ W.cell? ⟨g, 4, none⟩ = some e := by
  refine ⟨?_, ?_, ?_, ?_, ?_⟩ <;> simp [World.cell?, show W.heap[g]? = _ from h]
set_option maxRecDepth 100000 in
set_option maxHeartbeats 4000000 in
theorem binding_All.in_ (n : Nat) (hn : 4 ≤ n) (A0 : Option Addr) (c0 : Nat) (l0 : List S51) (a1_0 : ByteArray) (A1_1 : Option Addr) (c1_1 : Nat) (l1_1 : List S48) (A1_2 : Option Addr) (c1_2 : Nat) (l1_2 : List S62) (A1_3 : Option Addr) (c1_3 : Nat) (l1_3 : List S111) (A1_4 : Option Addr) (c1_4 : Nat) (l1_4 : List S111) (w : World)
    (hr0 : Kd.C k51 w A0 l0.length l0) (hc0 : l0.length ≤ c0) (hr1_1 : Kd.C k48 w A1_1 l1_1.length l1_1) (hc1_1 : l1_1.length ≤ c1_1) (hr1_2 : Kd.C k62 w A1_2 l1_2.length l1_2) (hc1_2 : l1_2.length ≤ c1_2) (hr1_3 : Kd.C k111 w A1_3 l1_3.length l1_3) (hc1_3 : l1_3.length ≤ c1_3) (hr1_4 : Kd.C k111 w A1_4 l1_4.length l1_4) (hc1_4 : l1_4.length ≤ c1_4)
    (hck : binding_Check.f l0 a1_0 l1_1 l1_2 l1_3 l1_4 = some 0) (hl : l1_1.length ≤ 1000) (zs : List (List Int)) (hz : seqB l0 l1_1 100000 (List.replicate l1_1.length 0) = some zs) (hzl : zs.length ≤ 100000) (hgl : l1_2.length ≤ 1000) (hza : l1_2.all (okG l1_1.length) = true) :
    CallsIn Fence.wide n Try.prog 24 #[.slice A0 l0.length c0, .agg #[.string a1_0, .slice A1_1 l1_1.length c1_1, .slice A1_2 l1_2.length c1_2, .slice A1_3 l1_3.length c1_3, .slice A1_4 l1_4.length c1_4]] w fun e W' => ∃ v0_ : Value, e = .returned (v0_) ∧ Kd.S (Kd.slice 3 (Kd.int .i64)) 29 W' w.heap.size (fun _ => True) v0_ (outB a1_0 l1_1 l1_2 l1_3 l1_4 zs) ∧ Below w.heap.size w W' := by
  have h1 : 1 ≤ n := by omega
  have HR0 := Aside0.mk hr0
  have HC0 := Aside0.mk hc0
  have HR1 := Aside0.mk hr1_1
  have HC1 := Aside0.mk hc1_1
  have HR2 := Aside0.mk hr1_2
  have HC2 := Aside0.mk hc1_2
  have HR3 := Aside0.mk hr1_3
  have HC3 := Aside0.mk hc1_3
  have HR4 := Aside0.mk hr1_4
  have HC4 := Aside0.mk hc1_4
  have HZ := Aside0.mk hz
  have HZA := Aside0.mk hza
  have HCK := Aside0.mk hck
  clear hr0 hc0 hr1_1 hc1_1 hr1_2 hc1_2 hr1_3 hc1_3 hr1_4 hc1_4 hz hza hck
  refine callsIn_of_wp_marks Try.func24 rfl trivial ?_ rfl
  simp only [Try.ntmps24, List.size_toArray, List.length_cons, List.length_nil, Nat.reduceAdd, Nat.reduceSub, Array.replicate_succ, Array.replicate_zero, List.push_toArray, List.append_toArray, List.nil_append, List.cons_append]
  gi_wp2
  refine ⟨trivial, (callsIn_wide.2 (binding_Check.calls A0 c0 l0 a1_0 A1_1 c1_1 l1_1 A1_2 c1_2 l1_2 A1_3 c1_3 l1_3 A1_4 c1_4 l1_4 0 _ (Kd.C_alloc HR0.out _) HC0.out (Kd.C_alloc HR1.out _) HC1.out (Kd.C_alloc HR2.out _) HC2.out (Kd.C_alloc HR3.out _) HC3.out (Kd.C_alloc HR4.out _) HC4.out HCK.out)).mono ?_⟩
  rintro e W1 ⟨rfl, hb1⟩
  rw [World.size_alloc] at hb1
  have hT1 : Blk W1 w.heap.size 27 [.string a1_0, .slice A1_1 l1_1.length c1_1, .slice A1_2 l1_2.length c1_2, .slice A1_3 l1_3.length c1_3, .slice A1_4 l1_4.length c1_4] := (hb1.block _ (by omega)).trans (World.alloc_heap_new w _)
  have hsz1 : w.heap.size < W1.heap.size := by have h_ := hb1.size; simp at h_; omega
  have hB1 : Below w.heap.size w W1 := ((Below.refl _ w).alloc (Nat.le_refl _) _).trans (hb1.mono (by omega))
  obtain ⟨k0, k1, k2, k3, k4⟩ := blk5 hT1
  clear hb1
  have HB1 := Aside0.mk hB1
  have HT1 := Aside0.mk hT1
  clear hB1 hT1
  gi_wp2_with (refine ⟨trivial, ?_⟩; gi_at_call 44; refine (ball_in Fence.wide (n - 1) trivial rfl _ _ _ _ _ _ rfl _).mono ?_; rintro e w' ⟨rfl, rfl⟩)
  obtain ⟨W0, hW0⟩ : ∃ W0, ((W1.alloc (.cells #[.slice none 0 0] 45)).alloc (.cells #[.slice A0 l0.length c0] 22)).alloc (.cells #[.string a1_0, .slice A1_1 l1_1.length c1_1, .slice A1_2 l1_2.length c1_2, .slice A1_3 l1_3.length c1_3, .slice A1_4 l1_4.length c1_4] 27) = W0 := ⟨_, rfl⟩
  have hsz0 : W0.heap.size = W1.heap.size + 3 := by rw [← hW0]; simp
  have bO : Boxed W0 W1.heap.size 45 (.slice none 0 0) := hW0 ▸ ((Boxed.new W1 45 (.slice none 0 0)).alloc _).alloc _
  have bS : Boxed W0 (W1.heap.size + 1) 22 (.slice A0 l0.length c0) := by
    have h_ := (Boxed.new (W1.alloc (.cells #[.slice none 0 0] 45)) 22 (.slice A0 l0.length c0)).alloc (.cells #[.string a1_0, .slice A1_1 l1_1.length c1_1, .slice A1_2 l1_2.length c1_2, .slice A1_3 l1_3.length c1_3, .slice A1_4 l1_4.length c1_4] 27)
    rw [World.size_alloc] at h_
    exact hW0 ▸ h_
  have bT : Blk W0 (W1.heap.size + 1 + 1) 27 [.string a1_0, .slice A1_1 l1_1.length c1_1, .slice A1_2 l1_2.length c1_2, .slice A1_3 l1_3.length c1_3, .slice A1_4 l1_4.length c1_4] := by
    have h_ := World.alloc_heap_new ((W1.alloc (.cells #[.slice none 0 0] 45)).alloc (.cells #[.slice A0 l0.length c0] 22)) (.cells #[.string a1_0, .slice A1_1 l1_1.length c1_1, .slice A1_2 l1_2.length c1_2, .slice A1_3 l1_3.length c1_3, .slice A1_4 l1_4.length c1_4] 27)
    rw [World.size_alloc, World.size_alloc] at h_
    exact hW0 ▸ h_
  have hB0 : Below w.heap.size w W0 := hW0 ▸ (((HB1.out.alloc (by omega) _).alloc (by simp; omega) _).alloc (by simp; omega) _)
  have bT1 : Blk W0 w.heap.size 27 [.string a1_0, .slice A1_1 l1_1.length c1_1, .slice A1_2 l1_2.length c1_2, .slice A1_3 l1_3.length c1_3, .slice A1_4 l1_4.length c1_4] := hW0 ▸ blk_alloc (blk_alloc (blk_alloc HT1.out _) _) _
  rw [hW0]
  clear hW0
  refine rangeFunc_row (F := Fence.wide) (show Fence.wide.round = none from rfl) h1 (gf := 56) (lb := #[.pointer (some ⟨W1.heap.size + 1 + 1, 0, none⟩), .pointer (some ⟨W1.heap.size + 1, 0, none⟩)]) rfl trivial (enters_of Try.func56 (by kernel_rfl) rfl)
    (all1_seq (n - 1) (by omega) w.heap.size (W1.heap.size + 1 + 1) (W1.heap.size + 1) (W0.heap.size + 2) a1_0 l0 A0 c0 l1_1 A1_1 c1_1 _ _ _ w W0 HR0.out HR1.out hB0 rfl hl (by omega) (by omega) (by omega) 100000 zs HZ.out ⟨bT, bS⟩)
    kpC_t (kpC_b (by omega)) (fun x W o o' _ _ hh => ⟨hh.1, (World.putObj_heap_other (by omega)).trans hh.2⟩) (by intro _; rfl)
    (AllI w W1.heap.size W0.heap.size [.string a1_0, .slice A1_1 l1_1.length c1_1, .slice A1_2 l1_2.length c1_2, .slice A1_3 l1_3.length c1_3, .slice A1_4 l1_4.length c1_4] (.slice A0 l0.length c0) (outB a1_0 l1_1 l1_2 l1_3 l1_4)) (allI_own w _ _ _ _ _ _ (by omega)) (allI_row w _ _ _ _ _ (by omega) (by omega))
    ⟨⟨⟨_, bO, Kd.S_nil _ _ _ _ _⟩, bT1, bT, bS⟩, hB0⟩
    (fun x => { tmps := #[.slice A0 l0.length c0, .agg #[.string a1_0, .slice A1_1 l1_1.length c1_1, .slice A1_2 l1_2.length c1_2, .slice A1_3 l1_3.length c1_3, .slice A1_4 l1_4.length c1_4], undef, .pointer (some ⟨w.heap.size, 0, none⟩), .slice none 0 0, .pointer (some ⟨W1.heap.size, 0, none⟩), .slice (some ⟨W0.heap.size + 2, 0, none⟩) l1_1.length l1_1.length, .slice A0 l0.length c0, .agg #[.string a1_0, .slice A1_1 l1_1.length c1_1, .slice A1_2 l1_2.length c1_2, .slice A1_3 l1_3.length c1_3, .slice A1_4 l1_4.length c1_4], .int .i64 0, .bool false, .slice A0 l0.length c0, .agg #[.string a1_0, .slice A1_1 l1_1.length c1_1, .slice A1_2 l1_2.length c1_2, .slice A1_3 l1_3.length c1_3, .slice A1_4 l1_4.length c1_4], .func (.func 56) #[] #[.pointer (some ⟨W1.heap.size + 1 + 1, 0, none⟩), .pointer (some ⟨W1.heap.size + 1, 0, none⟩)], .slice (some ⟨W0.heap.size + 2, 0, none⟩) l1_1.length l1_1.length, undef, undef, undef, undef, undef, undef, undef, undef, undef], defers := [] }) ?assign ?body ?done
  case assign =>
    clear hsz0
    intro l x W K hK
    gi_wp2
    exact hK
  case body =>
    have HSZ0 := Aside0.mk hsz0
    clear hsz0
    clear bO bS bT bT1 hB0 k0 k1 k2 k3 k4
    rintro l pre x W ⟨⟨⟨v, hv, hS⟩, hT, hT2, hS2⟩, hB⟩ ⟨hxl, hx⟩ hlt hsw
    obtain ⟨k0, k1, k2, k3, k4⟩ := blk5 hT
    obtain ⟨A9, c9, rfl⟩ := Kd.S_slice hS
    have hol : (outB a1_0 l1_1 l1_2 l1_3 l1_4 pre).length ≤ pre.length := List.length_filter_le _ _
    obtain ⟨r, hr⟩ := holds_some hxl HZA.out
    have hrf : binding_holds.f a1_0 l1_1 l1_2 l1_3 l1_4 x = some r := by rw [binding_holds.f, if_pos hgl, hr]
    have hC := HB1.out.size
    have hCx := intRow_C hx (by omega)
    have hcall := binding_holds.calls a1_0 A1_1 c1_1 l1_1 A1_2 c1_2 l1_2 A1_3 c1_3 l1_3 A1_4 c1_4 l1_4 (some ⟨W0.heap.size + 2, 0, none⟩) l1_1.length x r W (Kd.C_below HR1.out hB) HC1.out (Kd.C_below HR2.out hB) HC2.out (Kd.C_below HR3.out hB) HC3.out (Kd.C_below HR4.out hB) HC4.out hCx (by omega) hrf
    rw [hxl] at hcall
    have HX := Aside0.mk hx
    have HCALL := Aside0.mk hcall
    have HRF := Aside0.mk hrf
    clear hx hcall hrf hr
    gi_wp2
    refine ⟨trivial, (fun h => by cases h), ((CallsIn.inRound l (callsIn_wide.2 HCALL.out))).mono ?_⟩
    rintro e W2 ⟨rfl, hbW⟩
    clear HCALL
    have hv2 := boxed_later hv hbW
    have hT_2 := blk_later hT hbW
    have hT2_2 := blk_later hT2 hbW
    have hS2_2 := boxed_later hS2 hbW
    have hx2 : IntRow 3 (W0.heap.size + 2) x W2 := (hbW.block _ (Array.getElem?_eq_some_iff.1 HX.out).1).trans HX.out
    have hB2 : Below w.heap.size W W2 := hbW.mono hB.size
    have hBw2 := hB.trans hB2
    have hSS := Kd.S_below hS hbW
    have hK2 := keeps_later hbW
    have hvc := hv2.cell
    have hvf := hv2.frozen
    have hszW2 := hbW.size
    cases r with
    | false =>
      have hout : outB a1_0 l1_1 l1_2 l1_3 l1_4 (pre ++ [x]) = outB a1_0 l1_1 l1_2 l1_3 l1_4 pre := by
        unfold outB
        rw [List.filter_append, List.filter_cons, HRF.out]
        simp
      have HOUT := Aside0.mk hout
      have HSS := Aside0.mk hSS
      have HX2 := Aside0.mk hx2
      clear hout hSS hx2
      gi_wp2
      exact ⟨hK2.from _, ⟨hB2, fun _ => ⟨hT2_2, hS2_2⟩⟩, ⟨hxl, HX2.out⟩, ⟨⟨_, hv2, by rw [HOUT.out]; exact HSS.out⟩, hT_2, hT2_2, hS2_2⟩, hBw2⟩
    | true =>
      gi_wp2
      have hout : outB a1_0 l1_1 l1_2 l1_3 l1_4 (pre ++ [x]) = outB a1_0 l1_1 l1_2 l1_3 l1_4 pre ++ [x] := by
        unfold outB
        rw [List.filter_append, List.filter_cons, HRF.out]
        simp
      have HOUT := Aside0.mk hout
      have hBB : W0.heap.size + 2 < W.heap.size := (Array.getElem?_eq_some_iff.1 HX.out).1
      have hSb := Kd.S_mono (Kd.S_bound hS) (ok' := fun k => k < W2.heap.size ∧ k ≠ W0.heap.size + 2) (fun k hk => ⟨by have := hk.2.2.1; omega, hk.1⟩)
      have hSb2 := Kd.S_below hSb hbW
      have HNE := Aside0.mk (fun k (hk : (.slice A9 (outB a1_0 l1_1 l1_2 l1_3 l1_4 pre).length c9 : Value).ownBlock = some k) => (Kd.S_R hSb2).1 k hk)
      have HSS := Aside0.mk (Kd.S_mono hSb2 (ok' := fun k => k ≠ W0.heap.size + 2 ∧ k < W2.heap.size) (fun k hk => ⟨hk.2, hk.1⟩))
      have HX2 := Aside0.mk hx2
      have hC2 := intRow_C hx2 (by omega)
      have hcl := slices_Clone_int_int.calls (some ⟨W0.heap.size + 2, 0, none⟩) l1_1.length x x W2.drew (Kd.C_drew hC2) (by omega) (by rw [slices_Clone_int_int.f, if_pos (by omega)])
      rw [hxl] at hcl
      have HCL := Aside0.mk hcl
      have hHSZ := HSZ0.out
      have hW01 : W1.heap.size < W0.heap.size := by omega
      clear hHSZ hcl hC2 hSb2 hSb hout hx2 hSS hS hv hT hT2 hS2 k0 k1 k2 k3 k4
      refine wpIn_region_round (F := Fence.wide) (by kernel_rfl) (by kernel_rfl) ?_
      refine wpAnyIn_ready (rs := [0, 1]) (by kernel_rfl) (by simp) (AllReadyIn.cons rfl (fun K hK => ?_) (AllReadyIn.cons rfl (fun K hK => ?_) AllReadyIn.nil))
      · go_simp
        refine hK _ _ ?_
        clear hK K
        refine wpAnyIn_ready (rs := [1]) (by kernel_rfl) (by simp) (AllReadyIn.cons rfl (fun K hK => ?_) AllReadyIn.nil)
        · go_simp
          refine hK _ _ ?_
          clear hK K
          refine wpAnyIn_ready (rs := [2]) (by kernel_rfl) (by simp) (AllReadyIn.cons rfl (fun K hK => ?_) AllReadyIn.nil)
          · go_simp
            refine ⟨trivial, (fun h => by cases h), (callsIn_wide.2 HCL.out).mono ?_⟩
            rintro e W3 ⟨v3, rfl, hR3, hb3⟩
            obtain ⟨A3, c3, rfl⟩ := Kd.R_slice hR3
            simp only [hxl] at hR3
            try simp only [hxl]
            refine hK _ _ ?_
            clear hK K
            have hb3' : Below W2.heap.size W2 W3 := (below_drew1 (Below.refl _ _)).trans hb3
            clear hb3
            have HR3 := Aside0.mk (show Kd.R (Kd.int .i64) 3 W3 W2.heap.size (fun k => W2.heap.size ≤ k) (.slice A3 l1_1.length c3) x from Kd.R_mono (Kd.R_bound hR3) (fun k hk => hk.2.1))
            clear hR3
            have hv3 := boxed_later hv2 hb3'
            have hvc3 := hv3.cell
            have hvc3a := fun o => (hv3.alloc o).cell
            have hvf3 := hv3.frozen
            have HB3 := Aside0.mk hb3'
            clear hb3'
            refine wpAnyIn_ready (rs := [3]) (by kernel_rfl) (by simp) (AllReadyIn.cons rfl (fun K hK => ?_) AllReadyIn.nil)
            · go_simp
              refine hK _ _ ?_
              clear hK K
              refine wpAnyIn_ready (rs := [4]) (by kernel_rfl) (by simp) (AllReadyIn.cons rfl (fun K hK => ?_) AllReadyIn.nil)
              · refine S_append_if (Kd.slice 3 (Kd.int .i64)) W0.heap.size rfl (.tmp 18) (.tmp 21) 45 29 (.slice none 0 0) 24 rfl Try.underlying45 info29 rfl (by decide) (by omega) (.slice A9 (outB a1_0 l1_1 l1_2 l1_3 l1_4 pre).length c9) (outB a1_0 l1_1 l1_2 l1_3 l1_4 pre) x [.slice A3 l1_1.length c3] (fun k => k ≠ W0.heap.size + 2) (fun k => W2.heap.size ≤ k) rfl rfl ⟨_, rfl, Kd.R_lower HR3.out (by omega)⟩ (fun k hk => ⟨by omega, fun e => by have h_ := HNE.out k e.symm; omega⟩) (fun k hk => by have h_ := HB3.out.size; omega) (Kd.S_mono (Kd.S_below HSS.out HB3.out) (fun k hk => ⟨hk.1, by omega⟩)) (by have h_ := HB3.out.size; omega) (by omega) ?_
                rintro v1 w4 hS4 hg4 ⟨g4, cap4, rfl⟩
                refine hK _ _ ?_
                clear hK K
                have hSS3 := Kd.S_below HSS.out HB3.out
                have hs3 := HB3.out.size
                obtain ⟨hk4, hb4⟩ := S_keeps (base := W0.heap.size) hSS3 (by omega) hg4
                have hx3 : IntRow 3 (W0.heap.size + 2) x W3 := (HB3.out.block _ (by omega)).trans HX2.out
                have hx4 := intRow_later (intRow_later hx3 (World.grownBy_alloc W3 _ none) (by simp)) hg4 (fun e => by have h_ := HNE.out _ e; exact h_.2 rfl)
                have hv4 : Boxed w4 W1.heap.size 45 (.slice A9 (outB a1_0 l1_1 l1_2 l1_3 l1_4 pre).length c9) := (hb4.block _ (by omega)).trans hv3
                have hvc4 := hv4.cell
                have hvf4 := hv4.frozen
                have HS4 := Aside0.mk hS4
                have HK4 := Aside0.mk hk4
                have HB4 := Aside0.mk hb4
                have HX4 := Aside0.mk hx4
                clear hS4 hk4 hb4 hx4 hg4 hSS3 hx3
                refine wpAnyIn_ready (rs := [5]) (by kernel_rfl) (by simp) (AllReadyIn.cons rfl (fun K hK => ?_) AllReadyIn.nil)
                · go_simp
                  refine hK _ _ ?_
                  clear hK K
                  refine wpAnyIn_done (by kernel_rfl) ?_ _
                  gi_wp2
                  have hHS := HSZ0.out
                  have hT5 := blk_other (p := ⟨W1.heap.size, 0, none⟩) ((HB4.out.block _ (by omega)).trans (blk_later hT2_2 HB3.out)) (by simp <;> omega) (.slice (some ⟨g4, 0, none⟩) ((outB a1_0 l1_1 l1_2 l1_3 l1_4 pre).length + 1) cap4)
                  have hT6 := blk_other (p := ⟨W1.heap.size, 0, none⟩) ((HB4.out.block _ (by omega)).trans (blk_later hT_2 HB3.out)) (by simp <;> omega) (.slice (some ⟨g4, 0, none⟩) ((outB a1_0 l1_1 l1_2 l1_3 l1_4 pre).length + 1) cap4)
                  have hS5 := (show Boxed w4 (W1.heap.size + 1) 22 (.slice A0 l0.length c0) from (HB4.out.block _ (by omega)).trans (boxed_later hS2_2 HB3.out)).other (B' := W1.heap.size) (by omega) (.slice (some ⟨g4, 0, none⟩) ((outB a1_0 l1_1 l1_2 l1_3 l1_4 pre).length + 1) cap4)
                  have hb5 : Below w.heap.size W (w4.setCell ⟨W1.heap.size, 0, none⟩ (.slice (some ⟨g4, 0, none⟩) ((outB a1_0 l1_1 l1_2 l1_3 l1_4 pre).length + 1) cap4)) := ((hB2.trans (HB3.out.mono (by omega))).trans (HB4.out.mono (by omega))).setCell (p := ⟨W1.heap.size, 0, none⟩) (by simp; omega) _
                  refine ⟨(((hK2.trans (keeps_later HB3.out)).trans HK4.out).trans (KeepsOthers.setCell _ _ _)).from _, ⟨hb5, fun _ => ⟨hT5, hS5⟩⟩, ⟨hxl, (Below.heap_setCell _ _ _ _ (by simp; omega)).trans HX4.out⟩, ⟨⟨_, hv4.set _, ?_⟩, hT6, hT5, hS5⟩, hB.trans hb5⟩
                  rw [HOUT.out]
                  exact Kd.S_mono (Kd.S_far (Kd.S_bound HS4.out) (fun k hk => by have := hk.2.1; simp; omega) _) (fun k hk => hk.1)
      · go_simp
        refine hK _ _ ?_
        clear hK K
        refine wpAnyIn_ready (rs := [0, 2]) (by kernel_rfl) (by simp) (AllReadyIn.cons rfl (fun K hK => ?_) (AllReadyIn.cons rfl (fun K hK => ?_) AllReadyIn.nil))
        · go_simp
          refine hK _ _ ?_
          clear hK K
          refine wpAnyIn_ready (rs := [2]) (by kernel_rfl) (by simp) (AllReadyIn.cons rfl (fun K hK => ?_) AllReadyIn.nil)
          · go_simp
            refine ⟨trivial, (fun h => by cases h), (callsIn_wide.2 HCL.out).mono ?_⟩
            rintro e W3 ⟨v3, rfl, hR3, hb3⟩
            obtain ⟨A3, c3, rfl⟩ := Kd.R_slice hR3
            simp only [hxl] at hR3
            try simp only [hxl]
            refine hK _ _ ?_
            clear hK K
            have hb3' : Below W2.heap.size W2 W3 := (below_drew1 (Below.refl _ _)).trans hb3
            clear hb3
            have HR3 := Aside0.mk (show Kd.R (Kd.int .i64) 3 W3 W2.heap.size (fun k => W2.heap.size ≤ k) (.slice A3 l1_1.length c3) x from Kd.R_mono (Kd.R_bound hR3) (fun k hk => hk.2.1))
            clear hR3
            have hv3 := boxed_later hv2 hb3'
            have hvc3 := hv3.cell
            have hvc3a := fun o => (hv3.alloc o).cell
            have hvf3 := hv3.frozen
            have HB3 := Aside0.mk hb3'
            clear hb3'
            refine wpAnyIn_ready (rs := [3]) (by kernel_rfl) (by simp) (AllReadyIn.cons rfl (fun K hK => ?_) AllReadyIn.nil)
            · go_simp
              refine hK _ _ ?_
              clear hK K
              refine wpAnyIn_ready (rs := [4]) (by kernel_rfl) (by simp) (AllReadyIn.cons rfl (fun K hK => ?_) AllReadyIn.nil)
              · refine S_append_if (Kd.slice 3 (Kd.int .i64)) W0.heap.size rfl (.tmp 18) (.tmp 21) 45 29 (.slice none 0 0) 24 rfl Try.underlying45 info29 rfl (by decide) (by omega) (.slice A9 (outB a1_0 l1_1 l1_2 l1_3 l1_4 pre).length c9) (outB a1_0 l1_1 l1_2 l1_3 l1_4 pre) x [.slice A3 l1_1.length c3] (fun k => k ≠ W0.heap.size + 2) (fun k => W2.heap.size ≤ k) rfl rfl ⟨_, rfl, Kd.R_lower HR3.out (by omega)⟩ (fun k hk => ⟨by omega, fun e => by have h_ := HNE.out k e.symm; omega⟩) (fun k hk => by have h_ := HB3.out.size; omega) (Kd.S_mono (Kd.S_below HSS.out HB3.out) (fun k hk => ⟨hk.1, by omega⟩)) (by have h_ := HB3.out.size; omega) (by omega) ?_
                rintro v1 w4 hS4 hg4 ⟨g4, cap4, rfl⟩
                refine hK _ _ ?_
                clear hK K
                have hSS3 := Kd.S_below HSS.out HB3.out
                have hs3 := HB3.out.size
                obtain ⟨hk4, hb4⟩ := S_keeps (base := W0.heap.size) hSS3 (by omega) hg4
                have hx3 : IntRow 3 (W0.heap.size + 2) x W3 := (HB3.out.block _ (by omega)).trans HX2.out
                have hx4 := intRow_later (intRow_later hx3 (World.grownBy_alloc W3 _ none) (by simp)) hg4 (fun e => by have h_ := HNE.out _ e; exact h_.2 rfl)
                have hv4 : Boxed w4 W1.heap.size 45 (.slice A9 (outB a1_0 l1_1 l1_2 l1_3 l1_4 pre).length c9) := (hb4.block _ (by omega)).trans hv3
                have hvc4 := hv4.cell
                have hvf4 := hv4.frozen
                have HS4 := Aside0.mk hS4
                have HK4 := Aside0.mk hk4
                have HB4 := Aside0.mk hb4
                have HX4 := Aside0.mk hx4
                clear hS4 hk4 hb4 hx4 hg4 hSS3 hx3
                refine wpAnyIn_ready (rs := [5]) (by kernel_rfl) (by simp) (AllReadyIn.cons rfl (fun K hK => ?_) AllReadyIn.nil)
                · go_simp
                  refine hK _ _ ?_
                  clear hK K
                  refine wpAnyIn_done (by kernel_rfl) ?_ _
                  gi_wp2
                  have hHS := HSZ0.out
                  have hT5 := blk_other (p := ⟨W1.heap.size, 0, none⟩) ((HB4.out.block _ (by omega)).trans (blk_later hT2_2 HB3.out)) (by simp <;> omega) (.slice (some ⟨g4, 0, none⟩) ((outB a1_0 l1_1 l1_2 l1_3 l1_4 pre).length + 1) cap4)
                  have hT6 := blk_other (p := ⟨W1.heap.size, 0, none⟩) ((HB4.out.block _ (by omega)).trans (blk_later hT_2 HB3.out)) (by simp <;> omega) (.slice (some ⟨g4, 0, none⟩) ((outB a1_0 l1_1 l1_2 l1_3 l1_4 pre).length + 1) cap4)
                  have hS5 := (show Boxed w4 (W1.heap.size + 1) 22 (.slice A0 l0.length c0) from (HB4.out.block _ (by omega)).trans (boxed_later hS2_2 HB3.out)).other (B' := W1.heap.size) (by omega) (.slice (some ⟨g4, 0, none⟩) ((outB a1_0 l1_1 l1_2 l1_3 l1_4 pre).length + 1) cap4)
                  have hb5 : Below w.heap.size W (w4.setCell ⟨W1.heap.size, 0, none⟩ (.slice (some ⟨g4, 0, none⟩) ((outB a1_0 l1_1 l1_2 l1_3 l1_4 pre).length + 1) cap4)) := ((hB2.trans (HB3.out.mono (by omega))).trans (HB4.out.mono (by omega))).setCell (p := ⟨W1.heap.size, 0, none⟩) (by simp; omega) _
                  refine ⟨(((hK2.trans (keeps_later HB3.out)).trans HK4.out).trans (KeepsOthers.setCell _ _ _)).from _, ⟨hb5, fun _ => ⟨hT5, hS5⟩⟩, ⟨hxl, (Below.heap_setCell _ _ _ _ (by simp; omega)).trans HX4.out⟩, ⟨⟨_, hv4.set _, ?_⟩, hT6, hT5, hS5⟩, hB.trans hb5⟩
                  rw [HOUT.out]
                  exact Kd.S_mono (Kd.S_far (Kd.S_bound HS4.out) (fun k hk => by have := hk.2.1; simp; omega) _) (fun k hk => hk.1)
        · go_simp
          refine ⟨trivial, (fun h => by cases h), (callsIn_wide.2 HCL.out).mono ?_⟩
          rintro e W3 ⟨v3, rfl, hR3, hb3⟩
          obtain ⟨A3, c3, rfl⟩ := Kd.R_slice hR3
          simp only [hxl] at hR3
          try simp only [hxl]
          refine hK _ _ ?_
          clear hK K
          have hb3' : Below W2.heap.size W2 W3 := (below_drew1 (Below.refl _ _)).trans hb3
          clear hb3
          have HR3 := Aside0.mk (show Kd.R (Kd.int .i64) 3 W3 W2.heap.size (fun k => W2.heap.size ≤ k) (.slice A3 l1_1.length c3) x from Kd.R_mono (Kd.R_bound hR3) (fun k hk => hk.2.1))
          clear hR3
          have hv3 := boxed_later hv2 hb3'
          have hvc3 := hv3.cell
          have hvc3a := fun o => (hv3.alloc o).cell
          have hvf3 := hv3.frozen
          have HB3 := Aside0.mk hb3'
          clear hb3'
          refine wpAnyIn_ready (rs := [0, 3]) (by kernel_rfl) (by simp) (AllReadyIn.cons rfl (fun K hK => ?_) (AllReadyIn.cons rfl (fun K hK => ?_) AllReadyIn.nil))
          · go_simp
            refine hK _ _ ?_
            clear hK K
            refine wpAnyIn_ready (rs := [3]) (by kernel_rfl) (by simp) (AllReadyIn.cons rfl (fun K hK => ?_) AllReadyIn.nil)
            · go_simp
              refine hK _ _ ?_
              clear hK K
              refine wpAnyIn_ready (rs := [4]) (by kernel_rfl) (by simp) (AllReadyIn.cons rfl (fun K hK => ?_) AllReadyIn.nil)
              · refine S_append_if (Kd.slice 3 (Kd.int .i64)) W0.heap.size rfl (.tmp 18) (.tmp 21) 45 29 (.slice none 0 0) 24 rfl Try.underlying45 info29 rfl (by decide) (by omega) (.slice A9 (outB a1_0 l1_1 l1_2 l1_3 l1_4 pre).length c9) (outB a1_0 l1_1 l1_2 l1_3 l1_4 pre) x [.slice A3 l1_1.length c3] (fun k => k ≠ W0.heap.size + 2) (fun k => W2.heap.size ≤ k) rfl rfl ⟨_, rfl, Kd.R_lower HR3.out (by omega)⟩ (fun k hk => ⟨by omega, fun e => by have h_ := HNE.out k e.symm; omega⟩) (fun k hk => by have h_ := HB3.out.size; omega) (Kd.S_mono (Kd.S_below HSS.out HB3.out) (fun k hk => ⟨hk.1, by omega⟩)) (by have h_ := HB3.out.size; omega) (by omega) ?_
                rintro v1 w4 hS4 hg4 ⟨g4, cap4, rfl⟩
                refine hK _ _ ?_
                clear hK K
                have hSS3 := Kd.S_below HSS.out HB3.out
                have hs3 := HB3.out.size
                obtain ⟨hk4, hb4⟩ := S_keeps (base := W0.heap.size) hSS3 (by omega) hg4
                have hx3 : IntRow 3 (W0.heap.size + 2) x W3 := (HB3.out.block _ (by omega)).trans HX2.out
                have hx4 := intRow_later (intRow_later hx3 (World.grownBy_alloc W3 _ none) (by simp)) hg4 (fun e => by have h_ := HNE.out _ e; exact h_.2 rfl)
                have hv4 : Boxed w4 W1.heap.size 45 (.slice A9 (outB a1_0 l1_1 l1_2 l1_3 l1_4 pre).length c9) := (hb4.block _ (by omega)).trans hv3
                have hvc4 := hv4.cell
                have hvf4 := hv4.frozen
                have HS4 := Aside0.mk hS4
                have HK4 := Aside0.mk hk4
                have HB4 := Aside0.mk hb4
                have HX4 := Aside0.mk hx4
                clear hS4 hk4 hb4 hx4 hg4 hSS3 hx3
                refine wpAnyIn_ready (rs := [5]) (by kernel_rfl) (by simp) (AllReadyIn.cons rfl (fun K hK => ?_) AllReadyIn.nil)
                · go_simp
                  refine hK _ _ ?_
                  clear hK K
                  refine wpAnyIn_done (by kernel_rfl) ?_ _
                  gi_wp2
                  have hHS := HSZ0.out
                  have hT5 := blk_other (p := ⟨W1.heap.size, 0, none⟩) ((HB4.out.block _ (by omega)).trans (blk_later hT2_2 HB3.out)) (by simp <;> omega) (.slice (some ⟨g4, 0, none⟩) ((outB a1_0 l1_1 l1_2 l1_3 l1_4 pre).length + 1) cap4)
                  have hT6 := blk_other (p := ⟨W1.heap.size, 0, none⟩) ((HB4.out.block _ (by omega)).trans (blk_later hT_2 HB3.out)) (by simp <;> omega) (.slice (some ⟨g4, 0, none⟩) ((outB a1_0 l1_1 l1_2 l1_3 l1_4 pre).length + 1) cap4)
                  have hS5 := (show Boxed w4 (W1.heap.size + 1) 22 (.slice A0 l0.length c0) from (HB4.out.block _ (by omega)).trans (boxed_later hS2_2 HB3.out)).other (B' := W1.heap.size) (by omega) (.slice (some ⟨g4, 0, none⟩) ((outB a1_0 l1_1 l1_2 l1_3 l1_4 pre).length + 1) cap4)
                  have hb5 : Below w.heap.size W (w4.setCell ⟨W1.heap.size, 0, none⟩ (.slice (some ⟨g4, 0, none⟩) ((outB a1_0 l1_1 l1_2 l1_3 l1_4 pre).length + 1) cap4)) := ((hB2.trans (HB3.out.mono (by omega))).trans (HB4.out.mono (by omega))).setCell (p := ⟨W1.heap.size, 0, none⟩) (by simp; omega) _
                  refine ⟨(((hK2.trans (keeps_later HB3.out)).trans HK4.out).trans (KeepsOthers.setCell _ _ _)).from _, ⟨hb5, fun _ => ⟨hT5, hS5⟩⟩, ⟨hxl, (Below.heap_setCell _ _ _ _ (by simp; omega)).trans HX4.out⟩, ⟨⟨_, hv4.set _, ?_⟩, hT6, hT5, hS5⟩, hB.trans hb5⟩
                  rw [HOUT.out]
                  exact Kd.S_mono (Kd.S_far (Kd.S_bound HS4.out) (fun k hk => by have := hk.2.1; simp; omega) _) (fun k hk => hk.1)
          · go_simp
            refine hK _ _ ?_
            clear hK K
            refine wpAnyIn_ready (rs := [0]) (by kernel_rfl) (by simp) (AllReadyIn.cons rfl (fun K hK => ?_) AllReadyIn.nil)
            · go_simp
              refine hK _ _ ?_
              clear hK K
              refine wpAnyIn_ready (rs := [4]) (by kernel_rfl) (by simp) (AllReadyIn.cons rfl (fun K hK => ?_) AllReadyIn.nil)
              · refine S_append_if (Kd.slice 3 (Kd.int .i64)) W0.heap.size rfl (.tmp 18) (.tmp 21) 45 29 (.slice none 0 0) 24 rfl Try.underlying45 info29 rfl (by decide) (by omega) (.slice A9 (outB a1_0 l1_1 l1_2 l1_3 l1_4 pre).length c9) (outB a1_0 l1_1 l1_2 l1_3 l1_4 pre) x [.slice A3 l1_1.length c3] (fun k => k ≠ W0.heap.size + 2) (fun k => W2.heap.size ≤ k) rfl rfl ⟨_, rfl, Kd.R_lower HR3.out (by omega)⟩ (fun k hk => ⟨by omega, fun e => by have h_ := HNE.out k e.symm; omega⟩) (fun k hk => by have h_ := HB3.out.size; omega) (Kd.S_mono (Kd.S_below HSS.out HB3.out) (fun k hk => ⟨hk.1, by omega⟩)) (by have h_ := HB3.out.size; omega) (by omega) ?_
                rintro v1 w4 hS4 hg4 ⟨g4, cap4, rfl⟩
                refine hK _ _ ?_
                clear hK K
                have hSS3 := Kd.S_below HSS.out HB3.out
                have hs3 := HB3.out.size
                obtain ⟨hk4, hb4⟩ := S_keeps (base := W0.heap.size) hSS3 (by omega) hg4
                have hx3 : IntRow 3 (W0.heap.size + 2) x W3 := (HB3.out.block _ (by omega)).trans HX2.out
                have hx4 := intRow_later (intRow_later hx3 (World.grownBy_alloc W3 _ none) (by simp)) hg4 (fun e => by have h_ := HNE.out _ e; exact h_.2 rfl)
                have hv4 : Boxed w4 W1.heap.size 45 (.slice A9 (outB a1_0 l1_1 l1_2 l1_3 l1_4 pre).length c9) := (hb4.block _ (by omega)).trans hv3
                have hvc4 := hv4.cell
                have hvf4 := hv4.frozen
                have HS4 := Aside0.mk hS4
                have HK4 := Aside0.mk hk4
                have HB4 := Aside0.mk hb4
                have HX4 := Aside0.mk hx4
                clear hS4 hk4 hb4 hx4 hg4 hSS3 hx3
                refine wpAnyIn_ready (rs := [5]) (by kernel_rfl) (by simp) (AllReadyIn.cons rfl (fun K hK => ?_) AllReadyIn.nil)
                · go_simp
                  refine hK _ _ ?_
                  clear hK K
                  refine wpAnyIn_done (by kernel_rfl) ?_ _
                  gi_wp2
                  have hHS := HSZ0.out
                  have hT5 := blk_other (p := ⟨W1.heap.size, 0, none⟩) ((HB4.out.block _ (by omega)).trans (blk_later hT2_2 HB3.out)) (by simp <;> omega) (.slice (some ⟨g4, 0, none⟩) ((outB a1_0 l1_1 l1_2 l1_3 l1_4 pre).length + 1) cap4)
                  have hT6 := blk_other (p := ⟨W1.heap.size, 0, none⟩) ((HB4.out.block _ (by omega)).trans (blk_later hT_2 HB3.out)) (by simp <;> omega) (.slice (some ⟨g4, 0, none⟩) ((outB a1_0 l1_1 l1_2 l1_3 l1_4 pre).length + 1) cap4)
                  have hS5 := (show Boxed w4 (W1.heap.size + 1) 22 (.slice A0 l0.length c0) from (HB4.out.block _ (by omega)).trans (boxed_later hS2_2 HB3.out)).other (B' := W1.heap.size) (by omega) (.slice (some ⟨g4, 0, none⟩) ((outB a1_0 l1_1 l1_2 l1_3 l1_4 pre).length + 1) cap4)
                  have hb5 : Below w.heap.size W (w4.setCell ⟨W1.heap.size, 0, none⟩ (.slice (some ⟨g4, 0, none⟩) ((outB a1_0 l1_1 l1_2 l1_3 l1_4 pre).length + 1) cap4)) := ((hB2.trans (HB3.out.mono (by omega))).trans (HB4.out.mono (by omega))).setCell (p := ⟨W1.heap.size, 0, none⟩) (by simp; omega) _
                  refine ⟨(((hK2.trans (keeps_later HB3.out)).trans HK4.out).trans (KeepsOthers.setCell _ _ _)).from _, ⟨hb5, fun _ => ⟨hT5, hS5⟩⟩, ⟨hxl, (Below.heap_setCell _ _ _ _ (by simp; omega)).trans HX4.out⟩, ⟨⟨_, hv4.set _, ?_⟩, hT6, hT5, hS5⟩, hB.trans hb5⟩
                  rw [HOUT.out]
                  exact Kd.S_mono (Kd.S_far (Kd.S_bound HS4.out) (fun k hk => by have := hk.2.1; simp; omega) _) (fun k hk => hk.1)
  case done =>
    rintro D ys W hD rfl ⟨⟨⟨v, hv, hS⟩, hT, hT2, hS2⟩, hB⟩ hK
    obtain ⟨A9, c9, rfl⟩ := Kd.S_slice hS
    have hc := hv.cell
    have HS := Aside0.mk hS
    have HSZ0 := Aside0.mk hsz0
    clear hsz0 hS
    gi_wp2
    refine ⟨by simp, .inl ⟨_, _, rfl, run_takeDeferred hK, ?_⟩⟩
    exact ⟨_, results_tmp rfl _ _ _, _, rfl, S_putObj _ HS.out hK rfl (by have := HSZ0.out; omega), hB.trans (belowK_b (w := w) (Nat.le_refl _) W D _ _ (by have := HSZ0.out; omega) hK rfl rfl)⟩

set_option maxRecDepth 100000 in
set_option maxHeartbeats 4000000 in
theorem binding_All.bad (n : Nat) (hn : 4 ≤ n) (A0 : Option Addr) (c0 : Nat) (l0 : List S51) (a1_0 : ByteArray) (A1_1 : Option Addr) (c1_1 : Nat) (l1_1 : List S48) (A1_2 : Option Addr) (c1_2 : Nat) (l1_2 : List S62) (A1_3 : Option Addr) (c1_3 : Nat) (l1_3 : List S111) (A1_4 : Option Addr) (c1_4 : Nat) (l1_4 : List S111) (r : Int) (w : World) (hr0 : Kd.C k51 w A0 l0.length l0) (hc0 : l0.length ≤ c0) (hr1_1 : Kd.C k48 w A1_1 l1_1.length l1_1) (hc1_1 : l1_1.length ≤ c1_1) (hr1_2 : Kd.C k62 w A1_2 l1_2.length l1_2) (hc1_2 : l1_2.length ≤ c1_2) (hr1_3 : Kd.C k111 w A1_3 l1_3.length l1_3) (hc1_3 : l1_3.length ≤ c1_3) (hr1_4 : Kd.C k111 w A1_4 l1_4.length l1_4) (hc1_4 : l1_4.length ≤ c1_4)
    (hck : binding_Check.f l0 a1_0 l1_1 l1_2 l1_3 l1_4 = some r) (hr : r ≠ 0) :
    CallsIn Fence.wide n Try.prog 24 #[.slice A0 l0.length c0, .agg #[.string a1_0, .slice A1_1 l1_1.length c1_1, .slice A1_2 l1_2.length c1_2, .slice A1_3 l1_3.length c1_3, .slice A1_4 l1_4.length c1_4]] w fun e W' => ∃ v0_ : Value, e = .returned (v0_) ∧ Kd.S (Kd.slice 3 (Kd.int .i64)) 29 W' w.heap.size (fun _ => True) v0_ [] ∧ Below w.heap.size w W' := by
  have h1 : 1 ≤ n := by omega
  have q : (r != 0) = true := bne_iff_ne.2 hr
  have HR0 := Aside0.mk hr0
  have HC0 := Aside0.mk hc0
  have HR1 := Aside0.mk hr1_1
  have HC1 := Aside0.mk hc1_1
  have HR2 := Aside0.mk hr1_2
  have HC2 := Aside0.mk hc1_2
  have HR3 := Aside0.mk hr1_3
  have HC3 := Aside0.mk hc1_3
  have HR4 := Aside0.mk hr1_4
  have HC4 := Aside0.mk hc1_4
  have HCK := Aside0.mk hck
  clear hr0 hc0 hr1_1 hc1_1 hr1_2 hc1_2 hr1_3 hc1_3 hr1_4 hc1_4 hck hr
  refine callsIn_of_wp_marks Try.func24 rfl trivial ?_ rfl
  simp only [Try.ntmps24, List.size_toArray, List.length_cons, List.length_nil, Nat.reduceAdd, Nat.reduceSub, Array.replicate_succ, Array.replicate_zero, List.push_toArray, List.append_toArray, List.nil_append, List.cons_append]
  gi_wp2
  refine ⟨trivial, (callsIn_wide.2 (binding_Check.calls A0 c0 l0 a1_0 A1_1 c1_1 l1_1 A1_2 c1_2 l1_2 A1_3 c1_3 l1_3 A1_4 c1_4 l1_4 r _ (Kd.C_alloc HR0.out _) HC0.out (Kd.C_alloc HR1.out _) HC1.out (Kd.C_alloc HR2.out _) HC2.out (Kd.C_alloc HR3.out _) HC3.out (Kd.C_alloc HR4.out _) HC4.out HCK.out)).mono ?_⟩
  rintro e W1 ⟨rfl, hb1⟩
  rw [World.size_alloc] at hb1
  have hB1 : Below w.heap.size w W1 := ((Below.refl _ w).alloc (Nat.le_refl _) _).trans (hb1.mono (by omega))
  clear hb1
  gi_wp2
  exact ⟨_, results_tmp rfl _ _ _, _, rfl, Kd.S_nil _ _ _ _ _, hB1⟩

theorem binding_All.calls (A0 : Option Addr) (c0 : Nat) (l0 : List S51) (a1_0 : ByteArray) (A1_1 : Option Addr) (c1_1 : Nat) (l1_1 : List S48) (A1_2 : Option Addr) (c1_2 : Nat) (l1_2 : List S62) (A1_3 : Option Addr) (c1_3 : Nat) (l1_3 : List S111) (A1_4 : Option Addr) (c1_4 : Nat) (l1_4 : List S111) (r : List (List Int)) (w : World) (hr0 : Kd.C k51 w A0 l0.length l0) (hc0 : l0.length ≤ c0) (hr1_1 : Kd.C k48 w A1_1 l1_1.length l1_1) (hc1_1 : l1_1.length ≤ c1_1) (hr1_2 : Kd.C k62 w A1_2 l1_2.length l1_2) (hc1_2 : l1_2.length ≤ c1_2) (hr1_3 : Kd.C k111 w A1_3 l1_3.length l1_3) (hc1_3 : l1_3.length ≤ c1_3) (hr1_4 : Kd.C k111 w A1_4 l1_4.length l1_4) (hc1_4 : l1_4.length ≤ c1_4) (h : binding_All.f l0 a1_0 l1_1 l1_2 l1_3 l1_4 = some r) :
    Calls Try.prog 24 #[.slice A0 l0.length c0, .agg #[.string a1_0, .slice A1_1 l1_1.length c1_1, .slice A1_2 l1_2.length c1_2, .slice A1_3 l1_3.length c1_3, .slice A1_4 l1_4.length c1_4]] w fun e w' => ∃ v0_ : Value, e = .returned (v0_) ∧ Kd.S (Kd.slice 3 (Kd.int .i64)) 29 w' w.heap.size (fun _ => True) v0_ r ∧ Below w.heap.size w w' := by
  unfold binding_All.f at h
  obtain ⟨e, hck, h⟩ := Option.bind_eq_some_iff.mp h
  try dsimp only at h
  split at h
  · rename_i he
    obtain rfl := Option.some.inj h
    exact (callsIn_wide (n := 4)).1 (binding_All.bad 4 (by omega) A0 c0 l0 a1_0 A1_1 c1_1 l1_1 A1_2 c1_2 l1_2 A1_3 c1_3 l1_3 A1_4 c1_4 l1_4 e w hr0 hc0 hr1_1 hc1_1 hr1_2 hc1_2 hr1_3 hc1_3 hr1_4 hc1_4 hck he)
  · rename_i he
    have he0 : e = 0 := Decidable.not_not.1 he
    subst he0
    split at h
    · rename_i hl
      obtain ⟨zs, hz, h⟩ := Option.bind_eq_some_iff.mp h
      try dsimp only at h
      split at h
      · rename_i hc
        obtain rfl := Option.some.inj h
        exact (callsIn_wide (n := 4)).1 (binding_All.in_ 4 (by omega) A0 c0 l0 a1_0 A1_1 c1_1 l1_1 A1_2 c1_2 l1_2 A1_3 c1_3 l1_3 A1_4 c1_4 l1_4 w hr0 hc0 hr1_1 hc1_1 hr1_2 hc1_2 hr1_3 hc1_3 hr1_4 hc1_4 hck hl zs hz hc.1 hc.2.1 hc.2.2)
      · cases h
    · cases h


end



/-! ### petrinetlaw40_three: function 27 -/
def petrinetlaw40_three.f  : Option ((List (S51))) := some (([(⟨(⟨#[115]⟩ : ByteArray), (([(⟨#[97]⟩ : ByteArray), (⟨#[98]⟩ : ByteArray), (⟨#[99]⟩ : ByteArray)] : List ByteArray))⟩ : S51)] : List (S51)))
set_option maxHeartbeats 8000000 in
set_option maxRecDepth 100000 in
theorem petrinetlaw40_three.calls  (r : List (S51)) (w : World) (h : petrinetlaw40_three.f  = some r) :
  Calls Try.prog 27 #[] w fun e w' => ∃ v0_ : Value, e = .returned (v0_) ∧ Kd.N k51 51 w' w.heap.size (fun k_ => (w.heap.size ≤ k_)) v0_ r ∧ Below w.heap.size w w' := by
 have hu51 := Try.underlying51
 have hu9 := Try.underlying9
 have hu49 := Try.underlying49
 have HB := Aside0.mk (Below.refl w.heap.size w)
 have H : (some (([(⟨(⟨#[115]⟩ : ByteArray), (([(⟨#[97]⟩ : ByteArray), (⟨#[98]⟩ : ByteArray), (⟨#[99]⟩ : ByteArray)] : List ByteArray))⟩ : S51)] : List (S51)))) = some r := h
 clear h
 obtain ⟨y170, hy170⟩ : ∃ y_ : List ByteArray, y_ = (([(⟨#[97]⟩ : ByteArray), (⟨#[98]⟩ : ByteArray), (⟨#[99]⟩ : ByteArray)] : List ByteArray)) := ⟨_, rfl⟩
 replace H : (some (([(⟨(⟨#[115]⟩ : ByteArray), y170⟩ : S51)] : List (S51)))) = some r := by first | (rw [hy170]; with_reducible exact H) | (have H2_ := (Option.bind_some _ _).symm.trans H; rw [hy170]; with_reducible exact H2_) | (have H2_ := (Option.bind_some _ _).symm.trans H; with_reducible exact H2_) | with_reducible exact H | (rw [hy170]; exact H) | exact H
 have Ny170 := Aside0.mk hy170
 clear hy170
 obtain ⟨y173, hy173⟩ : ∃ y_ : List (S51), y_ = (([(⟨(⟨#[115]⟩ : ByteArray), y170⟩ : S51)] : List (S51))) := ⟨_, rfl⟩
 replace H : (some y173) = some r := by first | (rw [hy173]; with_reducible exact H) | (have H2_ := (Option.bind_some _ _).symm.trans H; rw [hy173]; with_reducible exact H2_) | (have H2_ := (Option.bind_some _ _).symm.trans H; with_reducible exact H2_) | with_reducible exact H | (rw [hy173]; exact H) | exact H
 have Ny173 := Aside0.mk hy173
 clear hy173
 obtain rfl := Option.some.inj H
 go_enter Try.func27, Try.ntmps27
 go_wp2_with (first | ((with_reducible refine gate_dst (N := 1) rfl ?_); refine Kd.R_lit Kd.string _ 9 ?hg (N := 1) ?hd (xs := ([(⟨#[97]⟩ : ByteArray), (⟨#[98]⟩ : ByteArray), (⟨#[99]⟩ : ByteArray)] : List ByteArray)) (inner := [.string (⟨#[97]⟩ : ByteArray), .string (⟨#[98]⟩ : ByteArray), .string (⟨#[99]⟩ : ByteArray)]) (ok := fun _ => True) (okp := fun _ => True) ?hr ?hp (fun _ hk => hk) trivial (Below.refl _ _) (Nat.le_refl _) (by simp) ?_; (case hd => rfl); (case hg => rfl); (case hr => first | (go_simp; done) | (go_simp; rfl)); (case hp => exact (Reps.one (show Kd.M Kd.string _ _ _ (⟨#[97]⟩ : ByteArray) [.string (⟨#[97]⟩ : ByteArray)] from rfl) (Reps.one (show Kd.M Kd.string _ _ _ (⟨#[98]⟩ : ByteArray) [.string (⟨#[98]⟩ : ByteArray)] from rfl) (Reps.one (show Kd.M Kd.string _ _ _ (⟨#[99]⟩ : ByteArray) [.string (⟨#[99]⟩ : ByteArray)] from rfl) (Reps.none _ _))))); intro v171 w1 ho2 hb hg_ hnew_; clear hg_ hnew_; (first | rw [← Ny170.out] at ho2 | (simp only [Int.reduceToNat] at ho2; rw [← Ny170.out] at ho2)); have n0_ := Aside0.mk (Kd.R_lower (Kd.R_newM (M := fun k_ => (w.heap.size ≤ k_)) ho2 (below_size (by repeat (first | (with_reducible first | exact HB.out | apply below_alloc | apply pw_below_drewN | apply below_drew1) | exact HB.out))) (fun k_ h_ => h_)) (below_size (by repeat (first | (with_reducible first | exact HB.out | apply below_alloc | apply pw_below_drewN | apply below_drew1) | exact HB.out)))); have n1_ := Aside0.mk (below_step (by repeat (first | (with_reducible first | exact HB.out | apply below_alloc | apply pw_below_drewN | apply below_drew1) | exact HB.out)) hb); clear HB; have HO172 := n0_; have HB := n1_; clear n0_ n1_; clear hb ho2; obtain ⟨Ao3, co3, eo3⟩ := Kd.R_slice HO172.out; subst eo3) | ((with_reducible refine gate_dst (N := 3) rfl ?_); refine Kd.N_lit k51 _ 51 ?hg (N' := 3) ?hd (xs := ([(⟨(⟨#[115]⟩ : ByteArray), y170⟩ : S51)] : List (S51))) (inner := [.string (⟨#[115]⟩ : ByteArray), .slice Ao3 y170.length co3]) (ok := (fun k_ => (w.heap.size ≤ k_))) (okp := (fun k_ => (w.heap.size ≤ k_))) ?hr ?hp (fun _ hk => hk) ((show ∀ k_, w1.heap.size ≤ k_ → (fun k_ => (w.heap.size ≤ k_)) k_ from fun k_ hk => (Nat.le_trans (below_size (by repeat (first | (with_reducible first | exact HB.out | apply below_alloc | apply pw_below_drewN | apply below_drew1) | exact HB.out))) hk)) _ (Nat.le_refl _)) (Below.refl _ _) (Nat.le_refl _) (by simp) ?_; (case hd => rfl); (case hg => rfl); (case hr => first | (go_simp; done) | (go_simp; rfl)); (case hp => exact (Reps.c2 (show Kd.FK k51 _ _ (⟨(⟨#[115]⟩ : ByteArray), y170⟩ : S51) [.string (⟨#[115]⟩ : ByteArray), .slice Ao3 y170.length co3] from (k51_mkF _ _ (⟨(⟨#[115]⟩ : ByteArray), y170⟩ : S51) (Kd.R_reads' (Kd.R_mono (ok' := (fun k_ => (w.heap.size ≤ k_))) (HO172.out) (fun k_ hk => hk.1))).2.1 (Kd.R_F (Kd.R_mono (ok' := (fun k_ => (w.heap.size ≤ k_))) (HO172.out) (fun k_ hk => hk.1))))) (Reps.none _ _))); intro v174 w4 ho5 hb hg_ hnew_; clear hg_ hnew_; (first | rw [← Ny173.out] at ho5 | (simp only [Int.reduceToNat] at ho5; rw [← Ny173.out] at ho5)); have n0_ := Aside0.mk (Kd.N_lower ho5 (below_size (by repeat (first | (with_reducible first | exact HB.out | apply below_alloc | apply pw_below_drewN | apply below_drew1) | exact HB.out)))); have n1_ := Aside0.mk (below_step (by repeat (first | (with_reducible first | exact HB.out | apply below_alloc | apply pw_below_drewN | apply below_drew1) | exact HB.out)) hb); clear HB; clear HO172; have HO175 := n0_; have HB := n1_; clear n0_ n1_; clear hb ho5))
 go_ret
 exact ⟨_, by first | rfl | (simp [errW_none, errW_some] <;> rfl) | (simp [*, errW_none, errW_some] <;> rfl), by (with_reducible repeat (first | apply Kd.N_alloc | apply Kd.N_drewN | apply Kd.N_drew)); exact HO175.out, by repeat (first | (with_reducible first | exact HB.out | apply below_alloc | apply pw_below_drewN | apply below_drew1) | exact HB.out)⟩


/-! ### petrinetlaw40_pair: function 28 -/
def petrinetlaw40_pair.f  : Option (ByteArray × (List (S48)) × (List (S62)) × (List (S111)) × (List (S111))) := some ((⟨#[]⟩ : ByteArray), (([(⟨(⟨#[120]⟩ : ByteArray), 0⟩ : S48), (⟨(⟨#[121]⟩ : ByteArray), 0⟩ : S48)] : List (S48))), (([(⟨3, 0, 1⟩ : S62)] : List (S62))), ([] : List (S111)), ([] : List (S111)))
set_option maxHeartbeats 8000000 in
set_option maxRecDepth 100000 in
theorem petrinetlaw40_pair.calls  (r1 : ByteArray) (r2 : List (S48)) (r3 : List (S62)) (r4 : List (S111)) (r5 : List (S111)) (w : World) (h : petrinetlaw40_pair.f  = some (r1, r2, r3, r4, r5)) :
  Calls Try.prog 28 #[] w fun e w' => ∃ v1_ v2_ v3_ v4_ : Value, e = .returned (.agg #[.string r1, v1_, v2_, v3_, v4_]) ∧ Kd.R k48 48 w' w.heap.size (fun _ => True) v1_ r2 ∧ Kd.R k62 62 w' w.heap.size (fun _ => True) v2_ r3 ∧ Kd.S k111 111 w' w.heap.size (fun k_ => some k_ ≠ (v4_ : Value).ownBlock) v3_ r4 ∧ Kd.S k111 111 w' w.heap.size (fun k_ => some k_ ≠ (v3_ : Value).ownBlock) v4_ r5 ∧ Below w.heap.size w w' := by
 have hu27 := Try.underlying27
 have hu9 := Try.underlying9
 have hu23 := Try.underlying23
 have hu24 := Try.underlying24
 have hu25 := Try.underlying25
 have hu48 := Try.underlying48
 have hu3 := Try.underlying3
 have hu9 := Try.underlying9
 have hu62 := Try.underlying62
 have hu3 := Try.underlying3
 have HB := Aside0.mk (Below.refl w.heap.size w)
 have H : (some ((⟨#[]⟩ : ByteArray), (([(⟨(⟨#[120]⟩ : ByteArray), 0⟩ : S48), (⟨(⟨#[121]⟩ : ByteArray), 0⟩ : S48)] : List (S48))), (([(⟨3, 0, 1⟩ : S62)] : List (S62))), ([] : List (S111)), ([] : List (S111)))) = some (r1, r2, r3, r4, r5) := h
 clear h
 obtain ⟨y177, hy177⟩ : ∃ y_ : List (S48), y_ = (([(⟨(⟨#[120]⟩ : ByteArray), 0⟩ : S48), (⟨(⟨#[121]⟩ : ByteArray), 0⟩ : S48)] : List (S48))) := ⟨_, rfl⟩
 replace H : (some ((⟨#[]⟩ : ByteArray), y177, (([(⟨3, 0, 1⟩ : S62)] : List (S62))), ([] : List (S111)), ([] : List (S111)))) = some (r1, r2, r3, r4, r5) := by first | (rw [hy177]; with_reducible exact H) | (have H2_ := (Option.bind_some _ _).symm.trans H; rw [hy177]; with_reducible exact H2_) | (have H2_ := (Option.bind_some _ _).symm.trans H; with_reducible exact H2_) | with_reducible exact H | (rw [hy177]; exact H) | exact H
 have Ny177 := Aside0.mk hy177
 clear hy177
 obtain ⟨y180, hy180⟩ : ∃ y_ : List (S62), y_ = (([(⟨3, 0, 1⟩ : S62)] : List (S62))) := ⟨_, rfl⟩
 replace H : (some ((⟨#[]⟩ : ByteArray), y177, y180, ([] : List (S111)), ([] : List (S111)))) = some (r1, r2, r3, r4, r5) := by first | (rw [hy180]; with_reducible exact H) | (have H2_ := (Option.bind_some _ _).symm.trans H; rw [hy180]; with_reducible exact H2_) | (have H2_ := (Option.bind_some _ _).symm.trans H; with_reducible exact H2_) | with_reducible exact H | (rw [hy180]; exact H) | exact H
 have Ny180 := Aside0.mk hy180
 clear hy180
 simp only [Option.some.injEq, Prod.mk.injEq] at H
 obtain ⟨rfl, rfl, rfl, rfl, rfl⟩ := H
 go_enter Try.func28, Try.ntmps28
 go_wp2_with (first | ((with_reducible refine gate_dst (N := 0) rfl ?_); refine box_event ?hg (N := 0) ?hd (cs := #[.string (⟨#[]⟩ : ByteArray), .slice none 0 0, .slice none 0 0, .slice none 0 0, .slice none 0 0]) (t := 27) ?hr ?_; (case hd => rfl); (case hg => rfl); (case hr => first | (go_simp; done) | (go_simp; rfl)); intro gb176 hg w1 hbox hb; have n0_ := Aside0.mk (below_step (by repeat (first | (with_reducible first | exact HB.out | apply below_alloc | apply pw_below_drewN | apply below_drew1) | exact HB.out)) hb); have n1_ := Aside0.mk (hbox); have n2_ := Aside0.mk ((by rw [hg]; exact (below_size (by repeat (first | (with_reducible first | exact HB.out | apply below_alloc | apply pw_below_drewN | apply below_drew1) | exact HB.out))) : w.heap.size ≤ gb176)); have n3_ := Aside0.mk ((by rw [hg]; exact (below_size (by repeat (first | (with_reducible first | exact HB.out | apply below_alloc | apply pw_below_drewN | apply below_drew1) | exact HB.out))) : w.heap.size ≤ gb176)); clear HB; have HB := n0_; have BK176 := n1_; have GW176 := n2_; have GE176 := n3_; clear n0_ n1_ n2_ n3_; clear hb hbox hg) | ((with_reducible refine gate_dst (N := 3) rfl ?_); refine Kd.R_lit k48 _ 48 ?hg (N := 3) ?hd (xs := ([(⟨(⟨#[120]⟩ : ByteArray), 0⟩ : S48), (⟨(⟨#[121]⟩ : ByteArray), 0⟩ : S48)] : List (S48))) (inner := [.string (⟨#[120]⟩ : ByteArray), .int .i64 0, .string (⟨#[121]⟩ : ByteArray), .int .i64 0]) (ok := fun _ => True) (okp := fun _ => True) ?hr ?hp (fun _ hk => hk) trivial (Below.refl _ _) (Nat.le_refl _) (by simp) ?_; (case hd => rfl); (case hg => rfl); (case hr => first | (go_simp; done) | (go_simp; rfl)); (case hp => exact (Reps.c2 (show Kd.M k48 _ _ _ (⟨(⟨#[120]⟩ : ByteArray), 0⟩ : S48) [.string (⟨#[120]⟩ : ByteArray), .int .i64 0] from (k48_mkM _ _ _ (⟨(⟨#[120]⟩ : ByteArray), 0⟩ : S48) )) (Reps.c2 (show Kd.M k48 _ _ _ (⟨(⟨#[121]⟩ : ByteArray), 0⟩ : S48) [.string (⟨#[121]⟩ : ByteArray), .int .i64 0] from (k48_mkM _ _ _ (⟨(⟨#[121]⟩ : ByteArray), 0⟩ : S48) )) (Reps.none _ _)))); intro v178 w2 ho3 hb hg_ hnew_; clear hg_ hnew_; (first | rw [← Ny177.out] at ho3 | (simp only [Int.reduceToNat] at ho3; rw [← Ny177.out] at ho3)); have n0_ := Aside0.mk (Kd.R_lower ho3 (below_size (by repeat (first | (with_reducible first | exact HB.out | apply below_alloc | apply pw_below_drewN | apply below_drew1 | refine below_set ?_ GE176.out) | exact HB.out)))); have n1_ := Aside0.mk (blk_below (g := gb176) (o := .cells #[.string (⟨#[]⟩ : ByteArray), .slice none 0 0, .slice none 0 0, .slice none 0 0, .slice none 0 0] 27 (0, 0)) (by (with_reducible repeat (first | refine blk_drewN ?_ _ | refine blk_drew ?_ | refine blk_alloc ?_ _)); exact BK176.out) hb); have n2_ := Aside0.mk (below_step (by repeat (first | (with_reducible first | exact HB.out | apply below_alloc | apply pw_below_drewN | apply below_drew1 | refine below_set ?_ GE176.out) | exact HB.out)) hb); clear BK176; clear HB; have HO179 := n0_; have BK176 := n1_; have HB := n2_; clear n0_ n1_ n2_; clear hb ho3) | ((with_reducible refine gate_dst (N := 5) rfl ?_); refine Kd.R_lit k62 _ 62 ?hg (N := 5) ?hd (xs := ([(⟨3, 0, 1⟩ : S62)] : List (S62))) (inner := [.int .i64 3, .int .i64 0, .int .i64 1]) (ok := fun _ => True) (okp := fun _ => True) ?hr ?hp (fun _ hk => hk) trivial (Below.refl _ _) (Nat.le_refl _) (by simp) ?_; (case hd => rfl); (case hg => rfl); (case hr => first | (go_simp; done) | (go_simp; rfl)); (case hp => exact (Reps.c3 (show Kd.M k62 _ _ _ (⟨3, 0, 1⟩ : S62) [.int .i64 3, .int .i64 0, .int .i64 1] from (k62_mkM _ _ _ (⟨3, 0, 1⟩ : S62) )) (Reps.none _ _))); intro v181 w4 ho5 hb hg_ hnew_; clear hg_ hnew_; (first | rw [← Ny180.out] at ho5 | (simp only [Int.reduceToNat] at ho5; rw [← Ny180.out] at ho5)); have n0_ := Aside0.mk (Kd.R_below (by (with_reducible repeat (first | apply Kd.R_alloc | apply Kd.R_drewN | apply Kd.R_drew)); exact HO179.out) hb); have n1_ := Aside0.mk (Kd.R_lower ho5 (below_size (by repeat (first | (with_reducible first | exact HB.out | apply below_alloc | apply pw_below_drewN | apply below_drew1 | refine below_set ?_ GE176.out) | exact HB.out)))); have n2_ := Aside0.mk (blk_below (g := gb176) (o := .cells #[.string (⟨#[]⟩ : ByteArray), .slice none 0 0, .slice none 0 0, .slice none 0 0, .slice none 0 0] 27 (0, 0)) (by (with_reducible repeat (first | refine blk_drewN ?_ _ | refine blk_drew ?_ | refine blk_alloc ?_ _)); exact BK176.out) hb); have n3_ := Aside0.mk (below_step (by repeat (first | (with_reducible first | exact HB.out | apply below_alloc | apply pw_below_drewN | apply below_drew1 | refine below_set ?_ GE176.out) | exact HB.out)) hb); clear HO179; clear BK176; clear HB; have HO179 := n0_; have HO182 := n1_; have BK176 := n2_; have HB := n3_; clear n0_ n1_ n2_ n3_; clear hb ho5; obtain ⟨Ao6, co6, eo6⟩ := Kd.R_slice HO182.out; subst eo6; obtain ⟨Ao7, co7, eo7⟩ := Kd.R_slice HO179.out; subst eo7; have hcz8_0 : w4.cell? ⟨gb176, 0, none⟩ = some (.string (⟨#[]⟩ : ByteArray)) := (blk_cell BK176.out 0).trans rfl; have hcz8_1 : w4.cell? ⟨gb176, 1, none⟩ = some (.slice none 0 0) := (blk_cell BK176.out 1).trans rfl; have hcz8_2 : w4.cell? ⟨gb176, 2, none⟩ = some (.slice none 0 0) := (blk_cell BK176.out 2).trans rfl; have hcz8_3 : w4.cell? ⟨gb176, 3, none⟩ = some (.slice none 0 0) := (blk_cell BK176.out 3).trans rfl; have hcz8_4 : w4.cell? ⟨gb176, 4, none⟩ = some (.slice none 0 0) := (blk_cell BK176.out 4).trans rfl; have hfz8_0 := blk_frozen BK176.out 0; have hfz8_1 := blk_frozen BK176.out 1; have hfz8_2 := blk_frozen BK176.out 2; have hfz8_3 := blk_frozen BK176.out 3; have hfz8_4 := blk_frozen BK176.out 4))
 refine bodyPost_ret (results_cell_row rfl _ _ gb176 27 #[.string (⟨#[]⟩ : ByteArray), .slice Ao7 y177.length co7, .slice Ao6 y180.length co6, .slice none 0 0, .slice none 0 0] (0, 0) _ rfl (by (with_reducible repeat (first | refine blk_drewN ?_ _ | refine blk_drew ?_ | refine blk_alloc ?_ _)); refine blk_put (cs := #[.string (⟨#[]⟩ : ByteArray), .slice Ao7 y177.length co7, .slice Ao6 y180.length co6, .slice none 0 0, .slice none 0 0]) ?_ 4 _ rfl; (with_reducible repeat (first | refine blk_drewN ?_ _ | refine blk_drew ?_ | refine blk_alloc ?_ _)); refine blk_put (cs := #[.string (⟨#[]⟩ : ByteArray), .slice Ao7 y177.length co7, .slice Ao6 y180.length co6, .slice none 0 0, .slice none 0 0]) ?_ 3 _ rfl; (with_reducible repeat (first | refine blk_drewN ?_ _ | refine blk_drew ?_ | refine blk_alloc ?_ _)); refine blk_put (cs := #[.string (⟨#[]⟩ : ByteArray), .slice Ao7 y177.length co7, .slice none 0 0, .slice none 0 0, .slice none 0 0]) ?_ 2 _ rfl; (with_reducible repeat (first | refine blk_drewN ?_ _ | refine blk_drew ?_ | refine blk_alloc ?_ _)); refine blk_put (cs := #[.string (⟨#[]⟩ : ByteArray), .slice none 0 0, .slice none 0 0, .slice none 0 0, .slice none 0 0]) ?_ 1 _ rfl; (with_reducible repeat (first | refine blk_drewN ?_ _ | refine blk_drew ?_ | refine blk_alloc ?_ _)); refine blk_put (cs := #[.string (⟨#[]⟩ : ByteArray), .slice none 0 0, .slice none 0 0, .slice none 0 0, .slice none 0 0]) ?_ 0 _ rfl; (with_reducible repeat (first | refine blk_drewN ?_ _ | refine blk_drew ?_ | refine blk_alloc ?_ _)); exact BK176.out) Try.underlying27 rfl (by kernel_rfl)) rfl ?_
 exact ⟨_, _, _, _, by first | rfl | (simp [errW_none, errW_some] <;> rfl) | (simp [*, errW_none, errW_some] <;> rfl), by (with_reducible repeat (first | apply Kd.R_alloc | apply Kd.R_drewN | apply Kd.R_drew)); exact Kd.R_mono (Kd.R_far (p := ⟨gb176, 4, none⟩) (Kd.R_far (p := ⟨gb176, 3, none⟩) (Kd.R_far (p := ⟨gb176, 2, none⟩) (Kd.R_far (p := ⟨gb176, 1, none⟩) (Kd.R_far (p := ⟨gb176, 0, none⟩) (Kd.R_types HO179.out BK176.out (by decide)) (fun _ hk => hk.2) (.string (⟨#[]⟩ : ByteArray))) (fun _ hk => hk.2) (.slice Ao7 y177.length co7)) (fun _ hk => hk.2) (.slice Ao6 y180.length co6)) (fun _ hk => hk.2) (.slice none 0 0)) (fun _ hk => hk.2) (.slice none 0 0)) (fun _ hk => trivial), by (with_reducible repeat (first | apply Kd.R_alloc | apply Kd.R_drewN | apply Kd.R_drew)); exact Kd.R_mono (Kd.R_far (p := ⟨gb176, 4, none⟩) (Kd.R_far (p := ⟨gb176, 3, none⟩) (Kd.R_far (p := ⟨gb176, 2, none⟩) (Kd.R_far (p := ⟨gb176, 1, none⟩) (Kd.R_far (p := ⟨gb176, 0, none⟩) (Kd.R_types HO182.out BK176.out (by decide)) (fun _ hk => hk.2) (.string (⟨#[]⟩ : ByteArray))) (fun _ hk => hk.2) (.slice Ao7 y177.length co7)) (fun _ hk => hk.2) (.slice Ao6 y180.length co6)) (fun _ hk => hk.2) (.slice none 0 0)) (fun _ hk => hk.2) (.slice none 0 0)) (fun _ hk => trivial), by first | exact Kd.S_nil _ _ _ _ _ | exact Kd.N_nil _ _ _ _ _ | exact Kd.V_nil _ _ _ _ _ | exact Kd.Q_nil _ _ _ _ _ | exact Kd.R_nil _ _ _ _ _, by first | exact Kd.S_nil _ _ _ _ _ | exact Kd.N_nil _ _ _ _ _ | exact Kd.V_nil _ _ _ _ _ | exact Kd.Q_nil _ _ _ _ _ | exact Kd.R_nil _ _ _ _ _, by repeat (first | (with_reducible first | exact HB.out | apply below_alloc | apply pw_below_drewN | apply below_drew1 | refine below_set ?_ GE176.out) | exact HB.out)⟩




end Go.Proofs.Ytapkjfnfkalibaa.Pr
