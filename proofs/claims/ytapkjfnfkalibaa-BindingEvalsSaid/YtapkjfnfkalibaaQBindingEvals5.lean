/- Functions that the statement reaches: what each answers, and that the program answers it (written by a program of this work). -/
import Derived.Test.YtapkjfnfkalibaaProg
import Derived.Below
import Derived.Deep.Draws
import Derived.Deep.AppendLies
import Derived.Maps.AppendAt
import Derived.OwnWalk
import Derived.Laws.BytesArg
import Derived.Laws.MakeOwn
import Derived.Laws.OwnMore
import Derived.Deep.OwnRows
import Derived.Tactics
import Derived.Lib.ConvBytes
import Derived.Laws.Slices
import Derived.WalkKit
import Derived.KernelRfl
import Derived.RowKit3
import Derived.Deep.LoopGhost
import Derived.Deep.QuietTactic
import Derived.BigQuiet
import Derived.WideLaws
import Derived.Deep.DeepCutAuto
import Derived.Deep.CutBlock
import Derived.Deep.RegionHeld3
import Derived.Laws.Rows
import Derived.Lib.AppendStr
import Derived.ArgAppend
import Derived.Laws.IdiomCopy
import Derived.OrdersHeld
import Derived.Laws.BitsLemmas
import Derived.RowKit
import Derived.WalkMore
import Derived.Test.YtapkjfnfkalibaaVBindingEvals
import Derived.Test.YtapkjfnfkalibaaQBindingEvals0
import Derived.Test.YtapkjfnfkalibaaQBindingEvals1
import Derived.Test.YtapkjfnfkalibaaQBindingEvals2
import Derived.Test.YtapkjfnfkalibaaQBindingEvals3
import Derived.Test.YtapkjfnfkalibaaQBindingEvals4
namespace Go.Proofs.Ytapkjfnfkalibaa.Pr
open Go.RowKit Go.Proofs.YtapkjfnfkalibaaW.PrintWords Go.Proofs.YtapkjfnfkalibaaW.PrintLast Go.Proofs.YtapkjfnfkalibaaW.PrintMore
attribute [local go_sem] Instr.field asAgg
attribute [local go_sem] max2_int min2_int max_two min_two max_three min_three max_four min_four   -- for this text's walks alone
set_option linter.unusedVariables false
set_option linter.unusedSimpArgs false
/-! ### r40_Text: function 21 -/
mutual
def r40_Text.j0 : Nat → List (S51) → List Int → Bool → ByteArray → List (S48) → List (S62) → List (S111) → List (S111) → Option (ByteArray)
 | 0, _, _, _, _, _, _, _, _ => none
 | k + 1, x0, x2, x19, x322000, x322001, x322002, x322003, x322004 => if x19 = true then (some (⟨#[]⟩ : ByteArray)) else (if (x2.length : Int) = 0 then (some (⟨#[45]⟩ : ByteArray)) else (r40_Text.l0 k x0 x2 (⟨#[]⟩ : ByteArray) 0 x322000 x322001 x322002 x322003 x322004))
def r40_Text.l0 : Nat → List (S51) → List Int → ByteArray → Int → ByteArray → List (S48) → List (S62) → List (S111) → List (S111) → Option (ByteArray)
 | 0, _, _, _, _, _, _, _, _, _ => none
 | k + 1, x0, x2, x7, x8, x322000, x322001, x322002, x322003, x322004 => if x8 < (x2.length : Int) then (if x8 > 0 then (if x7.size + 1 ≤ 9223372036854775807 then (if 0 ≤ x8 then (if x8 < (x322001.length : Int) then (if (x7 ++ (⟨#[44]⟩ : ByteArray)).size + ((rd_T48 x322001 x8).f0).size ≤ 9223372036854775807 then (if ((x7 ++ (⟨#[44]⟩ : ByteArray)) ++ ((rd_T48 x322001 x8).f0)).size + 1 ≤ 9223372036854775807 then (if 0 ≤ ((rd_T48 x322001 x8).f1) then (if ((rd_T48 x322001 x8).f1) < (x0.length : Int) then (if 0 ≤ (rd x2 x8) then (if (rd x2 x8) < (((rd_T51 x0 ((rd_T48 x322001 x8).f1)).f1).length : Int) then (if (((x7 ++ (⟨#[44]⟩ : ByteArray)) ++ ((rd_T48 x322001 x8).f0)) ++ (⟨#[61]⟩ : ByteArray)).size + (rdOf ByteArray.empty ((rd_T51 x0 ((rd_T48 x322001 x8).f1)).f1) (rd x2 x8)).size ≤ 9223372036854775807 then (r40_Text.l0 k x0 x2 ((((x7 ++ (⟨#[44]⟩ : ByteArray)) ++ ((rd_T48 x322001 x8).f0)) ++ (⟨#[61]⟩ : ByteArray)) ++ (rdOf ByteArray.empty ((rd_T51 x0 ((rd_T48 x322001 x8).f1)).f1) (rd x2 x8))) (wrap64 (x8 + 1)) x322000 x322001 x322002 x322003 x322004) else (none)) else (none)) else (none)) else (none)) else (none)) else (none)) else (none)) else (none)) else (none)) else (none)) else (if 0 ≤ x8 then (if x8 < (x322001.length : Int) then (if x7.size + ((rd_T48 x322001 x8).f0).size ≤ 9223372036854775807 then (if (x7 ++ ((rd_T48 x322001 x8).f0)).size + 1 ≤ 9223372036854775807 then (if 0 ≤ ((rd_T48 x322001 x8).f1) then (if ((rd_T48 x322001 x8).f1) < (x0.length : Int) then (if 0 ≤ (rd x2 x8) then (if (rd x2 x8) < (((rd_T51 x0 ((rd_T48 x322001 x8).f1)).f1).length : Int) then (if ((x7 ++ ((rd_T48 x322001 x8).f0)) ++ (⟨#[61]⟩ : ByteArray)).size + (rdOf ByteArray.empty ((rd_T51 x0 ((rd_T48 x322001 x8).f1)).f1) (rd x2 x8)).size ≤ 9223372036854775807 then (r40_Text.l0 k x0 x2 (((x7 ++ ((rd_T48 x322001 x8).f0)) ++ (⟨#[61]⟩ : ByteArray)) ++ (rdOf ByteArray.empty ((rd_T51 x0 ((rd_T48 x322001 x8).f1)).f1) (rd x2 x8))) (wrap64 (x8 + 1)) x322000 x322001 x322002 x322003 x322004) else (none)) else (none)) else (none)) else (none)) else (none)) else (none)) else (none)) else (none)) else (none))) else (some x7)
end
def r40_Text.f (k : Nat) (l0 : List (S51)) (a1_0 : ByteArray) (l1_1 : List (S48)) (l1_2 : List (S62)) (l1_3 : List (S111)) (l1_4 : List (S111)) (l2 : List Int) : Option (ByteArray) := (r40_Check.f k l0 a1_0 l1_1 l1_2 l1_3 l1_4).bind fun t322 => (if t322 = 0 then ((r40_Bound.f k l0 a1_0 l1_1 l1_2 l1_3 l1_4 l2).bind fun t323 => (r40_Text.j0 k l0 l2 (!t323) a1_0 l1_1 l1_2 l1_3 l1_4)) else (r40_Text.j0 k l0 l2 true a1_0 l1_1 l1_2 l1_3 l1_4))
theorem r40_Text.mono_l : ∀ k, (∀ y0 y1 y2 y3 y4 y5 y6 y7, LeO (r40_Text.j0 k y0 y1 y2 y3 y4 y5 y6 y7) (r40_Text.j0 (k + 1) y0 y1 y2 y3 y4 y5 y6 y7)) ∧ (∀ y0 y1 y2 y3 y4 y5 y6 y7 y8, LeO (r40_Text.l0 k y0 y1 y2 y3 y4 y5 y6 y7 y8) (r40_Text.l0 (k + 1) y0 y1 y2 y3 y4 y5 y6 y7 y8))
 | 0 => ⟨fun _ _ _ _ _ _ _ _ r h => by simp [r40_Text.j0] at h, fun _ _ _ _ _ _ _ _ _ r h => by simp [r40_Text.l0] at h⟩
 | k + 1 => by
  obtain ⟨ih0, ih1⟩ := r40_Text.mono_l k
  refine ⟨?_, ?_⟩
  ·intro y0 y1 y2 y3 y4 y5 y6 y7
   unfold r40_Text.j0
   repeat' first
   | (with_reducible first | exact ih0 _ _ _ _ _ _ _ _ | exact ih1 _ _ _ _ _ _ _ _ _ | exact r40_Bound.mono _ _ _ _ _ _ _ _ | exact r40_Check.mono _ _ _ _ _ _ _ | exact LeO.refl _ | exact LeO.none _ | refine LeO.ite ?_ ?_ | refine LeO.bind ?_ (fun _ => ?_))
   | exact LeO.none _
   | refine LeO.ite ?_ ?_
   | refine LeO.bind ?_ (fun _ => ?_)
  ·intro y0 y1 y2 y3 y4 y5 y6 y7 y8
   unfold r40_Text.l0
   repeat' first
   | (with_reducible first | exact ih0 _ _ _ _ _ _ _ _ | exact ih1 _ _ _ _ _ _ _ _ _ | exact r40_Bound.mono _ _ _ _ _ _ _ _ | exact r40_Check.mono _ _ _ _ _ _ _ | exact LeO.refl _ | exact LeO.none _ | refine LeO.ite ?_ ?_ | refine LeO.bind ?_ (fun _ => ?_))
   | exact LeO.none _
   | refine LeO.ite ?_ ?_
   | refine LeO.bind ?_ (fun _ => ?_)
theorem r40_Text.mono : ∀ a0 a1 a2 a3 a4 a5 a6 k, LeO (r40_Text.f k a0 a1 a2 a3 a4 a5 a6) (r40_Text.f (k + 1) a0 a1 a2 a3 a4 a5 a6) := by
 intro a0 a1 a2 a3 a4 a5 a6 k
 obtain ⟨ih0, ih1⟩ := r40_Text.mono_l k
 unfold r40_Text.f
 repeat' first
   | (with_reducible first | exact ih0 _ _ _ _ _ _ _ _ | exact ih1 _ _ _ _ _ _ _ _ _ | exact r40_Bound.mono _ _ _ _ _ _ _ _ | exact r40_Check.mono _ _ _ _ _ _ _ | exact LeO.refl _ | exact LeO.none _ | refine LeO.ite ?_ ?_ | refine LeO.bind ?_ (fun _ => ?_))
   | exact LeO.none _
   | refine LeO.ite ?_ ?_
   | refine LeO.bind ?_ (fun _ => ?_)
set_option maxHeartbeats 8000000 in
set_option maxRecDepth 100000 in
theorem r40_Text.calls (k : Nat) (A0 : Option Addr) (c0 : Nat) (l0 : List (S51)) (a1_0 : ByteArray) (A1_1 : Option Addr) (c1_1 : Nat) (l1_1 : List (S48)) (A1_2 : Option Addr) (c1_2 : Nat) (l1_2 : List (S62)) (A1_3 : Option Addr) (c1_3 : Nat) (l1_3 : List (S111)) (A1_4 : Option Addr) (c1_4 : Nat) (l1_4 : List (S111)) (A2 : Option Addr) (c2 : Nat) (l2 : List Int) (r : ByteArray) (w : World) (hr0 : Kd.C k51 w A0 l0.length l0) (hc0 : l0.length ≤ c0) (hr1_1 : Kd.C k48 w A1_1 l1_1.length l1_1) (hc1_1 : l1_1.length ≤ c1_1) (hr1_2 : Kd.C k62 w A1_2 l1_2.length l1_2) (hc1_2 : l1_2.length ≤ c1_2) (hr1_3 : Kd.C k111 w A1_3 l1_3.length l1_3) (hc1_3 : l1_3.length ≤ c1_3) (hr1_4 : Kd.C k111 w A1_4 l1_4.length l1_4) (hc1_4 : l1_4.length ≤ c1_4) (hr2 : Kd.C (Kd.int .i64) w A2 l2.length l2) (hc2 : l2.length ≤ c2) (h : r40_Text.f k l0 a1_0 l1_1 l1_2 l1_3 l1_4 l2 = some r) :
  Calls Try.prog 21 #[.slice A0 l0.length c0, .agg #[.string a1_0, .slice A1_1 l1_1.length c1_1, .slice A1_2 l1_2.length c1_2, .slice A1_3 l1_3.length c1_3, .slice A1_4 l1_4.length c1_4], .slice A2 l2.length c2] w fun e w' => e = .returned (.string r) ∧ Below w.heap.size w w' := by
 have hu27 := Try.underlying27; have hu9 := Try.underlying9; have hu23 := Try.underlying23; have hu24 := Try.underlying24; have hu25 := Try.underlying25; have HR0 := aM hr0; have HC0 := aM hc0; clear hr0 hc0; have HR1_1 := aM hr1_1; have HC1_1 := aM hc1_1; clear hr1_1 hc1_1; have HR1_2 := aM hr1_2; have HC1_2 := aM hc1_2; clear hr1_2 hc1_2; have HR1_3 := aM hr1_3; have HC1_3 := aM hc1_3; clear hr1_3 hc1_3; have HR1_4 := aM hr1_4; have HC1_4 := aM hc1_4; clear hr1_4 hc1_4; have HR2 := aM hr2; have HC2 := aM hc2; clear hr2 hc2; have HB := aM (Below.refl w.heap.size w); have H : ((r40_Check.f k l0 a1_0 l1_1 l1_2 l1_3 l1_4).bind fun t322 => (if t322 = 0 then ((r40_Bound.f k l0 a1_0 l1_1 l1_2 l1_3 l1_4 l2).bind fun t323 => (r40_Text.j0 k l0 l2 (!t323) a1_0 l1_1 l1_2 l1_3 l1_4)) else (r40_Text.j0 k l0 l2 true a1_0 l1_1 l1_2 l1_3 l1_4))) = some r := h; clear h; have HC4 := aM H; clear H
 go_enter Try.func21, Try.ntmps21
 go_upto_region 1 with (first | ((with_reducible refine gate_dst (N := 4) rfl ?_); refine box_event ?hg (N := 4) ?hd (cs := #[.string a1_0, .slice A1_1 l1_1.length c1_1, .slice A1_2 l1_2.length c1_2, .slice A1_3 l1_3.length c1_3, .slice A1_4 l1_4.length c1_4]) (t := 27) ?hr ?_; (case hd => rfl); (case hg => rfl); (case hr => first | (go_simp; done) | (go_simp; rfl)); intro gb321 hg w5 hbox hb; have n0_ := aM (below_step (bB HB.out) hb); have n1_ := aM (hbox); have n2_ := aM ((by rw [hg]; exact (below_size (bB HB.out)) : w.heap.size ≤ gb321)); have n3_ := aM ((by rw [hg]; exact (below_size (bB HB.out)) : w.heap.size ≤ gb321)); clear HB; have HB := n0_; have BK321 := n1_; have GW321 := n2_; have GE321 := n3_; clear n0_ n1_ n2_ n3_; clear hb hbox hg))
 repeat (go_quiet (fail); try go_wp2)
 (try simp only [Act.put, List.setIfInBounds_toArray, List.set_cons_zero, List.set_cons_succ])
 go_cut [19] (fun v19 wc => ∃ (kq : Nat) (x19_3 : Bool), v19 = .bool x19_3 ∧ Aside0 (r40_Text.j0 kq l0 l2 x19_3 a1_0 l1_1 l1_2 l1_3 l1_4 = some r) ∧ Aside0 (kq ≤ k) ∧ Aside0 (wc.heap[gb321]? = some (.cells #[.string a1_0, (.slice A1_1 l1_1.length c1_1), (.slice A1_2 l1_2.length c1_2), (.slice A1_3 l1_3.length c1_3), (.slice A1_4 l1_4.length c1_4)] 27 (0, 0))) ∧ Aside0 (Below w.heap.size w wc))
 case first =>
  have H := HC4.out; clear HC4; replace H := Option.bind_eq_some_iff.mp H; obtain ⟨t322, A60, H⟩ := H
  replace H : (if t322 = 0 then ((r40_Bound.f k l0 a1_0 l1_1 l1_2 l1_3 l1_4 l2).bind fun t323 => (r40_Text.j0 k l0 l2 (!t323) a1_0 l1_1 l1_2 l1_3 l1_4)) else (r40_Text.j0 k l0 l2 true a1_0 l1_1 l1_2 l1_3 l1_4)) = some r := H
  have A6 := aM A60; clear A60
  by_cases c7 : t322 = 0
  ·rw [if_pos c7] at H
   have c7b0 : (t322 == 0) = true := beq_iff_eq.mpr c7; have c7b1 : (t322 != 0) = false := bne_eq_false_iff_eq.mpr c7; clear c7
   (first | rw [c7b0] | (simp only [i64_w, i32_w]; rw [c7b0]) | skip)
   replace H := Option.bind_eq_some_iff.mp H; obtain ⟨t323, A80, H⟩ := H
   replace H : (r40_Text.j0 k l0 l2 (!t323) a1_0 l1_1 l1_2 l1_3 l1_4) = some r := H
   have A8 := aM A80; clear A80
   have H' := aM H
   clear H
   have hcz9_0 : w5.cell? ⟨gb321, 0, none⟩ = some (.string a1_0) := (blk_cell BK321.out 0).trans rfl
   have hcz9_1 : w5.cell? ⟨gb321, 1, none⟩ = some (.slice A1_1 l1_1.length c1_1) := (blk_cell BK321.out 1).trans rfl
   have hcz9_2 : w5.cell? ⟨gb321, 2, none⟩ = some (.slice A1_2 l1_2.length c1_2) := (blk_cell BK321.out 2).trans rfl
   have hcz9_3 : w5.cell? ⟨gb321, 3, none⟩ = some (.slice A1_3 l1_3.length c1_3) := (blk_cell BK321.out 3).trans rfl
   have hcz9_4 : w5.cell? ⟨gb321, 4, none⟩ = some (.slice A1_4 l1_4.length c1_4) := (blk_cell BK321.out 4).trans rfl
   have hfz9_0 := blk_frozen BK321.out 0; have hfz9_1 := blk_frozen BK321.out 1; have hfz9_2 := blk_frozen BK321.out 2; have hfz9_3 := blk_frozen BK321.out 3; have hfz9_4 := blk_frozen BK321.out 4
   go_wp2_with (first | (go_at_call 12; (with_reducible refine (r40_Check.calls k _ _ l0 a1_0 _ _ l1_1 _ _ l1_2 _ _ l1_3 _ _ l1_4 t322 _ ?side1 ?side2 ?side3 ?side4 ?side5 ?side6 ?side7 ?side8 ?side9 ?side10 A6.out).mono ?_); (case side1 => exact cB HR0.out HB.out); (case side2 => exact HC0.out); (case side3 => exact cB HR1_1.out HB.out); (case side4 => exact HC1_1.out); (case side5 => exact cB HR1_2.out HB.out); (case side6 => exact HC1_2.out); (case side7 => exact cB HR1_3.out HB.out); (case side8 => exact HC1_3.out); (case side9 => exact cB HR1_4.out HB.out); (case side10 => exact HC1_4.out); rintro e w10 ⟨rfl, hb⟩; have n0_ := aM (kW BK321.out hb); have n1_ := aM (below_step (bB1 HB.out GE321.out) hb); clear BK321; clear HB; have BK321 := n0_; have HB := n1_; clear n0_ n1_; (try clear hb); (try clear hb2); (try clear hk); (try clear hi); have hcz11_0 : w10.cell? ⟨gb321, 0, none⟩ = some (.string a1_0) := (blk_cell BK321.out 0).trans rfl; have hcz11_1 : w10.cell? ⟨gb321, 1, none⟩ = some (.slice A1_1 l1_1.length c1_1) := (blk_cell BK321.out 1).trans rfl; have hcz11_2 : w10.cell? ⟨gb321, 2, none⟩ = some (.slice A1_2 l1_2.length c1_2) := (blk_cell BK321.out 2).trans rfl; have hcz11_3 : w10.cell? ⟨gb321, 3, none⟩ = some (.slice A1_3 l1_3.length c1_3) := (blk_cell BK321.out 3).trans rfl; have hcz11_4 : w10.cell? ⟨gb321, 4, none⟩ = some (.slice A1_4 l1_4.length c1_4) := (blk_cell BK321.out 4).trans rfl; have hfz11_0 := blk_frozen BK321.out 0; have hfz11_1 := blk_frozen BK321.out 1; have hfz11_2 := blk_frozen BK321.out 2; have hfz11_3 := blk_frozen BK321.out 3; have hfz11_4 := blk_frozen BK321.out 4) | (go_at_call 40; (with_reducible refine (r40_Bound.calls k _ _ l0 a1_0 _ _ l1_1 _ _ l1_2 _ _ l1_3 _ _ l1_4 _ _ l2 t323 _ ?side1 ?side2 ?side3 ?side4 ?side5 ?side6 ?side7 ?side8 ?side9 ?side10 ?side11 ?side12 A8.out).mono ?_); (case side1 => exact cB HR0.out HB.out); (case side2 => exact HC0.out); (case side3 => exact cB HR1_1.out HB.out); (case side4 => exact HC1_1.out); (case side5 => exact cB HR1_2.out HB.out); (case side6 => exact HC1_2.out); (case side7 => exact cB HR1_3.out HB.out); (case side8 => exact HC1_3.out); (case side9 => exact cB HR1_4.out HB.out); (case side10 => exact HC1_4.out); (case side11 => exact cB HR2.out HB.out); (case side12 => exact HC2.out); rintro e w12 ⟨rfl, hb⟩; have n0_ := aM (kW BK321.out hb); have n1_ := aM (below_step (bB1 HB.out GE321.out) hb); clear BK321; clear HB; have BK321 := n0_; have HB := n1_; clear n0_ n1_; (try clear hb); (try clear hb2); (try clear hk); (try clear hi)))
   repeat (go_quiet (fail); try go_wp2)
   go_meet
   case rel => exact ⟨_, (!t323), eT, H', ⟨by first | omega | exact Nat.le_refl _⟩, ⟨kB BK321.out⟩, ⟨bB1 HB.out GE321.out⟩⟩
  ·rw [if_neg c7] at H
   have c7b0 : (t322 == 0) = false := beq_eq_false_iff_ne.mpr c7; have c7b1 : (t322 != 0) = true := bne_iff_ne.mpr c7
   (first | rw [c7b0] | (simp only [i64_w, i32_w]; rw [c7b0]) | skip)
   have H' := aM H
   clear H
   have hcz13_0 : w5.cell? ⟨gb321, 0, none⟩ = some (.string a1_0) := (blk_cell BK321.out 0).trans rfl
   have hcz13_1 : w5.cell? ⟨gb321, 1, none⟩ = some (.slice A1_1 l1_1.length c1_1) := (blk_cell BK321.out 1).trans rfl
   have hcz13_2 : w5.cell? ⟨gb321, 2, none⟩ = some (.slice A1_2 l1_2.length c1_2) := (blk_cell BK321.out 2).trans rfl
   have hcz13_3 : w5.cell? ⟨gb321, 3, none⟩ = some (.slice A1_3 l1_3.length c1_3) := (blk_cell BK321.out 3).trans rfl
   have hcz13_4 : w5.cell? ⟨gb321, 4, none⟩ = some (.slice A1_4 l1_4.length c1_4) := (blk_cell BK321.out 4).trans rfl
   have hfz13_0 := blk_frozen BK321.out 0; have hfz13_1 := blk_frozen BK321.out 1; have hfz13_2 := blk_frozen BK321.out 2; have hfz13_3 := blk_frozen BK321.out 3; have hfz13_4 := blk_frozen BK321.out 4
   go_wp2_with (first | (go_at_call 12; (with_reducible refine (r40_Check.calls k _ _ l0 a1_0 _ _ l1_1 _ _ l1_2 _ _ l1_3 _ _ l1_4 t322 _ ?side1 ?side2 ?side3 ?side4 ?side5 ?side6 ?side7 ?side8 ?side9 ?side10 A6.out).mono ?_); (case side1 => exact cB HR0.out HB.out); (case side2 => exact HC0.out); (case side3 => exact cB HR1_1.out HB.out); (case side4 => exact HC1_1.out); (case side5 => exact cB HR1_2.out HB.out); (case side6 => exact HC1_2.out); (case side7 => exact cB HR1_3.out HB.out); (case side8 => exact HC1_3.out); (case side9 => exact cB HR1_4.out HB.out); (case side10 => exact HC1_4.out); rintro e w14 ⟨rfl, hb⟩; have n0_ := aM (kW BK321.out hb); have n1_ := aM (below_step (bB1 HB.out GE321.out) hb); clear BK321; clear HB; have BK321 := n0_; have HB := n1_; clear n0_ n1_; (try clear hb); (try clear hb2); (try clear hk); (try clear hi)))
   repeat (go_quiet (fail); try go_wp2)
   go_meet
   case rel => exact ⟨_, (true), eT, H', ⟨by first | omega | exact Nat.le_refl _⟩, ⟨kB BK321.out⟩, ⟨bB1 HB.out GE321.out⟩⟩
 case rest =>
  clear HC4; obtain ⟨kq, x19_3, rfl, HA, HJ3, BK321, HB⟩ := hcut
  cases kq with
  | zero => exact absurd HA.out (by simp [r40_Text.j0])
  | succ kj3 =>
   have H := HA.out; clear HA
   simp only [r40_Text.j0] at H
   by_cases c15 : x19_3 = true
   ·subst c15
    have H1 : (some (⟨#[]⟩ : ByteArray)) = some r := by rw [if_pos rfl] at H; exact H
    clear H; have H := H1; clear H1
    obtain rfl := Option.some.inj H
    go_wp2
    repeat (go_quiet (fail); try go_wp2)
    go_ret
    exact ⟨rT, bB1 HB.out GE321.out⟩
   ·replace c15 := Bool.eq_false_iff.mpr c15
    subst c15
    have H1 : (if (l2.length : Int) = 0 then (some (⟨#[45]⟩ : ByteArray)) else (r40_Text.l0 kj3 l0 l2 (⟨#[]⟩ : ByteArray) 0 a1_0 l1_1 l1_2 l1_3 l1_4)) = some r := by rw [if_neg (show ¬ (false = true) by decide)] at H; exact H
    clear H; have H := H1; clear H1
    by_cases c16 : (l2.length : Int) = 0
    ·rw [if_pos c16] at H
     have c16b0 : ((l2.length : Int) == 0) = true := beq_iff_eq.mpr c16; have c16b1 : ((l2.length : Int) != 0) = false := bne_eq_false_iff_eq.mpr c16; clear c16
     obtain rfl := Option.some.inj H
     go_wp2
     repeat (go_quiet (fail); try go_wp2)
     go_ret
     exact ⟨rT, bB1 HB.out GE321.out⟩
    ·rw [if_neg c16] at H
     have c16b0 : ((l2.length : Int) == 0) = false := beq_eq_false_iff_ne.mpr c16; have c16b1 : ((l2.length : Int) != 0) = true := bne_iff_ne.mpr c16
     have c16b2 : ¬ (l2 = []) := fun h_ => c16 (by rw [h_]; rfl)
     have H' := aM H
     clear H
     go_wp2
     repeat (go_quiet (fail); try go_wp2)
     go_loopg [7, 8] kj3 (fun kq v7 v8 w' => ∃ (x7_2 : ByteArray) (x8_2 : Int), v7 = .string x7_2 ∧ v8 = .int .i64 x8_2 ∧ Aside0 (r40_Text.l0 kq l0 l2 x7_2 x8_2 a1_0 l1_1 l1_2 l1_3 l1_4 = some r) ∧ Aside0 (kq ≤ kj3) ∧ Aside0 (w'.heap[gb321]? = some (.cells #[.string a1_0, (.slice A1_1 l1_1.length c1_1), (.slice A1_2 l1_2.length c1_2), (.slice A1_3 l1_3.length c1_3), (.slice A1_4 l1_4.length c1_4)] 27 (0, 0))) ∧ Aside0 (Below w.heap.size w w'))
     case atStart => exact ⟨((⟨#[]⟩ : ByteArray)), (0), eT, eT, H', ⟨Nat.le_refl _⟩, ⟨kB BK321.out⟩, ⟨bB1 HB.out GE321.out⟩⟩
     case round =>
      clear H'; obtain ⟨x7_2, x8_2, rfl, rfl, HA, HK2, BK321, HB⟩ := hrel
      cases gk with
      | zero => exact absurd HA.out (by simp [r40_Text.l0])
      | succ k2 =>
       have H := HA.out; clear HA
       simp only [r40_Text.l0] at H
       by_cases c17 : x8_2 < (l2.length : Int)
       ·rw [if_pos c17] at H
        have c17b0 : decide (x8_2 < (l2.length : Int)) = true := decide_eq_true c17; clear c17
        by_cases c18 : x8_2 > 0
        ·rw [if_pos c18] at H
         have c18b0 : decide (0 < x8_2) = true := decide_eq_true c18; clear c18
         by_cases c19 : x7_2.size + 1 ≤ 9223372036854775807
         ·rw [if_pos c19] at H
          have c19b0 := eq_true c19; have c19b1 : decide (x7_2.size + 1 ≤ 9223372036854775807) = true := decide_eq_true c19
          try have c19b2 : (9223372036854775807 < x7_2.size + 1) = False := eq_false (Nat.not_lt.2 c19)
          by_cases c20 : 0 ≤ x8_2
          ·rw [if_pos c20] at H
           have c20b0 : decide (0 ≤ x8_2) = true := decide_eq_true c20; clear c20
           by_cases c21 : x8_2 < (l1_1.length : Int)
           ·rw [if_pos c21] at H
            have c21b0 : decide (x8_2 < (l1_1.length : Int)) = true := decide_eq_true c21; clear c21
            by_cases c22 : (x7_2 ++ (⟨#[44]⟩ : ByteArray)).size + ((rd_T48 l1_1 x8_2).f0).size ≤ 9223372036854775807
            ·rw [if_pos c22] at H
             have c22b0 := eq_true c22
             have c22b1 : decide ((x7_2 ++ (⟨#[44]⟩ : ByteArray)).size + ((rd_T48 l1_1 x8_2).f0).size ≤ 9223372036854775807) = true := decide_eq_true c22
             try have c22b2 : (9223372036854775807 < (x7_2 ++ (⟨#[44]⟩ : ByteArray)).size + ((rd_T48 l1_1 x8_2).f0).size) = False := eq_false (Nat.not_lt.2 c22)
             try have c22b8 := c22b2
             try simp only [ByteArray.size_append, show (⟨#[44]⟩ : ByteArray).size = 1 from rfl] at c22b8
             by_cases c23 : ((x7_2 ++ (⟨#[44]⟩ : ByteArray)) ++ ((rd_T48 l1_1 x8_2).f0)).size + 1 ≤ 9223372036854775807
             ·rw [if_pos c23] at H
              have c23b0 := eq_true c23
              have c23b1 : decide (((x7_2 ++ (⟨#[44]⟩ : ByteArray)) ++ ((rd_T48 l1_1 x8_2).f0)).size + 1 ≤ 9223372036854775807) = true := decide_eq_true c23
              try have c23b2 : (9223372036854775807 < ((x7_2 ++ (⟨#[44]⟩ : ByteArray)) ++ ((rd_T48 l1_1 x8_2).f0)).size + 1) = False := eq_false (Nat.not_lt.2 c23)
              try have c23b8 := c23b2
              try simp only [ByteArray.size_append, show (⟨#[44]⟩ : ByteArray).size = 1 from rfl] at c23b8
              by_cases c24 : 0 ≤ ((rd_T48 l1_1 x8_2).f1)
              ·rw [if_pos c24] at H
               have c24b0 : decide (0 ≤ ((rd_T48 l1_1 x8_2).f1)) = true := decide_eq_true c24; clear c24
               by_cases c25 : ((rd_T48 l1_1 x8_2).f1) < (l0.length : Int)
               ·rw [if_pos c25] at H
                have c25b0 : decide (((rd_T48 l1_1 x8_2).f1) < (l0.length : Int)) = true := decide_eq_true c25; clear c25
                by_cases c26 : 0 ≤ (rd l2 x8_2)
                ·rw [if_pos c26] at H
                 have c26b0 : decide (0 ≤ (rd l2 x8_2)) = true := decide_eq_true c26; clear c26
                 by_cases c27 : (rd l2 x8_2) < (((rd_T51 l0 ((rd_T48 l1_1 x8_2).f1)).f1).length : Int)
                 ·rw [if_pos c27] at H
                  have c27b0 : decide ((rd l2 x8_2) < (((rd_T51 l0 ((rd_T48 l1_1 x8_2).f1)).f1).length : Int)) = true := decide_eq_true c27; clear c27
                  by_cases c28 : (((x7_2 ++ (⟨#[44]⟩ : ByteArray)) ++ ((rd_T48 l1_1 x8_2).f0)) ++ (⟨#[61]⟩ : ByteArray)).size + (rdOf ByteArray.empty ((rd_T51 l0 ((rd_T48 l1_1 x8_2).f1)).f1) (rd l2 x8_2)).size ≤ 9223372036854775807
                  ·rw [if_pos c28] at H
                   have c28b0 := eq_true c28
                   have c28b1 : decide ((((x7_2 ++ (⟨#[44]⟩ : ByteArray)) ++ ((rd_T48 l1_1 x8_2).f0)) ++ (⟨#[61]⟩ : ByteArray)).size + (rdOf ByteArray.empty ((rd_T51 l0 ((rd_T48 l1_1 x8_2).f1)).f1) (rd l2 x8_2)).size ≤ 9223372036854775807) = true := decide_eq_true c28
                   try have c28b2 : (9223372036854775807 < (((x7_2 ++ (⟨#[44]⟩ : ByteArray)) ++ ((rd_T48 l1_1 x8_2).f0)) ++ (⟨#[61]⟩ : ByteArray)).size + (rdOf ByteArray.empty ((rd_T51 l0 ((rd_T48 l1_1 x8_2).f1)).f1) (rd l2 x8_2)).size) = False := eq_false (Nat.not_lt.2 c28)
                   try have c28b8 := c28b2
                   try simp only [ByteArray.size_append, show (⟨#[44]⟩ : ByteArray).size = 1 from rfl, show (⟨#[61]⟩ : ByteArray).size = 1 from rfl] at c28b8
                   have H' := aM H
                   clear H
                   have hcz29_0 : wr.cell? ⟨gb321, 0, none⟩ = some (.string a1_0) := (blk_cell BK321.out 0).trans rfl
                   have hcz29_1 : wr.cell? ⟨gb321, 1, none⟩ = some (.slice A1_1 l1_1.length c1_1) := (blk_cell BK321.out 1).trans rfl
                   have hcz29_2 : wr.cell? ⟨gb321, 2, none⟩ = some (.slice A1_2 l1_2.length c1_2) := (blk_cell BK321.out 2).trans rfl
                   have hcz29_3 : wr.cell? ⟨gb321, 3, none⟩ = some (.slice A1_3 l1_3.length c1_3) := (blk_cell BK321.out 3).trans rfl
                   have hcz29_4 : wr.cell? ⟨gb321, 4, none⟩ = some (.slice A1_4 l1_4.length c1_4) := (blk_cell BK321.out 4).trans rfl
                   have hfz29_0 := blk_frozen BK321.out 0; have hfz29_1 := blk_frozen BK321.out 1; have hfz29_2 := blk_frozen BK321.out 2; have hfz29_3 := blk_frozen BK321.out 3; have hfz29_4 := blk_frozen BK321.out 4; have p324 : 0 ≤ (x8_2 : Int) := dT; have q324 : x8_2 < (l1_1.length : Int) := dT; obtain ⟨ad324, e324, hx324_0, hx324_1⟩ := at_T48 HR1_1.out x8_2 p324 q324; cases e324; replace hx324_0 := (HB.out.cell (World.block_lt_of_cell? w _ hx324_0)).trans hx324_0; replace hx324_1 := (HB.out.cell (World.block_lt_of_cell? w _ hx324_1)).trans hx324_1; replace p324 := eq_true p324; replace q324 := eq_true q324; have p325 : 0 ≤ (x8_2 : Int) := dT; have q325 : x8_2 < (l1_1.length : Int) := dT; obtain ⟨ad325, e325, hx325_0, hx325_1⟩ := at_T48 HR1_1.out x8_2 p325 q325; obtain rfl : ad324 = ad325 := (by injection e325); replace hx325_0 := (HB.out.cell (World.block_lt_of_cell? w _ hx325_0)).trans hx325_0; replace hx325_1 := (HB.out.cell (World.block_lt_of_cell? w _ hx325_1)).trans hx325_1; replace p325 := eq_true p325; replace q325 := eq_true q325; have p326 : 0 ≤ (((rd_T48 l1_1 x8_2).f1) : Int) := dT; have q326 : ((rd_T48 l1_1 x8_2).f1) < (l0.length : Int) := dT; obtain ⟨ad326, A326_1, c326_1, e326, hx326_0, hx326_1, hl326_1, hi326_1⟩ := at_T51 HR0.out ((rd_T48 l1_1 x8_2).f1) p326 q326; cases e326; replace hx326_0 := (HB.out.cell (World.block_lt_of_cell? w _ hx326_0)).trans hx326_0; replace hx326_1 := (HB.out.cell (World.block_lt_of_cell? w _ hx326_1)).trans hx326_1; have HR326_1 := aM hi326_1; have HC326_1 := aM hl326_1; clear hi326_1 hl326_1; replace p326 := eq_true p326; replace q326 := eq_true q326; have p327 : 0 ≤ (x8_2 : Int) := dT; have q327 : x8_2 < (l2.length : Int) := dT; obtain ⟨ad327, e327, hx327_0⟩ := Kd.at_int HR2.out x8_2 p327 q327; cases e327; replace hx327_0 := (HB.out.cell (World.block_lt_of_cell? w _ hx327_0)).trans hx327_0; replace p327 := eq_true p327; replace q327 := eq_true q327; have p328 : 0 ≤ ((rd l2 x8_2) : Int) := dT; have q328 : (rd l2 x8_2) < (((rd_T51 l0 ((rd_T48 l1_1 x8_2).f1)).f1).length : Int) := dT; obtain ⟨ad328, e328, hx328_0⟩ := Kd.at_string HR326_1.out (rd l2 x8_2) p328 q328; cases e328; replace hx328_0 := (HB.out.cell (World.block_lt_of_cell? w _ hx328_0)).trans hx328_0; replace p328 := eq_true p328; replace q328 := eq_true q328
                   go_wp2
                   repeat (go_quiet (fail); try go_wp2)
                   go_roundg k2
                   case measure => have := HJ3.out; have := HK2.out; omega
                   case rel => exact ⟨((((x7_2 ++ (⟨#[44]⟩ : ByteArray)) ++ ((rd_T48 l1_1 x8_2).f0)) ++ (⟨#[61]⟩ : ByteArray)) ++ (rdOf ByteArray.empty ((rd_T51 l0 ((rd_T48 l1_1 x8_2).f1)).f1) (rd l2 x8_2))), (wrap64 (x8_2 + 1)), eT, eT, H', ⟨by have := HJ3.out; have := HK2.out; omega⟩, ⟨kB BK321.out⟩, ⟨bB1 HB.out GE321.out⟩⟩
                  ·rw [if_neg c28] at H
                   exact absurd H (by simp)
                 ·rw [if_neg c27] at H
                  exact absurd H (by simp)
                ·rw [if_neg c26] at H
                 exact absurd H (by simp)
               ·rw [if_neg c25] at H
                exact absurd H (by simp)
              ·rw [if_neg c24] at H
               exact absurd H (by simp)
             ·rw [if_neg c23] at H
              exact absurd H (by simp)
            ·rw [if_neg c22] at H
             exact absurd H (by simp)
           ·rw [if_neg c21] at H
            exact absurd H (by simp)
          ·rw [if_neg c20] at H
           exact absurd H (by simp)
         ·rw [if_neg c19] at H
          exact absurd H (by simp)
        ·rw [if_neg c18] at H
         have c18b0 : decide (0 < x8_2) = false := decide_eq_false c18; clear c18
         by_cases c30 : 0 ≤ x8_2
         ·rw [if_pos c30] at H
          have c30b0 : decide (0 ≤ x8_2) = true := decide_eq_true c30; clear c30
          by_cases c31 : x8_2 < (l1_1.length : Int)
          ·rw [if_pos c31] at H
           have c31b0 : decide (x8_2 < (l1_1.length : Int)) = true := decide_eq_true c31; clear c31
           by_cases c32 : x7_2.size + ((rd_T48 l1_1 x8_2).f0).size ≤ 9223372036854775807
           ·rw [if_pos c32] at H
            have c32b0 := eq_true c32; have c32b1 : decide (x7_2.size + ((rd_T48 l1_1 x8_2).f0).size ≤ 9223372036854775807) = true := decide_eq_true c32
            try have c32b2 : (9223372036854775807 < x7_2.size + ((rd_T48 l1_1 x8_2).f0).size) = False := eq_false (Nat.not_lt.2 c32)
            by_cases c33 : (x7_2 ++ ((rd_T48 l1_1 x8_2).f0)).size + 1 ≤ 9223372036854775807
            ·rw [if_pos c33] at H
             have c33b0 := eq_true c33; have c33b1 : decide ((x7_2 ++ ((rd_T48 l1_1 x8_2).f0)).size + 1 ≤ 9223372036854775807) = true := decide_eq_true c33
             try have c33b2 : (9223372036854775807 < (x7_2 ++ ((rd_T48 l1_1 x8_2).f0)).size + 1) = False := eq_false (Nat.not_lt.2 c33)
             try have c33b8 := c33b2
             try simp only [ByteArray.size_append] at c33b8
             by_cases c34 : 0 ≤ ((rd_T48 l1_1 x8_2).f1)
             ·rw [if_pos c34] at H
              have c34b0 : decide (0 ≤ ((rd_T48 l1_1 x8_2).f1)) = true := decide_eq_true c34; clear c34
              by_cases c35 : ((rd_T48 l1_1 x8_2).f1) < (l0.length : Int)
              ·rw [if_pos c35] at H
               have c35b0 : decide (((rd_T48 l1_1 x8_2).f1) < (l0.length : Int)) = true := decide_eq_true c35; clear c35
               by_cases c36 : 0 ≤ (rd l2 x8_2)
               ·rw [if_pos c36] at H
                have c36b0 : decide (0 ≤ (rd l2 x8_2)) = true := decide_eq_true c36; clear c36
                by_cases c37 : (rd l2 x8_2) < (((rd_T51 l0 ((rd_T48 l1_1 x8_2).f1)).f1).length : Int)
                ·rw [if_pos c37] at H
                 have c37b0 : decide ((rd l2 x8_2) < (((rd_T51 l0 ((rd_T48 l1_1 x8_2).f1)).f1).length : Int)) = true := decide_eq_true c37; clear c37
                 by_cases c38 : ((x7_2 ++ ((rd_T48 l1_1 x8_2).f0)) ++ (⟨#[61]⟩ : ByteArray)).size + (rdOf ByteArray.empty ((rd_T51 l0 ((rd_T48 l1_1 x8_2).f1)).f1) (rd l2 x8_2)).size ≤ 9223372036854775807
                 ·rw [if_pos c38] at H
                  have c38b0 := eq_true c38
                  have c38b1 : decide (((x7_2 ++ ((rd_T48 l1_1 x8_2).f0)) ++ (⟨#[61]⟩ : ByteArray)).size + (rdOf ByteArray.empty ((rd_T51 l0 ((rd_T48 l1_1 x8_2).f1)).f1) (rd l2 x8_2)).size ≤ 9223372036854775807) = true := decide_eq_true c38
                  try have c38b2 : (9223372036854775807 < ((x7_2 ++ ((rd_T48 l1_1 x8_2).f0)) ++ (⟨#[61]⟩ : ByteArray)).size + (rdOf ByteArray.empty ((rd_T51 l0 ((rd_T48 l1_1 x8_2).f1)).f1) (rd l2 x8_2)).size) = False := eq_false (Nat.not_lt.2 c38)
                  try have c38b8 := c38b2
                  try simp only [ByteArray.size_append, show (⟨#[61]⟩ : ByteArray).size = 1 from rfl] at c38b8
                  have H' := aM H
                  clear H
                  have hcz39_0 : wr.cell? ⟨gb321, 0, none⟩ = some (.string a1_0) := (blk_cell BK321.out 0).trans rfl
                  have hcz39_1 : wr.cell? ⟨gb321, 1, none⟩ = some (.slice A1_1 l1_1.length c1_1) := (blk_cell BK321.out 1).trans rfl
                  have hcz39_2 : wr.cell? ⟨gb321, 2, none⟩ = some (.slice A1_2 l1_2.length c1_2) := (blk_cell BK321.out 2).trans rfl
                  have hcz39_3 : wr.cell? ⟨gb321, 3, none⟩ = some (.slice A1_3 l1_3.length c1_3) := (blk_cell BK321.out 3).trans rfl
                  have hcz39_4 : wr.cell? ⟨gb321, 4, none⟩ = some (.slice A1_4 l1_4.length c1_4) := (blk_cell BK321.out 4).trans rfl
                  have hfz39_0 := blk_frozen BK321.out 0; have hfz39_1 := blk_frozen BK321.out 1; have hfz39_2 := blk_frozen BK321.out 2; have hfz39_3 := blk_frozen BK321.out 3; have hfz39_4 := blk_frozen BK321.out 4; have p329 : 0 ≤ (x8_2 : Int) := dT; have q329 : x8_2 < (l1_1.length : Int) := dT; obtain ⟨ad329, e329, hx329_0, hx329_1⟩ := at_T48 HR1_1.out x8_2 p329 q329; cases e329; replace hx329_0 := (HB.out.cell (World.block_lt_of_cell? w _ hx329_0)).trans hx329_0; replace hx329_1 := (HB.out.cell (World.block_lt_of_cell? w _ hx329_1)).trans hx329_1; replace p329 := eq_true p329; replace q329 := eq_true q329; have p330 : 0 ≤ (x8_2 : Int) := dT; have q330 : x8_2 < (l1_1.length : Int) := dT; obtain ⟨ad330, e330, hx330_0, hx330_1⟩ := at_T48 HR1_1.out x8_2 p330 q330; obtain rfl : ad329 = ad330 := (by injection e330); replace hx330_0 := (HB.out.cell (World.block_lt_of_cell? w _ hx330_0)).trans hx330_0; replace hx330_1 := (HB.out.cell (World.block_lt_of_cell? w _ hx330_1)).trans hx330_1; replace p330 := eq_true p330; replace q330 := eq_true q330; have p331 : 0 ≤ (((rd_T48 l1_1 x8_2).f1) : Int) := dT; have q331 : ((rd_T48 l1_1 x8_2).f1) < (l0.length : Int) := dT; obtain ⟨ad331, A331_1, c331_1, e331, hx331_0, hx331_1, hl331_1, hi331_1⟩ := at_T51 HR0.out ((rd_T48 l1_1 x8_2).f1) p331 q331; cases e331; replace hx331_0 := (HB.out.cell (World.block_lt_of_cell? w _ hx331_0)).trans hx331_0; replace hx331_1 := (HB.out.cell (World.block_lt_of_cell? w _ hx331_1)).trans hx331_1; have HR331_1 := aM hi331_1; have HC331_1 := aM hl331_1; clear hi331_1 hl331_1; replace p331 := eq_true p331; replace q331 := eq_true q331; have p332 : 0 ≤ (x8_2 : Int) := dT; have q332 : x8_2 < (l2.length : Int) := dT; obtain ⟨ad332, e332, hx332_0⟩ := Kd.at_int HR2.out x8_2 p332 q332; cases e332; replace hx332_0 := (HB.out.cell (World.block_lt_of_cell? w _ hx332_0)).trans hx332_0; replace p332 := eq_true p332; replace q332 := eq_true q332; have p333 : 0 ≤ ((rd l2 x8_2) : Int) := dT; have q333 : (rd l2 x8_2) < (((rd_T51 l0 ((rd_T48 l1_1 x8_2).f1)).f1).length : Int) := dT; obtain ⟨ad333, e333, hx333_0⟩ := Kd.at_string HR331_1.out (rd l2 x8_2) p333 q333; cases e333; replace hx333_0 := (HB.out.cell (World.block_lt_of_cell? w _ hx333_0)).trans hx333_0; replace p333 := eq_true p333; replace q333 := eq_true q333
                  go_wp2
                  repeat (go_quiet (fail); try go_wp2)
                  go_roundg k2
                  case measure => have := HJ3.out; have := HK2.out; omega
                  case rel => exact ⟨(((x7_2 ++ ((rd_T48 l1_1 x8_2).f0)) ++ (⟨#[61]⟩ : ByteArray)) ++ (rdOf ByteArray.empty ((rd_T51 l0 ((rd_T48 l1_1 x8_2).f1)).f1) (rd l2 x8_2))), (wrap64 (x8_2 + 1)), eT, eT, H', ⟨by have := HJ3.out; have := HK2.out; omega⟩, ⟨kB BK321.out⟩, ⟨bB1 HB.out GE321.out⟩⟩
                 ·rw [if_neg c38] at H
                  exact absurd H (by simp)
                ·rw [if_neg c37] at H
                 exact absurd H (by simp)
               ·rw [if_neg c36] at H
                exact absurd H (by simp)
              ·rw [if_neg c35] at H
               exact absurd H (by simp)
             ·rw [if_neg c34] at H
              exact absurd H (by simp)
            ·rw [if_neg c33] at H
             exact absurd H (by simp)
           ·rw [if_neg c32] at H
            exact absurd H (by simp)
          ·rw [if_neg c31] at H
           exact absurd H (by simp)
         ·rw [if_neg c30] at H
          exact absurd H (by simp)
       ·rw [if_neg c17] at H
        have c17b0 : decide (x8_2 < (l2.length : Int)) = false := decide_eq_false c17; clear c17
        obtain rfl := Option.some.inj H
        go_wp2
        repeat (go_quiet (fail); try go_wp2)
        go_ret
        exact ⟨rT, bB1 HB.out GE321.out⟩




/-! ### l40_BindingEvals: function 4 -/
mutual
def l40_BindingEvals.j0 : Nat → List (S51) → Bool → ByteArray → List (S48) → List (S62) → List (S111) → List (S111) → Int → List (S54) → List Int → Option (Bool)
 | 0, _, _, _, _, _, _, _, _, _, _ => none
 | k + 1, x0, x26, x335000, x335001, x335002, x335003, x335004, x336000, x336001, x336002 => if x26 = true then ((l40_lives.f k).bind fun t337 => (some t337)) else ((binding_Eval.f k x0 x335000 x335001 x335002 x335003 x335004 x336000 x336001 x336002).bind fun bt338 => ((r40_Eval.f k x0 x335000 x335001 x335002 x335003 x335004 x336000 x336001 x336002).bind fun bt342 => ((r04_Same.f k bt338.1 bt342.1).bind fun t346 => (if t346 = true then (if bt338.2 = bt342.2 then ((binding_Holds.f k x0 x335000 x335001 x335002 x335003 x335004 x336002).bind fun t347 => ((r40_Holds.f k x0 x335000 x335001 x335002 x335003 x335004 x336002).bind fun t348 => (l40_BindingEvals.j1 k x0 (t347 != t348) x335000 x335001 x335002 x335003 x335004 x336000 x336001 x336002))) else (l40_BindingEvals.j1 k x0 true x335000 x335001 x335002 x335003 x335004 x336000 x336001 x336002)) else (l40_BindingEvals.j1 k x0 true x335000 x335001 x335002 x335003 x335004 x336000 x336001 x336002)))))
def l40_BindingEvals.j1 : Nat → List (S51) → Bool → ByteArray → List (S48) → List (S62) → List (S111) → List (S111) → Int → List (S54) → List Int → Option (Bool)
 | 0, _, _, _, _, _, _, _, _, _, _ => none
 | k + 1, x0, x73, x335000, x335001, x335002, x335003, x335004, x336000, x336001, x336002 => if x73 = true then (some false) else ((binding_Text.f k x0 x335000 x335001 x335002 x335003 x335004 x336002).bind fun t349 => ((r40_Text.f k x0 x335000 x335001 x335002 x335003 x335004 x336002).bind fun t350 => (if t349.toList = t350.toList then ((l40_lives.f k).bind fun t351 => (some t351)) else (some false))))
end
def l40_BindingEvals.f (k : Nat) (l0 : List (S51)) (a1_0 : ByteArray) (l1_1 : List (S48)) (l1_2 : List (S62)) (l1_3 : List (S111)) (l1_4 : List (S111)) (a2_0 : Int) (l2_1 : List (S54)) (l2_2 : List Int) : Option (Bool) := (r40_Few.f k l0 a1_0 l1_1 l1_2 l1_3 l1_4).bind fun t336 => (if t336 = true then (if (l2_1.length : Int) > 20 then (l40_BindingEvals.j0 k l0 true a1_0 l1_1 l1_2 l1_3 l1_4 a2_0 l2_1 l2_2) else (l40_BindingEvals.j0 k l0 (decide ((l2_2.length : Int) > 8)) a1_0 l1_1 l1_2 l1_3 l1_4 a2_0 l2_1 l2_2)) else (l40_BindingEvals.j0 k l0 true a1_0 l1_1 l1_2 l1_3 l1_4 a2_0 l2_1 l2_2))
theorem l40_BindingEvals.mono_l : ∀ k, (∀ y0 y1 y2 y3 y4 y5 y6 y7 y8 y9, LeO (l40_BindingEvals.j0 k y0 y1 y2 y3 y4 y5 y6 y7 y8 y9) (l40_BindingEvals.j0 (k + 1) y0 y1 y2 y3 y4 y5 y6 y7 y8 y9)) ∧ (∀ y0 y1 y2 y3 y4 y5 y6 y7 y8 y9, LeO (l40_BindingEvals.j1 k y0 y1 y2 y3 y4 y5 y6 y7 y8 y9) (l40_BindingEvals.j1 (k + 1) y0 y1 y2 y3 y4 y5 y6 y7 y8 y9))
 | 0 => ⟨fun _ _ _ _ _ _ _ _ _ _ r h => by simp [l40_BindingEvals.j0] at h, fun _ _ _ _ _ _ _ _ _ _ r h => by simp [l40_BindingEvals.j1] at h⟩
 | k + 1 => by
  obtain ⟨ih0, ih1⟩ := l40_BindingEvals.mono_l k
  refine ⟨?_, ?_⟩
  ·intro y0 y1 y2 y3 y4 y5 y6 y7 y8 y9
   unfold l40_BindingEvals.j0
   repeat' first
   | (with_reducible first | exact ih0 _ _ _ _ _ _ _ _ _ _ | exact ih1 _ _ _ _ _ _ _ _ _ _ | exact binding_Eval.mono _ _ _ _ _ _ _ _ _ _ | exact binding_Holds.mono _ _ _ _ _ _ _ _ | exact binding_Text.mono _ _ _ _ _ _ _ _ | exact l40_lives.mono _ | exact r04_Same.mono _ _ _ | exact r40_Eval.mono _ _ _ _ _ _ _ _ _ _ | exact r40_Few.mono _ _ _ _ _ _ _ | exact r40_Holds.mono _ _ _ _ _ _ _ _ | exact r40_Text.mono _ _ _ _ _ _ _ _ | exact LeO.refl _ | exact LeO.none _ | refine LeO.ite ?_ ?_ | refine LeO.bind ?_ (fun _ => ?_))
   | exact LeO.none _
   | refine LeO.ite ?_ ?_
   | refine LeO.bind ?_ (fun _ => ?_)
  ·intro y0 y1 y2 y3 y4 y5 y6 y7 y8 y9
   unfold l40_BindingEvals.j1
   repeat' first
   | (with_reducible first | exact ih0 _ _ _ _ _ _ _ _ _ _ | exact ih1 _ _ _ _ _ _ _ _ _ _ | exact binding_Eval.mono _ _ _ _ _ _ _ _ _ _ | exact binding_Holds.mono _ _ _ _ _ _ _ _ | exact binding_Text.mono _ _ _ _ _ _ _ _ | exact l40_lives.mono _ | exact r04_Same.mono _ _ _ | exact r40_Eval.mono _ _ _ _ _ _ _ _ _ _ | exact r40_Few.mono _ _ _ _ _ _ _ | exact r40_Holds.mono _ _ _ _ _ _ _ _ | exact r40_Text.mono _ _ _ _ _ _ _ _ | exact LeO.refl _ | exact LeO.none _ | refine LeO.ite ?_ ?_ | refine LeO.bind ?_ (fun _ => ?_))
   | exact LeO.none _
   | refine LeO.ite ?_ ?_
   | refine LeO.bind ?_ (fun _ => ?_)
theorem l40_BindingEvals.mono : ∀ a0 a1 a2 a3 a4 a5 a6 a7 a8 k, LeO (l40_BindingEvals.f k a0 a1 a2 a3 a4 a5 a6 a7 a8) (l40_BindingEvals.f (k + 1) a0 a1 a2 a3 a4 a5 a6 a7 a8) := by
 intro a0 a1 a2 a3 a4 a5 a6 a7 a8 k
 obtain ⟨ih0, ih1⟩ := l40_BindingEvals.mono_l k
 unfold l40_BindingEvals.f
 repeat' first
   | (with_reducible first | exact ih0 _ _ _ _ _ _ _ _ _ _ | exact ih1 _ _ _ _ _ _ _ _ _ _ | exact binding_Eval.mono _ _ _ _ _ _ _ _ _ _ | exact binding_Holds.mono _ _ _ _ _ _ _ _ | exact binding_Text.mono _ _ _ _ _ _ _ _ | exact l40_lives.mono _ | exact r04_Same.mono _ _ _ | exact r40_Eval.mono _ _ _ _ _ _ _ _ _ _ | exact r40_Few.mono _ _ _ _ _ _ _ | exact r40_Holds.mono _ _ _ _ _ _ _ _ | exact r40_Text.mono _ _ _ _ _ _ _ _ | exact LeO.refl _ | exact LeO.none _ | refine LeO.ite ?_ ?_ | refine LeO.bind ?_ (fun _ => ?_))
   | exact LeO.none _
   | refine LeO.ite ?_ ?_
   | refine LeO.bind ?_ (fun _ => ?_)
def l40_BindingEvals.T5 : Bool × List (List Nat × List Nat) := (true, [([], []), ([], []), ([0, 1], [0, 1]), ([2], [2]), ([3, 2], [3]), ([4], [4]), ([4], [4]), ([5, 6, 4], [4, 5, 6]), ([4, 7], [4, 7]), ([8, 4], [8]), ([9], [9]), ([9], [9]), ([9], [9]), ([12, 9], [9, 12]), ([10, 11, 13, 9, 9], [9, 10, 11, 13]), ([9], [9]), ([9], [9]), ([9], [9]), ([17, 9], [9, 17]), ([15, 16, 18, 14, 9], [9, 15, 16, 18]), ([14, 19, 9], [9, 14, 19]), ([9, 20], [9, 20])])
def l40_BindingEvals.B5 : List Nat := [0, 0, 3, 7, 15, 31, 31, 127, 255, 511, 1023, 1023, 1023, 5119, 16383, 1023, 1023, 1023, 132095, 524287, 1048575, 2097151]
theorem l40_BindingEvals.tab5 : rtab .any (opsOf Try.f4 5) = l40_BindingEvals.T5 := by kernel_rfl
theorem l40_BindingEvals.bits5 : waitsOk l40_BindingEvals.T5.2 l40_BindingEvals.B5 = true := by kernel_rfl
def l40_BindingEvals.T7 : Bool × List (List Nat × List Nat) := (true, [([], []), ([], []), ([], []), ([2], [2]), ([0, 1, 3], [0, 1, 3]), ([], []), ([], []), ([], []), ([7], [7]), ([5, 6, 8, 4], [5, 6, 8]), ([4, 9], [4, 9]), ([10, 9], [10]), ([11, 11], [11]), ([11, 12], [11, 12]), ([13, 12, 0, 1, 2, 3, 4, 5, 6, 7, 8, 9, 10, 11, 12, 13], [13])])
def l40_BindingEvals.B7 : List Nat := [0, 0, 0, 4, 15, 0, 0, 0, 128, 511, 1023, 2047, 4095, 8191, 16383]
theorem l40_BindingEvals.tab7 : rtab .any (opsOf Try.f4 7) = l40_BindingEvals.T7 := by kernel_rfl
theorem l40_BindingEvals.bits7 : waitsOk l40_BindingEvals.T7.2 l40_BindingEvals.B7 = true := by kernel_rfl
theorem l40_BindingEvals.j1_no : ∀ k y0 y2 y3 y4 y5 y6 y7 y8 y9, ¬ (l40_BindingEvals.j1 k y0 true y2 y3 y4 y5 y6 y7 y8 y9 = some true) := by
 intro k; cases k <;> simp [l40_BindingEvals.j1]
set_option maxHeartbeats 8000000 in
set_option maxRecDepth 100000 in
theorem l40_BindingEvals.calls (k : Nat) (A0 : Option Addr) (c0 : Nat) (l0 : List (S51)) (a1_0 : ByteArray) (A1_1 : Option Addr) (c1_1 : Nat) (l1_1 : List (S48)) (A1_2 : Option Addr) (c1_2 : Nat) (l1_2 : List (S62)) (A1_3 : Option Addr) (c1_3 : Nat) (l1_3 : List (S111)) (A1_4 : Option Addr) (c1_4 : Nat) (l1_4 : List (S111)) (a2_0 : Int) (A2_1 : Option Addr) (c2_1 : Nat) (l2_1 : List (S54)) (A2_2 : Option Addr) (c2_2 : Nat) (l2_2 : List Int) (r : Bool) (w : World) (hr0 : Kd.C k51 w A0 l0.length l0) (hc0 : l0.length ≤ c0) (hr1_1 : Kd.C k48 w A1_1 l1_1.length l1_1) (hc1_1 : l1_1.length ≤ c1_1) (hr1_2 : Kd.C k62 w A1_2 l1_2.length l1_2) (hc1_2 : l1_2.length ≤ c1_2) (hr1_3 : Kd.C k111 w A1_3 l1_3.length l1_3) (hc1_3 : l1_3.length ≤ c1_3) (hr1_4 : Kd.C k111 w A1_4 l1_4.length l1_4) (hc1_4 : l1_4.length ≤ c1_4) (hr2_1 : Kd.C k54 w A2_1 l2_1.length l2_1) (hc2_1 : l2_1.length ≤ c2_1) (hr2_2 : Kd.C (Kd.int .i64) w A2_2 l2_2.length l2_2) (hc2_2 : l2_2.length ≤ c2_2) (h : l40_BindingEvals.f k l0 a1_0 l1_1 l1_2 l1_3 l1_4 a2_0 l2_1 l2_2 = some r) (hrT_ : Aside0 (r = true)) :
  Calls Try.prog 4 #[.slice A0 l0.length c0, .agg #[.string a1_0, .slice A1_1 l1_1.length c1_1, .slice A1_2 l1_2.length c1_2, .slice A1_3 l1_3.length c1_3, .slice A1_4 l1_4.length c1_4], .agg #[.int .i64 a2_0, .slice A2_1 l2_1.length c2_1, .slice A2_2 l2_2.length c2_2]] w fun e w' => e = .returned (.bool r) ∧ Below w.heap.size w w' := by
 have hu27 := Try.underlying27; have hu9 := Try.underlying9; have hu23 := Try.underlying23; have hu24 := Try.underlying24; have hu25 := Try.underlying25; have hu31 := Try.underlying31; have hu3 := Try.underlying3; have hu28 := Try.underlying28; have hu29 := Try.underlying29; have HR0 := aM hr0; have HC0 := aM hc0; clear hr0 hc0; have HR1_1 := aM hr1_1; have HC1_1 := aM hc1_1; clear hr1_1 hc1_1; have HR1_2 := aM hr1_2; have HC1_2 := aM hc1_2; clear hr1_2 hc1_2; have HR1_3 := aM hr1_3; have HC1_3 := aM hc1_3; clear hr1_3 hc1_3; have HR1_4 := aM hr1_4; have HC1_4 := aM hc1_4; clear hr1_4 hc1_4; have HR2_1 := aM hr2_1; have HC2_1 := aM hc2_1; clear hr2_1 hc2_1; have HR2_2 := aM hr2_2; have HC2_2 := aM hc2_2; clear hr2_2 hc2_2; have HB := aM (Below.refl w.heap.size w)
 have H : ((r40_Few.f k l0 a1_0 l1_1 l1_2 l1_3 l1_4).bind fun t336 => (if t336 = true then (if (l2_1.length : Int) > 20 then (l40_BindingEvals.j0 k l0 true a1_0 l1_1 l1_2 l1_3 l1_4 a2_0 l2_1 l2_2) else (l40_BindingEvals.j0 k l0 (decide ((l2_2.length : Int) > 8)) a1_0 l1_1 l1_2 l1_3 l1_4 a2_0 l2_1 l2_2)) else (l40_BindingEvals.j0 k l0 true a1_0 l1_1 l1_2 l1_3 l1_4 a2_0 l2_1 l2_2))) = some r := h
 clear h; have HC4 := aM H; clear H
 go_enter Try.func4, Try.ntmps4
 go_upto_region 1 with (first | ((with_reducible refine gate_dst (N := 4) rfl ?_); (try (refine gate_guard (by rfl) ?_; dsimp only)); refine box_event ?hg (N := 4) ?hd (cs := #[.string a1_0, .slice A1_1 l1_1.length c1_1, .slice A1_2 l1_2.length c1_2, .slice A1_3 l1_3.length c1_3, .slice A1_4 l1_4.length c1_4]) (t := 27) ?hr ?_; (case hd => rfl); (case hg => rfl); (case hr => first | (go_simp; done) | (go_simp; rfl)); intro gb334 hg w5 hbox hb; have n0_ := aM (below_step (bB HB.out) hb); have n1_ := aM (hbox); have n2_ := aM ((by rw [hg]; exact (below_size (bB HB.out)) : w.heap.size ≤ gb334)); have n3_ := aM ((by rw [hg]; exact (below_size (bB HB.out)) : w.heap.size ≤ gb334)); clear HB; have HB := n0_; have BK334 := n1_; have GW334 := n2_; have GE334 := n3_; clear n0_ n1_ n2_ n3_; clear hb hbox hg) | ((with_reducible refine gate_dst (N := 5) rfl ?_); (try (refine gate_guard (by rfl) ?_; dsimp only)); refine box_event ?hg (N := 5) ?hd (cs := #[.int .i64 a2_0, .slice A2_1 l2_1.length c2_1, .slice A2_2 l2_2.length c2_2]) (t := 31) ?hr ?_; (case hd => rfl); (case hg => rfl); (case hr => first | (go_simp; done) | (go_simp; rfl)); intro gb335 hg w6 hbox hb; have n0_ := aM (kW BK334.out hb); have n1_ := aM (below_step (bB1 HB.out GE334.out) hb); have n2_ := aM (hbox); have n3_ := aM ((by rw [hg]; exact (below_size (bB1 HB.out GE334.out)) : w.heap.size ≤ gb335)); have n4_ := aM ((by rw [hg]; exact (below_size (bB1 HB.out GE334.out)) : w.heap.size ≤ gb335)); have n5_ := aM ((by rw [hg]; exact Nat.ne_of_lt (kL BK334.out) : gb334 ≠ gb335)); have n6_ := aM ((by rw [hg]; exact Nat.ne_of_gt (kL BK334.out) : gb335 ≠ gb334)); clear BK334; clear HB; have BK334 := n0_; have HB := n1_; have BK335 := n2_; have GW335 := n3_; have GE335 := n4_; have NB334_335 := n5_; have NB335_334 := n6_; clear n0_ n1_ n2_ n3_ n4_ n5_ n6_; clear hb hbox hg))
 (try simp only [Act.put, List.setIfInBounds_toArray, List.set_cons_zero, List.set_cons_succ])
 go_cut [26] (fun v26 wc => ∃ (kq : Nat) (x26_3 : Bool), v26 = .bool x26_3 ∧ Aside0 (l40_BindingEvals.j0 kq l0 x26_3 a1_0 l1_1 l1_2 l1_3 l1_4 a2_0 l2_1 l2_2 = some r) ∧ Aside0 (kq ≤ k) ∧ Aside0 (wc.heap[gb334]? = some (.cells #[.string a1_0, (.slice A1_1 l1_1.length c1_1), (.slice A1_2 l1_2.length c1_2), (.slice A1_3 l1_3.length c1_3), (.slice A1_4 l1_4.length c1_4)] 27 (0, 0))) ∧ Aside0 (wc.heap[gb335]? = some (.cells #[.int .i64 a2_0, (.slice A2_1 l2_1.length c2_1), (.slice A2_2 l2_2.length c2_2)] 31 (0, 0))) ∧ Aside0 (Below w.heap.size w wc))
 case first =>
  have H := HC4.out; clear HC4; replace H := Option.bind_eq_some_iff.mp H; obtain ⟨t336, A70, H⟩ := H
  replace H : (if t336 = true then (if (l2_1.length : Int) > 20 then (l40_BindingEvals.j0 k l0 true a1_0 l1_1 l1_2 l1_3 l1_4 a2_0 l2_1 l2_2) else (l40_BindingEvals.j0 k l0 (decide ((l2_2.length : Int) > 8)) a1_0 l1_1 l1_2 l1_3 l1_4 a2_0 l2_1 l2_2)) else (l40_BindingEvals.j0 k l0 true a1_0 l1_1 l1_2 l1_3 l1_4 a2_0 l2_1 l2_2)) = some r := H
  have A7 := aM A70; clear A70
  by_cases c8 : t336 = true
  ·subst c8
   have H1 : (if (l2_1.length : Int) > 20 then (l40_BindingEvals.j0 k l0 true a1_0 l1_1 l1_2 l1_3 l1_4 a2_0 l2_1 l2_2) else (l40_BindingEvals.j0 k l0 (decide ((l2_2.length : Int) > 8)) a1_0 l1_1 l1_2 l1_3 l1_4 a2_0 l2_1 l2_2)) = some r := by rw [if_pos rfl] at H; exact H
   clear H; have H := H1; clear H1
   by_cases c9 : (l2_1.length : Int) > 20
   ·rw [if_pos c9] at H
    have c9b0 : decide (20 < (l2_1.length : Int)) = true := decide_eq_true c9; have c9b1 : decide (20 < l2_1.length) = true := decide_eq_true (by omega); clear c9
    (first | rw [c9b0] | (simp only [i64_w, i32_w]; rw [c9b0]) | skip)
    have H' := aM H
    clear H; have hnb10 := NB334_335.out; have hnc10 := NB335_334.out
    have hcz11_0 : w6.cell? ⟨gb334, 0, none⟩ = some (.string a1_0) := (blk_cell BK334.out 0).trans rfl
    have hcz11_1 : w6.cell? ⟨gb334, 1, none⟩ = some (.slice A1_1 l1_1.length c1_1) := (blk_cell BK334.out 1).trans rfl
    have hcz11_2 : w6.cell? ⟨gb334, 2, none⟩ = some (.slice A1_2 l1_2.length c1_2) := (blk_cell BK334.out 2).trans rfl
    have hcz11_3 : w6.cell? ⟨gb334, 3, none⟩ = some (.slice A1_3 l1_3.length c1_3) := (blk_cell BK334.out 3).trans rfl
    have hcz11_4 : w6.cell? ⟨gb334, 4, none⟩ = some (.slice A1_4 l1_4.length c1_4) := (blk_cell BK334.out 4).trans rfl
    have hfz11_0 := blk_frozen BK334.out 0; have hfz11_1 := blk_frozen BK334.out 1; have hfz11_2 := blk_frozen BK334.out 2; have hfz11_3 := blk_frozen BK334.out 3; have hfz11_4 := blk_frozen BK334.out 4
    go_wp2_with (first | ((with_reducible refine gate_callee (f := 9) rfl ?_); refine goesL_ (some 13) rfl rfl Try.func9 (by kernel_rfl) rfl #[.slice A0 l0.length c0, .agg #[.string a1_0, .slice A1_1 l1_1.length c1_1, .slice A1_2 l1_2.length c1_2, .slice A1_3 l1_3.length c1_3, .slice A1_4 l1_4.length c1_4]] rfl mT ?_; (with_reducible refine (r40_Few.calls k _ _ l0 a1_0 _ _ l1_1 _ _ l1_2 _ _ l1_3 _ _ l1_4 true _ ?side1 ?side2 ?side3 ?side4 ?side5 ?side6 ?side7 ?side8 ?side9 ?side10 A7.out).mono ?_); (case side1 => exact cB HR0.out HB.out); (case side2 => exact HC0.out); (case side3 => exact cB HR1_1.out HB.out); (case side4 => exact HC1_1.out); (case side5 => exact cB HR1_2.out HB.out); (case side6 => exact HC1_2.out); (case side7 => exact cB HR1_3.out HB.out); (case side8 => exact HC1_3.out); (case side9 => exact cB HR1_4.out HB.out); (case side10 => exact HC1_4.out); rintro e w12 ⟨rfl, hb⟩; refine ⟨_, rfl, ?_⟩; have n0_ := aM (kW BK334.out hb); have n1_ := aM (kW BK335.out hb); have n2_ := aM (below_step (bB2 HB.out GE334.out GE335.out) hb); clear BK334; clear BK335; clear HB; have BK334 := n0_; have BK335 := n1_; have HB := n2_; clear n0_ n1_ n2_; (try clear hb); (try clear hb2); (try clear hk); (try clear hi); have hcz13_0 : w12.cell? ⟨gb335, 0, none⟩ = some (.int .i64 a2_0) := (blk_cell BK335.out 0).trans rfl; have hcz13_1 : w12.cell? ⟨gb335, 1, none⟩ = some (.slice A2_1 l2_1.length c2_1) := (blk_cell BK335.out 1).trans rfl; have hcz13_2 : w12.cell? ⟨gb335, 2, none⟩ = some (.slice A2_2 l2_2.length c2_2) := (blk_cell BK335.out 2).trans rfl; have hfz13_0 := blk_frozen BK335.out 0; have hfz13_1 := blk_frozen BK335.out 1; have hfz13_2 := blk_frozen BK335.out 2))
    go_meet
    case rel => exact ⟨_, (true), eT, H', ⟨by first | omega | exact Nat.le_refl _⟩, ⟨kB BK334.out⟩, ⟨kB BK335.out⟩, ⟨bB2 HB.out GE334.out GE335.out⟩⟩
   ·rw [if_neg c9] at H
    have c9b0 : decide (20 < (l2_1.length : Int)) = false := decide_eq_false c9; have c9b1 : decide (20 < l2_1.length) = false := decide_eq_false (by omega); clear c9
    (first | rw [c9b0] | (simp only [i64_w, i32_w]; rw [c9b0]) | skip)
    have H' := aM H
    clear H; have hnb14 := NB334_335.out; have hnc14 := NB335_334.out
    have hcz15_0 : w6.cell? ⟨gb334, 0, none⟩ = some (.string a1_0) := (blk_cell BK334.out 0).trans rfl
    have hcz15_1 : w6.cell? ⟨gb334, 1, none⟩ = some (.slice A1_1 l1_1.length c1_1) := (blk_cell BK334.out 1).trans rfl
    have hcz15_2 : w6.cell? ⟨gb334, 2, none⟩ = some (.slice A1_2 l1_2.length c1_2) := (blk_cell BK334.out 2).trans rfl
    have hcz15_3 : w6.cell? ⟨gb334, 3, none⟩ = some (.slice A1_3 l1_3.length c1_3) := (blk_cell BK334.out 3).trans rfl
    have hcz15_4 : w6.cell? ⟨gb334, 4, none⟩ = some (.slice A1_4 l1_4.length c1_4) := (blk_cell BK334.out 4).trans rfl
    have hfz15_0 := blk_frozen BK334.out 0; have hfz15_1 := blk_frozen BK334.out 1; have hfz15_2 := blk_frozen BK334.out 2; have hfz15_3 := blk_frozen BK334.out 3; have hfz15_4 := blk_frozen BK334.out 4
    go_wp2_with (first | ((with_reducible refine gate_callee (f := 9) rfl ?_); refine goesL_ (some 13) rfl rfl Try.func9 (by kernel_rfl) rfl #[.slice A0 l0.length c0, .agg #[.string a1_0, .slice A1_1 l1_1.length c1_1, .slice A1_2 l1_2.length c1_2, .slice A1_3 l1_3.length c1_3, .slice A1_4 l1_4.length c1_4]] rfl mT ?_; (with_reducible refine (r40_Few.calls k _ _ l0 a1_0 _ _ l1_1 _ _ l1_2 _ _ l1_3 _ _ l1_4 true _ ?side1 ?side2 ?side3 ?side4 ?side5 ?side6 ?side7 ?side8 ?side9 ?side10 A7.out).mono ?_); (case side1 => exact cB HR0.out HB.out); (case side2 => exact HC0.out); (case side3 => exact cB HR1_1.out HB.out); (case side4 => exact HC1_1.out); (case side5 => exact cB HR1_2.out HB.out); (case side6 => exact HC1_2.out); (case side7 => exact cB HR1_3.out HB.out); (case side8 => exact HC1_3.out); (case side9 => exact cB HR1_4.out HB.out); (case side10 => exact HC1_4.out); rintro e w16 ⟨rfl, hb⟩; refine ⟨_, rfl, ?_⟩; have n0_ := aM (kW BK334.out hb); have n1_ := aM (kW BK335.out hb); have n2_ := aM (below_step (bB2 HB.out GE334.out GE335.out) hb); clear BK334; clear BK335; clear HB; have BK334 := n0_; have BK335 := n1_; have HB := n2_; clear n0_ n1_ n2_; (try clear hb); (try clear hb2); (try clear hk); (try clear hi); have hcz17_0 : w16.cell? ⟨gb335, 0, none⟩ = some (.int .i64 a2_0) := (blk_cell BK335.out 0).trans rfl; have hcz17_1 : w16.cell? ⟨gb335, 1, none⟩ = some (.slice A2_1 l2_1.length c2_1) := (blk_cell BK335.out 1).trans rfl; have hcz17_2 : w16.cell? ⟨gb335, 2, none⟩ = some (.slice A2_2 l2_2.length c2_2) := (blk_cell BK335.out 2).trans rfl; have hfz17_0 := blk_frozen BK335.out 0; have hfz17_1 := blk_frozen BK335.out 1; have hfz17_2 := blk_frozen BK335.out 2))
    go_meet
    case rel => exact ⟨_, (decide ((l2_2.length : Int) > 8)), eT, H', ⟨by first | omega | exact Nat.le_refl _⟩, ⟨kB BK334.out⟩, ⟨kB BK335.out⟩, ⟨bB2 HB.out GE334.out GE335.out⟩⟩
  ·replace c8 := Bool.eq_false_iff.mpr c8
   subst c8
   have H1 : (l40_BindingEvals.j0 k l0 true a1_0 l1_1 l1_2 l1_3 l1_4 a2_0 l2_1 l2_2) = some r := by rw [if_neg (show ¬ (false = true) by decide)] at H; exact H
   clear H; have H := H1; clear H1
   have H' := aM H
   clear H; have hnb18 := NB334_335.out; have hnc18 := NB335_334.out
   have hcz19_0 : w6.cell? ⟨gb334, 0, none⟩ = some (.string a1_0) := (blk_cell BK334.out 0).trans rfl
   have hcz19_1 : w6.cell? ⟨gb334, 1, none⟩ = some (.slice A1_1 l1_1.length c1_1) := (blk_cell BK334.out 1).trans rfl
   have hcz19_2 : w6.cell? ⟨gb334, 2, none⟩ = some (.slice A1_2 l1_2.length c1_2) := (blk_cell BK334.out 2).trans rfl
   have hcz19_3 : w6.cell? ⟨gb334, 3, none⟩ = some (.slice A1_3 l1_3.length c1_3) := (blk_cell BK334.out 3).trans rfl
   have hcz19_4 : w6.cell? ⟨gb334, 4, none⟩ = some (.slice A1_4 l1_4.length c1_4) := (blk_cell BK334.out 4).trans rfl
   have hfz19_0 := blk_frozen BK334.out 0; have hfz19_1 := blk_frozen BK334.out 1; have hfz19_2 := blk_frozen BK334.out 2; have hfz19_3 := blk_frozen BK334.out 3; have hfz19_4 := blk_frozen BK334.out 4
   go_wp2_with (first | ((with_reducible refine gate_callee (f := 9) rfl ?_); refine goesL_ (some 13) rfl rfl Try.func9 (by kernel_rfl) rfl #[.slice A0 l0.length c0, .agg #[.string a1_0, .slice A1_1 l1_1.length c1_1, .slice A1_2 l1_2.length c1_2, .slice A1_3 l1_3.length c1_3, .slice A1_4 l1_4.length c1_4]] rfl mT ?_; (with_reducible refine (r40_Few.calls k _ _ l0 a1_0 _ _ l1_1 _ _ l1_2 _ _ l1_3 _ _ l1_4 false _ ?side1 ?side2 ?side3 ?side4 ?side5 ?side6 ?side7 ?side8 ?side9 ?side10 A7.out).mono ?_); (case side1 => exact cB HR0.out HB.out); (case side2 => exact HC0.out); (case side3 => exact cB HR1_1.out HB.out); (case side4 => exact HC1_1.out); (case side5 => exact cB HR1_2.out HB.out); (case side6 => exact HC1_2.out); (case side7 => exact cB HR1_3.out HB.out); (case side8 => exact HC1_3.out); (case side9 => exact cB HR1_4.out HB.out); (case side10 => exact HC1_4.out); rintro e w20 ⟨rfl, hb⟩; refine ⟨_, rfl, ?_⟩; have n0_ := aM (kW BK334.out hb); have n1_ := aM (kW BK335.out hb); have n2_ := aM (below_step (bB2 HB.out GE334.out GE335.out) hb); clear BK334; clear BK335; clear HB; have BK334 := n0_; have BK335 := n1_; have HB := n2_; clear n0_ n1_ n2_; (try clear hb); (try clear hb2); (try clear hk); (try clear hi)))
   go_meet
   case rel => exact ⟨_, (true), eT, H', ⟨by first | omega | exact Nat.le_refl _⟩, ⟨kB BK334.out⟩, ⟨kB BK335.out⟩, ⟨bB2 HB.out GE334.out GE335.out⟩⟩
 case rest =>
  clear HC4; obtain ⟨kq, x26_3, rfl, HA, HJ3, BK334, BK335, HB⟩ := hcut
  cases kq with
  | zero => exact absurd HA.out (by simp [l40_BindingEvals.j0])
  | succ kj3 =>
   have H := HA.out; clear HA
   simp only [l40_BindingEvals.j0] at H
   by_cases c21 : x26_3 = true
   ·subst c21
    have H1 : ((l40_lives.f kj3).bind fun t337 => (some t337)) = some r := by rw [if_pos rfl] at H; exact H
    clear H; have H := H1; clear H1; replace H := Option.bind_eq_some_iff.mp H; obtain ⟨t337, A220, H⟩ := H
    replace H : (some t337) = some r := H
    have A22 := aM A220; clear A220
    obtain rfl := Option.some.inj H
    go_wp2_with (first | ((with_reducible refine gate_callee (f := 10) rfl ?_); refine goesL_ (some 27) rfl rfl Try.func10 (by kernel_rfl) rfl #[] rfl mT ?_; (with_reducible refine (l40_lives.calls kj3  t337 _ A22.out (by first | exact hrT_ | exact ⟨rfl⟩)).mono ?_); rintro e w23 ⟨rfl, hb⟩; refine ⟨_, rfl, ?_⟩; have n0_ := aM (kW BK334.out hb); have n1_ := aM (kW BK335.out hb); have n2_ := aM (below_step (bB2 HB.out GE334.out GE335.out) hb); clear BK334; clear BK335; clear HB; have BK334 := n0_; have BK335 := n1_; have HB := n2_; clear n0_ n1_ n2_; (try clear hb); (try clear hb2); (try clear hk); (try clear hi)))
    go_ret
    exact ⟨rT, bB2 HB.out GE334.out GE335.out⟩
   ·replace c21 := Bool.eq_false_iff.mpr c21
    subst c21
    have H1 : ((binding_Eval.f kj3 l0 a1_0 l1_1 l1_2 l1_3 l1_4 a2_0 l2_1 l2_2).bind fun bt338 => ((r40_Eval.f kj3 l0 a1_0 l1_1 l1_2 l1_3 l1_4 a2_0 l2_1 l2_2).bind fun bt342 => ((r04_Same.f kj3 bt338.1 bt342.1).bind fun t346 => (if t346 = true then (if bt338.2 = bt342.2 then ((binding_Holds.f kj3 l0 a1_0 l1_1 l1_2 l1_3 l1_4 l2_2).bind fun t347 => ((r40_Holds.f kj3 l0 a1_0 l1_1 l1_2 l1_3 l1_4 l2_2).bind fun t348 => (l40_BindingEvals.j1 kj3 l0 (t347 != t348) a1_0 l1_1 l1_2 l1_3 l1_4 a2_0 l2_1 l2_2))) else (l40_BindingEvals.j1 kj3 l0 true a1_0 l1_1 l1_2 l1_3 l1_4 a2_0 l2_1 l2_2)) else (l40_BindingEvals.j1 kj3 l0 true a1_0 l1_1 l1_2 l1_3 l1_4 a2_0 l2_1 l2_2))))) = some r := by rw [if_neg (show ¬ (false = true) by decide)] at H; exact H
    clear H; have H := H1; clear H1; replace H := Option.bind_eq_some_iff.mp H
    obtain ⟨⟨t338, t341⟩, A240, H⟩ := H
    replace H : ((r40_Eval.f kj3 l0 a1_0 l1_1 l1_2 l1_3 l1_4 a2_0 l2_1 l2_2).bind fun bt342 => ((r04_Same.f kj3 t338 bt342.1).bind fun t346 => (if t346 = true then (if t341 = bt342.2 then ((binding_Holds.f kj3 l0 a1_0 l1_1 l1_2 l1_3 l1_4 l2_2).bind fun t347 => ((r40_Holds.f kj3 l0 a1_0 l1_1 l1_2 l1_3 l1_4 l2_2).bind fun t348 => (l40_BindingEvals.j1 kj3 l0 (t347 != t348) a1_0 l1_1 l1_2 l1_3 l1_4 a2_0 l2_1 l2_2))) else (l40_BindingEvals.j1 kj3 l0 true a1_0 l1_1 l1_2 l1_3 l1_4 a2_0 l2_1 l2_2)) else (l40_BindingEvals.j1 kj3 l0 true a1_0 l1_1 l1_2 l1_3 l1_4 a2_0 l2_1 l2_2)))) = some r := H
    have A24 := aM A240; clear A240; replace H := Option.bind_eq_some_iff.mp H
    obtain ⟨⟨t342, t345⟩, A250, H⟩ := H
    replace H : ((r04_Same.f kj3 t338 t342).bind fun t346 => (if t346 = true then (if t341 = t345 then ((binding_Holds.f kj3 l0 a1_0 l1_1 l1_2 l1_3 l1_4 l2_2).bind fun t347 => ((r40_Holds.f kj3 l0 a1_0 l1_1 l1_2 l1_3 l1_4 l2_2).bind fun t348 => (l40_BindingEvals.j1 kj3 l0 (t347 != t348) a1_0 l1_1 l1_2 l1_3 l1_4 a2_0 l2_1 l2_2))) else (l40_BindingEvals.j1 kj3 l0 true a1_0 l1_1 l1_2 l1_3 l1_4 a2_0 l2_1 l2_2)) else (l40_BindingEvals.j1 kj3 l0 true a1_0 l1_1 l1_2 l1_3 l1_4 a2_0 l2_1 l2_2))) = some r := H
    have A25 := aM A250; clear A250; have HC26 := aM H; clear H; have hnb27 := NB334_335.out; have hnc27 := NB335_334.out
    have hcz28_0 : wc.cell? ⟨gb334, 0, none⟩ = some (.string a1_0) := (blk_cell BK334.out 0).trans rfl
    have hcz28_1 : wc.cell? ⟨gb334, 1, none⟩ = some (.slice A1_1 l1_1.length c1_1) := (blk_cell BK334.out 1).trans rfl
    have hcz28_2 : wc.cell? ⟨gb334, 2, none⟩ = some (.slice A1_2 l1_2.length c1_2) := (blk_cell BK334.out 2).trans rfl
    have hcz28_3 : wc.cell? ⟨gb334, 3, none⟩ = some (.slice A1_3 l1_3.length c1_3) := (blk_cell BK334.out 3).trans rfl
    have hcz28_4 : wc.cell? ⟨gb334, 4, none⟩ = some (.slice A1_4 l1_4.length c1_4) := (blk_cell BK334.out 4).trans rfl
    have hfz28_0 := blk_frozen BK334.out 0; have hfz28_1 := blk_frozen BK334.out 1; have hfz28_2 := blk_frozen BK334.out 2; have hfz28_3 := blk_frozen BK334.out 3; have hfz28_4 := blk_frozen BK334.out 4
    have hcz29_0 : wc.cell? ⟨gb335, 0, none⟩ = some (.int .i64 a2_0) := (blk_cell BK335.out 0).trans rfl
    have hcz29_1 : wc.cell? ⟨gb335, 1, none⟩ = some (.slice A2_1 l2_1.length c2_1) := (blk_cell BK335.out 1).trans rfl
    have hcz29_2 : wc.cell? ⟨gb335, 2, none⟩ = some (.slice A2_2 l2_2.length c2_2) := (blk_cell BK335.out 2).trans rfl
    have hfz29_0 := blk_frozen BK335.out 0; have hfz29_1 := blk_frozen BK335.out 1; have hfz29_2 := blk_frozen BK335.out 2
    go_upto_region 5 with (first | ((with_reducible refine gate_callee (f := 15) rfl ?_); refine goesL_ (some 37) rfl rfl Try.func15 (by kernel_rfl) rfl #[.slice A0 l0.length c0, .agg #[.string a1_0, .slice A1_1 l1_1.length c1_1, .slice A1_2 l1_2.length c1_2, .slice A1_3 l1_3.length c1_3, .slice A1_4 l1_4.length c1_4], .int .i64 a2_0, .slice A2_1 l2_1.length c2_1, .slice A2_2 l2_2.length c2_2] rfl mT ?_; (with_reducible refine (binding_Eval.calls kj3 _ _ l0 a1_0 _ _ l1_1 _ _ l1_2 _ _ l1_3 _ _ l1_4 a2_0 _ _ l2_1 _ _ l2_2 t338 t341 _ ?side1 ?side2 ?side3 ?side4 ?side5 ?side6 ?side7 ?side8 ?side9 ?side10 ?side11 ?side12 ?side13 ?side14 A24.out).mono ?_); (case side1 => exact cB HR0.out HB.out); (case side2 => exact HC0.out); (case side3 => exact cB HR1_1.out HB.out); (case side4 => exact HC1_1.out); (case side5 => exact cB HR1_2.out HB.out); (case side6 => exact HC1_2.out); (case side7 => exact cB HR1_3.out HB.out); (case side8 => exact HC1_3.out); (case side9 => exact cB HR1_4.out HB.out); (case side10 => exact HC1_4.out); (case side11 => exact cB HR2_1.out HB.out); (case side12 => exact HC2_1.out); (case side13 => exact cB HR2_2.out HB.out); (case side14 => exact HC2_2.out); rintro e w30 ⟨v339, rfl, ho0, hb⟩; refine ⟨_, rfl, ?_⟩; have n0_ := aM (Kd.R_lower ho0 (below_size (bB2 HB.out GE334.out GE335.out))); have n1_ := aM (kW BK334.out hb); have n2_ := aM (kW BK335.out hb); have n3_ := aM (below_step (bB2 HB.out GE334.out GE335.out) hb); clear BK334; clear BK335; clear HB; have HO340 := n0_; have BK334 := n1_; have BK335 := n2_; have HB := n3_; clear n0_ n1_ n2_ n3_; (try clear hb); (try clear hb2); (try clear hk); (try clear hi); (try clear ho0); have hcz31_0 : w30.cell? ⟨gb334, 0, none⟩ = some (.string a1_0) := (blk_cell BK334.out 0).trans rfl; have hcz31_1 : w30.cell? ⟨gb334, 1, none⟩ = some (.slice A1_1 l1_1.length c1_1) := (blk_cell BK334.out 1).trans rfl; have hcz31_2 : w30.cell? ⟨gb334, 2, none⟩ = some (.slice A1_2 l1_2.length c1_2) := (blk_cell BK334.out 2).trans rfl; have hcz31_3 : w30.cell? ⟨gb334, 3, none⟩ = some (.slice A1_3 l1_3.length c1_3) := (blk_cell BK334.out 3).trans rfl; have hcz31_4 : w30.cell? ⟨gb334, 4, none⟩ = some (.slice A1_4 l1_4.length c1_4) := (blk_cell BK334.out 4).trans rfl; have hfz31_0 := blk_frozen BK334.out 0; have hfz31_1 := blk_frozen BK334.out 1; have hfz31_2 := blk_frozen BK334.out 2; have hfz31_3 := blk_frozen BK334.out 3; have hfz31_4 := blk_frozen BK334.out 4; have hcz32_0 : w30.cell? ⟨gb335, 0, none⟩ = some (.int .i64 a2_0) := (blk_cell BK335.out 0).trans rfl; have hcz32_1 : w30.cell? ⟨gb335, 1, none⟩ = some (.slice A2_1 l2_1.length c2_1) := (blk_cell BK335.out 1).trans rfl; have hcz32_2 : w30.cell? ⟨gb335, 2, none⟩ = some (.slice A2_2 l2_2.length c2_2) := (blk_cell BK335.out 2).trans rfl; have hfz32_0 := blk_frozen BK335.out 0; have hfz32_1 := blk_frozen BK335.out 1; have hfz32_2 := blk_frozen BK335.out 2) | ((with_reducible refine gate_callee (f := 16) rfl ?_); refine goesL_ (some 49) rfl rfl Try.func16 (by kernel_rfl) rfl #[.slice A0 l0.length c0, .agg #[.string a1_0, .slice A1_1 l1_1.length c1_1, .slice A1_2 l1_2.length c1_2, .slice A1_3 l1_3.length c1_3, .slice A1_4 l1_4.length c1_4], .int .i64 a2_0, .slice A2_1 l2_1.length c2_1, .slice A2_2 l2_2.length c2_2] rfl mT ?_; (with_reducible refine (r40_Eval.calls kj3 _ _ l0 a1_0 _ _ l1_1 _ _ l1_2 _ _ l1_3 _ _ l1_4 a2_0 _ _ l2_1 _ _ l2_2 t342 t345 _ ?side1 ?side2 ?side3 ?side4 ?side5 ?side6 ?side7 ?side8 ?side9 ?side10 ?side11 ?side12 ?side13 ?side14 A25.out).mono ?_); (case side1 => exact cB HR0.out HB.out); (case side2 => exact HC0.out); (case side3 => exact cB HR1_1.out HB.out); (case side4 => exact HC1_1.out); (case side5 => exact cB HR1_2.out HB.out); (case side6 => exact HC1_2.out); (case side7 => exact cB HR1_3.out HB.out); (case side8 => exact HC1_3.out); (case side9 => exact cB HR1_4.out HB.out); (case side10 => exact HC1_4.out); (case side11 => exact cB HR2_1.out HB.out); (case side12 => exact HC2_1.out); (case side13 => exact cB HR2_2.out HB.out); (case side14 => exact HC2_2.out); rintro e w33 ⟨v343, rfl, ho0, hb⟩; refine ⟨_, rfl, ?_⟩; have n0_ := aM (Kd.R_elder' (by (with_reducible repeat (first | apply Kd.R_alloc | apply Kd.R_drewN | apply Kd.R_drew)); exact HO340.out) (Kd.R_base ho0) hb); have n1_ := aM (Kd.R_lower (Kd.R_new' ho0 (Kd.R_lt (by (with_reducible repeat (first | apply Kd.R_alloc | apply Kd.R_drewN | apply Kd.R_drew)); exact HO340.out))) (below_size (bB2 HB.out GE334.out GE335.out))); have n2_ := aM (kW BK334.out hb); have n3_ := aM (kW BK335.out hb); have n4_ := aM (below_step (bB2 HB.out GE334.out GE335.out) hb); clear HO340; clear BK334; clear BK335; clear HB; have HO340 := n0_; have HO344 := n1_; have BK334 := n2_; have BK335 := n3_; have HB := n4_; clear n0_ n1_ n2_ n3_ n4_; (try clear hb); (try clear hb2); (try clear hk); (try clear hi); (try clear ho0)))
    (try simp only [Act.put, List.setIfInBounds_toArray, List.set_cons_zero, List.set_cons_succ])
    go_cut [73] (fun v73 wc => ∃ (kq : Nat) (x73_25 : Bool), v73 = .bool x73_25 ∧ Aside0 (l40_BindingEvals.j1 kq l0 x73_25 a1_0 l1_1 l1_2 l1_3 l1_4 a2_0 l2_1 l2_2 = some r) ∧ Aside0 (kq ≤ kj3) ∧ Aside0 (wc.heap[gb334]? = some (.cells #[.string a1_0, (.slice A1_1 l1_1.length c1_1), (.slice A1_2 l1_2.length c1_2), (.slice A1_3 l1_3.length c1_3), (.slice A1_4 l1_4.length c1_4)] 27 (0, 0))) ∧ Aside0 (wc.heap[gb335]? = some (.cells #[.int .i64 a2_0, (.slice A2_1 l2_1.length c2_1), (.slice A2_2 l2_2.length c2_2)] 31 (0, 0))) ∧ Aside0 (Below w.heap.size w wc))
    case first =>
     have H := HC26.out; clear HC26; replace H := Option.bind_eq_some_iff.mp H; obtain ⟨t346, A340, H⟩ := H
     replace H : (if t346 = true then (if t341 = t345 then ((binding_Holds.f kj3 l0 a1_0 l1_1 l1_2 l1_3 l1_4 l2_2).bind fun t347 => ((r40_Holds.f kj3 l0 a1_0 l1_1 l1_2 l1_3 l1_4 l2_2).bind fun t348 => (l40_BindingEvals.j1 kj3 l0 (t347 != t348) a1_0 l1_1 l1_2 l1_3 l1_4 a2_0 l2_1 l2_2))) else (l40_BindingEvals.j1 kj3 l0 true a1_0 l1_1 l1_2 l1_3 l1_4 a2_0 l2_1 l2_2)) else (l40_BindingEvals.j1 kj3 l0 true a1_0 l1_1 l1_2 l1_3 l1_4 a2_0 l2_1 l2_2)) = some r := H
     have A34 := aM A340; clear A340
     by_cases c35 : t346 = true
     ·subst c35
      have H1 : (if t341 = t345 then ((binding_Holds.f kj3 l0 a1_0 l1_1 l1_2 l1_3 l1_4 l2_2).bind fun t347 => ((r40_Holds.f kj3 l0 a1_0 l1_1 l1_2 l1_3 l1_4 l2_2).bind fun t348 => (l40_BindingEvals.j1 kj3 l0 (t347 != t348) a1_0 l1_1 l1_2 l1_3 l1_4 a2_0 l2_1 l2_2))) else (l40_BindingEvals.j1 kj3 l0 true a1_0 l1_1 l1_2 l1_3 l1_4 a2_0 l2_1 l2_2)) = some r := by rw [if_pos rfl] at H; exact H
      clear H; have H := H1; clear H1
      by_cases c36 : t341 = t345
      ·rw [if_pos c36] at H
       have c36b0 : (t341 == t345) = true := beq_iff_eq.mpr c36; have c36b1 : (t341 != t345) = false := bne_eq_false_iff_eq.mpr c36; clear c36
       (first | rw [c36b0] | (simp only [i64_w, i32_w]; rw [c36b0]) | skip)
       replace H := Option.bind_eq_some_iff.mp H; obtain ⟨t347, A370, H⟩ := H
       replace H : ((r40_Holds.f kj3 l0 a1_0 l1_1 l1_2 l1_3 l1_4 l2_2).bind fun t348 => (l40_BindingEvals.j1 kj3 l0 (t347 != t348) a1_0 l1_1 l1_2 l1_3 l1_4 a2_0 l2_1 l2_2)) = some r := H
       have A37 := aM A370; clear A370; replace H := Option.bind_eq_some_iff.mp H; obtain ⟨t348, A380, H⟩ := H
       replace H : (l40_BindingEvals.j1 kj3 l0 (t347 != t348) a1_0 l1_1 l1_2 l1_3 l1_4 a2_0 l2_1 l2_2) = some r := H
       have A38 := aM A380; clear A380
       have H' := aM H
       clear H
       try go_wp2
       have n0_ := aM (Kd.R_drew HO340.out); have n1_ := aM (Kd.R_drew HO344.out); have n2_ := aM (blk_drew BK334.out); have n3_ := aM (blk_drew BK335.out); have n4_ := aM (below_drew1 HB.out); clear HO340; clear HO344; clear BK334; clear BK335; clear HB; have HO340 := n0_; have HO344 := n1_; have BK334 := n2_; have BK335 := n3_; have HB := n4_; clear n0_ n1_ n2_ n3_ n4_; obtain ⟨Ao40, co40, eo40⟩ := Kd.R_slice HO340.out
       (first | subst eo40 | (injection eo40 with f1_ f2_ f3_; have f4_ := f1_.symm; have f5_ := f3_.symm; clear f1_ f2_ f3_; subst f4_; subst f5_))
       obtain ⟨Ao41, co41, eo41⟩ := Kd.R_slice HO344.out
       (first | subst eo41 | (injection eo41 with f1_ f2_ f3_; have f4_ := f1_.symm; have f5_ := f3_.symm; clear f1_ f2_ f3_; subst f4_; subst f5_))
       refine start_ (n := 22) (S := fun w' => w'.cell? ⟨gb334, 0, none⟩ = some (.string a1_0) ∧ w'.cell? ⟨gb334, 1, none⟩ = some (.slice A1_1 l1_1.length c1_1) ∧ w'.cell? ⟨gb334, 2, none⟩ = some (.slice A1_2 l1_2.length c1_2) ∧ w'.cell? ⟨gb334, 3, none⟩ = some (.slice A1_3 l1_3.length c1_3) ∧ w'.cell? ⟨gb334, 4, none⟩ = some (.slice A1_4 l1_4.length c1_4) ∧ w'.cell? ⟨gb335, 0, none⟩ = some (.int .i64 a2_0) ∧ w'.cell? ⟨gb335, 1, none⟩ = some (.slice A2_1 l2_1.length c2_1) ∧ w'.cell? ⟨gb335, 2, none⟩ = some (.slice A2_2 l2_2.length c2_2)) (ds := []) #[false, false, false, false, false, false, false, false, false, false, false, false, false, false, false, false, false, false, false, false, false, false] (by kernel_rfl) rfl rfl ⟨(blk_cell BK334.out 0).trans rfl, (blk_cell BK334.out 1).trans rfl, (blk_cell BK334.out 2).trans rfl, (blk_cell BK334.out 3).trans rfl, (blk_cell BK334.out 4).trans rfl, (blk_cell BK335.out 0).trans rfl, (blk_cell BK335.out 1).trans rfl, (blk_cell BK335.out 2).trans rfl⟩ (fun hHeld => ?_); refine with_tabW l40_BindingEvals.tab5 l40_BindingEvals.bits5 (fun HT_ HW_ => ?_)
       generalize w33.drew = w39 at HO340 HO344 BK334 BK335 HB hHeld ⊢
       refine pure_ (i := 0) (N := some 52) (v := ?_) (a' := ?_) #[true, false, false, false, false, false, false, false, false, false, false, false, false, false, false, false, false, false, false, false, false, false] rfl rfl (any_of HT_.out (by kernel_rfl)) (fun _ _ _ h => h) (Or.inl ⟨by rfl, ?_⟩) ?_ ?_; rotate_left; exact qT; rotate_left; exact pT
       refine pure_ (i := 1) (N := some 53) (v := ?_) (a' := ?_) #[true, true, false, false, false, false, false, false, false, false, false, false, false, false, false, false, false, false, false, false, false, false] rfl rfl (any_of HT_.out (by kernel_rfl)) (fun _ _ _ h => h) (Or.inl ⟨by rfl, ?_⟩) ?_ ?_; rotate_left; exact qT; rotate_left; exact pT
       refine one_ (i := 2) (N := some 54) #[true, true, true, false, false, false, false, false, false, false, false, false, false, false, false, false, false, false, false, false, false, false] rfl rfl (one_of HT_.out (by kernel_rfl)) (by decide) (fun K hK => ?_)
       refine goes_ Try.func17 (by kernel_rfl) rfl #[.slice Ao40 t338.length co40, .slice Ao41 t342.length co41] (by rfl) rfl rfl mT ?_
       with_reducible refine (r04_Same.calls kj3 _ _ t338 _ _ t342 true _ ?side1 ?side2 ?side3 ?side4 A34.out).mono ?_
       (case side1 => repeat (first | exact (Kd.R_reads' HO340.out).2.2 | (with_reducible refine Kd.C_alloc ?_ _) | (with_reducible refine Kd.C_drewN ?_ _) | (with_reducible refine Kd.C_drew ?_)))
       (case side2 => exact (Kd.R_reads' HO340.out).2.1)
       (case side3 => repeat (first | exact (Kd.R_reads' HO344.out).2.2 | (with_reducible refine Kd.C_alloc ?_ _) | (with_reducible refine Kd.C_drewN ?_ _) | (with_reducible refine Kd.C_drew ?_)))
       (case side4 => exact (Kd.R_reads' HO344.out).2.1)
       rintro e w' ⟨rfl, ⟨nd, rfl⟩⟩
       refine ⟨_, rfl, ?_⟩
       refine hK.out _ _ ⟨(blk_cell BK334.out 0).trans rfl, (blk_cell BK334.out 1).trans rfl, (blk_cell BK334.out 2).trans rfl, (blk_cell BK334.out 3).trans rfl, (blk_cell BK334.out 4).trans rfl, (blk_cell BK335.out 0).trans rfl, (blk_cell BK335.out 1).trans rfl, (blk_cell BK335.out 2).trans rfl⟩ (fun hHeld => ?_)
       clear hK K
       refine norm_ (a' := ?_) ?_ ?_
       rotate_left
       ·show Act.put _ (some 54) _ = _
        simp only [Act.put, List.setIfInBounds_toArray, List.set_cons_zero, List.set_cons_succ, i64_w, i32_w]
        rfl
       refine pure_ (i := 3) (N := some 55) (v := ?_) (a' := ?_) #[true, true, true, true, false, false, false, false, false, false, false, false, false, false, false, false, false, false, false, false, false, false] rfl rfl (any_of HT_.out (by kernel_rfl)) (fun _ _ _ h => h) (Or.inl ⟨by rfl, ?_⟩) ?_ ?_; rotate_left; exact qT; rotate_left; exact pT
       refine pure_ (i := 4) (N := some 56) (v := ?_) (a' := ?_) #[true, true, true, true, true, false, false, false, false, false, false, false, false, false, false, false, false, false, false, false, false, false] rfl rfl (any_of HT_.out (by kernel_rfl)) (fun _ _ _ h => h) (Or.inl ⟨by rfl, ?_⟩) ?_ ?_; rotate_left; exact qT; rotate_left; exact pT
       refine pure_ (i := 5) (N := some 57) (v := ?_) (a' := ?_) #[true, true, true, true, true, true, false, false, false, false, false, false, false, false, false, false, false, false, false, false, false, false] rfl rfl (any_of HT_.out (by kernel_rfl)) (fun _ _ _ h => h) (Or.inl ⟨by rfl, ?_⟩) ?_ ?_; rotate_left; exact qT; rotate_left; exact pT
       refine pure_ (i := 6) (N := some 58) (v := ?_) (a' := ?_) #[true, true, true, true, true, true, true, false, false, false, false, false, false, false, false, false, false, false, false, false, false, false] rfl rfl (any_of HT_.out (by kernel_rfl)) (fun _ _ _ h => h) (Or.inl ⟨by rfl, ?_⟩) ?_ ?_; rotate_left; exact qT; rotate_left; exact pT
       refine pure_ (i := 7) (N := some 59) (v := ?_) (a' := ?_) #[true, true, true, true, true, true, true, true, false, false, false, false, false, false, false, false, false, false, false, false, false, false] rfl rfl (any_of HT_.out (by kernel_rfl)) (fun _ _ _ h => h) (Or.inl ⟨by rfl, ?_⟩) ?_ ?_; rotate_left; exact qT; rotate_left; exact pT
       refine pure_ (i := 8) (N := some 60) (v := ?_) (a' := ?_) #[true, true, true, true, true, true, true, true, true, false, false, false, false, false, false, false, false, false, false, false, false, false] rfl rfl (any_of HT_.out (by kernel_rfl)) (fun _ _ _ h => h) (Or.inl ⟨by rfl, ?_⟩) ?_ ?_; rotate_left; exact qT; rotate_left; exact pT
       refine pure_ (i := 9) (N := some 61) (v := ?_) (a' := ?_) #[true, true, true, true, true, true, true, true, true, true, false, false, false, false, false, false, false, false, false, false, false, false] rfl rfl (any_of HT_.out (by kernel_rfl)) (fun _ _ _ h => h) (Or.inl ⟨by rfl, ?_⟩) ?_ ?_; rotate_left; exact qT; rotate_left; exact pT
       refine pure_ (i := 10) (N := some 62) (v := ?_) (a' := ?_) #[true, true, true, true, true, true, true, true, true, true, true, false, false, false, false, false, false, false, false, false, false, false] rfl rfl (any_of HT_.out (by kernel_rfl)) (fun _ _ _ h => h) (Or.inl ⟨by rfl, ?_⟩) ?_ ?_; rotate_left; exact qT; rotate_left; exact pT
       refine pure_ (i := 12) (N := some 64) (v := ?_) (a' := ?_) #[true, true, true, true, true, true, true, true, true, true, true, false, true, false, false, false, false, false, false, false, false, false] rfl rfl (any_of HT_.out (by kernel_rfl)) (fun _ _ _ h => h) (Or.inl ⟨by rfl, ?_⟩) ?_ ?_; rotate_left; exact qT; rotate_left; exact pT
       refine pure_ (i := 15) (N := some 67) (v := ?_) (a' := ?_) #[true, true, true, true, true, true, true, true, true, true, true, false, true, false, false, true, false, false, false, false, false, false] rfl rfl (any_of HT_.out (by kernel_rfl)) (fun _ _ _ h => h) (Or.inl ⟨by rfl, ?_⟩) ?_ ?_; rotate_left; exact qT; rotate_left; exact pT
       refine pure_ (i := 17) (N := some 69) (v := ?_) (a' := ?_) #[true, true, true, true, true, true, true, true, true, true, true, false, true, false, false, true, false, true, false, false, false, false] rfl rfl (any_of HT_.out (by kernel_rfl)) (fun _ _ _ h => h) (Or.inl ⟨by rfl, ?_⟩) ?_ ?_; rotate_left; exact qT; rotate_left; exact pT
       refine take_ (i := 11) (N := some 63) (v := ?_) (a' := ?_) #[true, true, true, true, true, true, true, true, true, true, true, true, true, false, false, true, false, true, false, false, false, false] rfl rfl (take_ofW HT_.out HW_.out (by kernel_rfl)) (fun _ _ _ h => h) (Or.inl ⟨by rfl, ?_⟩) hHeld ?_ ?_; rotate_left; rintro w' ⟨s0, s1, s2, s3, s4, s5, s6, s7⟩; go_simp; with_reducible rfl; rotate_left; exact pT
       refine take_ (i := 13) (N := some 65) (v := ?_) (a' := ?_) #[true, true, true, true, true, true, true, true, true, true, true, true, true, true, false, true, false, true, false, false, false, false] rfl rfl (take_ofW HT_.out HW_.out (by kernel_rfl)) (fun _ _ _ h => h) (Or.inl ⟨by rfl, ?_⟩) hHeld ?_ ?_; rotate_left; rintro w' ⟨s0, s1, s2, s3, s4, s5, s6, s7⟩; go_simp; with_reducible rfl; rotate_left; exact pT
       refine take_ (i := 16) (N := some 68) (v := ?_) (a' := ?_) #[true, true, true, true, true, true, true, true, true, true, true, true, true, true, false, true, true, true, false, false, false, false] rfl rfl (take_ofW HT_.out HW_.out (by kernel_rfl)) (fun _ _ _ h => h) (Or.inl ⟨by rfl, ?_⟩) hHeld ?_ ?_; rotate_left; rintro w' ⟨s0, s1, s2, s3, s4, s5, s6, s7⟩; go_simp; with_reducible rfl; rotate_left; exact pT
       refine take_ (i := 18) (N := some 70) (v := ?_) (a' := ?_) #[true, true, true, true, true, true, true, true, true, true, true, true, true, true, false, true, true, true, true, false, false, false] rfl rfl (take_ofW HT_.out HW_.out (by kernel_rfl)) (fun _ _ _ h => h) (Or.inl ⟨by rfl, ?_⟩) hHeld ?_ ?_; rotate_left; rintro w' ⟨s0, s1, s2, s3, s4, s5, s6, s7⟩; go_simp; with_reducible rfl; rotate_left; exact pT
       refine one_ (i := 14) (N := some 66) #[true, true, true, true, true, true, true, true, true, true, true, true, true, true, true, true, true, true, true, false, false, false] rfl rfl (one_of HT_.out (by kernel_rfl)) (by decide) (fun K hK => ?_)
       refine goes_ Try.func18 (by kernel_rfl) rfl #[.slice A0 l0.length c0, .agg #[.string a1_0, .slice A1_1 l1_1.length c1_1, .slice A1_2 l1_2.length c1_2, .slice A1_3 l1_3.length c1_3, .slice A1_4 l1_4.length c1_4], .slice A2_2 l2_2.length c2_2] (by rfl) rfl rfl mT ?_
       with_reducible refine (binding_Holds.calls kj3 _ _ l0 a1_0 _ _ l1_1 _ _ l1_2 _ _ l1_3 _ _ l1_4 _ _ l2_2 t347 _ ?side1 ?side2 ?side3 ?side4 ?side5 ?side6 ?side7 ?side8 ?side9 ?side10 ?side11 ?side12 A37.out).mono ?_
       (case side1 => repeat (first | exact (Kd.C_below HR0.out (bB2 HB.out GE334.out GE335.out)) | (with_reducible refine Kd.C_alloc ?_ _) | (with_reducible refine Kd.C_drewN ?_ _) | (with_reducible refine Kd.C_drew ?_)))
       (case side2 => exact HC0.out)
       (case side3 => repeat (first | exact (Kd.C_below HR1_1.out (bB2 HB.out GE334.out GE335.out)) | (with_reducible refine Kd.C_alloc ?_ _) | (with_reducible refine Kd.C_drewN ?_ _) | (with_reducible refine Kd.C_drew ?_)))
       (case side4 => exact HC1_1.out)
       (case side5 => repeat (first | exact (Kd.C_below HR1_2.out (bB2 HB.out GE334.out GE335.out)) | (with_reducible refine Kd.C_alloc ?_ _) | (with_reducible refine Kd.C_drewN ?_ _) | (with_reducible refine Kd.C_drew ?_)))
       (case side6 => exact HC1_2.out)
       (case side7 => repeat (first | exact (Kd.C_below HR1_3.out (bB2 HB.out GE334.out GE335.out)) | (with_reducible refine Kd.C_alloc ?_ _) | (with_reducible refine Kd.C_drewN ?_ _) | (with_reducible refine Kd.C_drew ?_)))
       (case side8 => exact HC1_3.out)
       (case side9 => repeat (first | exact (Kd.C_below HR1_4.out (bB2 HB.out GE334.out GE335.out)) | (with_reducible refine Kd.C_alloc ?_ _) | (with_reducible refine Kd.C_drewN ?_ _) | (with_reducible refine Kd.C_drew ?_)))
       (case side10 => exact HC1_4.out)
       (case side11 => repeat (first | exact (Kd.C_below HR2_2.out (bB2 HB.out GE334.out GE335.out)) | (with_reducible refine Kd.C_alloc ?_ _) | (with_reducible refine Kd.C_drewN ?_ _) | (with_reducible refine Kd.C_drew ?_)))
       (case side12 => exact HC2_2.out)
       rintro e w42 ⟨rfl, hb⟩
       refine ⟨_, rfl, ?_⟩
       have n0_ := aM (Kd.R_below (by (with_reducible repeat (first | apply Kd.R_alloc | apply Kd.R_drewN | apply Kd.R_drew)); exact HO340.out) hb); have n1_ := aM (Kd.R_below (by (with_reducible repeat (first | apply Kd.R_alloc | apply Kd.R_drewN | apply Kd.R_drew)); exact HO344.out) hb); have n2_ := aM (kW BK334.out hb); have n3_ := aM (kW BK335.out hb); have n4_ := aM (below_step (bB2 HB.out GE334.out GE335.out) hb); clear HO340; clear HO344; clear BK334; clear BK335; clear HB; have HO340 := n0_; have HO344 := n1_; have BK334 := n2_; have BK335 := n3_; have HB := n4_; clear n0_ n1_ n2_ n3_ n4_
       (try clear hb)
       (try clear hb2)
       (try clear hk)
       (try clear hi)
       refine hK.out _ _ ⟨(blk_cell BK334.out 0).trans rfl, (blk_cell BK334.out 1).trans rfl, (blk_cell BK334.out 2).trans rfl, (blk_cell BK334.out 3).trans rfl, (blk_cell BK334.out 4).trans rfl, (blk_cell BK335.out 0).trans rfl, (blk_cell BK335.out 1).trans rfl, (blk_cell BK335.out 2).trans rfl⟩ (fun hHeld => ?_)
       clear hK K
       refine norm_ (a' := ?_) ?_ ?_
       rotate_left
       ·show Act.put _ (some 66) _ = _
        simp only [Act.put, List.setIfInBounds_toArray, List.set_cons_zero, List.set_cons_succ, i64_w, i32_w]
        rfl
       refine one_ (i := 19) (N := some 71) #[true, true, true, true, true, true, true, true, true, true, true, true, true, true, true, true, true, true, true, true, false, false] rfl rfl (one_of HT_.out (by kernel_rfl)) (by decide) (fun K hK => ?_)
       refine goes_ Try.func19 (by kernel_rfl) rfl #[.slice A0 l0.length c0, .agg #[.string a1_0, .slice A1_1 l1_1.length c1_1, .slice A1_2 l1_2.length c1_2, .slice A1_3 l1_3.length c1_3, .slice A1_4 l1_4.length c1_4], .slice A2_2 l2_2.length c2_2] (by rfl) rfl rfl mT ?_
       with_reducible refine (r40_Holds.calls kj3 _ _ l0 a1_0 _ _ l1_1 _ _ l1_2 _ _ l1_3 _ _ l1_4 _ _ l2_2 t348 _ ?side1 ?side2 ?side3 ?side4 ?side5 ?side6 ?side7 ?side8 ?side9 ?side10 ?side11 ?side12 A38.out).mono ?_
       (case side1 => exact cB HR0.out HB.out)
       (case side2 => exact HC0.out)
       (case side3 => exact cB HR1_1.out HB.out)
       (case side4 => exact HC1_1.out)
       (case side5 => exact cB HR1_2.out HB.out)
       (case side6 => exact HC1_2.out)
       (case side7 => exact cB HR1_3.out HB.out)
       (case side8 => exact HC1_3.out)
       (case side9 => exact cB HR1_4.out HB.out)
       (case side10 => exact HC1_4.out)
       (case side11 => exact cB HR2_2.out HB.out)
       (case side12 => exact HC2_2.out)
       rintro e w43 ⟨rfl, hb⟩
       refine ⟨_, rfl, ?_⟩
       have n0_ := aM (Kd.R_below (by (with_reducible repeat (first | apply Kd.R_alloc | apply Kd.R_drewN | apply Kd.R_drew)); exact HO340.out) hb); have n1_ := aM (Kd.R_below (by (with_reducible repeat (first | apply Kd.R_alloc | apply Kd.R_drewN | apply Kd.R_drew)); exact HO344.out) hb); have n2_ := aM (kW BK334.out hb); have n3_ := aM (kW BK335.out hb); have n4_ := aM (below_step (bB2 HB.out GE334.out GE335.out) hb); clear HO340; clear HO344; clear BK334; clear BK335; clear HB; have HO340 := n0_; have HO344 := n1_; have BK334 := n2_; have BK335 := n3_; have HB := n4_; clear n0_ n1_ n2_ n3_ n4_
       (try clear hb)
       (try clear hb2)
       (try clear hk)
       (try clear hi)
       refine hK.out _ _ ⟨(blk_cell BK334.out 0).trans rfl, (blk_cell BK334.out 1).trans rfl, (blk_cell BK334.out 2).trans rfl, (blk_cell BK334.out 3).trans rfl, (blk_cell BK334.out 4).trans rfl, (blk_cell BK335.out 0).trans rfl, (blk_cell BK335.out 1).trans rfl, (blk_cell BK335.out 2).trans rfl⟩ (fun hHeld => ?_)
       clear hK K
       refine norm_ (a' := ?_) ?_ ?_
       rotate_left
       ·show Act.put _ (some 71) _ = _
        simp only [Act.put, List.setIfInBounds_toArray, List.set_cons_zero, List.set_cons_succ, i64_w, i32_w]
        rfl
       refine pure_ (i := 20) (N := some 72) (v := ?_) (a' := ?_) #[true, true, true, true, true, true, true, true, true, true, true, true, true, true, true, true, true, true, true, true, true, false] rfl rfl (any_of HT_.out (by kernel_rfl)) (fun _ _ _ h => h) (Or.inl ⟨by rfl, ?_⟩) ?_ ?_; rotate_left; exact qT; rotate_left; exact pT
       refine pure_ (i := 21) (N := some 73) (v := ?_) (a' := ?_) #[true, true, true, true, true, true, true, true, true, true, true, true, true, true, true, true, true, true, true, true, true, true] rfl rfl (any_of HT_.out (by kernel_rfl)) (fun _ _ _ h => h) (Or.inl ⟨by rfl, ?_⟩) ?_ ?_; rotate_left; exact qT; rotate_left; exact pT
       refine done_ (done_of HT_.out (by kernel_rfl)) ?_
       try go_wp2
       go_meet
       case rel => exact ⟨_, ((t347 != t348)), eT, H', ⟨by have := HJ3.out; first | omega | exact Nat.le_refl _⟩, ⟨kB BK334.out⟩, ⟨kB BK335.out⟩, ⟨bB2 HB.out GE334.out GE335.out⟩⟩
      ·rw [if_neg c36] at H
       exact absurd (H.trans (congrArg some hrT_.out)) (l40_BindingEvals.j1_no _ _ _ _ _ _ _ _ _ _)
     ·replace c35 := Bool.eq_false_iff.mpr c35
      subst c35
      have H1 : (l40_BindingEvals.j1 kj3 l0 true a1_0 l1_1 l1_2 l1_3 l1_4 a2_0 l2_1 l2_2) = some r := by rw [if_neg (show ¬ (false = true) by decide)] at H; exact H
      clear H; have H := H1; clear H1
      have H' := aM H
      clear H
      try go_wp2
      have n0_ := aM (Kd.R_drew HO340.out); have n1_ := aM (Kd.R_drew HO344.out); have n2_ := aM (blk_drew BK334.out); have n3_ := aM (blk_drew BK335.out); have n4_ := aM (below_drew1 HB.out); clear HO340; clear HO344; clear BK334; clear BK335; clear HB; have HO340 := n0_; have HO344 := n1_; have BK334 := n2_; have BK335 := n3_; have HB := n4_; clear n0_ n1_ n2_ n3_ n4_; obtain ⟨Ao48, co48, eo48⟩ := Kd.R_slice HO340.out
      (first | subst eo48 | (injection eo48 with f1_ f2_ f3_; have f4_ := f1_.symm; have f5_ := f3_.symm; clear f1_ f2_ f3_; subst f4_; subst f5_))
      obtain ⟨Ao49, co49, eo49⟩ := Kd.R_slice HO344.out
      (first | subst eo49 | (injection eo49 with f1_ f2_ f3_; have f4_ := f1_.symm; have f5_ := f3_.symm; clear f1_ f2_ f3_; subst f4_; subst f5_))
      refine start_ (n := 22) (S := fun w' => True) (ds := []) #[false, false, false, false, false, false, false, false, false, false, false, false, false, false, false, false, false, false, false, false, false, false] (by kernel_rfl) rfl rfl trivial (fun hHeld => ?_); refine with_tabW l40_BindingEvals.tab5 l40_BindingEvals.bits5 (fun HT_ HW_ => ?_)
      generalize w33.drew = w47 at HO340 HO344 BK334 BK335 HB hHeld ⊢
      refine pure_ (i := 0) (N := some 52) (v := ?_) (a' := ?_) #[true, false, false, false, false, false, false, false, false, false, false, false, false, false, false, false, false, false, false, false, false, false] rfl rfl (any_of HT_.out (by kernel_rfl)) (fun _ _ _ h => h) (Or.inl ⟨by rfl, ?_⟩) ?_ ?_; rotate_left; exact qT; rotate_left; exact pT
      refine pure_ (i := 1) (N := some 53) (v := ?_) (a' := ?_) #[true, true, false, false, false, false, false, false, false, false, false, false, false, false, false, false, false, false, false, false, false, false] rfl rfl (any_of HT_.out (by kernel_rfl)) (fun _ _ _ h => h) (Or.inl ⟨by rfl, ?_⟩) ?_ ?_; rotate_left; exact qT; rotate_left; exact pT
      refine one_ (i := 2) (N := some 54) #[true, true, true, false, false, false, false, false, false, false, false, false, false, false, false, false, false, false, false, false, false, false] rfl rfl (one_of HT_.out (by kernel_rfl)) (by decide) (fun K hK => ?_)
      refine goes_ Try.func17 (by kernel_rfl) rfl #[.slice Ao48 t338.length co48, .slice Ao49 t342.length co49] (by rfl) rfl rfl mT ?_
      with_reducible refine (r04_Same.calls kj3 _ _ t338 _ _ t342 false _ ?side1 ?side2 ?side3 ?side4 A34.out).mono ?_
      (case side1 => repeat (first | exact (Kd.R_reads' HO340.out).2.2 | (with_reducible refine Kd.C_alloc ?_ _) | (with_reducible refine Kd.C_drewN ?_ _) | (with_reducible refine Kd.C_drew ?_)))
      (case side2 => exact (Kd.R_reads' HO340.out).2.1)
      (case side3 => repeat (first | exact (Kd.R_reads' HO344.out).2.2 | (with_reducible refine Kd.C_alloc ?_ _) | (with_reducible refine Kd.C_drewN ?_ _) | (with_reducible refine Kd.C_drew ?_)))
      (case side4 => exact (Kd.R_reads' HO344.out).2.1)
      rintro e w' ⟨rfl, ⟨nd, rfl⟩⟩
      refine ⟨_, rfl, ?_⟩
      refine hK.out _ _ trivial (fun hHeld => ?_)
      clear hK K
      refine norm_ (a' := ?_) ?_ ?_
      rotate_left
      ·show Act.put _ (some 54) _ = _
       simp only [Act.put, List.setIfInBounds_toArray, List.set_cons_zero, List.set_cons_succ, i64_w, i32_w]
       rfl
      refine pure_ (i := 3) (N := some 55) (v := ?_) (a' := ?_) #[true, true, true, true, false, false, false, false, false, false, false, false, false, false, false, false, false, false, false, false, false, false] rfl rfl (any_of HT_.out (by kernel_rfl)) (fun _ _ _ h => h) (Or.inl ⟨by rfl, ?_⟩) ?_ ?_; rotate_left; exact qT; rotate_left; exact pT
      refine pure_ (i := 4) (N := some 56) (v := ?_) (a' := ?_) #[true, true, true, true, true, false, false, false, false, false, false, false, false, false, false, false, false, false, false, false, false, false] rfl rfl (any_of HT_.out (by kernel_rfl)) (fun _ _ _ h => h) (Or.inl ⟨by rfl, ?_⟩) ?_ ?_; rotate_left; exact qT; rotate_left; exact pT
      refine pure_ (i := 5) (N := some 57) (v := undef) (a' := ?_) #[true, true, true, true, true, true, false, false, false, false, false, false, false, false, false, false, false, false, false, false, false, false] rfl rfl (any_of HT_.out (by kernel_rfl)) (fun _ _ _ h => h) (Or.inr ⟨by rfl, rfl⟩) ?_ ?_
      rotate_left
      ·simp only [Act.put, List.setIfInBounds_toArray, List.set_cons_zero, List.set_cons_succ, i64_w, i32_w]
       rfl
      refine pure_ (i := 6) (N := some 58) (v := undef) (a' := ?_) #[true, true, true, true, true, true, true, false, false, false, false, false, false, false, false, false, false, false, false, false, false, false] rfl rfl (any_of HT_.out (by kernel_rfl)) (fun _ _ _ h => h) (Or.inr ⟨by rfl, rfl⟩) ?_ ?_
      rotate_left
      ·simp only [Act.put, List.setIfInBounds_toArray, List.set_cons_zero, List.set_cons_succ, i64_w, i32_w]
       rfl
      refine pure_ (i := 7) (N := some 59) (v := undef) (a' := ?_) #[true, true, true, true, true, true, true, true, false, false, false, false, false, false, false, false, false, false, false, false, false, false] rfl rfl (any_of HT_.out (by kernel_rfl)) (fun _ _ _ h => h) (Or.inr ⟨by rfl, rfl⟩) ?_ ?_
      rotate_left
      ·simp only [Act.put, List.setIfInBounds_toArray, List.set_cons_zero, List.set_cons_succ, i64_w, i32_w]
       rfl
      refine pure_ (i := 8) (N := some 60) (v := ?_) (a' := ?_) #[true, true, true, true, true, true, true, true, true, false, false, false, false, false, false, false, false, false, false, false, false, false] rfl rfl (any_of HT_.out (by kernel_rfl)) (fun _ _ _ h => h) (Or.inl ⟨by rfl, ?_⟩) ?_ ?_; rotate_left; exact qT; rotate_left; exact pT
      refine pure_ (i := 9) (N := some 61) (v := ?_) (a' := ?_) #[true, true, true, true, true, true, true, true, true, true, false, false, false, false, false, false, false, false, false, false, false, false] rfl rfl (any_of HT_.out (by kernel_rfl)) (fun _ _ _ h => h) (Or.inl ⟨by rfl, ?_⟩) ?_ ?_; rotate_left; exact qT; rotate_left; exact pT
      refine pure_ (i := 10) (N := some 62) (v := undef) (a' := ?_) #[true, true, true, true, true, true, true, true, true, true, true, false, false, false, false, false, false, false, false, false, false, false] rfl rfl (any_of HT_.out (by kernel_rfl)) (fun _ _ _ h => h) (Or.inr ⟨by rfl, rfl⟩) ?_ ?_
      rotate_left
      ·simp only [Act.put, List.setIfInBounds_toArray, List.set_cons_zero, List.set_cons_succ, i64_w, i32_w]
       rfl
      refine pure_ (i := 11) (N := some 63) (v := undef) (a' := ?_) #[true, true, true, true, true, true, true, true, true, true, true, true, false, false, false, false, false, false, false, false, false, false] rfl rfl (any_of HT_.out (by kernel_rfl)) (fun _ _ _ h => h) (Or.inr ⟨by rfl, rfl⟩) ?_ ?_
      rotate_left
      ·simp only [Act.put, List.setIfInBounds_toArray, List.set_cons_zero, List.set_cons_succ, i64_w, i32_w]
       rfl
      refine pure_ (i := 12) (N := some 64) (v := undef) (a' := ?_) #[true, true, true, true, true, true, true, true, true, true, true, true, true, false, false, false, false, false, false, false, false, false] rfl rfl (any_of HT_.out (by kernel_rfl)) (fun _ _ _ h => h) (Or.inr ⟨by rfl, rfl⟩) ?_ ?_
      rotate_left
      ·simp only [Act.put, List.setIfInBounds_toArray, List.set_cons_zero, List.set_cons_succ, i64_w, i32_w]
       rfl
      refine pure_ (i := 13) (N := some 65) (v := undef) (a' := ?_) #[true, true, true, true, true, true, true, true, true, true, true, true, true, true, false, false, false, false, false, false, false, false] rfl rfl (any_of HT_.out (by kernel_rfl)) (fun _ _ _ h => h) (Or.inr ⟨by rfl, rfl⟩) ?_ ?_
      rotate_left
      ·simp only [Act.put, List.setIfInBounds_toArray, List.set_cons_zero, List.set_cons_succ, i64_w, i32_w]
       rfl
      refine pure_ (i := 14) (N := some 66) (v := undef) (a' := ?_) #[true, true, true, true, true, true, true, true, true, true, true, true, true, true, true, false, false, false, false, false, false, false] rfl rfl (any_of HT_.out (by kernel_rfl)) (fun _ _ _ h => h) (Or.inr ⟨by rfl, rfl⟩) ?_ ?_
      rotate_left
      ·simp only [Act.put, List.setIfInBounds_toArray, List.set_cons_zero, List.set_cons_succ, i64_w, i32_w]
       rfl
      refine pure_ (i := 15) (N := some 67) (v := undef) (a' := ?_) #[true, true, true, true, true, true, true, true, true, true, true, true, true, true, true, true, false, false, false, false, false, false] rfl rfl (any_of HT_.out (by kernel_rfl)) (fun _ _ _ h => h) (Or.inr ⟨by rfl, rfl⟩) ?_ ?_
      rotate_left
      ·simp only [Act.put, List.setIfInBounds_toArray, List.set_cons_zero, List.set_cons_succ, i64_w, i32_w]
       rfl
      refine pure_ (i := 16) (N := some 68) (v := undef) (a' := ?_) #[true, true, true, true, true, true, true, true, true, true, true, true, true, true, true, true, true, false, false, false, false, false] rfl rfl (any_of HT_.out (by kernel_rfl)) (fun _ _ _ h => h) (Or.inr ⟨by rfl, rfl⟩) ?_ ?_
      rotate_left
      ·simp only [Act.put, List.setIfInBounds_toArray, List.set_cons_zero, List.set_cons_succ, i64_w, i32_w]
       rfl
      refine pure_ (i := 17) (N := some 69) (v := undef) (a' := ?_) #[true, true, true, true, true, true, true, true, true, true, true, true, true, true, true, true, true, true, false, false, false, false] rfl rfl (any_of HT_.out (by kernel_rfl)) (fun _ _ _ h => h) (Or.inr ⟨by rfl, rfl⟩) ?_ ?_
      rotate_left
      ·simp only [Act.put, List.setIfInBounds_toArray, List.set_cons_zero, List.set_cons_succ, i64_w, i32_w]
       rfl
      refine pure_ (i := 18) (N := some 70) (v := undef) (a' := ?_) #[true, true, true, true, true, true, true, true, true, true, true, true, true, true, true, true, true, true, true, false, false, false] rfl rfl (any_of HT_.out (by kernel_rfl)) (fun _ _ _ h => h) (Or.inr ⟨by rfl, rfl⟩) ?_ ?_
      rotate_left
      ·simp only [Act.put, List.setIfInBounds_toArray, List.set_cons_zero, List.set_cons_succ, i64_w, i32_w]
       rfl
      refine pure_ (i := 19) (N := some 71) (v := undef) (a' := ?_) #[true, true, true, true, true, true, true, true, true, true, true, true, true, true, true, true, true, true, true, true, false, false] rfl rfl (any_of HT_.out (by kernel_rfl)) (fun _ _ _ h => h) (Or.inr ⟨by rfl, rfl⟩) ?_ ?_
      rotate_left
      ·simp only [Act.put, List.setIfInBounds_toArray, List.set_cons_zero, List.set_cons_succ, i64_w, i32_w]
       rfl
      refine pure_ (i := 20) (N := some 72) (v := undef) (a' := ?_) #[true, true, true, true, true, true, true, true, true, true, true, true, true, true, true, true, true, true, true, true, true, false] rfl rfl (any_of HT_.out (by kernel_rfl)) (fun _ _ _ h => h) (Or.inr ⟨by rfl, rfl⟩) ?_ ?_
      rotate_left
      ·simp only [Act.put, List.setIfInBounds_toArray, List.set_cons_zero, List.set_cons_succ, i64_w, i32_w]
       rfl
      refine pure_ (i := 21) (N := some 73) (v := ?_) (a' := ?_) #[true, true, true, true, true, true, true, true, true, true, true, true, true, true, true, true, true, true, true, true, true, true] rfl rfl (any_of HT_.out (by kernel_rfl)) (fun _ _ _ h => h) (Or.inl ⟨by rfl, ?_⟩) ?_ ?_; rotate_left; exact qT; rotate_left; exact pT
      refine done_ (done_of HT_.out (by kernel_rfl)) ?_
      try go_wp2
      go_meet
      case rel => exact ⟨_, (true), eT, H', ⟨by have := HJ3.out; first | omega | exact Nat.le_refl _⟩, ⟨kB BK334.out⟩, ⟨kB BK335.out⟩, ⟨bB2 HB.out GE334.out GE335.out⟩⟩
    case rest =>
     clear HC26; obtain ⟨kq, x73_25, rfl, HA, HJ25, BK334, BK335, HB⟩ := hcut
     cases kq with
     | zero => exact absurd HA.out (by simp [l40_BindingEvals.j1])
     | succ kj25 =>
      have H := HA.out; clear HA
      simp only [l40_BindingEvals.j1] at H
      by_cases c50 : x73_25 = true
      ·subst c50
       have H1 : (some false) = some r := by rw [if_pos rfl] at H; exact H
       clear H; have H := H1; clear H1
       exact absurd ((Option.some.inj H).trans hrT_.out) Bool.false_ne_true
      ·replace c50 := Bool.eq_false_iff.mpr c50
       subst c50
       have H1 : ((binding_Text.f kj25 l0 a1_0 l1_1 l1_2 l1_3 l1_4 l2_2).bind fun t349 => ((r40_Text.f kj25 l0 a1_0 l1_1 l1_2 l1_3 l1_4 l2_2).bind fun t350 => (if t349.toList = t350.toList then ((l40_lives.f kj25).bind fun t351 => (some t351)) else (some false)))) = some r := by rw [if_neg (show ¬ (false = true) by decide)] at H; exact H
       clear H; have H := H1; clear H1; replace H := Option.bind_eq_some_iff.mp H; obtain ⟨t349, A510, H⟩ := H
       replace H : ((r40_Text.f kj25 l0 a1_0 l1_1 l1_2 l1_3 l1_4 l2_2).bind fun t350 => (if t349.toList = t350.toList then ((l40_lives.f kj25).bind fun t351 => (some t351)) else (some false))) = some r := H
       have A51 := aM A510; clear A510; replace H := Option.bind_eq_some_iff.mp H; obtain ⟨t350, A520, H⟩ := H
       replace H : (if t349.toList = t350.toList then ((l40_lives.f kj25).bind fun t351 => (some t351)) else (some false)) = some r := H
       have A52 := aM A520; clear A520
       by_cases c53 : t349.toList = t350.toList
       ·rw [if_pos c53] at H
        have c53b0 : (t349.toList == t350.toList) = true := beq_iff_eq.mpr c53; have c53b1 : (t349.toList != t350.toList) = false := bne_eq_false_iff_eq.mpr c53; clear c53; replace H := Option.bind_eq_some_iff.mp H; obtain ⟨t351, A540, H⟩ := H
        replace H : (some t351) = some r := H
        have A54 := aM A540; clear A540
        obtain rfl := Option.some.inj H
        try go_wp2
        have n0_ := aM (blk_drew BK334.out); have n1_ := aM (blk_drew BK335.out); have n2_ := aM (below_drew1 HB.out); clear BK334; clear BK335; clear HB; have BK334 := n0_; have BK335 := n1_; have HB := n2_; clear n0_ n1_ n2_
        refine start_ (n := 15) (S := fun w' => w'.cell? ⟨gb334, 0, none⟩ = some (.string a1_0) ∧ w'.cell? ⟨gb334, 1, none⟩ = some (.slice A1_1 l1_1.length c1_1) ∧ w'.cell? ⟨gb334, 2, none⟩ = some (.slice A1_2 l1_2.length c1_2) ∧ w'.cell? ⟨gb334, 3, none⟩ = some (.slice A1_3 l1_3.length c1_3) ∧ w'.cell? ⟨gb334, 4, none⟩ = some (.slice A1_4 l1_4.length c1_4) ∧ w'.cell? ⟨gb335, 0, none⟩ = some (.int .i64 a2_0) ∧ w'.cell? ⟨gb335, 1, none⟩ = some (.slice A2_1 l2_1.length c2_1) ∧ w'.cell? ⟨gb335, 2, none⟩ = some (.slice A2_2 l2_2.length c2_2)) (ds := []) #[false, false, false, false, false, false, false, false, false, false, false, false, false, false, false] (by kernel_rfl) rfl rfl ⟨(blk_cell BK334.out 0).trans rfl, (blk_cell BK334.out 1).trans rfl, (blk_cell BK334.out 2).trans rfl, (blk_cell BK334.out 3).trans rfl, (blk_cell BK334.out 4).trans rfl, (blk_cell BK335.out 0).trans rfl, (blk_cell BK335.out 1).trans rfl, (blk_cell BK335.out 2).trans rfl⟩ (fun hHeld => ?_); refine with_tabW l40_BindingEvals.tab7 l40_BindingEvals.bits7 (fun HT_ HW_ => ?_)
        generalize wc.drew = w55 at BK334 BK335 HB hHeld ⊢
        refine pure_ (i := 0) (N := some 74) (v := ?_) (a' := ?_) #[true, false, false, false, false, false, false, false, false, false, false, false, false, false, false] rfl rfl (any_of HT_.out (by kernel_rfl)) (fun _ _ _ h => h) (Or.inl ⟨by rfl, ?_⟩) ?_ ?_; rotate_left; exact qT; rotate_left; exact pT
        refine pure_ (i := 2) (N := some 76) (v := ?_) (a' := ?_) #[true, false, true, false, false, false, false, false, false, false, false, false, false, false, false] rfl rfl (any_of HT_.out (by kernel_rfl)) (fun _ _ _ h => h) (Or.inl ⟨by rfl, ?_⟩) ?_ ?_; rotate_left; exact qT; rotate_left; exact pT
        refine pure_ (i := 5) (N := some 79) (v := ?_) (a' := ?_) #[true, false, true, false, false, true, false, false, false, false, false, false, false, false, false] rfl rfl (any_of HT_.out (by kernel_rfl)) (fun _ _ _ h => h) (Or.inl ⟨by rfl, ?_⟩) ?_ ?_; rotate_left; exact qT; rotate_left; exact pT
        refine pure_ (i := 7) (N := some 81) (v := ?_) (a' := ?_) #[true, false, true, false, false, true, false, true, false, false, false, false, false, false, false] rfl rfl (any_of HT_.out (by kernel_rfl)) (fun _ _ _ h => h) (Or.inl ⟨by rfl, ?_⟩) ?_ ?_; rotate_left; exact qT; rotate_left; exact pT
        refine take_ (i := 1) (N := some 75) (v := ?_) (a' := ?_) #[true, true, true, false, false, true, false, true, false, false, false, false, false, false, false] rfl rfl (take_ofW HT_.out HW_.out (by kernel_rfl)) (fun _ _ _ h => h) (Or.inl ⟨by rfl, ?_⟩) hHeld ?_ ?_; rotate_left; rintro w' ⟨s0, s1, s2, s3, s4, s5, s6, s7⟩; go_simp; with_reducible rfl; rotate_left; exact pT
        refine take_ (i := 3) (N := some 77) (v := ?_) (a' := ?_) #[true, true, true, true, false, true, false, true, false, false, false, false, false, false, false] rfl rfl (take_ofW HT_.out HW_.out (by kernel_rfl)) (fun _ _ _ h => h) (Or.inl ⟨by rfl, ?_⟩) hHeld ?_ ?_; rotate_left; rintro w' ⟨s0, s1, s2, s3, s4, s5, s6, s7⟩; go_simp; with_reducible rfl; rotate_left; exact pT
        refine take_ (i := 6) (N := some 80) (v := ?_) (a' := ?_) #[true, true, true, true, false, true, true, true, false, false, false, false, false, false, false] rfl rfl (take_ofW HT_.out HW_.out (by kernel_rfl)) (fun _ _ _ h => h) (Or.inl ⟨by rfl, ?_⟩) hHeld ?_ ?_; rotate_left; rintro w' ⟨s0, s1, s2, s3, s4, s5, s6, s7⟩; go_simp; with_reducible rfl; rotate_left; exact pT
        refine take_ (i := 8) (N := some 82) (v := ?_) (a' := ?_) #[true, true, true, true, false, true, true, true, true, false, false, false, false, false, false] rfl rfl (take_ofW HT_.out HW_.out (by kernel_rfl)) (fun _ _ _ h => h) (Or.inl ⟨by rfl, ?_⟩) hHeld ?_ ?_; rotate_left; rintro w' ⟨s0, s1, s2, s3, s4, s5, s6, s7⟩; go_simp; with_reducible rfl; rotate_left; exact pT
        refine one_ (i := 4) (N := some 78) #[true, true, true, true, true, true, true, true, true, false, false, false, false, false, false] rfl rfl (one_of HT_.out (by kernel_rfl)) (by decide) (fun K hK => ?_)
        refine goes_ Try.func20 (by kernel_rfl) rfl #[.slice A0 l0.length c0, .agg #[.string a1_0, .slice A1_1 l1_1.length c1_1, .slice A1_2 l1_2.length c1_2, .slice A1_3 l1_3.length c1_3, .slice A1_4 l1_4.length c1_4], .slice A2_2 l2_2.length c2_2] (by rfl) rfl rfl mT ?_
        with_reducible refine (binding_Text.calls kj25 _ _ l0 a1_0 _ _ l1_1 _ _ l1_2 _ _ l1_3 _ _ l1_4 _ _ l2_2 t349 _ ?side1 ?side2 ?side3 ?side4 ?side5 ?side6 ?side7 ?side8 ?side9 ?side10 ?side11 ?side12 A51.out).mono ?_
        (case side1 => exact cB HR0.out HB.out)
        (case side2 => exact HC0.out)
        (case side3 => exact cB HR1_1.out HB.out)
        (case side4 => exact HC1_1.out)
        (case side5 => exact cB HR1_2.out HB.out)
        (case side6 => exact HC1_2.out)
        (case side7 => exact cB HR1_3.out HB.out)
        (case side8 => exact HC1_3.out)
        (case side9 => exact cB HR1_4.out HB.out)
        (case side10 => exact HC1_4.out)
        (case side11 => exact cB HR2_2.out HB.out)
        (case side12 => exact HC2_2.out)
        rintro e w56 ⟨rfl, hb⟩
        refine ⟨_, rfl, ?_⟩
        have n0_ := aM (kW BK334.out hb); have n1_ := aM (kW BK335.out hb); have n2_ := aM (below_step (bB2 HB.out GE334.out GE335.out) hb); clear BK334; clear BK335; clear HB; have BK334 := n0_; have BK335 := n1_; have HB := n2_; clear n0_ n1_ n2_
        (try clear hb)
        (try clear hb2)
        (try clear hk)
        (try clear hi)
        refine hK.out _ _ ⟨(blk_cell BK334.out 0).trans rfl, (blk_cell BK334.out 1).trans rfl, (blk_cell BK334.out 2).trans rfl, (blk_cell BK334.out 3).trans rfl, (blk_cell BK334.out 4).trans rfl, (blk_cell BK335.out 0).trans rfl, (blk_cell BK335.out 1).trans rfl, (blk_cell BK335.out 2).trans rfl⟩ (fun hHeld => ?_)
        clear hK K
        refine norm_ (a' := ?_) ?_ ?_
        rotate_left
        ·show Act.put _ (some 78) _ = _
         simp only [Act.put, List.setIfInBounds_toArray, List.set_cons_zero, List.set_cons_succ, i64_w, i32_w]
         rfl
        refine one_ (i := 9) (N := some 83) #[true, true, true, true, true, true, true, true, true, true, false, false, false, false, false] rfl rfl (one_of HT_.out (by kernel_rfl)) (by decide) (fun K hK => ?_)
        refine goes_ Try.func21 (by kernel_rfl) rfl #[.slice A0 l0.length c0, .agg #[.string a1_0, .slice A1_1 l1_1.length c1_1, .slice A1_2 l1_2.length c1_2, .slice A1_3 l1_3.length c1_3, .slice A1_4 l1_4.length c1_4], .slice A2_2 l2_2.length c2_2] (by rfl) rfl rfl mT ?_
        with_reducible refine (r40_Text.calls kj25 _ _ l0 a1_0 _ _ l1_1 _ _ l1_2 _ _ l1_3 _ _ l1_4 _ _ l2_2 t350 _ ?side1 ?side2 ?side3 ?side4 ?side5 ?side6 ?side7 ?side8 ?side9 ?side10 ?side11 ?side12 A52.out).mono ?_
        (case side1 => exact cB HR0.out HB.out)
        (case side2 => exact HC0.out)
        (case side3 => exact cB HR1_1.out HB.out)
        (case side4 => exact HC1_1.out)
        (case side5 => exact cB HR1_2.out HB.out)
        (case side6 => exact HC1_2.out)
        (case side7 => exact cB HR1_3.out HB.out)
        (case side8 => exact HC1_3.out)
        (case side9 => exact cB HR1_4.out HB.out)
        (case side10 => exact HC1_4.out)
        (case side11 => exact cB HR2_2.out HB.out)
        (case side12 => exact HC2_2.out)
        rintro e w57 ⟨rfl, hb⟩
        refine ⟨_, rfl, ?_⟩
        have n0_ := aM (kW BK334.out hb); have n1_ := aM (kW BK335.out hb); have n2_ := aM (below_step (bB2 HB.out GE334.out GE335.out) hb); clear BK334; clear BK335; clear HB; have BK334 := n0_; have BK335 := n1_; have HB := n2_; clear n0_ n1_ n2_
        (try clear hb)
        (try clear hb2)
        (try clear hk)
        (try clear hi)
        refine hK.out _ _ ⟨(blk_cell BK334.out 0).trans rfl, (blk_cell BK334.out 1).trans rfl, (blk_cell BK334.out 2).trans rfl, (blk_cell BK334.out 3).trans rfl, (blk_cell BK334.out 4).trans rfl, (blk_cell BK335.out 0).trans rfl, (blk_cell BK335.out 1).trans rfl, (blk_cell BK335.out 2).trans rfl⟩ (fun hHeld => ?_)
        clear hK K
        refine norm_ (a' := ?_) ?_ ?_
        rotate_left
        ·show Act.put _ (some 83) _ = _
         simp only [Act.put, List.setIfInBounds_toArray, List.set_cons_zero, List.set_cons_succ, i64_w, i32_w]
         rfl
        refine pure_ (i := 10) (N := some 84) (v := ?_) (a' := ?_) #[true, true, true, true, true, true, true, true, true, true, true, false, false, false, false] rfl rfl (any_of HT_.out (by kernel_rfl)) (fun _ _ _ h => h) (Or.inl ⟨by rfl, ?_⟩) ?_ ?_; rotate_left; exact qT; rotate_left; exact pT
        refine pure_ (i := 11) (N := some 85) (v := ?_) (a' := ?_) #[true, true, true, true, true, true, true, true, true, true, true, true, false, false, false] rfl rfl (any_of HT_.out (by kernel_rfl)) (fun _ _ _ h => h) (Or.inl ⟨by rfl, ?_⟩) ?_ ?_; rotate_left; exact qT; rotate_left; exact pT
        refine one_ (i := 12) (N := some 86) #[true, true, true, true, true, true, true, true, true, true, true, true, true, false, false] rfl rfl (one_of HT_.out (by kernel_rfl)) (by decide) (fun K hK => ?_)
        refine goes_ Try.func10 (by kernel_rfl) rfl #[] (by rfl) rfl rfl mT ?_
        with_reducible refine (l40_lives.calls kj25  t351 _ A54.out (by first | exact hrT_ | exact ⟨rfl⟩)).mono ?_
        rintro e w58 ⟨rfl, hb⟩
        refine ⟨_, rfl, ?_⟩
        have n0_ := aM (kW BK334.out hb); have n1_ := aM (kW BK335.out hb); have n2_ := aM (below_step (bB2 HB.out GE334.out GE335.out) hb); clear BK334; clear BK335; clear HB; have BK334 := n0_; have BK335 := n1_; have HB := n2_; clear n0_ n1_ n2_
        (try clear hb)
        (try clear hb2)
        (try clear hk)
        (try clear hi)
        refine hK.out _ _ ⟨(blk_cell BK334.out 0).trans rfl, (blk_cell BK334.out 1).trans rfl, (blk_cell BK334.out 2).trans rfl, (blk_cell BK334.out 3).trans rfl, (blk_cell BK334.out 4).trans rfl, (blk_cell BK335.out 0).trans rfl, (blk_cell BK335.out 1).trans rfl, (blk_cell BK335.out 2).trans rfl⟩ (fun hHeld => ?_)
        clear hK K
        refine norm_ (a' := ?_) ?_ ?_
        rotate_left
        ·show Act.put _ (some 86) _ = _
         simp only [Act.put, List.setIfInBounds_toArray, List.set_cons_zero, List.set_cons_succ, i64_w, i32_w]
         rfl
        refine pure_ (i := 13) (N := some 87) (v := ?_) (a' := ?_) #[true, true, true, true, true, true, true, true, true, true, true, true, true, true, false] rfl rfl (any_of HT_.out (by kernel_rfl)) (fun _ _ _ h => h) (Or.inl ⟨by rfl, ?_⟩) ?_ ?_; rotate_left; exact qT; rotate_left; exact pT
        refine pure_ (i := 14) (N := some 6) (v := ?_) (a' := ?_) #[true, true, true, true, true, true, true, true, true, true, true, true, true, true, true] rfl rfl (any_of HT_.out (by kernel_rfl)) (fun _ _ _ h => h) (Or.inl ⟨by rfl, ?_⟩) ?_ ?_; rotate_left; exact qT; rotate_left; exact pT
        refine done_ (done_of HT_.out (by kernel_rfl)) ?_
        try go_wp2
        go_ret
        exact ⟨rT, bB2 HB.out GE334.out GE335.out⟩
       ·rw [if_neg c53] at H
        have c53b0 : (t349.toList == t350.toList) = false := beq_eq_false_iff_ne.mpr c53; have c53b1 : (t349.toList != t350.toList) = true := bne_iff_ne.mpr c53
        exact absurd ((Option.some.inj H).trans hrT_.out) Bool.false_ne_true














end Go.Proofs.Ytapkjfnfkalibaa.Pr
