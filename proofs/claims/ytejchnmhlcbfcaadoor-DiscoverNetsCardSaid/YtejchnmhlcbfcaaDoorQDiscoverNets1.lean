/- Functions that the statement reaches: what each answers, and that the program answers it (written by a program of this work). -/
import Derived.Test.YtejchnmhlcbfcaaDoorProg
import Derived.Below
import Derived.Deep.Draws
import Derived.Deep.AppendLies
import Derived.Maps.AppendAt
import Derived.OwnWalk
import Derived.Laws.BytesArg
import Derived.Laws.MakeOwn
import Derived.Laws.OwnMore
import Derived.Deep.OwnRows
import Derived.Tactics
import Derived.Lib.ConvBytes
import Derived.Laws.Slices
import Derived.WalkKit
import Derived.KernelRfl
import Derived.RowKit3
import Derived.Deep.LoopGhost
import Derived.Deep.QuietTactic
import Derived.BigQuiet
import Derived.WideLaws
import Derived.Deep.DeepCutAuto
import Derived.Deep.CutBlock
import Derived.Deep.RegionHeld3
import Derived.Laws.Rows
import Derived.Lib.AppendStr
import Derived.ArgAppend
import Derived.Laws.IdiomCopy
import Derived.OrdersHeld
import Derived.Laws.BitsLemmas
import Derived.RowKit
import Derived.WalkMore
import Derived.ChangeKeysEq
import Derived.Test.YtejchnmhlcbfcaaDoorVDiscoverNets
import Derived.LoopN
import Derived.Laws.EntriesVeiled
import Derived.Test.YtejchnmhlcbfcaaDoorBDiscoverNets
import Derived.Shelf.Strconv.Itoa1
import Derived.Test.YtejchnmhlcbfcaaDoorQDiscoverNets0
namespace Go.Proofs.YtejchnmhlcbfcaaDoor.Pr
open Go.RowKit Go.Proofs.YtejchnmhlcbfcaaDoorW.PrintWords Go.Proofs.YtejchnmhlcbfcaaDoorW.PrintLast Go.Proofs.YtejchnmhlcbfcaaDoorW.PrintMore
attribute [local go_sem] Instr.field asAgg
attribute [local go_sem] max2_int min2_int max_two min_two max_three min_three max_four min_four   -- for this text's walks alone
set_option linter.unusedVariables false
set_option linter.unusedSimpArgs false
section
-- STUBBED 62
/-! ### d_grown: function 62: by hand -/
mutual
def d_grown.l0 : Nat → List (List Int) → Int → Int → Int → Int → Option (Int × Int)
 | 0, _, _, _, _, _ => none
 | k + 1, x0, x13, x14, x168000, x168001 => if x14 < x13 then ((d_has.f x168000 x14).bind fun t169 => (if t169 = true then (d_grown.l0 k x0 x13 (wrap64 (x14 + 1)) x168000 x168001) else ((d_fits.f k x0 x168000 x168001 x14 0).bind fun t170 => (if t170 = true then (if 0 ≤ (IntKind.u64.wrap (x14)) then (some (Go.bits .or .u64 x168000 (shl .u64 1 (IntKind.u64.wrap (x14))), x168001)) else (none)) else (d_grown.l0 k x0 x13 (wrap64 (x14 + 1)) x168000 x168001))))) else ((d_grown.l1 k x0 (x0.length : Int) 0 x168000 x168001))
def d_grown.l1 : Nat → List (List Int) → Int → Int → Int → Int → Option (Int × Int)
 | 0, _, _, _, _, _ => none
 | k + 1, x0, x13, x14, x168000, x168001 => if x14 < x13 then ((d_has.f x168001 x14).bind fun t172 => (if t172 = true then (d_grown.l1 k x0 x13 (wrap64 (x14 + 1)) x168000 x168001) else ((d_fits.f k x0 x168000 x168001 x14 1).bind fun t173 => (if t173 = true then (if 0 ≤ (IntKind.u64.wrap (x14)) then (some (x168000, Go.bits .or .u64 x168001 (shl .u64 1 (IntKind.u64.wrap (x14))))) else (none)) else (d_grown.l1 k x0 x13 (wrap64 (x14 + 1)) x168000 x168001))))) else ((some (x168000, x168001)))
end
def d_grown.f (k : Nat) (l0 : List (List Int)) (a1_0 : Int) (a1_1 : Int) : Option (Int × Int) := (d_grown.l0 k l0 (l0.length : Int) 0 a1_0 a1_1)
theorem d_grown.mono_l : ∀ k, (∀ y0 y1 y2 y3 y4, LeO (d_grown.l0 k y0 y1 y2 y3 y4) (d_grown.l0 (k + 1) y0 y1 y2 y3 y4)) ∧ (∀ y0 y1 y2 y3 y4, LeO (d_grown.l1 k y0 y1 y2 y3 y4) (d_grown.l1 (k + 1) y0 y1 y2 y3 y4))
 | 0 => ⟨fun _ _ _ _ _ r h => by simp [d_grown.l0] at h, fun _ _ _ _ _ r h => by simp [d_grown.l1] at h⟩
 | k + 1 => by
  obtain ⟨ih0, ih1⟩ := d_grown.mono_l k
  refine ⟨?_, ?_⟩ <;> intros <;> (first | unfold d_grown.l0 | unfold d_grown.l1)
  all_goals repeat' first
   | (with_reducible apply ih0)
   | (with_reducible apply ih1)
   | (with_reducible apply d_fits.mono)
   | (with_reducible exact LeO.refl _)
   | (with_reducible exact LeO.none _)
   | (with_reducible refine LeO.ite ?_ ?_)
   | (with_reducible refine LeO.bind ?_ (fun _ => ?_))
   | apply ih0
   | apply ih1
   | apply d_fits.mono
   | exact LeO.none _
   | refine LeO.ite ?_ ?_
   | refine LeO.bind ?_ (fun _ => ?_)
theorem d_grown.mono : ∀ a0 a1 a2 k, LeO (d_grown.f k a0 a1 a2) (d_grown.f (k + 1) a0 a1 a2) := by
 intro a0 a1 a2 k
 obtain ⟨ih0, ih1⟩ := d_grown.mono_l k
 unfold d_grown.f
 repeat' first
   | (with_reducible apply ih0)
   | (with_reducible apply ih1)
   | (with_reducible apply d_fits.mono)
   | (with_reducible exact LeO.refl _)
   | (with_reducible exact LeO.none _)
   | (with_reducible refine LeO.ite ?_ ?_)
   | (with_reducible refine LeO.bind ?_ (fun _ => ?_))
   | apply ih0
   | apply ih1
   | apply d_fits.mono
   | exact LeO.none _
   | refine LeO.ite ?_ ?_
   | refine LeO.bind ?_ (fun _ => ?_)
set_option maxHeartbeats 8000000 in
set_option maxRecDepth 100000 in
theorem d_grown.calls (k : Nat) (A0 : Option Addr) (c0 : Nat) (l0 : List (List Int)) (a1_0 : Int) (a1_1 : Int) (r1 : Int) (r2 : Int) (w : World) (hr0 : Kd.C (Kd.slice 3 (Kd.int .i64)) w A0 l0.length l0) (hc0 : l0.length ≤ c0) (h : d_grown.f k l0 a1_0 a1_1 = some (r1, r2)) :
  Calls Tryd.prog 62 #[.slice A0 l0.length c0, .agg #[.int .u64 a1_0, .int .u64 a1_1]] w fun e w' => e = .returned (.agg #[.int .u64 r1, .int .u64 r2]) ∧ Below w.heap.size w w' := by
 have hu41 := Tryd.underlying76
 have hu37 := Tryd.underlying56
 have HR0 := aM hr0
 have HC0 := aM hc0
 clear hr0 hc0
 have HB := aM (Below.refl w.heap.size w)
 have H : ((d_grown.l0 k l0 (l0.length : Int) 0 a1_0 a1_1)) = some (r1, r2) := h
 clear h
 have H' := aM H
 clear H
 go_enter Tryd.func62, Tryd.ntmps62
 go_wp2_with (first | ((with_reducible refine gate_dst (N := 3) rfl ?_); refine bX 3 (cs := #[.int .u64 a1_0, .int .u64 a1_1]) (t := 76) ?_; intro gb167 hg w4 hbox hb; have BK167 := aM (hbox); have GW167 := aM (gE hg (below_size (bB HB.out))); have GE167 := GW167; replace HB := aM (below_step (bB HB.out) hb); clear hb hbox hg) | ((with_reducible refine gate_dst (N := 4) rfl ?_); refine bX 4 (cs := #[.int .u64 0, .int .u64 0]) (t := 76) ?_; intro gb168 hg w5 hbox hb; have BK168 := aM (hbox); have GW168 := aM (gE hg (below_size (bB1 HB.out GE167.out))); have GE168 := GW168; replace HB := aM (below_step (bB1 HB.out GE167.out) hb); have NB167_168 := aM (gL hg (kL BK167.out)); have NB168_167 := aM (gG hg (kL BK167.out)); replace BK167 := aM (kW BK167.out hb); clear hb hbox hg))
 refine wp_loop_rounds 3 ?_
 rw [rounds_succ]
 go_wp2
 go_loopg [14] k (fun kq v14 w' => ∃ (x14_1 : Int) (x169000_1 : Int) (x169001_1 : Int), v14 = .int .i64 x14_1 ∧ Aside0 (d_grown.l0 kq l0 (l0.length : Int) x14_1 a1_0 a1_1 = some (r1, r2)) ∧ Aside0 (kq ≤ k) ∧ Aside0 (w'.heap[gb167]? = some (.cells #[.int .u64 a1_0, .int .u64 a1_1] 76 (0, 0))) ∧ Aside0 (w'.heap[gb168]? = some (.cells #[.int .u64 x169000_1, .int .u64 x169001_1] 76 (0, 0))) ∧ Aside0 (Below w.heap.size w w'))
 case atStart => exact ⟨(0), (0), (0), eT, H', ⟨Nat.le_refl _⟩, ⟨kB BK167.out⟩, ⟨kB BK168.out⟩, ⟨bB2 HB.out GE167.out GE168.out⟩⟩
 case round =>
  clear H'
  try clear p2
  try clear c3
  try clear c3b0
  obtain ⟨x14_1, x169000_1, x169001_1, rfl, HA, HK1, BK167, BK168, HB⟩ := hrel
  cases gk with
  | zero => exact absurd HA.out (by simp [d_grown.l0])
  | succ k1 =>
   have H := HA.out
   clear HA
   simp only [d_grown.l0] at H
   by_cases c6 : x14_1 < (l0.length : Int)
   ·rw [if_pos c6] at H
    have c6b0 : decide (x14_1 < (l0.length : Int)) = true := decide_eq_true c6
    clear c6
    replace H := Option.bind_eq_some_iff.mp H
    obtain ⟨t169, A70, H⟩ := H
    replace H : (if t169 = true then (d_grown.l0 k1 l0 (l0.length : Int) (wrap64 (x14_1 + 1)) a1_0 a1_1) else ((d_fits.f k1 l0 a1_0 a1_1 x14_1 0).bind fun t170 => (if t170 = true then (if 0 ≤ (IntKind.u64.wrap (x14_1)) then (some (Go.bits .or .u64 a1_0 (shl .u64 1 (IntKind.u64.wrap (x14_1))), a1_1)) else (none)) else (d_grown.l0 k1 l0 (l0.length : Int) (wrap64 (x14_1 + 1)) a1_0 a1_1)))) = some (r1, r2) := H
    have A7 := aM A70
    clear A70
    by_cases c8 : t169 = true
    ·subst c8
     have H1 : (d_grown.l0 k1 l0 (l0.length : Int) (wrap64 (x14_1 + 1)) a1_0 a1_1) = some (r1, r2) := by rw [if_pos rfl] at H; exact H
     clear H
     have H := H1
     clear H1
     have H' := aM H
     clear H
     have hnb9 := NB167_168.out
     have hnc9 := NB168_167.out
     have hcz10_0 : wr.cell? ⟨gb167, 0, none⟩ = some (.int .u64 a1_0) := (blk_cell BK167.out 0).trans rfl
     have hcz10_1 : wr.cell? ⟨gb167, 1, none⟩ = some (.int .u64 a1_1) := (blk_cell BK167.out 1).trans rfl
     have hfz10_0 := blk_frozen BK167.out 0
     have hfz10_1 := blk_frozen BK167.out 1
     go_wp2_with (first | ((with_reducible refine gate_callee (f := 29) rfl ?_); refine gM (some 21) Tryd.func29 #[.int .u64 a1_0, .int .i64 x14_1] ?_; (with_reducible refine (d_has.calls a1_0 x14_1 true _ A7.out).mono ?_); rintro e w' ⟨rfl, ⟨nd, rfl⟩⟩; refine ⟨_, rfl, ?_⟩))
     go_roundg k1
     case measure => have := HK1.out; omega
     case rel => exact ⟨(wrap64 (x14_1 + 1)), (x169000_1), (x169001_1), eT, H', ⟨by have := HK1.out; omega⟩, ⟨kB BK167.out⟩, ⟨kB BK168.out⟩, ⟨bB2 HB.out GE167.out GE168.out⟩⟩
    ·replace c8 := Bool.eq_false_iff.mpr c8
     subst c8
     have H1 : ((d_fits.f k1 l0 a1_0 a1_1 x14_1 0).bind fun t170 => (if t170 = true then (if 0 ≤ (IntKind.u64.wrap (x14_1)) then (some (Go.bits .or .u64 a1_0 (shl .u64 1 (IntKind.u64.wrap (x14_1))), a1_1)) else (none)) else (d_grown.l0 k1 l0 (l0.length : Int) (wrap64 (x14_1 + 1)) a1_0 a1_1))) = some (r1, r2) := by rw [if_neg (show ¬ (false = true) by decide)] at H; exact H
     clear H
     have H := H1
     clear H1
     replace H := Option.bind_eq_some_iff.mp H
     obtain ⟨t170, A110, H⟩ := H
     replace H : (if t170 = true then (if 0 ≤ (IntKind.u64.wrap (x14_1)) then (some (Go.bits .or .u64 a1_0 (shl .u64 1 (IntKind.u64.wrap (x14_1))), a1_1)) else (none)) else (d_grown.l0 k1 l0 (l0.length : Int) (wrap64 (x14_1 + 1)) a1_0 a1_1)) = some (r1, r2) := H
     have A11 := aM A110
     clear A110
     by_cases c12 : t170 = true
     ·subst c12
      have H1 : (if 0 ≤ (IntKind.u64.wrap (x14_1)) then (some (Go.bits .or .u64 a1_0 (shl .u64 1 (IntKind.u64.wrap (x14_1))), a1_1)) else (none)) = some (r1, r2) := by rw [if_pos rfl] at H; exact H
      clear H
      have H := H1
      clear H1
      obtain ⟨ji13, hji13⟩ : ∃ j_ : Int, (IntKind.u64.wrap (x14_1)) = j_ := ⟨_, rfl⟩
      replace H : (if 0 ≤ (ji13) then (some (Go.bits .or .u64 a1_0 (shl .u64 1 (ji13)), a1_1)) else (none)) = some (r1, r2) := by first | (rw [hji13] at H; exact H) | (simp only [hji13] at H ⊢; exact H)
      (try rw [hji13] at A7)
      (try rw [hji13] at A11)
      by_cases c14 : 0 ≤ (ji13)
      ·rw [if_pos c14] at H
       have c14b0 := eq_true c14
       have c14b1 : decide (0 ≤ (ji13)) = true := decide_eq_true c14
       clear c14
       obtain ⟨ji15, hji15⟩ : ∃ j_ : Int, (shl .u64 1 (ji13)) = j_ := ⟨_, rfl⟩
       replace H : (some (Go.bits .or .u64 a1_0 (ji15), a1_1)) = some (r1, r2) := by first | (rw [hji15] at H; exact H) | (simp only [hji15] at H ⊢; exact H)
       (try rw [hji15] at A7)
       (try rw [hji15] at A11)
       have hji15_ : (IntKind.u64.wrap (1 * 2 ^ min (ji13).toNat 64)) = ji15 := hji15
       have hji15z : (ji13) ≤ 64 → (IntKind.u64.wrap (1 * 2 ^ (ji13).toNat)) = ji15 := shl_small hji15
       have hji15u : (IntKind.u64.wrap (2 ^ min (ji13).toNat 64)) = ji15 := by have h_ := hji15_; rw [Int.one_mul] at h_; exact h_
       have hji15v : (ji13) ≤ 64 → (IntKind.u64.wrap (2 ^ (ji13).toNat)) = ji15 := fun hle_ => by have h_ := hji15z hle_; rw [Int.one_mul] at h_; exact h_
       simp only [Option.some.injEq, Prod.mk.injEq] at H
       obtain ⟨rfl, rfl⟩ := H
       have hnb16 := NB167_168.out
       have hnc16 := NB168_167.out
       have hcz17_0 : wr.cell? ⟨gb167, 0, none⟩ = some (.int .u64 a1_0) := (blk_cell BK167.out 0).trans rfl
       have hcz17_1 : wr.cell? ⟨gb167, 1, none⟩ = some (.int .u64 a1_1) := (blk_cell BK167.out 1).trans rfl
       have hfz17_0 := blk_frozen BK167.out 0
       have hfz17_1 := blk_frozen BK167.out 1
       go_wp2_with (first | ((with_reducible refine gate_callee (f := 29) rfl ?_); refine gM (some 21) Tryd.func29 #[.int .u64 a1_0, .int .i64 x14_1] ?_; (with_reducible refine (d_has.calls a1_0 x14_1 false _ A7.out).mono ?_); rintro e w' ⟨rfl, ⟨nd, rfl⟩⟩; refine ⟨_, rfl, ?_⟩; (try (rw [drewN_self wr]; generalize hq_ : World.drewN wr _ = wr; have n0_ : Aside0 (wr.heap[gb167]? = some (.cells #[.int .u64 a1_0, .int .u64 a1_1] 76 (0, 0))) := ⟨by rw [← hq_]; exact (kB BK167.out)⟩; have n1_ : Aside0 (wr.heap[gb168]? = some (.cells #[.int .u64 x169000_1, .int .u64 x169001_1] 76 (0, 0))) := ⟨by rw [← hq_]; exact (kB BK168.out)⟩; have n2_ : Aside0 (Below w.heap.size w wr) := ⟨by rw [← hq_]; exact (bB2 HB.out GE167.out GE168.out)⟩; clear BK167 BK168 HB hq_; have BK167 := n0_; have BK168 := n1_; have HB := n2_; clear n0_ n1_ n2_; have hcy_0 : wr.cell? ⟨gb167, 0, none⟩ = some (.int .u64 a1_0) := (blk_cell BK167.out 0).trans rfl; have hcy_1 : wr.cell? ⟨gb167, 1, none⟩ = some (.int .u64 a1_1) := (blk_cell BK167.out 1).trans rfl; have hfy_0 := blk_frozen BK167.out 0; have hfy_1 := blk_frozen BK167.out 1))) | (go_at_call 63; (with_reducible refine (d_fits.calls k1 _ _ l0 a1_0 a1_1 x14_1 0 true _ ?side1 ?side2 A11.out).mono ?_); (case side1 => repeat (first | exact (Kd.C_below HR0.out HB.out) | (with_reducible refine Kd.C_alloc ?_ _) | (with_reducible refine Kd.C_drewN ?_ _) | (with_reducible refine Kd.C_drew ?_))); (case side2 => exact HC0.out); rintro e w18 ⟨rfl, hb⟩; replace BK167 := aM (kW BK167.out hb); replace BK168 := aM (kW BK168.out hb); replace HB := aM (below_step (bB2 HB.out GE167.out GE168.out) hb); clear hb; obtain ⟨hcz19_0, hcz19_1, hfz19_0, hfz19_1⟩ := cd2 BK167.out) | ((with_reducible refine gate_dst (N := 7) rfl ?_); refine bX 7 (cs := #[.int .u64 0, .int .u64 0]) (t := 76) ?_; intro gb171 hg w20 hbox hb; have BK171 := aM (hbox); have GW171 := aM (gE hg (below_size (bB2 HB.out GE167.out GE168.out))); have GE171 := GW171; replace HB := aM (below_step (bB2 HB.out GE167.out GE168.out) hb); have NB167_171 := aM (gL hg (kL BK167.out)); have NB171_167 := aM (gG hg (kL BK167.out)); replace BK167 := aM (kW BK167.out hb); have NB168_171 := aM (gL hg (kL BK168.out)); have NB171_168 := aM (gG hg (kL BK168.out)); replace BK168 := aM (kW BK168.out hb); clear hb hbox hg; have hnb21 := NB171_167.out; have hnc21 := NB167_171.out; have hnb22 := NB171_168.out; have hnc22 := NB168_171.out; obtain ⟨hcz23_0, hcz23_1, hfz23_0, hfz23_1⟩ := cd2 BK171.out; obtain ⟨hcz24_0, hcz24_1, hfz24_0, hfz24_1⟩ := cd2 BK168.out))
       refine bodyPost_ret (results_cell_row rfl _ _ gb168 76 #[.int .u64 (Go.bits .or .u64 a1_0 (ji15)), .int .u64 a1_1] (0, 0) _ rfl (by refine kR ?_; refine blk_put (cs := #[.int .u64 (Go.bits .or .u64 a1_0 (ji15)), .int .u64 x169001_1]) ?_ 1 _ rfl; refine kR ?_; refine blk_put (cs := #[.int .u64 x169000_1, .int .u64 x169001_1]) ?_ 0 _ rfl; refine kR ?_; refine blk_far ?_ NB168_171.out _; refine kR ?_; refine blk_far ?_ NB168_171.out _; refine kR ?_; refine blk_far ?_ NB168_171.out _; refine kR ?_; exact BK168.out) Tryd.underlying76 rfl (by kernel_rfl)) rfl ?_
       exact ⟨by first | rfl | (simp [errW_none, errW_some] <;> rfl) | (simp only [← hji13, ← hji15]; first | rfl | (simp [errW_none, errW_some] <;> rfl)) | (simp [*, errW_none, errW_some] <;> rfl), bB3 HB.out GE167.out GE168.out GE171.out⟩
      ·rw [if_neg c14] at H
       exact absurd H (by simp)
     ·replace c12 := Bool.eq_false_iff.mpr c12
      subst c12
      have H1 : (d_grown.l0 k1 l0 (l0.length : Int) (wrap64 (x14_1 + 1)) a1_0 a1_1) = some (r1, r2) := by rw [if_neg (show ¬ (false = true) by decide)] at H; exact H
      clear H
      have H := H1
      clear H1
      have H' := aM H
      clear H
      have hnb25 := NB167_168.out
      have hnc25 := NB168_167.out
      have hcz26_0 : wr.cell? ⟨gb167, 0, none⟩ = some (.int .u64 a1_0) := (blk_cell BK167.out 0).trans rfl
      have hcz26_1 : wr.cell? ⟨gb167, 1, none⟩ = some (.int .u64 a1_1) := (blk_cell BK167.out 1).trans rfl
      have hfz26_0 := blk_frozen BK167.out 0
      have hfz26_1 := blk_frozen BK167.out 1
      go_wp2_with (first | ((with_reducible refine gate_callee (f := 29) rfl ?_); refine gM (some 21) Tryd.func29 #[.int .u64 a1_0, .int .i64 x14_1] ?_; (with_reducible refine (d_has.calls a1_0 x14_1 false _ A7.out).mono ?_); rintro e w' ⟨rfl, ⟨nd, rfl⟩⟩; refine ⟨_, rfl, ?_⟩) | (go_at_call 63; (with_reducible refine (d_fits.calls k1 _ _ l0 a1_0 a1_1 x14_1 0 false _ ?side1 ?side2 A11.out).mono ?_); (case side1 => repeat (first | exact (Kd.C_below HR0.out (bB2 HB.out GE167.out GE168.out)) | (with_reducible refine Kd.C_alloc ?_ _) | (with_reducible refine Kd.C_drewN ?_ _) | (with_reducible refine Kd.C_drew ?_))); (case side2 => exact HC0.out); rintro e w27 ⟨rfl, hb⟩; replace BK167 := aM (kW BK167.out hb); replace BK168 := aM (kW BK168.out hb); replace HB := aM (below_step (bB2 HB.out GE167.out GE168.out) hb); clear hb))
      go_roundg k1
      case measure => have := HK1.out; omega
      case rel => exact ⟨(wrap64 (x14_1 + 1)), (x169000_1), (x169001_1), eT, H', ⟨by have := HK1.out; omega⟩, ⟨kB BK167.out⟩, ⟨kB BK168.out⟩, ⟨bB2 HB.out GE167.out GE168.out⟩⟩
   ·rw [if_neg c6] at H
    have c6b0 : decide (x14_1 < (l0.length : Int)) = false := decide_eq_false c6
    clear c6
    have H' := aM H
    clear H
    go_wp2
    rw [rounds_succ]
    go_wp2
    go_loopg [14] k1 (fun kq v14 w' => ∃ (x14_2 : Int) (x169000_2 : Int) (x169001_2 : Int), v14 = .int .i64 x14_2 ∧ Aside0 (d_grown.l1 kq l0 (l0.length : Int) x14_2 a1_0 a1_1 = some (r1, r2)) ∧ Aside0 (kq ≤ k1) ∧ Aside0 (w'.heap[gb167]? = some (.cells #[.int .u64 a1_0, .int .u64 a1_1] 76 (0, 0))) ∧ Aside0 (w'.heap[gb168]? = some (.cells #[.int .u64 x169000_2, .int .u64 x169001_2] 76 (0, 0))) ∧ Aside0 (Below w.heap.size w w'))
    case atStart => exact ⟨(0), (x169000_1), (x169001_1), eT, H', ⟨Nat.le_refl _⟩, ⟨kB BK167.out⟩, ⟨kB BK168.out⟩, ⟨bB2 HB.out GE167.out GE168.out⟩⟩
    case round =>
     clear H'
     try clear c1
     try clear c2
     try clear p2
     try clear c3
     try clear c3b0
     try clear c4
     try clear c6
     try clear c6b0
     try clear p6
     try clear c8
     try clear c9
     try clear c12
     try clear c14
     try clear c14b0
     try clear c14b1
     try clear c16
     try clear c21
     try clear c22
     try clear c25
     try clear c28
     try clear c28b0
     try clear hcz10_0
     try clear hcz10_1
     try clear hcz17_0
     try clear hcz17_1
     try clear hcz19_0
     try clear hcz19_1
     try clear hcz23_0
     try clear hcz23_1
     try clear hcz24_0
     try clear hcz24_1
     try clear hcz26_0
     try clear hcz26_1
     try clear hfz10_0
     try clear hfz10_1
     try clear hfz17_0
     try clear hfz17_1
     try clear hfz19_0
     try clear hfz19_1
     try clear hfz23_0
     try clear hfz23_1
     try clear hfz24_0
     try clear hfz24_1
     try clear hfz26_0
     try clear hfz26_1
     try clear p2
     obtain ⟨x14_2, x169000_2, x169001_2, rfl, HA, HK2, BK167, BK168, HB⟩ := hrel
     cases gk with
     | zero => exact absurd HA.out (by simp [d_grown.l1])
     | succ k2 =>
      have H := HA.out
      clear HA
      simp only [d_grown.l1] at H
      by_cases c29 : x14_2 < (l0.length : Int)
      ·rw [if_pos c29] at H
       have c29b0 : decide (x14_2 < (l0.length : Int)) = true := decide_eq_true c29
       clear c29
       replace H := Option.bind_eq_some_iff.mp H
       obtain ⟨t172, A300, H⟩ := H
       replace H : (if t172 = true then (d_grown.l1 k2 l0 (l0.length : Int) (wrap64 (x14_2 + 1)) a1_0 a1_1) else ((d_fits.f k2 l0 a1_0 a1_1 x14_2 1).bind fun t173 => (if t173 = true then (if 0 ≤ (IntKind.u64.wrap (x14_2)) then (some (a1_0, Go.bits .or .u64 a1_1 (shl .u64 1 (IntKind.u64.wrap (x14_2))))) else (none)) else (d_grown.l1 k2 l0 (l0.length : Int) (wrap64 (x14_2 + 1)) a1_0 a1_1)))) = some (r1, r2) := H
       have A30 := aM A300
       clear A300
       by_cases c31 : t172 = true
       ·subst c31
        have H1 : (d_grown.l1 k2 l0 (l0.length : Int) (wrap64 (x14_2 + 1)) a1_0 a1_1) = some (r1, r2) := by rw [if_pos rfl] at H; exact H
        clear H
        have H := H1
        clear H1
        have H' := aM H
        clear H
        have hnb32 := NB167_168.out
        have hnc32 := NB168_167.out
        have hcz33_0 : wr.cell? ⟨gb167, 0, none⟩ = some (.int .u64 a1_0) := (blk_cell BK167.out 0).trans rfl
        have hcz33_1 : wr.cell? ⟨gb167, 1, none⟩ = some (.int .u64 a1_1) := (blk_cell BK167.out 1).trans rfl
        have hfz33_0 := blk_frozen BK167.out 0
        have hfz33_1 := blk_frozen BK167.out 1
        go_wp2_with (first | ((with_reducible refine gate_callee (f := 29) rfl ?_); refine gM (some 21) Tryd.func29 #[.int .u64 a1_1, .int .i64 x14_2] ?_; (with_reducible refine (d_has.calls a1_1 x14_2 true _ A30.out).mono ?_); rintro e w' ⟨rfl, ⟨nd, rfl⟩⟩; refine ⟨_, rfl, ?_⟩))
        go_roundg k2
        case measure => have := HK1.out; have := HK2.out; omega
        case rel => exact ⟨(wrap64 (x14_2 + 1)), (x169000_2), (x169001_2), eT, H', ⟨by have := HK1.out; have := HK2.out; omega⟩, ⟨kB BK167.out⟩, ⟨kB BK168.out⟩, ⟨bB2 HB.out GE167.out GE168.out⟩⟩
       ·replace c31 := Bool.eq_false_iff.mpr c31
        subst c31
        have H1 : ((d_fits.f k2 l0 a1_0 a1_1 x14_2 1).bind fun t173 => (if t173 = true then (if 0 ≤ (IntKind.u64.wrap (x14_2)) then (some (a1_0, Go.bits .or .u64 a1_1 (shl .u64 1 (IntKind.u64.wrap (x14_2))))) else (none)) else (d_grown.l1 k2 l0 (l0.length : Int) (wrap64 (x14_2 + 1)) a1_0 a1_1))) = some (r1, r2) := by rw [if_neg (show ¬ (false = true) by decide)] at H; exact H
        clear H
        have H := H1
        clear H1
        replace H := Option.bind_eq_some_iff.mp H
        obtain ⟨t173, A340, H⟩ := H
        replace H : (if t173 = true then (if 0 ≤ (IntKind.u64.wrap (x14_2)) then (some (a1_0, Go.bits .or .u64 a1_1 (shl .u64 1 (IntKind.u64.wrap (x14_2))))) else (none)) else (d_grown.l1 k2 l0 (l0.length : Int) (wrap64 (x14_2 + 1)) a1_0 a1_1)) = some (r1, r2) := H
        have A34 := aM A340
        clear A340
        by_cases c35 : t173 = true
        ·subst c35
         have H1 : (if 0 ≤ (IntKind.u64.wrap (x14_2)) then (some (a1_0, Go.bits .or .u64 a1_1 (shl .u64 1 (IntKind.u64.wrap (x14_2))))) else (none)) = some (r1, r2) := by rw [if_pos rfl] at H; exact H
         clear H
         have H := H1
         clear H1
         obtain ⟨ji36, hji36⟩ : ∃ j_ : Int, (IntKind.u64.wrap (x14_2)) = j_ := ⟨_, rfl⟩
         replace H : (if 0 ≤ (ji36) then (some (a1_0, Go.bits .or .u64 a1_1 (shl .u64 1 (ji36)))) else (none)) = some (r1, r2) := by first | (rw [hji36] at H; exact H) | (simp only [hji36] at H ⊢; exact H)
         (try rw [hji36] at A30)
         (try rw [hji36] at A34)
         by_cases c37 : 0 ≤ (ji36)
         ·rw [if_pos c37] at H
          have c37b0 := eq_true c37
          have c37b1 : decide (0 ≤ (ji36)) = true := decide_eq_true c37
          clear c37
          obtain ⟨ji38, hji38⟩ : ∃ j_ : Int, (shl .u64 1 (ji36)) = j_ := ⟨_, rfl⟩
          replace H : (some (a1_0, Go.bits .or .u64 a1_1 (ji38))) = some (r1, r2) := by first | (rw [hji38] at H; exact H) | (simp only [hji38] at H ⊢; exact H)
          (try rw [hji38] at A30)
          (try rw [hji38] at A34)
          have hji38_ : (IntKind.u64.wrap (1 * 2 ^ min (ji36).toNat 64)) = ji38 := hji38
          have hji38z : (ji36) ≤ 64 → (IntKind.u64.wrap (1 * 2 ^ (ji36).toNat)) = ji38 := shl_small hji38
          have hji38u : (IntKind.u64.wrap (2 ^ min (ji36).toNat 64)) = ji38 := by have h_ := hji38_; rw [Int.one_mul] at h_; exact h_
          have hji38v : (ji36) ≤ 64 → (IntKind.u64.wrap (2 ^ (ji36).toNat)) = ji38 := fun hle_ => by have h_ := hji38z hle_; rw [Int.one_mul] at h_; exact h_
          simp only [Option.some.injEq, Prod.mk.injEq] at H
          obtain ⟨rfl, rfl⟩ := H
          have hnb39 := NB167_168.out
          have hnc39 := NB168_167.out
          have hcz40_0 : wr.cell? ⟨gb167, 0, none⟩ = some (.int .u64 a1_0) := (blk_cell BK167.out 0).trans rfl
          have hcz40_1 : wr.cell? ⟨gb167, 1, none⟩ = some (.int .u64 a1_1) := (blk_cell BK167.out 1).trans rfl
          have hfz40_0 := blk_frozen BK167.out 0
          have hfz40_1 := blk_frozen BK167.out 1
          go_wp2_with (first | ((with_reducible refine gate_callee (f := 29) rfl ?_); refine gM (some 21) Tryd.func29 #[.int .u64 a1_1, .int .i64 x14_2] ?_; (with_reducible refine (d_has.calls a1_1 x14_2 false _ A30.out).mono ?_); rintro e w' ⟨rfl, ⟨nd, rfl⟩⟩; refine ⟨_, rfl, ?_⟩; (try (rw [drewN_self wr]; generalize hq_ : World.drewN wr _ = wr; have n0_ : Aside0 (wr.heap[gb167]? = some (.cells #[.int .u64 a1_0, .int .u64 a1_1] 76 (0, 0))) := ⟨by rw [← hq_]; exact (kB BK167.out)⟩; have n1_ : Aside0 (wr.heap[gb168]? = some (.cells #[.int .u64 x169000_2, .int .u64 x169001_2] 76 (0, 0))) := ⟨by rw [← hq_]; exact (kB BK168.out)⟩; have n2_ : Aside0 (Below w.heap.size w wr) := ⟨by rw [← hq_]; exact (bB2 HB.out GE167.out GE168.out)⟩; clear BK167 BK168 HB hq_; have BK167 := n0_; have BK168 := n1_; have HB := n2_; clear n0_ n1_ n2_; have hcy_0 : wr.cell? ⟨gb167, 0, none⟩ = some (.int .u64 a1_0) := (blk_cell BK167.out 0).trans rfl; have hcy_1 : wr.cell? ⟨gb167, 1, none⟩ = some (.int .u64 a1_1) := (blk_cell BK167.out 1).trans rfl; have hfy_0 := blk_frozen BK167.out 0; have hfy_1 := blk_frozen BK167.out 1))) | (go_at_call 63; (with_reducible refine (d_fits.calls k2 _ _ l0 a1_0 a1_1 x14_2 1 true _ ?side1 ?side2 A34.out).mono ?_); (case side1 => repeat (first | exact (Kd.C_below HR0.out HB.out) | (with_reducible refine Kd.C_alloc ?_ _) | (with_reducible refine Kd.C_drewN ?_ _) | (with_reducible refine Kd.C_drew ?_))); (case side2 => exact HC0.out); rintro e w41 ⟨rfl, hb⟩; replace BK167 := aM (kW BK167.out hb); replace BK168 := aM (kW BK168.out hb); replace HB := aM (below_step (bB2 HB.out GE167.out GE168.out) hb); clear hb; obtain ⟨hcz42_0, hcz42_1, hfz42_0, hfz42_1⟩ := cd2 BK167.out) | ((with_reducible refine gate_dst (N := 7) rfl ?_); refine bX 7 (cs := #[.int .u64 0, .int .u64 0]) (t := 76) ?_; intro gb174 hg w43 hbox hb; have BK174 := aM (hbox); have GW174 := aM (gE hg (below_size (bB2 HB.out GE167.out GE168.out))); have GE174 := GW174; replace HB := aM (below_step (bB2 HB.out GE167.out GE168.out) hb); have NB167_174 := aM (gL hg (kL BK167.out)); have NB174_167 := aM (gG hg (kL BK167.out)); replace BK167 := aM (kW BK167.out hb); have NB168_174 := aM (gL hg (kL BK168.out)); have NB174_168 := aM (gG hg (kL BK168.out)); replace BK168 := aM (kW BK168.out hb); clear hb hbox hg; have hnb44 := NB174_167.out; have hnc44 := NB167_174.out; have hnb45 := NB174_168.out; have hnc45 := NB168_174.out; have hcz46_0 := cz0 BK174.out; have hcz46_1 := cz1 BK174.out; have hcq_1 : ∀ a b c, (((w43.setCell ⟨gb174, 0, none⟩ a).setCell ⟨gb174, 1, none⟩ b).setCell ⟨gb174, 1, none⟩ c).cell? ⟨gb174, 1, none⟩ = some c := fun a b c => World.cell?_setCell_same _ _ _ (World.cell?_setCell_same _ _ _ ((World.cell?_setCell_other _ _ _ _ (by simp)).trans hcz46_1)); have hfz46_0 := blk_frozen BK174.out 0; have hfz46_1 := blk_frozen BK174.out 1; obtain ⟨hcz47_0, hcz47_1, hfz47_0, hfz47_1⟩ := cd2 BK168.out))
          refine bodyPost_ret (results_cell_row rfl _ _ gb168 76 #[.int .u64 a1_0, .int .u64 (Go.bits .or .u64 a1_1 (ji38))] (0, 0) _ rfl (by refine kR ?_; refine blk_put (cs := #[.int .u64 a1_0, .int .u64 x169001_2]) ?_ 1 _ rfl; refine kR ?_; refine blk_put (cs := #[.int .u64 x169000_2, .int .u64 x169001_2]) ?_ 0 _ rfl; refine kR ?_; refine blk_far ?_ NB168_174.out _; refine kR ?_; refine blk_far ?_ NB168_174.out _; refine kR ?_; refine blk_far ?_ NB168_174.out _; refine kR ?_; exact BK168.out) Tryd.underlying76 rfl (by kernel_rfl)) rfl ?_
          exact ⟨by first | rfl | (simp [errW_none, errW_some] <;> rfl) | (simp only [← hji36, ← hji38]; first | rfl | (simp [errW_none, errW_some] <;> rfl)) | (simp [*, errW_none, errW_some] <;> rfl), bB3 HB.out GE167.out GE168.out GE174.out⟩
         ·rw [if_neg c37] at H
          exact absurd H (by simp)
        ·replace c35 := Bool.eq_false_iff.mpr c35
         subst c35
         have H1 : (d_grown.l1 k2 l0 (l0.length : Int) (wrap64 (x14_2 + 1)) a1_0 a1_1) = some (r1, r2) := by rw [if_neg (show ¬ (false = true) by decide)] at H; exact H
         clear H
         have H := H1
         clear H1
         have H' := aM H
         clear H
         have hnb48 := NB167_168.out
         have hnc48 := NB168_167.out
         have hcz49_0 : wr.cell? ⟨gb167, 0, none⟩ = some (.int .u64 a1_0) := (blk_cell BK167.out 0).trans rfl
         have hcz49_1 : wr.cell? ⟨gb167, 1, none⟩ = some (.int .u64 a1_1) := (blk_cell BK167.out 1).trans rfl
         have hfz49_0 := blk_frozen BK167.out 0
         have hfz49_1 := blk_frozen BK167.out 1
         go_wp2_with (first | ((with_reducible refine gate_callee (f := 29) rfl ?_); refine gM (some 21) Tryd.func29 #[.int .u64 a1_1, .int .i64 x14_2] ?_; (with_reducible refine (d_has.calls a1_1 x14_2 false _ A30.out).mono ?_); rintro e w' ⟨rfl, ⟨nd, rfl⟩⟩; refine ⟨_, rfl, ?_⟩) | (go_at_call 63; (with_reducible refine (d_fits.calls k2 _ _ l0 a1_0 a1_1 x14_2 1 false _ ?side1 ?side2 A34.out).mono ?_); (case side1 => repeat (first | exact (Kd.C_below HR0.out (bB2 HB.out GE167.out GE168.out)) | (with_reducible refine Kd.C_alloc ?_ _) | (with_reducible refine Kd.C_drewN ?_ _) | (with_reducible refine Kd.C_drew ?_))); (case side2 => exact HC0.out); rintro e w50 ⟨rfl, hb⟩; replace BK167 := aM (kW BK167.out hb); replace BK168 := aM (kW BK168.out hb); replace HB := aM (below_step (bB2 HB.out GE167.out GE168.out) hb); clear hb))
         go_roundg k2
         case measure => have := HK1.out; have := HK2.out; omega
         case rel => exact ⟨(wrap64 (x14_2 + 1)), (x169000_2), (x169001_2), eT, H', ⟨by have := HK1.out; have := HK2.out; omega⟩, ⟨kB BK167.out⟩, ⟨kB BK168.out⟩, ⟨bB2 HB.out GE167.out GE168.out⟩⟩
      ·rw [if_neg c29] at H
       have c29b0 : decide (x14_2 < (l0.length : Int)) = false := decide_eq_false c29
       clear c29
       simp only [Option.some.injEq, Prod.mk.injEq] at H
       obtain ⟨rfl, rfl⟩ := H
       have hnb55 := NB167_168.out
       have hnc55 := NB168_167.out
       have hcz56_0 : wr.cell? ⟨gb167, 0, none⟩ = some (.int .u64 a1_0) := (blk_cell BK167.out 0).trans rfl
       have hcz56_1 : wr.cell? ⟨gb167, 1, none⟩ = some (.int .u64 a1_1) := (blk_cell BK167.out 1).trans rfl
       have hfz56_0 := blk_frozen BK167.out 0
       have hfz56_1 := blk_frozen BK167.out 1
       have hcz57_0 : wr.cell? ⟨gb168, 0, none⟩ = some (.int .u64 x169000_2) := (blk_cell BK168.out 0).trans rfl
       have hcz57_1 : wr.cell? ⟨gb168, 1, none⟩ = some (.int .u64 x169001_2) := (blk_cell BK168.out 1).trans rfl
       have hfz57_0 := blk_frozen BK168.out 0
       have hfz57_1 := blk_frozen BK168.out 1
       go_wp2
       rw [rounds_succ]
       go_wp2
       refine bodyPost_ret (results_cell_row rfl _ _ gb168 76 #[.int .u64 a1_0, .int .u64 a1_1] (0, 0) _ rfl (bP BK168.out) Tryd.underlying76 rfl (by kernel_rfl)) rfl ?_
       exact ⟨by first | rfl | (simp [errW_none, errW_some] <;> rfl) | (simp [*, errW_none, errW_some] <;> rfl), bB2 HB.out GE167.out GE168.out⟩


end


-- NOT PRINTED: function 61 (d_pairs_1)




section
-- STUBBED 45
/-! ### d_pairs: function 45: by hand -/

theorem eqA76_cons {P : Program} {d : Nat} {e : TypeId} {c : Nat} {xs ys : Array Value} {i : Nat} {is : List Nat} {a b : Value} {r s : Bool} {w : World} (ha : (part e xs (i * c)).run P w = .ok a w) (hb : (part e ys (i * c)).run P w = .ok b w) (he : (Op.equalIn d e a b).run P w = .ok r w) (hr : (Op.eqItems d e c xs ys is).run P w = .ok s w) : (Op.eqItems d e c xs ys (i :: is)).run P w = .ok (r && s) w := by
 simp only [Op.eqItems, Sem.run_bind, ha, hb, he, Result.andThen_ok]
 cases r
 ·simp
 ·simpa using hr
theorem eqA_pair (d : Nat) (w : World) (x0 y0 : Int) (x1 y1 : Int) :
  (Op.equalIn (d + 2) 76 (.agg #[.int .u64 x0, .int .u64 x1]) (.agg #[.int .u64 y0, .int .u64 y1])).run Tryd.prog w = .ok (x0 == y0 && (x1 == y1)) w := by
 obtain ⟨i, hi⟩ := Option.isSome_iff_exists.1 (show (Tryd.prog.info? 56).isSome = true by kernel_rfl)
 rw [run_equalIn_array w (d + 1) _ _ Tryd.underlying76 hi, show Tryd.prog.cellsOf 56 = 1 by kernel_rfl]
 show (Op.eqItems (d + 1) 56 1 _ _ [0, 1]).run _ _ = _
 have h0 : (Op.eqItems (d + 1) 56 1 (#[.int .u64 x0, .int .u64 x1] : Array Value) #[.int .u64 y0, .int .u64 y1] []).run Tryd.prog w = .ok true w := by simp [Op.eqItems]
 have h1 := eqA76_cons (i := 1) (d := d + 1) (e := 56) (c := 1) (a := .int .u64 x1) (b := .int .u64 y1) (r := (x1 == y1)) (by first | (go_simp; done) | (go_simp; rfl)) (by first | (go_simp; done) | (go_simp; rfl)) (by go_simp) h0
 have h2 := eqA76_cons (i := 0) (d := d + 1) (e := 56) (c := 1) (a := .int .u64 x0) (b := .int .u64 y0) (r := (x0 == y0)) (by first | (go_simp; done) | (go_simp; rfl)) (by first | (go_simp; done) | (go_simp; rfl)) (by go_simp) h1
 simpa only [Bool.and_true] using h2
attribute [local go_sem high] eqA_pair

def orB (p at_ : Int) : Int := Go.bits .or .u64 p (shl .u64 1 (IntKind.u64.wrap at_))
def growE (k : Nat) (f : List (List Int)) (p0 p1 : Int) : Option (List S76) :=
 if p1 = 0 then some [] else (d_grown.f k f p0 p1).bind fun q => if q.1 = p0 ∧ q.2 = p1 then some [⟨p0, p1⟩] else some []
def grow1 (k : Nat) (f : List (List Int)) : Nat → Int → Int → Option (List S76)
 | 0, p0, p1 => growE k f p0 p1
 | m + 1, p0, p1 => (grow1 k f m p0 p1).bind fun a => (d_fits.f k f p0 p1 ((f.length - (m + 1) : Nat) : Int) 1).bind fun b => if b = true then (grow1 k f m p0 (orB p1 ((f.length - (m + 1) : Nat) : Int))).bind fun c => some (a ++ c) else some a
def grow0 (k : Nat) (f : List (List Int)) : Nat → Int → Int → Option (List S76)
 | 0, p0, p1 => if p0 = 0 then some [] else grow1 k f f.length p0 p1
 | m + 1, p0, p1 => (grow0 k f m p0 p1).bind fun a => (d_fits.f k f p0 p1 ((f.length - (m + 1) : Nat) : Int) 0).bind fun b => if b = true then (grow0 k f m (orB p0 ((f.length - (m + 1) : Nat) : Int)) p1).bind fun c => some (a ++ c) else some a
def d_pairs.f (k : Nat) (l0 : List (List Int)) : Option (List S76) := if l0.length ≤ 1000 then (grow0 k l0 l0.length 0 0).bind fun L => if L.length ≤ 17000000 then some L else none else none
theorem growE_mono (k : Nat) (f : List (List Int)) (p0 p1 : Int) : LeO (growE k f p0 p1) (growE (k + 1) f p0 p1) := by
 unfold growE
 exact LeO.ite (LeO.refl _) (LeO.bind (d_grown.mono _ _ _ _) fun _ => LeO.refl _)
theorem grow1_mono (k : Nat) (f : List (List Int)) : ∀ m p0 p1, LeO (grow1 k f m p0 p1) (grow1 (k + 1) f m p0 p1)
 | 0, p0, p1 => growE_mono k f p0 p1
 | m + 1, p0, p1 => LeO.bind (grow1_mono k f m p0 p1) fun _ => LeO.bind (d_fits.mono _ _ _ _ _ _) fun _ => LeO.ite (LeO.bind (grow1_mono k f m _ _) fun _ => LeO.refl _) (LeO.refl _)
theorem grow0_mono (k : Nat) (f : List (List Int)) : ∀ m p0 p1, LeO (grow0 k f m p0 p1) (grow0 (k + 1) f m p0 p1)
 | 0, p0, p1 => LeO.ite (LeO.refl _) (grow1_mono k f _ p0 p1)
 | m + 1, p0, p1 => LeO.bind (grow0_mono k f m p0 p1) fun _ => LeO.bind (d_fits.mono _ _ _ _ _ _) fun _ => LeO.ite (LeO.bind (grow0_mono k f m _ _) fun _ => LeO.refl _) (LeO.refl _)
theorem d_pairs.mono : ∀ a0 k, LeO (d_pairs.f k a0) (d_pairs.f (k + 1) a0) := by
 intro a0 k
 unfold d_pairs.f
 exact LeO.ite (LeO.bind (grow0_mono k a0 _ _ _) fun _ => LeO.refl _) (LeO.refl _)

structure GPre (w0 W : World) (bf bg bo : Nat) (A0 : Option Addr) (c0 : Nat) (f : List (List Int)) (ok : Nat → Prop) (v : Value) (pre : List S76) : Prop where
 b1 : W.heap[bf]? = some (.cells #[.slice A0 f.length c0] 47 (0, 0))
 b2 : W.heap[bg]? = some (.cells #[.func (.func 61) #[] #[.pointer (some ⟨bf, 0, none⟩), .pointer (some ⟨bg, 0, none⟩), .pointer (some ⟨bo, 0, none⟩)]] 86 (0, 0))
 b3 : W.heap[bo]? = some (.cells #[v] 74 (0, 0))
 gf : w0.heap.size ≤ bf
 gg : w0.heap.size ≤ bg
 go : w0.heap.size ≤ bo
 row : Kd.R k76 76 W w0.heap.size ok v pre
 fresh : ∀ k, W.heap.size ≤ k → ok k
 bel : Below w0.heap.size w0 W
def GPost (w0 W : World) (bo : Nat) (ok : Nat → Prop) (v : Value) (xs : List S76) (W' : World) : Prop :=
 Below w0.heap.size w0 W' ∧ KeepBut W W' bo v.ownBlock ∧ ∃ v1, W'.heap[bo]? = some (.cells #[v1] 74 (0, 0)) ∧ Kd.R k76 76 W' w0.heap.size ok v1 xs ∧ (v1.ownBlock = v.ownBlock ∨ ∃ b, v1.ownBlock = some b ∧ W.heap.size ≤ b)
def GrowC (w0 : World) (bf bg bo : Nat) (A0 : Option Addr) (c0 : Nat) (f : List (List Int)) (side at_ p0 p1 : Int) (L : List S76) : Prop :=
 ∀ W ok v pre, GPre w0 W bf bg bo A0 c0 f ok v pre → pre.length + L.length ≤ 17000000 →
  Calls Tryd.prog 61 #[.agg #[.int .u64 p0, .int .u64 p1], .int .i64 side, .int .i64 at_, .pointer (some ⟨bf, 0, none⟩), .pointer (some ⟨bg, 0, none⟩), .pointer (some ⟨bo, 0, none⟩)] W fun e W' => (∃ u, e = .returned u) ∧ GPost w0 W bo ok v (pre ++ L) W'
theorem GrowC.app {w0 : World} {bf bg bo : Nat} {A0 : Option Addr} {c0 : Nat} {f : List (List Int)} {side at_ p0 p1 : Int} {L : List S76} (h : GrowC w0 bf bg bo A0 c0 f side at_ p0 p1 L) (W : World) (ok : Nat → Prop) (v : Value) (pre : List S76) (hp : GPre w0 W bf bg bo A0 c0 f ok v pre) (hl : pre.length + L.length ≤ 17000000) :
  Calls Tryd.prog 61 #[.agg #[.int .u64 p0, .int .u64 p1], .int .i64 side, .int .i64 at_, .pointer (some ⟨bf, 0, none⟩), .pointer (some ⟨bg, 0, none⟩), .pointer (some ⟨bo, 0, none⟩)] W fun e W' => (∃ u, e = .returned u) ∧ GPost w0 W bo ok v (pre ++ L) W' := h W ok v pre hp hl
theorem row_ne {w : World} {base : Nat} {ok : Nat → Prop} {v : Value} {xs : List S76} {bo : Nat} {t : TypeId} {cs : Array Value} (h : Kd.R k76 76 w base ok v xs) (hb : w.heap[bo]? = some (.cells cs t (0, 0))) (ht : t ≠ 76) : some bo ≠ v.ownBlock := by
 intro e
 obtain ⟨cells, hc⟩ := Kd.R_typed h bo e.symm
 rw [hb] at hc
 injection hc with hc
 injection hc with _ hc _
 exact ht hc
set_option maxHeartbeats 16000000 in
set_option maxRecDepth 100000 in
theorem grow_end1 (k : Nat) (w0 : World) (bf bg bo : Nat) (A0 : Option Addr) (c0 : Nat) (f : List (List Int)) (hr0 : Kd.C (Kd.slice 3 (Kd.int .i64)) w0 A0 f.length f) (hc0 : f.length ≤ c0) (p0 p1 : Int) (L : List S76) (h : growE k f p0 p1 = some L) : GrowC w0 bf bg bo A0 c0 f 1 (f.length : Int) p0 p1 L := by
 intro W ok v pre hpre hlen
 obtain ⟨Av, cv, ev⟩ := Kd.R_slice hpre.row
 subst ev
 have B1 := aM hpre.b1
 have B2 := aM hpre.b2
 have B3 := aM hpre.b3
 have HR := aM hpre.row
 have HB := aM hpre.bel
 have GF := aM hpre.fresh
 have HC := aM hr0
 have HC0 := aM hc0
 have GO := aM hpre.go
 have GF1 := aM hpre.gf
 have GG1 := aM hpre.gg
 have HL := aM hlen
 have N13 := aM (show bf ≠ bo from blk_ne hpre.b1 hpre.b3 (by decide))
 have N23 := aM (show bg ≠ bo from blk_ne hpre.b2 hpre.b3 (by decide))
 clear hpre hlen hr0 hc0
 unfold growE at h
 by_cases h1 : p1 = 0
 ·rw [if_pos h1] at h
  obtain rfl := Option.some.inj h
  have e1 : (p1 == 0) = true := beq_iff_eq.2 h1
  have e2 : (p1 != 0) = false := bne_eq_false_iff_eq.2 h1
  clear h h1
  go_enter Tryd.func61, Tryd.ntmps61
  go_wp2_with (first | ((with_reducible refine gate_dst (N := 6) rfl ?_); (try (refine gate_guard (by rfl) ?_; dsimp only)); refine bX 6 (cs := #[.int .u64 p0, .int .u64 p1]) (t := 76) ?_; intro b6 hg w4 hbox hb; have BP := aM (show w4.heap[b6]? = some (.cells #[.int .u64 p0, .int .u64 p1] 76 (0, 0)) from hbox); have N1 := aM (show w4.heap[bf]? = some (.cells #[.slice A0 f.length c0] 47 (0, 0)) from blk_below B1.out hb); have N2 := aM (show w4.heap[bg]? = some (.cells #[.func (.func 61) #[] #[.pointer (some ⟨bf, 0, none⟩), .pointer (some ⟨bg, 0, none⟩), .pointer (some ⟨bo, 0, none⟩)]] 86 (0, 0)) from blk_below B2.out hb); have N3 := aM (show w4.heap[bo]? = some (.cells #[(.slice Av pre.length cv)] 74 (0, 0)) from blk_below B3.out hb); have NR := aM (show Kd.R k76 76 w4 w0.heap.size (fun k => ok k ∧ k ≠ b6) (.slice Av pre.length cv) pre from Kd.R_below (Kd.R_mono (Kd.R_bound HR.out) (fun k hk => ⟨hk.1, by rw [hg]; exact Nat.ne_of_lt hk.2.2.1⟩)) hb); have NB := aM (below_step HB.out hb); have HK := aM (KeepBut.of_below hb bo (.slice Av pre.length cv : Value).ownBlock); have G6 := aM (show W.heap.size ≤ b6 by rw [hg]; exact Nat.le_refl _); have L6 := aM (show b6 < w4.heap.size from blk_lt hbox); have VL := aM (Kd.R_lt HR.out); have HBW := aM HB.out; clear hb hbox hg B1 B2 B3 HR HB; have B1 := N1; have B2 := N2; have B3 := N3; have HR := NR; have HB := NB; clear N1 N2 N3 NR NB; have FR := aM (show ∀ k, w4.heap.size ≤ k → ok k ∧ k ≠ b6 from fun k hk => ⟨GF.out k (Nat.le_trans (keep_size HK.out) hk), Nat.ne_of_gt (Nat.lt_of_lt_of_le L6.out hk)⟩); have N6o := aM (show b6 ≠ bo from blk_ne BP.out B3.out (by decide)); have No6 := aM (show bo ≠ b6 from blk_ne B3.out BP.out (by decide)); have Nf6 := aM (show bf ≠ b6 from blk_ne B1.out BP.out (by decide)); have Ng6 := aM (show bg ≠ b6 from blk_ne B2.out BP.out (by decide)); have m1 := N6o.out; have m2 := No6.out; have m3 := Nf6.out; have m4 := Nf6.out.symm; have m5 := Ng6.out; have m6 := Ng6.out.symm; have hfa : w4.cell? ⟨bf, 0, none⟩ = some (.slice A0 f.length c0) := (blk_cell B1.out 0).trans rfl; have zfa := blk_frozen B1.out 0; have hga : w4.cell? ⟨bg, 0, none⟩ = some (.func (.func 61) #[] #[.pointer (some ⟨bf, 0, none⟩), .pointer (some ⟨bg, 0, none⟩), .pointer (some ⟨bo, 0, none⟩)]) := (blk_cell B2.out 0).trans rfl; have zga := blk_frozen B2.out 0; have hoa : w4.cell? ⟨bo, 0, none⟩ = some (.slice Av pre.length cv) := (blk_cell B3.out 0).trans rfl; have zoa := blk_frozen B3.out 0; have hpa : w4.cell? ⟨b6, 0, none⟩ = some (.int .u64 p0) := (blk_cell BP.out 0).trans rfl; have zpa := blk_frozen BP.out 0; have hqa : w4.cell? ⟨b6, 1, none⟩ = some (.int .u64 p1) := (blk_cell BP.out 1).trans rfl; have zqa := blk_frozen BP.out 1))
  repeat (go_quiet (fail); try go_wp2)
  first | refine bodyPost_ret (results_none rfl _ _ _) rfl ?_ | refine bodyPost_end (results_none rfl _ _ _) rfl ?_
  exact ⟨⟨_, rfl⟩, bB HB.out, HK.out, _, B3.out, by rw [List.append_nil]; exact Kd.R_mono HR.out (fun _ hk => hk.1), .inl rfl⟩
 ·rw [if_neg h1] at h
  obtain ⟨⟨q0, q1⟩, hg, h⟩ := Option.bind_eq_some_iff.mp h
  have e1 : (p1 == 0) = false := beq_eq_false_iff_ne.2 h1
  have e2 : (p1 != 0) = true := bne_iff_ne.2 h1
  have HG := aM hg
  clear hg h1
  dsimp only at h
  by_cases h2 : q0 = p0 ∧ q1 = p1
  ·rw [if_pos h2] at h
   obtain rfl := Option.some.inj h
   have e3 : (q0 == p0 && (q1 == p1)) = true := by rw [h2.1, h2.2]; simp
   clear h h2
   go_enter Tryd.func61, Tryd.ntmps61
   go_wp2_with (first | ((with_reducible refine gate_dst (N := 6) rfl ?_); (try (refine gate_guard (by rfl) ?_; dsimp only)); refine bX 6 (cs := #[.int .u64 p0, .int .u64 p1]) (t := 76) ?_; intro b6 hg w4 hbox hb; have BP := aM (show w4.heap[b6]? = some (.cells #[.int .u64 p0, .int .u64 p1] 76 (0, 0)) from hbox); have N1 := aM (show w4.heap[bf]? = some (.cells #[.slice A0 f.length c0] 47 (0, 0)) from blk_below B1.out hb); have N2 := aM (show w4.heap[bg]? = some (.cells #[.func (.func 61) #[] #[.pointer (some ⟨bf, 0, none⟩), .pointer (some ⟨bg, 0, none⟩), .pointer (some ⟨bo, 0, none⟩)]] 86 (0, 0)) from blk_below B2.out hb); have N3 := aM (show w4.heap[bo]? = some (.cells #[(.slice Av pre.length cv)] 74 (0, 0)) from blk_below B3.out hb); have NR := aM (show Kd.R k76 76 w4 w0.heap.size (fun k => ok k ∧ k ≠ b6) (.slice Av pre.length cv) pre from Kd.R_below (Kd.R_mono (Kd.R_bound HR.out) (fun k hk => ⟨hk.1, by rw [hg]; exact Nat.ne_of_lt hk.2.2.1⟩)) hb); have NB := aM (below_step HB.out hb); have HK := aM (KeepBut.of_below hb bo (.slice Av pre.length cv : Value).ownBlock); have G6 := aM (show W.heap.size ≤ b6 by rw [hg]; exact Nat.le_refl _); have L6 := aM (show b6 < w4.heap.size from blk_lt hbox); have VL := aM (Kd.R_lt HR.out); have HBW := aM HB.out; clear hb hbox hg B1 B2 B3 HR HB; have B1 := N1; have B2 := N2; have B3 := N3; have HR := NR; have HB := NB; clear N1 N2 N3 NR NB; have FR := aM (show ∀ k, w4.heap.size ≤ k → ok k ∧ k ≠ b6 from fun k hk => ⟨GF.out k (Nat.le_trans (keep_size HK.out) hk), Nat.ne_of_gt (Nat.lt_of_lt_of_le L6.out hk)⟩); have N6o := aM (show b6 ≠ bo from blk_ne BP.out B3.out (by decide)); have No6 := aM (show bo ≠ b6 from blk_ne B3.out BP.out (by decide)); have Nf6 := aM (show bf ≠ b6 from blk_ne B1.out BP.out (by decide)); have Ng6 := aM (show bg ≠ b6 from blk_ne B2.out BP.out (by decide)); have m1 := N6o.out; have m2 := No6.out; have m3 := Nf6.out; have m4 := Nf6.out.symm; have m5 := Ng6.out; have m6 := Ng6.out.symm; have hfa : w4.cell? ⟨bf, 0, none⟩ = some (.slice A0 f.length c0) := (blk_cell B1.out 0).trans rfl; have zfa := blk_frozen B1.out 0; have hga : w4.cell? ⟨bg, 0, none⟩ = some (.func (.func 61) #[] #[.pointer (some ⟨bf, 0, none⟩), .pointer (some ⟨bg, 0, none⟩), .pointer (some ⟨bo, 0, none⟩)]) := (blk_cell B2.out 0).trans rfl; have zga := blk_frozen B2.out 0; have hoa : w4.cell? ⟨bo, 0, none⟩ = some (.slice Av pre.length cv) := (blk_cell B3.out 0).trans rfl; have zoa := blk_frozen B3.out 0; have hpa : w4.cell? ⟨b6, 0, none⟩ = some (.int .u64 p0) := (blk_cell BP.out 0).trans rfl; have zpa := blk_frozen BP.out 0; have hqa : w4.cell? ⟨b6, 1, none⟩ = some (.int .u64 p1) := (blk_cell BP.out 1).trans rfl; have zqa := blk_frozen BP.out 1))
   refine start_ (n := 15) (S := fun w' => w'.cell? ⟨b6, 0, none⟩ = some (.int .u64 p0) ∧ w'.cell? ⟨b6, 1, none⟩ = some (.int .u64 p1) ∧ w'.cell? ⟨bf, 0, none⟩ = some (.slice A0 f.length c0)) (ds := []) #[false, false, false, false, false, false, false, false, false, false, false, false, false, false, false] (by kernel_rfl) rfl rfl ⟨hpa, hqa, hfa⟩ (fun hHeld => ?_)
   refine pU 0 25 (by kernel_rfl) ?_
   refine pU 1 26 (by kernel_rfl) ?_
   refine pU 2 27 (by kernel_rfl) ?_
   refine pU 3 28 (by kernel_rfl) ?_
   refine tU 4 29 (by kernel_rfl) hHeld ?_
   refine pU 5 30 (by kernel_rfl) ?_
   refine pU 6 31 (by kernel_rfl) ?_
   refine pU 7 32 (by kernel_rfl) ?_
   refine tU 8 33 (by kernel_rfl) hHeld ?_
   refine tU 9 34 (by kernel_rfl) hHeld ?_
   refine tU 11 36 (by kernel_rfl) hHeld ?_
   refine one_ (i := 10) (N := some 35) #[true, true, true, true, true, true, true, true, true, true, true, true, false, false, false] rfl rfl (by kernel_rfl) (by decide) (fun K hK => ?_)
   refine goes_ Tryd.func62 (by kernel_rfl) rfl #[.slice A0 f.length c0, .agg #[.int .u64 p0, .int .u64 p1]] (by rfl) rfl rfl mT ?_
   with_reducible refine (d_grown.calls k A0 c0 f p0 p1 q0 q1 _ ?side1 ?side2 HG.out).mono ?_
   (case side1 => repeat (first | exact (Kd.C_below HC.out HB.out) | (with_reducible refine Kd.C_alloc ?_ _) | (with_reducible refine Kd.C_drewN ?_ _) | (with_reducible refine Kd.C_drew ?_)))
   (case side2 => exact HC0.out)
   rintro e w5 ⟨rfl, hb⟩
   refine ⟨_, rfl, ?_⟩
   have N1 := aM (show w5.heap[bf]? = some (.cells #[.slice A0 f.length c0] 47 (0, 0)) from blk_below (kB B1.out) hb); have N2 := aM (show w5.heap[bg]? = some (.cells #[.func (.func 61) #[] #[.pointer (some ⟨bf, 0, none⟩), .pointer (some ⟨bg, 0, none⟩), .pointer (some ⟨bo, 0, none⟩)]] 86 (0, 0)) from blk_below (kB B2.out) hb); have N3 := aM (show w5.heap[bo]? = some (.cells #[(.slice Av pre.length cv)] 74 (0, 0)) from blk_below (kB B3.out) hb); have NP := aM (show w5.heap[b6]? = some (.cells #[.int .u64 p0, .int .u64 p1] 76 (0, 0)) from blk_below (kB BP.out) hb); have NR := aM (Kd.R_below (oR HR.out) hb); have NB := aM (below_step (bB HB.out) hb); have NK := aM (KeepBut.trans (by first | exact HK.out | exact keep_drew HK.out) (KeepBut.of_below hb bo (.slice Av pre.length cv : Value).ownBlock) (.inl rfl)); clear B1 B2 B3 BP HR HB HK; have B1 := N1; have B2 := N2; have B3 := N3; have BP := NP; have HR := NR; have HB := NB; have HK := NK; clear N1 N2 N3 NP NR NB NK; clear hb
   have hfb : w5.cell? ⟨bf, 0, none⟩ = some (.slice A0 f.length c0) := (blk_cell B1.out 0).trans rfl; have zfb := blk_frozen B1.out 0; have hgb : w5.cell? ⟨bg, 0, none⟩ = some (.func (.func 61) #[] #[.pointer (some ⟨bf, 0, none⟩), .pointer (some ⟨bg, 0, none⟩), .pointer (some ⟨bo, 0, none⟩)]) := (blk_cell B2.out 0).trans rfl; have zgb := blk_frozen B2.out 0; have hob : w5.cell? ⟨bo, 0, none⟩ = some (.slice Av pre.length cv) := (blk_cell B3.out 0).trans rfl; have zob := blk_frozen B3.out 0; have hpb : w5.cell? ⟨b6, 0, none⟩ = some (.int .u64 p0) := (blk_cell BP.out 0).trans rfl; have zpb := blk_frozen BP.out 0; have hqb : w5.cell? ⟨b6, 1, none⟩ = some (.int .u64 p1) := (blk_cell BP.out 1).trans rfl; have zqb := blk_frozen BP.out 1
   refine hK.out _ _ ⟨hpb, hqb, hfb⟩ (fun hHeld => ?_)
   refine pU 12 37 (by kernel_rfl) ?_
   refine pU 13 38 (by kernel_rfl) ?_
   refine pU 14 24 (by kernel_rfl) ?_
   refine done_ (by kernel_rfl) ?_
   go_wp2_with (first | ((with_reducible refine gate_builtin (b := .append) (xs := #[.tmp 39, .tmp 41]) rfl ?_); at_builtin; refine Kd.R_append k76 (w0 := w0) w0.heap.size rfl (.tmp 39) (.tmp 41) 74 76 (.agg #[(.int .u64 0), (.int .u64 0)]) 16 rfl Tryd.underlying74 info76 rfl (by decide) (by omega) (.slice Av pre.length cv) pre (⟨p0, p1⟩ : S76) [.int .u64 p0, .int .u64 p1] (fun k => ok k ∧ k ≠ b6) (fun _ => False) rfl rfl ?aP (fun _ hk => hk.elim) ?aF ?aO ?aB ?aS ?aL ?_; (case aP => exact k76_mkM _ _ _ (⟨p0, p1⟩ : S76)); (case aB => exact (bB HB.out)); (case aF => exact (fun k hk => ⟨GF.out k (Nat.le_trans (keep_size HK.out) hk), Nat.ne_of_gt (Nat.lt_of_lt_of_le (blk_lt BP.out) hk)⟩)); (case aO => exact (oR HR.out)); (case aS => exact (below_size (bB HB.out))); (case aL => have := HL.out; simp only [List.length_singleton] at this; omega); intro v1 w7 ho hb hgr hat; obtain ⟨xs1, hxs1⟩ : ∃ y_ : List S76, y_ = pre ++ [(⟨p0, p1⟩ : S76)] := ⟨_, rfl⟩; rw [← hxs1] at ho; have HX := aM hxs1; clear hxs1; obtain ⟨A1, c1, ev1⟩ := Kd.R_slice ho; subst ev1; have N3 := aM (show w7.heap[bo]? = some (.cells #[(.slice Av pre.length cv)] 74 (0, 0)) from blk_grown B3.out hgr (row_ne HR.out B3.out (by decide))); have HR1 := aM ho; have HB1 := aM hb; have HA1 := aM hat; have HK1 := aM (KeepBut.trans HK.out (KeepBut.of_grown hgr bo) (.inl rfl)); have HS1 := aM (keep_size HK.out); clear hgr hat ho hb; have ho2 : w7.cell? ⟨bo, 0, none⟩ = some (.slice Av pre.length cv) := (blk_cell N3.out 0).trans rfl; have zo2 := blk_frozen N3.out 0))
   first | refine bodyPost_ret (results_none rfl _ _ _) rfl ?_ | refine bodyPost_end (results_none rfl _ _ _) rfl ?_
   refine ⟨⟨_, rfl⟩, (HB1.out).setCell GO.out _, KeepBut.set_ HK1.out 0 _, .slice A1 xs1.length c1, ?_, ?_, HA1.out.imp id (fun ⟨b, hb, hl⟩ => ⟨b, hb, Nat.le_trans HS1.out hl⟩)⟩
   ·exact blk_put (cs := #[(.slice Av pre.length cv)]) N3.out 0 _ rfl
   ·rw [← HX.out]
    exact tM HR1.out N3.out (fun _ hk => hk.1.1)
  ·rw [if_neg h2] at h
   obtain rfl := Option.some.inj h
   have e3 : (q0 == p0 && (q1 == p1)) = false := by
    rw [Bool.eq_false_iff]; intro hh; rw [Bool.and_eq_true, beq_iff_eq, beq_iff_eq] at hh; exact h2 hh
   clear h h2
   go_enter Tryd.func61, Tryd.ntmps61
   go_wp2_with (first | ((with_reducible refine gate_dst (N := 6) rfl ?_); (try (refine gate_guard (by rfl) ?_; dsimp only)); refine bX 6 (cs := #[.int .u64 p0, .int .u64 p1]) (t := 76) ?_; intro b6 hg w4 hbox hb; have BP := aM (show w4.heap[b6]? = some (.cells #[.int .u64 p0, .int .u64 p1] 76 (0, 0)) from hbox); have N1 := aM (show w4.heap[bf]? = some (.cells #[.slice A0 f.length c0] 47 (0, 0)) from blk_below B1.out hb); have N2 := aM (show w4.heap[bg]? = some (.cells #[.func (.func 61) #[] #[.pointer (some ⟨bf, 0, none⟩), .pointer (some ⟨bg, 0, none⟩), .pointer (some ⟨bo, 0, none⟩)]] 86 (0, 0)) from blk_below B2.out hb); have N3 := aM (show w4.heap[bo]? = some (.cells #[(.slice Av pre.length cv)] 74 (0, 0)) from blk_below B3.out hb); have NR := aM (show Kd.R k76 76 w4 w0.heap.size (fun k => ok k ∧ k ≠ b6) (.slice Av pre.length cv) pre from Kd.R_below (Kd.R_mono (Kd.R_bound HR.out) (fun k hk => ⟨hk.1, by rw [hg]; exact Nat.ne_of_lt hk.2.2.1⟩)) hb); have NB := aM (below_step HB.out hb); have HK := aM (KeepBut.of_below hb bo (.slice Av pre.length cv : Value).ownBlock); have G6 := aM (show W.heap.size ≤ b6 by rw [hg]; exact Nat.le_refl _); have L6 := aM (show b6 < w4.heap.size from blk_lt hbox); have VL := aM (Kd.R_lt HR.out); have HBW := aM HB.out; clear hb hbox hg B1 B2 B3 HR HB; have B1 := N1; have B2 := N2; have B3 := N3; have HR := NR; have HB := NB; clear N1 N2 N3 NR NB; have FR := aM (show ∀ k, w4.heap.size ≤ k → ok k ∧ k ≠ b6 from fun k hk => ⟨GF.out k (Nat.le_trans (keep_size HK.out) hk), Nat.ne_of_gt (Nat.lt_of_lt_of_le L6.out hk)⟩); have N6o := aM (show b6 ≠ bo from blk_ne BP.out B3.out (by decide)); have No6 := aM (show bo ≠ b6 from blk_ne B3.out BP.out (by decide)); have Nf6 := aM (show bf ≠ b6 from blk_ne B1.out BP.out (by decide)); have Ng6 := aM (show bg ≠ b6 from blk_ne B2.out BP.out (by decide)); have m1 := N6o.out; have m2 := No6.out; have m3 := Nf6.out; have m4 := Nf6.out.symm; have m5 := Ng6.out; have m6 := Ng6.out.symm; have hfa : w4.cell? ⟨bf, 0, none⟩ = some (.slice A0 f.length c0) := (blk_cell B1.out 0).trans rfl; have zfa := blk_frozen B1.out 0; have hga : w4.cell? ⟨bg, 0, none⟩ = some (.func (.func 61) #[] #[.pointer (some ⟨bf, 0, none⟩), .pointer (some ⟨bg, 0, none⟩), .pointer (some ⟨bo, 0, none⟩)]) := (blk_cell B2.out 0).trans rfl; have zga := blk_frozen B2.out 0; have hoa : w4.cell? ⟨bo, 0, none⟩ = some (.slice Av pre.length cv) := (blk_cell B3.out 0).trans rfl; have zoa := blk_frozen B3.out 0; have hpa : w4.cell? ⟨b6, 0, none⟩ = some (.int .u64 p0) := (blk_cell BP.out 0).trans rfl; have zpa := blk_frozen BP.out 0; have hqa : w4.cell? ⟨b6, 1, none⟩ = some (.int .u64 p1) := (blk_cell BP.out 1).trans rfl; have zqa := blk_frozen BP.out 1))
   refine start_ (n := 15) (S := fun w' => w'.cell? ⟨b6, 0, none⟩ = some (.int .u64 p0) ∧ w'.cell? ⟨b6, 1, none⟩ = some (.int .u64 p1) ∧ w'.cell? ⟨bf, 0, none⟩ = some (.slice A0 f.length c0)) (ds := []) #[false, false, false, false, false, false, false, false, false, false, false, false, false, false, false] (by kernel_rfl) rfl rfl ⟨hpa, hqa, hfa⟩ (fun hHeld => ?_)
   refine pU 0 25 (by kernel_rfl) ?_
   refine pU 1 26 (by kernel_rfl) ?_
   refine pU 2 27 (by kernel_rfl) ?_
   refine pU 3 28 (by kernel_rfl) ?_
   refine tU 4 29 (by kernel_rfl) hHeld ?_
   refine pU 5 30 (by kernel_rfl) ?_
   refine pU 6 31 (by kernel_rfl) ?_
   refine pU 7 32 (by kernel_rfl) ?_
   refine tU 8 33 (by kernel_rfl) hHeld ?_
   refine tU 9 34 (by kernel_rfl) hHeld ?_
   refine tU 11 36 (by kernel_rfl) hHeld ?_
   refine one_ (i := 10) (N := some 35) #[true, true, true, true, true, true, true, true, true, true, true, true, false, false, false] rfl rfl (by kernel_rfl) (by decide) (fun K hK => ?_)
   refine goes_ Tryd.func62 (by kernel_rfl) rfl #[.slice A0 f.length c0, .agg #[.int .u64 p0, .int .u64 p1]] (by rfl) rfl rfl mT ?_
   with_reducible refine (d_grown.calls k A0 c0 f p0 p1 q0 q1 _ ?side1 ?side2 HG.out).mono ?_
   (case side1 => repeat (first | exact (Kd.C_below HC.out HB.out) | (with_reducible refine Kd.C_alloc ?_ _) | (with_reducible refine Kd.C_drewN ?_ _) | (with_reducible refine Kd.C_drew ?_)))
   (case side2 => exact HC0.out)
   rintro e w5 ⟨rfl, hb⟩
   refine ⟨_, rfl, ?_⟩
   have N1 := aM (show w5.heap[bf]? = some (.cells #[.slice A0 f.length c0] 47 (0, 0)) from blk_below (kB B1.out) hb); have N2 := aM (show w5.heap[bg]? = some (.cells #[.func (.func 61) #[] #[.pointer (some ⟨bf, 0, none⟩), .pointer (some ⟨bg, 0, none⟩), .pointer (some ⟨bo, 0, none⟩)]] 86 (0, 0)) from blk_below (kB B2.out) hb); have N3 := aM (show w5.heap[bo]? = some (.cells #[(.slice Av pre.length cv)] 74 (0, 0)) from blk_below (kB B3.out) hb); have NP := aM (show w5.heap[b6]? = some (.cells #[.int .u64 p0, .int .u64 p1] 76 (0, 0)) from blk_below (kB BP.out) hb); have NR := aM (Kd.R_below (oR HR.out) hb); have NB := aM (below_step (bB HB.out) hb); have NK := aM (KeepBut.trans (by first | exact HK.out | exact keep_drew HK.out) (KeepBut.of_below hb bo (.slice Av pre.length cv : Value).ownBlock) (.inl rfl)); clear B1 B2 B3 BP HR HB HK; have B1 := N1; have B2 := N2; have B3 := N3; have BP := NP; have HR := NR; have HB := NB; have HK := NK; clear N1 N2 N3 NP NR NB NK; clear hb
   have hfb : w5.cell? ⟨bf, 0, none⟩ = some (.slice A0 f.length c0) := (blk_cell B1.out 0).trans rfl; have zfb := blk_frozen B1.out 0; have hgb : w5.cell? ⟨bg, 0, none⟩ = some (.func (.func 61) #[] #[.pointer (some ⟨bf, 0, none⟩), .pointer (some ⟨bg, 0, none⟩), .pointer (some ⟨bo, 0, none⟩)]) := (blk_cell B2.out 0).trans rfl; have zgb := blk_frozen B2.out 0; have hob : w5.cell? ⟨bo, 0, none⟩ = some (.slice Av pre.length cv) := (blk_cell B3.out 0).trans rfl; have zob := blk_frozen B3.out 0; have hpb : w5.cell? ⟨b6, 0, none⟩ = some (.int .u64 p0) := (blk_cell BP.out 0).trans rfl; have zpb := blk_frozen BP.out 0; have hqb : w5.cell? ⟨b6, 1, none⟩ = some (.int .u64 p1) := (blk_cell BP.out 1).trans rfl; have zqb := blk_frozen BP.out 1
   refine hK.out _ _ ⟨hpb, hqb, hfb⟩ (fun hHeld => ?_)
   refine pU 12 37 (by kernel_rfl) ?_
   refine pU 13 38 (by kernel_rfl) ?_
   refine pU 14 24 (by kernel_rfl) ?_
   refine done_ (by kernel_rfl) ?_
   go_wp2
   first | refine bodyPost_ret (results_none rfl _ _ _) rfl ?_ | refine bodyPost_end (results_none rfl _ _ _) rfl ?_
   exact ⟨⟨_, rfl⟩, bB HB.out, HK.out, _, B3.out, by rw [List.append_nil]; exact Kd.R_mono HR.out (fun _ hk => hk.1), .inl rfl⟩
set_option maxHeartbeats 16000000 in
set_option maxRecDepth 100000 in
theorem grow_end0 (k : Nat) (w0 : World) (bf bg bo : Nat) (A0 : Option Addr) (c0 : Nat) (f : List (List Int)) (hr0 : Kd.C (Kd.slice 3 (Kd.int .i64)) w0 A0 f.length f) (hc0 : f.length ≤ c0) (p0 p1 : Int) (L : List S76) (hL : if p0 = 0 then L = [] else GrowC w0 bf bg bo A0 c0 f 1 0 p0 p1 L) : GrowC w0 bf bg bo A0 c0 f 0 (f.length : Int) p0 p1 L := by
 intro W ok v pre hpre hlen
 obtain ⟨Av, cv, ev⟩ := Kd.R_slice hpre.row
 subst ev
 have B1 := aM hpre.b1
 have B2 := aM hpre.b2
 have B3 := aM hpre.b3
 have HR := aM hpre.row
 have HB := aM hpre.bel
 have GF := aM hpre.fresh
 have HC := aM hr0
 have HC0 := aM hc0
 have GO := aM hpre.go
 have GF1 := aM hpre.gf
 have GG1 := aM hpre.gg
 have HL := aM hlen
 have N13 := aM (show bf ≠ bo from blk_ne hpre.b1 hpre.b3 (by decide))
 have N23 := aM (show bg ≠ bo from blk_ne hpre.b2 hpre.b3 (by decide))
 clear hpre hlen hr0 hc0
 by_cases h1 : p0 = 0
 ·rw [if_pos h1] at hL
  subst hL
  have e1 : (p0 == 0) = true := beq_iff_eq.2 h1
  have e2 : (p0 != 0) = false := bne_eq_false_iff_eq.2 h1
  clear h1
  go_enter Tryd.func61, Tryd.ntmps61
  go_wp2_with (first | ((with_reducible refine gate_dst (N := 6) rfl ?_); (try (refine gate_guard (by rfl) ?_; dsimp only)); refine bX 6 (cs := #[.int .u64 p0, .int .u64 p1]) (t := 76) ?_; intro b6 hg w4 hbox hb; have BP := aM (show w4.heap[b6]? = some (.cells #[.int .u64 p0, .int .u64 p1] 76 (0, 0)) from hbox); have N1 := aM (show w4.heap[bf]? = some (.cells #[.slice A0 f.length c0] 47 (0, 0)) from blk_below B1.out hb); have N2 := aM (show w4.heap[bg]? = some (.cells #[.func (.func 61) #[] #[.pointer (some ⟨bf, 0, none⟩), .pointer (some ⟨bg, 0, none⟩), .pointer (some ⟨bo, 0, none⟩)]] 86 (0, 0)) from blk_below B2.out hb); have N3 := aM (show w4.heap[bo]? = some (.cells #[(.slice Av pre.length cv)] 74 (0, 0)) from blk_below B3.out hb); have NR := aM (show Kd.R k76 76 w4 w0.heap.size (fun k => ok k ∧ k ≠ b6) (.slice Av pre.length cv) pre from Kd.R_below (Kd.R_mono (Kd.R_bound HR.out) (fun k hk => ⟨hk.1, by rw [hg]; exact Nat.ne_of_lt hk.2.2.1⟩)) hb); have NB := aM (below_step HB.out hb); have HK := aM (KeepBut.of_below hb bo (.slice Av pre.length cv : Value).ownBlock); have G6 := aM (show W.heap.size ≤ b6 by rw [hg]; exact Nat.le_refl _); have L6 := aM (show b6 < w4.heap.size from blk_lt hbox); have VL := aM (Kd.R_lt HR.out); have HBW := aM HB.out; clear hb hbox hg B1 B2 B3 HR HB; have B1 := N1; have B2 := N2; have B3 := N3; have HR := NR; have HB := NB; clear N1 N2 N3 NR NB; have FR := aM (show ∀ k, w4.heap.size ≤ k → ok k ∧ k ≠ b6 from fun k hk => ⟨GF.out k (Nat.le_trans (keep_size HK.out) hk), Nat.ne_of_gt (Nat.lt_of_lt_of_le L6.out hk)⟩); have N6o := aM (show b6 ≠ bo from blk_ne BP.out B3.out (by decide)); have No6 := aM (show bo ≠ b6 from blk_ne B3.out BP.out (by decide)); have Nf6 := aM (show bf ≠ b6 from blk_ne B1.out BP.out (by decide)); have Ng6 := aM (show bg ≠ b6 from blk_ne B2.out BP.out (by decide)); have m1 := N6o.out; have m2 := No6.out; have m3 := Nf6.out; have m4 := Nf6.out.symm; have m5 := Ng6.out; have m6 := Ng6.out.symm; have hfa : w4.cell? ⟨bf, 0, none⟩ = some (.slice A0 f.length c0) := (blk_cell B1.out 0).trans rfl; have zfa := blk_frozen B1.out 0; have hga : w4.cell? ⟨bg, 0, none⟩ = some (.func (.func 61) #[] #[.pointer (some ⟨bf, 0, none⟩), .pointer (some ⟨bg, 0, none⟩), .pointer (some ⟨bo, 0, none⟩)]) := (blk_cell B2.out 0).trans rfl; have zga := blk_frozen B2.out 0; have hoa : w4.cell? ⟨bo, 0, none⟩ = some (.slice Av pre.length cv) := (blk_cell B3.out 0).trans rfl; have zoa := blk_frozen B3.out 0; have hpa : w4.cell? ⟨b6, 0, none⟩ = some (.int .u64 p0) := (blk_cell BP.out 0).trans rfl; have zpa := blk_frozen BP.out 0; have hqa : w4.cell? ⟨b6, 1, none⟩ = some (.int .u64 p1) := (blk_cell BP.out 1).trans rfl; have zqa := blk_frozen BP.out 1))
  repeat (go_quiet (fail); try go_wp2)
  first | refine bodyPost_ret (results_none rfl _ _ _) rfl ?_ | refine bodyPost_end (results_none rfl _ _ _) rfl ?_
  exact ⟨⟨_, rfl⟩, bB HB.out, HK.out, _, B3.out, by rw [List.append_nil]; exact Kd.R_mono HR.out (fun _ hk => hk.1), .inl rfl⟩
 ·rw [if_neg h1] at hL
  have e1 : (p0 == 0) = false := beq_eq_false_iff_ne.2 h1
  have e2 : (p0 != 0) = true := bne_iff_ne.2 h1
  have IH := aM hL
  clear h1 hL
  go_enter Tryd.func61, Tryd.ntmps61
  go_wp2_with (first | ((with_reducible refine gate_dst (N := 6) rfl ?_); (try (refine gate_guard (by rfl) ?_; dsimp only)); refine bX 6 (cs := #[.int .u64 p0, .int .u64 p1]) (t := 76) ?_; intro b6 hg w4 hbox hb; have BP := aM (show w4.heap[b6]? = some (.cells #[.int .u64 p0, .int .u64 p1] 76 (0, 0)) from hbox); have N1 := aM (show w4.heap[bf]? = some (.cells #[.slice A0 f.length c0] 47 (0, 0)) from blk_below B1.out hb); have N2 := aM (show w4.heap[bg]? = some (.cells #[.func (.func 61) #[] #[.pointer (some ⟨bf, 0, none⟩), .pointer (some ⟨bg, 0, none⟩), .pointer (some ⟨bo, 0, none⟩)]] 86 (0, 0)) from blk_below B2.out hb); have N3 := aM (show w4.heap[bo]? = some (.cells #[(.slice Av pre.length cv)] 74 (0, 0)) from blk_below B3.out hb); have NR := aM (show Kd.R k76 76 w4 w0.heap.size (fun k => ok k ∧ k ≠ b6) (.slice Av pre.length cv) pre from Kd.R_below (Kd.R_mono (Kd.R_bound HR.out) (fun k hk => ⟨hk.1, by rw [hg]; exact Nat.ne_of_lt hk.2.2.1⟩)) hb); have NB := aM (below_step HB.out hb); have HK := aM (KeepBut.of_below hb bo (.slice Av pre.length cv : Value).ownBlock); have G6 := aM (show W.heap.size ≤ b6 by rw [hg]; exact Nat.le_refl _); have L6 := aM (show b6 < w4.heap.size from blk_lt hbox); have VL := aM (Kd.R_lt HR.out); have HBW := aM HB.out; clear hb hbox hg B1 B2 B3 HR HB; have B1 := N1; have B2 := N2; have B3 := N3; have HR := NR; have HB := NB; clear N1 N2 N3 NR NB; have FR := aM (show ∀ k, w4.heap.size ≤ k → ok k ∧ k ≠ b6 from fun k hk => ⟨GF.out k (Nat.le_trans (keep_size HK.out) hk), Nat.ne_of_gt (Nat.lt_of_lt_of_le L6.out hk)⟩); have N6o := aM (show b6 ≠ bo from blk_ne BP.out B3.out (by decide)); have No6 := aM (show bo ≠ b6 from blk_ne B3.out BP.out (by decide)); have Nf6 := aM (show bf ≠ b6 from blk_ne B1.out BP.out (by decide)); have Ng6 := aM (show bg ≠ b6 from blk_ne B2.out BP.out (by decide)); have m1 := N6o.out; have m2 := No6.out; have m3 := Nf6.out; have m4 := Nf6.out.symm; have m5 := Ng6.out; have m6 := Ng6.out.symm; have hfa : w4.cell? ⟨bf, 0, none⟩ = some (.slice A0 f.length c0) := (blk_cell B1.out 0).trans rfl; have zfa := blk_frozen B1.out 0; have hga : w4.cell? ⟨bg, 0, none⟩ = some (.func (.func 61) #[] #[.pointer (some ⟨bf, 0, none⟩), .pointer (some ⟨bg, 0, none⟩), .pointer (some ⟨bo, 0, none⟩)]) := (blk_cell B2.out 0).trans rfl; have zga := blk_frozen B2.out 0; have hoa : w4.cell? ⟨bo, 0, none⟩ = some (.slice Av pre.length cv) := (blk_cell B3.out 0).trans rfl; have zoa := blk_frozen B3.out 0; have hpa : w4.cell? ⟨b6, 0, none⟩ = some (.int .u64 p0) := (blk_cell BP.out 0).trans rfl; have zpa := blk_frozen BP.out 0; have hqa : w4.cell? ⟨b6, 1, none⟩ = some (.int .u64 p1) := (blk_cell BP.out 1).trans rfl; have zqa := blk_frozen BP.out 1) | (go_at_call 61; (with_reducible refine (IH.out.app _ (fun k => ok k ∧ k ≠ b6) _ pre ⟨B1.out, B2.out, B3.out, GF1.out, GG1.out, GO.out, HR.out, FR.out, HB.out⟩ HL.out).mono ?_); rintro e w5 ⟨⟨u5, rfl⟩, hb5, hk5, v5, h5, hr5, ho5⟩; have HB5 := aM hb5; have HK5 := aM (KeepBut.trans HK.out hk5 (.inl rfl)); have H5 := aM h5; have HR5 := aM hr5; have HO5 := aM ho5; clear hb5 hk5 h5 hr5 ho5))
  first | refine bodyPost_ret (results_none rfl _ _ _) rfl ?_ | refine bodyPost_end (results_none rfl _ _ _) rfl ?_
  exact ⟨⟨_, rfl⟩, HB5.out, HK5.out, v5, H5.out, Kd.R_mono HR5.out (fun _ hk => hk.1), HO5.out.imp id (fun ⟨b, hb, hl⟩ => ⟨b, hb, Nat.le_trans (keep_size HK.out) hl⟩)⟩
set_option maxHeartbeats 16000000 in
set_option maxRecDepth 100000 in
theorem grow_step0 (k : Nat) (w0 : World) (bf bg bo : Nat) (A0 : Option Addr) (c0 : Nat) (f : List (List Int)) (hr0 : Kd.C (Kd.slice 3 (Kd.int .i64)) w0 A0 f.length f) (hc0 : f.length ≤ c0) (p0 p1 at_ : Int) (La Lb : List S76) (BB : Bool) (he : (at_ == (f.length : Int)) = false) (hj : 0 ≤ IntKind.u64.wrap at_) (hF : d_fits.f k f p0 p1 at_ 0 = some BB)
  (h1 : GrowC w0 bf bg bo A0 c0 f 0 (wrap64 (at_ + 1)) p0 p1 La) (h2 : if BB = true then GrowC w0 bf bg bo A0 c0 f 0 (wrap64 (at_ + 1)) (orB p0 at_) p1 Lb else Lb = []) : GrowC w0 bf bg bo A0 c0 f 0 at_ p0 p1 (La ++ Lb) := by
 intro W ok v pre hpre hlen
 obtain ⟨Av, cv, ev⟩ := Kd.R_slice hpre.row
 subst ev
 have B1 := aM hpre.b1
 have B2 := aM hpre.b2
 have B3 := aM hpre.b3
 have HR := aM hpre.row
 have HB := aM hpre.bel
 have GF := aM hpre.fresh
 have HC := aM hr0
 have HC0 := aM hc0
 have GO := aM hpre.go
 have GF1 := aM hpre.gf
 have GG1 := aM hpre.gg
 have HL := aM hlen
 have N13 := aM (show bf ≠ bo from blk_ne hpre.b1 hpre.b3 (by decide))
 have N23 := aM (show bg ≠ bo from blk_ne hpre.b2 hpre.b3 (by decide))
 clear hpre hlen hr0 hc0
 have IH1 := aM h1
 have HF := aM hF
 have HL1 := aM (show pre.length + La.length ≤ 17000000 by have := HL.out; rw [List.length_append] at this; omega)
 unfold orB at h2
 obtain ⟨j1, hj1⟩ : ∃ j_ : Int, IntKind.u64.wrap at_ = j_ := ⟨_, rfl⟩
 rw [hj1] at hj h2
 have c14b0 := eq_true hj
 have c14b1 : decide (0 ≤ j1) = true := decide_eq_true hj
 obtain ⟨j2, hj2⟩ : ∃ j_ : Int, shl .u64 1 j1 = j_ := ⟨_, rfl⟩
 rw [hj2] at h2
 have hj2_ : (IntKind.u64.wrap (1 * 2 ^ min j1.toNat 64)) = j2 := hj2
 have hj2z : j1 ≤ 64 → (IntKind.u64.wrap (1 * 2 ^ j1.toNat)) = j2 := shl_small hj2
 have hj2u : (IntKind.u64.wrap (2 ^ min j1.toNat 64)) = j2 := by have h_ := hj2_; rw [Int.one_mul] at h_; exact h_
 have hj2v : j1 ≤ 64 → (IntKind.u64.wrap (2 ^ j1.toNat)) = j2 := fun hle_ => by have h_ := hj2z hle_; rw [Int.one_mul] at h_; exact h_
 clear h1 hF hj
 cases BB with
 | false =>
  rw [if_neg (by simp)] at h2
  subst h2
  go_enter Tryd.func61, Tryd.ntmps61
  go_wp2_with (first | ((with_reducible refine gate_dst (N := 6) rfl ?_); (try (refine gate_guard (by rfl) ?_; dsimp only)); refine bX 6 (cs := #[.int .u64 p0, .int .u64 p1]) (t := 76) ?_; intro b6 hg w4 hbox hb; have BP := aM (show w4.heap[b6]? = some (.cells #[.int .u64 p0, .int .u64 p1] 76 (0, 0)) from hbox); have N1 := aM (show w4.heap[bf]? = some (.cells #[.slice A0 f.length c0] 47 (0, 0)) from blk_below B1.out hb); have N2 := aM (show w4.heap[bg]? = some (.cells #[.func (.func 61) #[] #[.pointer (some ⟨bf, 0, none⟩), .pointer (some ⟨bg, 0, none⟩), .pointer (some ⟨bo, 0, none⟩)]] 86 (0, 0)) from blk_below B2.out hb); have N3 := aM (show w4.heap[bo]? = some (.cells #[(.slice Av pre.length cv)] 74 (0, 0)) from blk_below B3.out hb); have NR := aM (show Kd.R k76 76 w4 w0.heap.size (fun k => ok k ∧ k ≠ b6) (.slice Av pre.length cv) pre from Kd.R_below (Kd.R_mono (Kd.R_bound HR.out) (fun k hk => ⟨hk.1, by rw [hg]; exact Nat.ne_of_lt hk.2.2.1⟩)) hb); have NB := aM (below_step HB.out hb); have HK := aM (KeepBut.of_below hb bo (.slice Av pre.length cv : Value).ownBlock); have G6 := aM (show W.heap.size ≤ b6 by rw [hg]; exact Nat.le_refl _); have L6 := aM (show b6 < w4.heap.size from blk_lt hbox); have VL := aM (Kd.R_lt HR.out); have HBW := aM HB.out; clear hb hbox hg B1 B2 B3 HR HB; have B1 := N1; have B2 := N2; have B3 := N3; have HR := NR; have HB := NB; clear N1 N2 N3 NR NB; have FR := aM (show ∀ k, w4.heap.size ≤ k → ok k ∧ k ≠ b6 from fun k hk => ⟨GF.out k (Nat.le_trans (keep_size HK.out) hk), Nat.ne_of_gt (Nat.lt_of_lt_of_le L6.out hk)⟩); have N6o := aM (show b6 ≠ bo from blk_ne BP.out B3.out (by decide)); have No6 := aM (show bo ≠ b6 from blk_ne B3.out BP.out (by decide)); have Nf6 := aM (show bf ≠ b6 from blk_ne B1.out BP.out (by decide)); have Ng6 := aM (show bg ≠ b6 from blk_ne B2.out BP.out (by decide)); have m1 := N6o.out; have m2 := No6.out; have m3 := Nf6.out; have m4 := Nf6.out.symm; have m5 := Ng6.out; have m6 := Ng6.out.symm; have hfa : w4.cell? ⟨bf, 0, none⟩ = some (.slice A0 f.length c0) := (blk_cell B1.out 0).trans rfl; have zfa := blk_frozen B1.out 0; have hga : w4.cell? ⟨bg, 0, none⟩ = some (.func (.func 61) #[] #[.pointer (some ⟨bf, 0, none⟩), .pointer (some ⟨bg, 0, none⟩), .pointer (some ⟨bo, 0, none⟩)]) := (blk_cell B2.out 0).trans rfl; have zga := blk_frozen B2.out 0; have hoa : w4.cell? ⟨bo, 0, none⟩ = some (.slice Av pre.length cv) := (blk_cell B3.out 0).trans rfl; have zoa := blk_frozen B3.out 0; have hpa : w4.cell? ⟨b6, 0, none⟩ = some (.int .u64 p0) := (blk_cell BP.out 0).trans rfl; have zpa := blk_frozen BP.out 0; have hqa : w4.cell? ⟨b6, 1, none⟩ = some (.int .u64 p1) := (blk_cell BP.out 1).trans rfl; have zqa := blk_frozen BP.out 1) | (go_at_call 61; (with_reducible refine (IH1.out.app _ (fun k => ok k ∧ k ≠ b6) _ pre ⟨B1.out, B2.out, B3.out, GF1.out, GG1.out, GO.out, HR.out, FR.out, HB.out⟩ HL1.out).mono ?_); rintro e w5 ⟨⟨u5, rfl⟩, hb5, hk5, v5, h5, hr5, ho5⟩; obtain ⟨xs5, hx5⟩ : ∃ y_ : List S76, y_ = pre ++ La := ⟨_, rfl⟩; rw [← hx5] at hr5; have HX5 := aM hx5; clear hx5; obtain ⟨A5, c5, ev5⟩ := Kd.R_slice hr5; subst ev5; have N1 := aM (show w5.heap[bf]? = some (.cells #[.slice A0 f.length c0] 47 (0, 0)) from hk5.blk B1.out N13.out (row_ne HR.out B1.out (by decide))); have N2 := aM (show w5.heap[bg]? = some (.cells #[.func (.func 61) #[] #[.pointer (some ⟨bf, 0, none⟩), .pointer (some ⟨bg, 0, none⟩), .pointer (some ⟨bo, 0, none⟩)]] 86 (0, 0)) from hk5.blk B2.out N23.out (row_ne HR.out B2.out (by decide))); have N3 := aM (show w5.heap[bo]? = some (.cells #[(.slice A5 xs5.length c5)] 74 (0, 0)) from h5); have NP := aM (show w5.heap[b6]? = some (.cells #[.int .u64 p0, .int .u64 p1] 76 (0, 0)) from hk5.blk BP.out N6o.out (fun e => Nat.lt_irrefl _ (Nat.lt_of_lt_of_le (VL.out b6 e.symm) G6.out))); have NK := aM (KeepBut.trans HK.out hk5 (.inl rfl)); have HS4 := aM (keep_size HK.out); have FR5 := aM (show ∀ k, w5.heap.size ≤ k → ok k ∧ k ≠ b6 from fun k hk => FR.out k (Nat.le_trans hk5.1 hk)); have HO5 := aM ho5; have NR := aM hr5; have NB := aM hb5; clear hb5 hk5 h5 hr5 ho5 FR B1 B2 B3 BP HR HB HK; have B1 := N1; have B2 := N2; have B3 := N3; have BP := NP; have HR := NR; have HB := NB; have HK := NK; clear N1 N2 N3 NP NR NB NK; have hfb : w5.cell? ⟨bf, 0, none⟩ = some (.slice A0 f.length c0) := (blk_cell B1.out 0).trans rfl; have zfb := blk_frozen B1.out 0; have hgb : w5.cell? ⟨bg, 0, none⟩ = some (.func (.func 61) #[] #[.pointer (some ⟨bf, 0, none⟩), .pointer (some ⟨bg, 0, none⟩), .pointer (some ⟨bo, 0, none⟩)]) := (blk_cell B2.out 0).trans rfl; have zgb := blk_frozen B2.out 0; have hob : w5.cell? ⟨bo, 0, none⟩ = some (.slice A5 xs5.length c5) := (blk_cell B3.out 0).trans rfl; have zob := blk_frozen B3.out 0; have hpb : w5.cell? ⟨b6, 0, none⟩ = some (.int .u64 p0) := (blk_cell BP.out 0).trans rfl; have zpb := blk_frozen BP.out 0; have hqb : w5.cell? ⟨b6, 1, none⟩ = some (.int .u64 p1) := (blk_cell BP.out 1).trans rfl; have zqb := blk_frozen BP.out 1) | (go_at_call 63; (with_reducible refine (d_fits.calls k A0 c0 f p0 p1 at_ 0 _ _ ?side1 ?side2 HF.out).mono ?_); (case side1 => repeat (first | exact (Kd.C_below HC.out HB.out) | (with_reducible refine Kd.C_alloc ?_ _) | (with_reducible refine Kd.C_drewN ?_ _) | (with_reducible refine Kd.C_drew ?_))); (case side2 => exact HC0.out); rintro e w6 ⟨rfl, hb⟩; have FR6 := aM (show ∀ k, w6.heap.size ≤ k → ok k ∧ k ≠ b6 from fun k hk => FR5.out k (Nat.le_trans (below_size (by repeat (first | exact hb | apply below_alloc))) hk)); have N1 := aM (show w6.heap[bf]? = some (.cells #[.slice A0 f.length c0] 47 (0, 0)) from blk_below (kB B1.out) hb); have N2 := aM (show w6.heap[bg]? = some (.cells #[.func (.func 61) #[] #[.pointer (some ⟨bf, 0, none⟩), .pointer (some ⟨bg, 0, none⟩), .pointer (some ⟨bo, 0, none⟩)]] 86 (0, 0)) from blk_below (kB B2.out) hb); have N3 := aM (show w6.heap[bo]? = some (.cells #[(.slice A5 xs5.length c5)] 74 (0, 0)) from blk_below (kB B3.out) hb); have NP := aM (show w6.heap[b6]? = some (.cells #[.int .u64 p0, .int .u64 p1] 76 (0, 0)) from blk_below (kB BP.out) hb); have NR := aM (Kd.R_below (oR HR.out) hb); have NB := aM (below_step (bB HB.out) hb); have NK := aM (KeepBut.trans (by first | exact HK.out | exact keep_drew HK.out) (KeepBut.of_below hb bo (.slice Av pre.length cv : Value).ownBlock) (.inl rfl)); clear B1 B2 B3 BP HR HB HK; have B1 := N1; have B2 := N2; have B3 := N3; have BP := NP; have HR := NR; have HB := NB; have HK := NK; clear N1 N2 N3 NP NR NB NK; clear hb; have hfc : w6.cell? ⟨bf, 0, none⟩ = some (.slice A0 f.length c0) := (blk_cell B1.out 0).trans rfl; have zfc := blk_frozen B1.out 0; have hgc : w6.cell? ⟨bg, 0, none⟩ = some (.func (.func 61) #[] #[.pointer (some ⟨bf, 0, none⟩), .pointer (some ⟨bg, 0, none⟩), .pointer (some ⟨bo, 0, none⟩)]) := (blk_cell B2.out 0).trans rfl; have zgc := blk_frozen B2.out 0; have hoc : w6.cell? ⟨bo, 0, none⟩ = some (.slice A5 xs5.length c5) := (blk_cell B3.out 0).trans rfl; have zoc := blk_frozen B3.out 0; have hpc : w6.cell? ⟨b6, 0, none⟩ = some (.int .u64 p0) := (blk_cell BP.out 0).trans rfl; have zpc := blk_frozen BP.out 0; have hqc : w6.cell? ⟨b6, 1, none⟩ = some (.int .u64 p1) := (blk_cell BP.out 1).trans rfl; have zqc := blk_frozen BP.out 1))
  first | refine bodyPost_ret (results_none rfl _ _ _) rfl ?_ | refine bodyPost_end (results_none rfl _ _ _) rfl ?_
  exact ⟨⟨_, rfl⟩, bB HB.out, HK.out, _, B3.out, by rw [List.append_nil, ← HX5.out]; exact Kd.R_mono HR.out (fun _ hk => hk.1), HO5.out.imp id (fun ⟨b, hb, hl⟩ => ⟨b, hb, Nat.le_trans HS4.out hl⟩)⟩
 | true =>
  rw [if_pos rfl] at h2
  have IH2 := aM h2
  clear h2
  go_enter Tryd.func61, Tryd.ntmps61
  go_wp2_with (first | ((with_reducible refine gate_dst (N := 6) rfl ?_); (try (refine gate_guard (by rfl) ?_; dsimp only)); refine bX 6 (cs := #[.int .u64 p0, .int .u64 p1]) (t := 76) ?_; intro b6 hg w4 hbox hb; have BP := aM (show w4.heap[b6]? = some (.cells #[.int .u64 p0, .int .u64 p1] 76 (0, 0)) from hbox); have N1 := aM (show w4.heap[bf]? = some (.cells #[.slice A0 f.length c0] 47 (0, 0)) from blk_below B1.out hb); have N2 := aM (show w4.heap[bg]? = some (.cells #[.func (.func 61) #[] #[.pointer (some ⟨bf, 0, none⟩), .pointer (some ⟨bg, 0, none⟩), .pointer (some ⟨bo, 0, none⟩)]] 86 (0, 0)) from blk_below B2.out hb); have N3 := aM (show w4.heap[bo]? = some (.cells #[(.slice Av pre.length cv)] 74 (0, 0)) from blk_below B3.out hb); have NR := aM (show Kd.R k76 76 w4 w0.heap.size (fun k => ok k ∧ k ≠ b6) (.slice Av pre.length cv) pre from Kd.R_below (Kd.R_mono (Kd.R_bound HR.out) (fun k hk => ⟨hk.1, by rw [hg]; exact Nat.ne_of_lt hk.2.2.1⟩)) hb); have NB := aM (below_step HB.out hb); have HK := aM (KeepBut.of_below hb bo (.slice Av pre.length cv : Value).ownBlock); have G6 := aM (show W.heap.size ≤ b6 by rw [hg]; exact Nat.le_refl _); have L6 := aM (show b6 < w4.heap.size from blk_lt hbox); have VL := aM (Kd.R_lt HR.out); have HBW := aM HB.out; clear hb hbox hg B1 B2 B3 HR HB; have B1 := N1; have B2 := N2; have B3 := N3; have HR := NR; have HB := NB; clear N1 N2 N3 NR NB; have FR := aM (show ∀ k, w4.heap.size ≤ k → ok k ∧ k ≠ b6 from fun k hk => ⟨GF.out k (Nat.le_trans (keep_size HK.out) hk), Nat.ne_of_gt (Nat.lt_of_lt_of_le L6.out hk)⟩); have N6o := aM (show b6 ≠ bo from blk_ne BP.out B3.out (by decide)); have No6 := aM (show bo ≠ b6 from blk_ne B3.out BP.out (by decide)); have Nf6 := aM (show bf ≠ b6 from blk_ne B1.out BP.out (by decide)); have Ng6 := aM (show bg ≠ b6 from blk_ne B2.out BP.out (by decide)); have m1 := N6o.out; have m2 := No6.out; have m3 := Nf6.out; have m4 := Nf6.out.symm; have m5 := Ng6.out; have m6 := Ng6.out.symm; have hfa : w4.cell? ⟨bf, 0, none⟩ = some (.slice A0 f.length c0) := (blk_cell B1.out 0).trans rfl; have zfa := blk_frozen B1.out 0; have hga : w4.cell? ⟨bg, 0, none⟩ = some (.func (.func 61) #[] #[.pointer (some ⟨bf, 0, none⟩), .pointer (some ⟨bg, 0, none⟩), .pointer (some ⟨bo, 0, none⟩)]) := (blk_cell B2.out 0).trans rfl; have zga := blk_frozen B2.out 0; have hoa : w4.cell? ⟨bo, 0, none⟩ = some (.slice Av pre.length cv) := (blk_cell B3.out 0).trans rfl; have zoa := blk_frozen B3.out 0; have hpa : w4.cell? ⟨b6, 0, none⟩ = some (.int .u64 p0) := (blk_cell BP.out 0).trans rfl; have zpa := blk_frozen BP.out 0; have hqa : w4.cell? ⟨b6, 1, none⟩ = some (.int .u64 p1) := (blk_cell BP.out 1).trans rfl; have zqa := blk_frozen BP.out 1) | (go_at_call 61; (with_reducible refine (IH1.out.app _ (fun k => ok k ∧ k ≠ b6) _ pre ⟨B1.out, B2.out, B3.out, GF1.out, GG1.out, GO.out, HR.out, FR.out, HB.out⟩ HL1.out).mono ?_); rintro e w5 ⟨⟨u5, rfl⟩, hb5, hk5, v5, h5, hr5, ho5⟩; obtain ⟨xs5, hx5⟩ : ∃ y_ : List S76, y_ = pre ++ La := ⟨_, rfl⟩; rw [← hx5] at hr5; have HX5 := aM hx5; clear hx5; obtain ⟨A5, c5, ev5⟩ := Kd.R_slice hr5; subst ev5; have N1 := aM (show w5.heap[bf]? = some (.cells #[.slice A0 f.length c0] 47 (0, 0)) from hk5.blk B1.out N13.out (row_ne HR.out B1.out (by decide))); have N2 := aM (show w5.heap[bg]? = some (.cells #[.func (.func 61) #[] #[.pointer (some ⟨bf, 0, none⟩), .pointer (some ⟨bg, 0, none⟩), .pointer (some ⟨bo, 0, none⟩)]] 86 (0, 0)) from hk5.blk B2.out N23.out (row_ne HR.out B2.out (by decide))); have N3 := aM (show w5.heap[bo]? = some (.cells #[(.slice A5 xs5.length c5)] 74 (0, 0)) from h5); have NP := aM (show w5.heap[b6]? = some (.cells #[.int .u64 p0, .int .u64 p1] 76 (0, 0)) from hk5.blk BP.out N6o.out (fun e => Nat.lt_irrefl _ (Nat.lt_of_lt_of_le (VL.out b6 e.symm) G6.out))); have NK := aM (KeepBut.trans HK.out hk5 (.inl rfl)); have HS4 := aM (keep_size HK.out); have FR5 := aM (show ∀ k, w5.heap.size ≤ k → ok k ∧ k ≠ b6 from fun k hk => FR.out k (Nat.le_trans hk5.1 hk)); have HO5 := aM ho5; have NR := aM hr5; have NB := aM hb5; clear hb5 hk5 h5 hr5 ho5 FR B1 B2 B3 BP HR HB HK; have B1 := N1; have B2 := N2; have B3 := N3; have BP := NP; have HR := NR; have HB := NB; have HK := NK; clear N1 N2 N3 NP NR NB NK; have hfb : w5.cell? ⟨bf, 0, none⟩ = some (.slice A0 f.length c0) := (blk_cell B1.out 0).trans rfl; have zfb := blk_frozen B1.out 0; have hgb : w5.cell? ⟨bg, 0, none⟩ = some (.func (.func 61) #[] #[.pointer (some ⟨bf, 0, none⟩), .pointer (some ⟨bg, 0, none⟩), .pointer (some ⟨bo, 0, none⟩)]) := (blk_cell B2.out 0).trans rfl; have zgb := blk_frozen B2.out 0; have hob : w5.cell? ⟨bo, 0, none⟩ = some (.slice A5 xs5.length c5) := (blk_cell B3.out 0).trans rfl; have zob := blk_frozen B3.out 0; have hpb : w5.cell? ⟨b6, 0, none⟩ = some (.int .u64 p0) := (blk_cell BP.out 0).trans rfl; have zpb := blk_frozen BP.out 0; have hqb : w5.cell? ⟨b6, 1, none⟩ = some (.int .u64 p1) := (blk_cell BP.out 1).trans rfl; have zqb := blk_frozen BP.out 1) | (go_at_call 63; (with_reducible refine (d_fits.calls k A0 c0 f p0 p1 at_ 0 _ _ ?side1 ?side2 HF.out).mono ?_); (case side1 => repeat (first | exact (Kd.C_below HC.out HB.out) | (with_reducible refine Kd.C_alloc ?_ _) | (with_reducible refine Kd.C_drewN ?_ _) | (with_reducible refine Kd.C_drew ?_))); (case side2 => exact HC0.out); rintro e w6 ⟨rfl, hb⟩; have FR6 := aM (show ∀ k, w6.heap.size ≤ k → ok k ∧ k ≠ b6 from fun k hk => FR5.out k (Nat.le_trans (below_size (by repeat (first | exact hb | apply below_alloc))) hk)); have N1 := aM (show w6.heap[bf]? = some (.cells #[.slice A0 f.length c0] 47 (0, 0)) from blk_below (kB B1.out) hb); have N2 := aM (show w6.heap[bg]? = some (.cells #[.func (.func 61) #[] #[.pointer (some ⟨bf, 0, none⟩), .pointer (some ⟨bg, 0, none⟩), .pointer (some ⟨bo, 0, none⟩)]] 86 (0, 0)) from blk_below (kB B2.out) hb); have N3 := aM (show w6.heap[bo]? = some (.cells #[(.slice A5 xs5.length c5)] 74 (0, 0)) from blk_below (kB B3.out) hb); have NP := aM (show w6.heap[b6]? = some (.cells #[.int .u64 p0, .int .u64 p1] 76 (0, 0)) from blk_below (kB BP.out) hb); have NR := aM (Kd.R_below (oR HR.out) hb); have NB := aM (below_step (bB HB.out) hb); have NK := aM (KeepBut.trans (by first | exact HK.out | exact keep_drew HK.out) (KeepBut.of_below hb bo (.slice Av pre.length cv : Value).ownBlock) (.inl rfl)); clear B1 B2 B3 BP HR HB HK; have B1 := N1; have B2 := N2; have B3 := N3; have BP := NP; have HR := NR; have HB := NB; have HK := NK; clear N1 N2 N3 NP NR NB NK; clear hb; have hfc : w6.cell? ⟨bf, 0, none⟩ = some (.slice A0 f.length c0) := (blk_cell B1.out 0).trans rfl; have zfc := blk_frozen B1.out 0; have hgc : w6.cell? ⟨bg, 0, none⟩ = some (.func (.func 61) #[] #[.pointer (some ⟨bf, 0, none⟩), .pointer (some ⟨bg, 0, none⟩), .pointer (some ⟨bo, 0, none⟩)]) := (blk_cell B2.out 0).trans rfl; have zgc := blk_frozen B2.out 0; have hoc : w6.cell? ⟨bo, 0, none⟩ = some (.slice A5 xs5.length c5) := (blk_cell B3.out 0).trans rfl; have zoc := blk_frozen B3.out 0; have hpc : w6.cell? ⟨b6, 0, none⟩ = some (.int .u64 p0) := (blk_cell BP.out 0).trans rfl; have zpc := blk_frozen BP.out 0; have hqc : w6.cell? ⟨b6, 1, none⟩ = some (.int .u64 p1) := (blk_cell BP.out 1).trans rfl; have zqc := blk_frozen BP.out 1) | (go_at_call 61; (with_reducible refine (IH2.out.app _ (fun k => ok k ∧ k ≠ b6) (.slice A5 xs5.length c5) xs5 ⟨?q1, ?q2, ?q3, GF1.out, GG1.out, GO.out, ?q4, ?q5, ?q6⟩ ?q7).mono ?_); (case q1 => exact blk_far B1.out Nf6.out _); (case q2 => exact blk_far B2.out Ng6.out _); (case q3 => exact blk_far B3.out No6.out _); (case q4 => exact Kd.R_far (p := ⟨b6, 0, none⟩) HR.out (fun _ hk => hk.2) _); (case q5 => exact fun k hk => FR6.out k (by simpa [World.setCell] using hk)); (case q6 => exact HB.out.setCell (Nat.le_trans (below_size HBW.out) G6.out) _); (case q7 => rw [HX5.out, List.length_append]; have := HL.out; rw [List.length_append] at this; omega); rintro e w9 ⟨⟨u9, rfl⟩, hb9, hk9, v9, h9, hr9, ho9⟩; have HB9 := aM hb9; have HK9 := aM (KeepBut.trans (keep_far HK.out (p := ⟨b6, 0, none⟩) G6.out _) hk9 (HO5.out.imp id (fun ⟨b, hb, hl⟩ => ⟨b, hb, Nat.le_trans HS4.out hl⟩))); have H9 := aM h9; have HR9 := aM hr9; have HS6 := aM (keep_size HK.out); have HO9 := aM (show v9.ownBlock = (.slice A5 xs5.length c5 : Value).ownBlock ∨ ∃ b, v9.ownBlock = some b ∧ w6.heap.size ≤ b from ho9.imp id (fun ⟨b, hb, hl⟩ => ⟨b, hb, by simpa [World.setCell] using hl⟩)); clear hb9 hk9 h9 hr9 ho9))
  first | refine bodyPost_ret (results_none rfl _ _ _) rfl ?_ | refine bodyPost_end (results_none rfl _ _ _) rfl ?_
  refine ⟨⟨_, rfl⟩, HB9.out, HK9.out, v9, H9.out, ?_, ?_⟩
  ·rw [← List.append_assoc, ← HX5.out]; exact Kd.R_mono HR9.out (fun _ hk => hk.1)
  ·rcases HO9.out with e | ⟨b, hb, hl⟩
   ·rw [e]; exact HO5.out.imp id (fun ⟨b, hb, hl⟩ => ⟨b, hb, Nat.le_trans HS4.out hl⟩)
   ·exact .inr ⟨b, hb, Nat.le_trans HS6.out hl⟩
set_option maxHeartbeats 16000000 in
set_option maxRecDepth 100000 in
theorem grow_step1 (k : Nat) (w0 : World) (bf bg bo : Nat) (A0 : Option Addr) (c0 : Nat) (f : List (List Int)) (hr0 : Kd.C (Kd.slice 3 (Kd.int .i64)) w0 A0 f.length f) (hc0 : f.length ≤ c0) (p0 p1 at_ : Int) (La Lb : List S76) (BB : Bool) (he : (at_ == (f.length : Int)) = false) (hj : 0 ≤ IntKind.u64.wrap at_) (hF : d_fits.f k f p0 p1 at_ 1 = some BB)
  (h1 : GrowC w0 bf bg bo A0 c0 f 1 (wrap64 (at_ + 1)) p0 p1 La) (h2 : if BB = true then GrowC w0 bf bg bo A0 c0 f 1 (wrap64 (at_ + 1)) p0 (orB p1 at_) Lb else Lb = []) : GrowC w0 bf bg bo A0 c0 f 1 at_ p0 p1 (La ++ Lb) := by
 intro W ok v pre hpre hlen
 obtain ⟨Av, cv, ev⟩ := Kd.R_slice hpre.row
 subst ev
 have B1 := aM hpre.b1
 have B2 := aM hpre.b2
 have B3 := aM hpre.b3
 have HR := aM hpre.row
 have HB := aM hpre.bel
 have GF := aM hpre.fresh
 have HC := aM hr0
 have HC0 := aM hc0
 have GO := aM hpre.go
 have GF1 := aM hpre.gf
 have GG1 := aM hpre.gg
 have HL := aM hlen
 have N13 := aM (show bf ≠ bo from blk_ne hpre.b1 hpre.b3 (by decide))
 have N23 := aM (show bg ≠ bo from blk_ne hpre.b2 hpre.b3 (by decide))
 clear hpre hlen hr0 hc0
 have IH1 := aM h1
 have HF := aM hF
 have HL1 := aM (show pre.length + La.length ≤ 17000000 by have := HL.out; rw [List.length_append] at this; omega)
 unfold orB at h2
 obtain ⟨j1, hj1⟩ : ∃ j_ : Int, IntKind.u64.wrap at_ = j_ := ⟨_, rfl⟩
 rw [hj1] at hj h2
 have c14b0 := eq_true hj
 have c14b1 : decide (0 ≤ j1) = true := decide_eq_true hj
 obtain ⟨j2, hj2⟩ : ∃ j_ : Int, shl .u64 1 j1 = j_ := ⟨_, rfl⟩
 rw [hj2] at h2
 have hj2_ : (IntKind.u64.wrap (1 * 2 ^ min j1.toNat 64)) = j2 := hj2
 have hj2z : j1 ≤ 64 → (IntKind.u64.wrap (1 * 2 ^ j1.toNat)) = j2 := shl_small hj2
 have hj2u : (IntKind.u64.wrap (2 ^ min j1.toNat 64)) = j2 := by have h_ := hj2_; rw [Int.one_mul] at h_; exact h_
 have hj2v : j1 ≤ 64 → (IntKind.u64.wrap (2 ^ j1.toNat)) = j2 := fun hle_ => by have h_ := hj2z hle_; rw [Int.one_mul] at h_; exact h_
 clear h1 hF hj
 cases BB with
 | false =>
  rw [if_neg (by simp)] at h2
  subst h2
  go_enter Tryd.func61, Tryd.ntmps61
  go_wp2_with (first | ((with_reducible refine gate_dst (N := 6) rfl ?_); (try (refine gate_guard (by rfl) ?_; dsimp only)); refine bX 6 (cs := #[.int .u64 p0, .int .u64 p1]) (t := 76) ?_; intro b6 hg w4 hbox hb; have BP := aM (show w4.heap[b6]? = some (.cells #[.int .u64 p0, .int .u64 p1] 76 (0, 0)) from hbox); have N1 := aM (show w4.heap[bf]? = some (.cells #[.slice A0 f.length c0] 47 (0, 0)) from blk_below B1.out hb); have N2 := aM (show w4.heap[bg]? = some (.cells #[.func (.func 61) #[] #[.pointer (some ⟨bf, 0, none⟩), .pointer (some ⟨bg, 0, none⟩), .pointer (some ⟨bo, 0, none⟩)]] 86 (0, 0)) from blk_below B2.out hb); have N3 := aM (show w4.heap[bo]? = some (.cells #[(.slice Av pre.length cv)] 74 (0, 0)) from blk_below B3.out hb); have NR := aM (show Kd.R k76 76 w4 w0.heap.size (fun k => ok k ∧ k ≠ b6) (.slice Av pre.length cv) pre from Kd.R_below (Kd.R_mono (Kd.R_bound HR.out) (fun k hk => ⟨hk.1, by rw [hg]; exact Nat.ne_of_lt hk.2.2.1⟩)) hb); have NB := aM (below_step HB.out hb); have HK := aM (KeepBut.of_below hb bo (.slice Av pre.length cv : Value).ownBlock); have G6 := aM (show W.heap.size ≤ b6 by rw [hg]; exact Nat.le_refl _); have L6 := aM (show b6 < w4.heap.size from blk_lt hbox); have VL := aM (Kd.R_lt HR.out); have HBW := aM HB.out; clear hb hbox hg B1 B2 B3 HR HB; have B1 := N1; have B2 := N2; have B3 := N3; have HR := NR; have HB := NB; clear N1 N2 N3 NR NB; have FR := aM (show ∀ k, w4.heap.size ≤ k → ok k ∧ k ≠ b6 from fun k hk => ⟨GF.out k (Nat.le_trans (keep_size HK.out) hk), Nat.ne_of_gt (Nat.lt_of_lt_of_le L6.out hk)⟩); have N6o := aM (show b6 ≠ bo from blk_ne BP.out B3.out (by decide)); have No6 := aM (show bo ≠ b6 from blk_ne B3.out BP.out (by decide)); have Nf6 := aM (show bf ≠ b6 from blk_ne B1.out BP.out (by decide)); have Ng6 := aM (show bg ≠ b6 from blk_ne B2.out BP.out (by decide)); have m1 := N6o.out; have m2 := No6.out; have m3 := Nf6.out; have m4 := Nf6.out.symm; have m5 := Ng6.out; have m6 := Ng6.out.symm; have hfa : w4.cell? ⟨bf, 0, none⟩ = some (.slice A0 f.length c0) := (blk_cell B1.out 0).trans rfl; have zfa := blk_frozen B1.out 0; have hga : w4.cell? ⟨bg, 0, none⟩ = some (.func (.func 61) #[] #[.pointer (some ⟨bf, 0, none⟩), .pointer (some ⟨bg, 0, none⟩), .pointer (some ⟨bo, 0, none⟩)]) := (blk_cell B2.out 0).trans rfl; have zga := blk_frozen B2.out 0; have hoa : w4.cell? ⟨bo, 0, none⟩ = some (.slice Av pre.length cv) := (blk_cell B3.out 0).trans rfl; have zoa := blk_frozen B3.out 0; have hpa : w4.cell? ⟨b6, 0, none⟩ = some (.int .u64 p0) := (blk_cell BP.out 0).trans rfl; have zpa := blk_frozen BP.out 0; have hqa : w4.cell? ⟨b6, 1, none⟩ = some (.int .u64 p1) := (blk_cell BP.out 1).trans rfl; have zqa := blk_frozen BP.out 1) | (go_at_call 61; (with_reducible refine (IH1.out.app _ (fun k => ok k ∧ k ≠ b6) _ pre ⟨B1.out, B2.out, B3.out, GF1.out, GG1.out, GO.out, HR.out, FR.out, HB.out⟩ HL1.out).mono ?_); rintro e w5 ⟨⟨u5, rfl⟩, hb5, hk5, v5, h5, hr5, ho5⟩; obtain ⟨xs5, hx5⟩ : ∃ y_ : List S76, y_ = pre ++ La := ⟨_, rfl⟩; rw [← hx5] at hr5; have HX5 := aM hx5; clear hx5; obtain ⟨A5, c5, ev5⟩ := Kd.R_slice hr5; subst ev5; have N1 := aM (show w5.heap[bf]? = some (.cells #[.slice A0 f.length c0] 47 (0, 0)) from hk5.blk B1.out N13.out (row_ne HR.out B1.out (by decide))); have N2 := aM (show w5.heap[bg]? = some (.cells #[.func (.func 61) #[] #[.pointer (some ⟨bf, 0, none⟩), .pointer (some ⟨bg, 0, none⟩), .pointer (some ⟨bo, 0, none⟩)]] 86 (0, 0)) from hk5.blk B2.out N23.out (row_ne HR.out B2.out (by decide))); have N3 := aM (show w5.heap[bo]? = some (.cells #[(.slice A5 xs5.length c5)] 74 (0, 0)) from h5); have NP := aM (show w5.heap[b6]? = some (.cells #[.int .u64 p0, .int .u64 p1] 76 (0, 0)) from hk5.blk BP.out N6o.out (fun e => Nat.lt_irrefl _ (Nat.lt_of_lt_of_le (VL.out b6 e.symm) G6.out))); have NK := aM (KeepBut.trans HK.out hk5 (.inl rfl)); have HS4 := aM (keep_size HK.out); have FR5 := aM (show ∀ k, w5.heap.size ≤ k → ok k ∧ k ≠ b6 from fun k hk => FR.out k (Nat.le_trans hk5.1 hk)); have HO5 := aM ho5; have NR := aM hr5; have NB := aM hb5; clear hb5 hk5 h5 hr5 ho5 FR B1 B2 B3 BP HR HB HK; have B1 := N1; have B2 := N2; have B3 := N3; have BP := NP; have HR := NR; have HB := NB; have HK := NK; clear N1 N2 N3 NP NR NB NK; have hfb : w5.cell? ⟨bf, 0, none⟩ = some (.slice A0 f.length c0) := (blk_cell B1.out 0).trans rfl; have zfb := blk_frozen B1.out 0; have hgb : w5.cell? ⟨bg, 0, none⟩ = some (.func (.func 61) #[] #[.pointer (some ⟨bf, 0, none⟩), .pointer (some ⟨bg, 0, none⟩), .pointer (some ⟨bo, 0, none⟩)]) := (blk_cell B2.out 0).trans rfl; have zgb := blk_frozen B2.out 0; have hob : w5.cell? ⟨bo, 0, none⟩ = some (.slice A5 xs5.length c5) := (blk_cell B3.out 0).trans rfl; have zob := blk_frozen B3.out 0; have hpb : w5.cell? ⟨b6, 0, none⟩ = some (.int .u64 p0) := (blk_cell BP.out 0).trans rfl; have zpb := blk_frozen BP.out 0; have hqb : w5.cell? ⟨b6, 1, none⟩ = some (.int .u64 p1) := (blk_cell BP.out 1).trans rfl; have zqb := blk_frozen BP.out 1) | (go_at_call 63; (with_reducible refine (d_fits.calls k A0 c0 f p0 p1 at_ 1 _ _ ?side1 ?side2 HF.out).mono ?_); (case side1 => repeat (first | exact (Kd.C_below HC.out HB.out) | (with_reducible refine Kd.C_alloc ?_ _) | (with_reducible refine Kd.C_drewN ?_ _) | (with_reducible refine Kd.C_drew ?_))); (case side2 => exact HC0.out); rintro e w6 ⟨rfl, hb⟩; have FR6 := aM (show ∀ k, w6.heap.size ≤ k → ok k ∧ k ≠ b6 from fun k hk => FR5.out k (Nat.le_trans (below_size (by repeat (first | exact hb | apply below_alloc))) hk)); have N1 := aM (show w6.heap[bf]? = some (.cells #[.slice A0 f.length c0] 47 (0, 0)) from blk_below (kB B1.out) hb); have N2 := aM (show w6.heap[bg]? = some (.cells #[.func (.func 61) #[] #[.pointer (some ⟨bf, 0, none⟩), .pointer (some ⟨bg, 0, none⟩), .pointer (some ⟨bo, 0, none⟩)]] 86 (0, 0)) from blk_below (kB B2.out) hb); have N3 := aM (show w6.heap[bo]? = some (.cells #[(.slice A5 xs5.length c5)] 74 (0, 0)) from blk_below (kB B3.out) hb); have NP := aM (show w6.heap[b6]? = some (.cells #[.int .u64 p0, .int .u64 p1] 76 (0, 0)) from blk_below (kB BP.out) hb); have NR := aM (Kd.R_below (oR HR.out) hb); have NB := aM (below_step (bB HB.out) hb); have NK := aM (KeepBut.trans (by first | exact HK.out | exact keep_drew HK.out) (KeepBut.of_below hb bo (.slice Av pre.length cv : Value).ownBlock) (.inl rfl)); clear B1 B2 B3 BP HR HB HK; have B1 := N1; have B2 := N2; have B3 := N3; have BP := NP; have HR := NR; have HB := NB; have HK := NK; clear N1 N2 N3 NP NR NB NK; clear hb; have hfc : w6.cell? ⟨bf, 0, none⟩ = some (.slice A0 f.length c0) := (blk_cell B1.out 0).trans rfl; have zfc := blk_frozen B1.out 0; have hgc : w6.cell? ⟨bg, 0, none⟩ = some (.func (.func 61) #[] #[.pointer (some ⟨bf, 0, none⟩), .pointer (some ⟨bg, 0, none⟩), .pointer (some ⟨bo, 0, none⟩)]) := (blk_cell B2.out 0).trans rfl; have zgc := blk_frozen B2.out 0; have hoc : w6.cell? ⟨bo, 0, none⟩ = some (.slice A5 xs5.length c5) := (blk_cell B3.out 0).trans rfl; have zoc := blk_frozen B3.out 0; have hpc : w6.cell? ⟨b6, 0, none⟩ = some (.int .u64 p0) := (blk_cell BP.out 0).trans rfl; have zpc := blk_frozen BP.out 0; have hqc : w6.cell? ⟨b6, 1, none⟩ = some (.int .u64 p1) := (blk_cell BP.out 1).trans rfl; have zqc := blk_frozen BP.out 1))
  first | refine bodyPost_ret (results_none rfl _ _ _) rfl ?_ | refine bodyPost_end (results_none rfl _ _ _) rfl ?_
  exact ⟨⟨_, rfl⟩, bB HB.out, HK.out, _, B3.out, by rw [List.append_nil, ← HX5.out]; exact Kd.R_mono HR.out (fun _ hk => hk.1), HO5.out.imp id (fun ⟨b, hb, hl⟩ => ⟨b, hb, Nat.le_trans HS4.out hl⟩)⟩
 | true =>
  rw [if_pos rfl] at h2
  have IH2 := aM h2
  clear h2
  go_enter Tryd.func61, Tryd.ntmps61
  go_wp2_with (first | ((with_reducible refine gate_dst (N := 6) rfl ?_); (try (refine gate_guard (by rfl) ?_; dsimp only)); refine bX 6 (cs := #[.int .u64 p0, .int .u64 p1]) (t := 76) ?_; intro b6 hg w4 hbox hb; have BP := aM (show w4.heap[b6]? = some (.cells #[.int .u64 p0, .int .u64 p1] 76 (0, 0)) from hbox); have N1 := aM (show w4.heap[bf]? = some (.cells #[.slice A0 f.length c0] 47 (0, 0)) from blk_below B1.out hb); have N2 := aM (show w4.heap[bg]? = some (.cells #[.func (.func 61) #[] #[.pointer (some ⟨bf, 0, none⟩), .pointer (some ⟨bg, 0, none⟩), .pointer (some ⟨bo, 0, none⟩)]] 86 (0, 0)) from blk_below B2.out hb); have N3 := aM (show w4.heap[bo]? = some (.cells #[(.slice Av pre.length cv)] 74 (0, 0)) from blk_below B3.out hb); have NR := aM (show Kd.R k76 76 w4 w0.heap.size (fun k => ok k ∧ k ≠ b6) (.slice Av pre.length cv) pre from Kd.R_below (Kd.R_mono (Kd.R_bound HR.out) (fun k hk => ⟨hk.1, by rw [hg]; exact Nat.ne_of_lt hk.2.2.1⟩)) hb); have NB := aM (below_step HB.out hb); have HK := aM (KeepBut.of_below hb bo (.slice Av pre.length cv : Value).ownBlock); have G6 := aM (show W.heap.size ≤ b6 by rw [hg]; exact Nat.le_refl _); have L6 := aM (show b6 < w4.heap.size from blk_lt hbox); have VL := aM (Kd.R_lt HR.out); have HBW := aM HB.out; clear hb hbox hg B1 B2 B3 HR HB; have B1 := N1; have B2 := N2; have B3 := N3; have HR := NR; have HB := NB; clear N1 N2 N3 NR NB; have FR := aM (show ∀ k, w4.heap.size ≤ k → ok k ∧ k ≠ b6 from fun k hk => ⟨GF.out k (Nat.le_trans (keep_size HK.out) hk), Nat.ne_of_gt (Nat.lt_of_lt_of_le L6.out hk)⟩); have N6o := aM (show b6 ≠ bo from blk_ne BP.out B3.out (by decide)); have No6 := aM (show bo ≠ b6 from blk_ne B3.out BP.out (by decide)); have Nf6 := aM (show bf ≠ b6 from blk_ne B1.out BP.out (by decide)); have Ng6 := aM (show bg ≠ b6 from blk_ne B2.out BP.out (by decide)); have m1 := N6o.out; have m2 := No6.out; have m3 := Nf6.out; have m4 := Nf6.out.symm; have m5 := Ng6.out; have m6 := Ng6.out.symm; have hfa : w4.cell? ⟨bf, 0, none⟩ = some (.slice A0 f.length c0) := (blk_cell B1.out 0).trans rfl; have zfa := blk_frozen B1.out 0; have hga : w4.cell? ⟨bg, 0, none⟩ = some (.func (.func 61) #[] #[.pointer (some ⟨bf, 0, none⟩), .pointer (some ⟨bg, 0, none⟩), .pointer (some ⟨bo, 0, none⟩)]) := (blk_cell B2.out 0).trans rfl; have zga := blk_frozen B2.out 0; have hoa : w4.cell? ⟨bo, 0, none⟩ = some (.slice Av pre.length cv) := (blk_cell B3.out 0).trans rfl; have zoa := blk_frozen B3.out 0; have hpa : w4.cell? ⟨b6, 0, none⟩ = some (.int .u64 p0) := (blk_cell BP.out 0).trans rfl; have zpa := blk_frozen BP.out 0; have hqa : w4.cell? ⟨b6, 1, none⟩ = some (.int .u64 p1) := (blk_cell BP.out 1).trans rfl; have zqa := blk_frozen BP.out 1) | (go_at_call 61; (with_reducible refine (IH1.out.app _ (fun k => ok k ∧ k ≠ b6) _ pre ⟨B1.out, B2.out, B3.out, GF1.out, GG1.out, GO.out, HR.out, FR.out, HB.out⟩ HL1.out).mono ?_); rintro e w5 ⟨⟨u5, rfl⟩, hb5, hk5, v5, h5, hr5, ho5⟩; obtain ⟨xs5, hx5⟩ : ∃ y_ : List S76, y_ = pre ++ La := ⟨_, rfl⟩; rw [← hx5] at hr5; have HX5 := aM hx5; clear hx5; obtain ⟨A5, c5, ev5⟩ := Kd.R_slice hr5; subst ev5; have N1 := aM (show w5.heap[bf]? = some (.cells #[.slice A0 f.length c0] 47 (0, 0)) from hk5.blk B1.out N13.out (row_ne HR.out B1.out (by decide))); have N2 := aM (show w5.heap[bg]? = some (.cells #[.func (.func 61) #[] #[.pointer (some ⟨bf, 0, none⟩), .pointer (some ⟨bg, 0, none⟩), .pointer (some ⟨bo, 0, none⟩)]] 86 (0, 0)) from hk5.blk B2.out N23.out (row_ne HR.out B2.out (by decide))); have N3 := aM (show w5.heap[bo]? = some (.cells #[(.slice A5 xs5.length c5)] 74 (0, 0)) from h5); have NP := aM (show w5.heap[b6]? = some (.cells #[.int .u64 p0, .int .u64 p1] 76 (0, 0)) from hk5.blk BP.out N6o.out (fun e => Nat.lt_irrefl _ (Nat.lt_of_lt_of_le (VL.out b6 e.symm) G6.out))); have NK := aM (KeepBut.trans HK.out hk5 (.inl rfl)); have HS4 := aM (keep_size HK.out); have FR5 := aM (show ∀ k, w5.heap.size ≤ k → ok k ∧ k ≠ b6 from fun k hk => FR.out k (Nat.le_trans hk5.1 hk)); have HO5 := aM ho5; have NR := aM hr5; have NB := aM hb5; clear hb5 hk5 h5 hr5 ho5 FR B1 B2 B3 BP HR HB HK; have B1 := N1; have B2 := N2; have B3 := N3; have BP := NP; have HR := NR; have HB := NB; have HK := NK; clear N1 N2 N3 NP NR NB NK; have hfb : w5.cell? ⟨bf, 0, none⟩ = some (.slice A0 f.length c0) := (blk_cell B1.out 0).trans rfl; have zfb := blk_frozen B1.out 0; have hgb : w5.cell? ⟨bg, 0, none⟩ = some (.func (.func 61) #[] #[.pointer (some ⟨bf, 0, none⟩), .pointer (some ⟨bg, 0, none⟩), .pointer (some ⟨bo, 0, none⟩)]) := (blk_cell B2.out 0).trans rfl; have zgb := blk_frozen B2.out 0; have hob : w5.cell? ⟨bo, 0, none⟩ = some (.slice A5 xs5.length c5) := (blk_cell B3.out 0).trans rfl; have zob := blk_frozen B3.out 0; have hpb : w5.cell? ⟨b6, 0, none⟩ = some (.int .u64 p0) := (blk_cell BP.out 0).trans rfl; have zpb := blk_frozen BP.out 0; have hqb : w5.cell? ⟨b6, 1, none⟩ = some (.int .u64 p1) := (blk_cell BP.out 1).trans rfl; have zqb := blk_frozen BP.out 1) | (go_at_call 63; (with_reducible refine (d_fits.calls k A0 c0 f p0 p1 at_ 1 _ _ ?side1 ?side2 HF.out).mono ?_); (case side1 => repeat (first | exact (Kd.C_below HC.out HB.out) | (with_reducible refine Kd.C_alloc ?_ _) | (with_reducible refine Kd.C_drewN ?_ _) | (with_reducible refine Kd.C_drew ?_))); (case side2 => exact HC0.out); rintro e w6 ⟨rfl, hb⟩; have FR6 := aM (show ∀ k, w6.heap.size ≤ k → ok k ∧ k ≠ b6 from fun k hk => FR5.out k (Nat.le_trans (below_size (by repeat (first | exact hb | apply below_alloc))) hk)); have N1 := aM (show w6.heap[bf]? = some (.cells #[.slice A0 f.length c0] 47 (0, 0)) from blk_below (kB B1.out) hb); have N2 := aM (show w6.heap[bg]? = some (.cells #[.func (.func 61) #[] #[.pointer (some ⟨bf, 0, none⟩), .pointer (some ⟨bg, 0, none⟩), .pointer (some ⟨bo, 0, none⟩)]] 86 (0, 0)) from blk_below (kB B2.out) hb); have N3 := aM (show w6.heap[bo]? = some (.cells #[(.slice A5 xs5.length c5)] 74 (0, 0)) from blk_below (kB B3.out) hb); have NP := aM (show w6.heap[b6]? = some (.cells #[.int .u64 p0, .int .u64 p1] 76 (0, 0)) from blk_below (kB BP.out) hb); have NR := aM (Kd.R_below (oR HR.out) hb); have NB := aM (below_step (bB HB.out) hb); have NK := aM (KeepBut.trans (by first | exact HK.out | exact keep_drew HK.out) (KeepBut.of_below hb bo (.slice Av pre.length cv : Value).ownBlock) (.inl rfl)); clear B1 B2 B3 BP HR HB HK; have B1 := N1; have B2 := N2; have B3 := N3; have BP := NP; have HR := NR; have HB := NB; have HK := NK; clear N1 N2 N3 NP NR NB NK; clear hb; have hfc : w6.cell? ⟨bf, 0, none⟩ = some (.slice A0 f.length c0) := (blk_cell B1.out 0).trans rfl; have zfc := blk_frozen B1.out 0; have hgc : w6.cell? ⟨bg, 0, none⟩ = some (.func (.func 61) #[] #[.pointer (some ⟨bf, 0, none⟩), .pointer (some ⟨bg, 0, none⟩), .pointer (some ⟨bo, 0, none⟩)]) := (blk_cell B2.out 0).trans rfl; have zgc := blk_frozen B2.out 0; have hoc : w6.cell? ⟨bo, 0, none⟩ = some (.slice A5 xs5.length c5) := (blk_cell B3.out 0).trans rfl; have zoc := blk_frozen B3.out 0; have hpc : w6.cell? ⟨b6, 0, none⟩ = some (.int .u64 p0) := (blk_cell BP.out 0).trans rfl; have zpc := blk_frozen BP.out 0; have hqc : w6.cell? ⟨b6, 1, none⟩ = some (.int .u64 p1) := (blk_cell BP.out 1).trans rfl; have zqc := blk_frozen BP.out 1) | (go_at_call 61; (with_reducible refine (IH2.out.app _ (fun k => ok k ∧ k ≠ b6) (.slice A5 xs5.length c5) xs5 ⟨?q1, ?q2, ?q3, GF1.out, GG1.out, GO.out, ?q4, ?q5, ?q6⟩ ?q7).mono ?_); (case q1 => exact blk_far B1.out Nf6.out _); (case q2 => exact blk_far B2.out Ng6.out _); (case q3 => exact blk_far B3.out No6.out _); (case q4 => exact Kd.R_far (p := ⟨b6, 1, none⟩) HR.out (fun _ hk => hk.2) _); (case q5 => exact fun k hk => FR6.out k (by simpa [World.setCell] using hk)); (case q6 => exact HB.out.setCell (Nat.le_trans (below_size HBW.out) G6.out) _); (case q7 => rw [HX5.out, List.length_append]; have := HL.out; rw [List.length_append] at this; omega); rintro e w9 ⟨⟨u9, rfl⟩, hb9, hk9, v9, h9, hr9, ho9⟩; have HB9 := aM hb9; have HK9 := aM (KeepBut.trans (keep_far HK.out (p := ⟨b6, 1, none⟩) G6.out _) hk9 (HO5.out.imp id (fun ⟨b, hb, hl⟩ => ⟨b, hb, Nat.le_trans HS4.out hl⟩))); have H9 := aM h9; have HR9 := aM hr9; have HS6 := aM (keep_size HK.out); have HO9 := aM (show v9.ownBlock = (.slice A5 xs5.length c5 : Value).ownBlock ∨ ∃ b, v9.ownBlock = some b ∧ w6.heap.size ≤ b from ho9.imp id (fun ⟨b, hb, hl⟩ => ⟨b, hb, by simpa [World.setCell] using hl⟩)); clear hb9 hk9 h9 hr9 ho9))
  first | refine bodyPost_ret (results_none rfl _ _ _) rfl ?_ | refine bodyPost_end (results_none rfl _ _ _) rfl ?_
  refine ⟨⟨_, rfl⟩, HB9.out, HK9.out, v9, H9.out, ?_, ?_⟩
  ·rw [← List.append_assoc, ← HX5.out]; exact Kd.R_mono HR9.out (fun _ hk => hk.1)
  ·rcases HO9.out with e | ⟨b, hb, hl⟩
   ·rw [e]; exact HO5.out.imp id (fun ⟨b, hb, hl⟩ => ⟨b, hb, Nat.le_trans HS4.out hl⟩)
   ·exact .inr ⟨b, hb, Nat.le_trans HS6.out hl⟩
theorem wrapu_nonneg (z : Int) : 0 ≤ IntKind.u64.wrap z := by
 simp only [IntKind.wrap]
 first | exact Int.emod_nonneg _ (by decide) | (simp; omega) | omega
theorem grow1_all (k : Nat) (w0 : World) (bf bg bo : Nat) (A0 : Option Addr) (c0 : Nat) (f : List (List Int)) (hr0 : Kd.C (Kd.slice 3 (Kd.int .i64)) w0 A0 f.length f) (hc0 : f.length ≤ c0) (hn : f.length ≤ 1000) : ∀ m, m ≤ f.length → ∀ p0 p1 L, grow1 k f m p0 p1 = some L → GrowC w0 bf bg bo A0 c0 f 1 ((f.length - m : Nat) : Int) p0 p1 L
 | 0, _, p0, p1, L, h => grow_end1 k w0 bf bg bo A0 c0 f hr0 hc0 p0 p1 L h
 | m + 1, hm, p0, p1, L, h => by
  unfold grow1 at h
  obtain ⟨La, hLa, h⟩ := Option.bind_eq_some_iff.mp h
  obtain ⟨b, hb, h⟩ := Option.bind_eq_some_iff.mp h
  have ew : wrap64 (((f.length - (m + 1) : Nat) : Int) + 1) = ((f.length - m : Nat) : Int) := by unfold wrap64; omega
  have i1 := grow1_all k w0 bf bg bo A0 c0 f hr0 hc0 hn m (by omega) p0 p1 La hLa
  rw [← ew] at i1
  cases b with
  | false =>
   rw [if_neg (by simp)] at h
   obtain rfl := Option.some.inj h
   have := grow_step1 k w0 bf bg bo A0 c0 f hr0 hc0 p0 p1 _ La [] false (by rw [beq_eq_false_iff_ne]; omega) (wrapu_nonneg _) hb i1 (by rw [if_neg (by simp)])
   rwa [List.append_nil] at this
  | true =>
   rw [if_pos rfl] at h
   obtain ⟨Lb, hLb, h⟩ := Option.bind_eq_some_iff.mp h
   obtain rfl := Option.some.inj h
   have i2 := grow1_all k w0 bf bg bo A0 c0 f hr0 hc0 hn m (by omega) _ _ Lb hLb
   rw [← ew] at i2
   exact grow_step1 k w0 bf bg bo A0 c0 f hr0 hc0 p0 p1 _ La Lb true (by rw [beq_eq_false_iff_ne]; omega) (wrapu_nonneg _) hb i1 (by rw [if_pos rfl]; exact i2)
theorem grow0_all (k : Nat) (w0 : World) (bf bg bo : Nat) (A0 : Option Addr) (c0 : Nat) (f : List (List Int)) (hr0 : Kd.C (Kd.slice 3 (Kd.int .i64)) w0 A0 f.length f) (hc0 : f.length ≤ c0) (hn : f.length ≤ 1000) : ∀ m, m ≤ f.length → ∀ p0 p1 L, grow0 k f m p0 p1 = some L → GrowC w0 bf bg bo A0 c0 f 0 ((f.length - m : Nat) : Int) p0 p1 L
 | 0, _, p0, p1, L, h => by
  refine grow_end0 k w0 bf bg bo A0 c0 f hr0 hc0 p0 p1 L ?_
  unfold grow0 at h
  by_cases h0 : p0 = 0
  ·rw [if_pos h0] at h ⊢; exact (Option.some.inj h).symm
  ·rw [if_neg h0] at h ⊢
   have := grow1_all k w0 bf bg bo A0 c0 f hr0 hc0 hn f.length (Nat.le_refl _) p0 p1 L h
   rwa [Nat.sub_self] at this
 | m + 1, hm, p0, p1, L, h => by
  unfold grow0 at h
  obtain ⟨La, hLa, h⟩ := Option.bind_eq_some_iff.mp h
  obtain ⟨b, hb, h⟩ := Option.bind_eq_some_iff.mp h
  have ew : wrap64 (((f.length - (m + 1) : Nat) : Int) + 1) = ((f.length - m : Nat) : Int) := by unfold wrap64; omega
  have i1 := grow0_all k w0 bf bg bo A0 c0 f hr0 hc0 hn m (by omega) p0 p1 La hLa
  rw [← ew] at i1
  cases b with
  | false =>
   rw [if_neg (by simp)] at h
   obtain rfl := Option.some.inj h
   have := grow_step0 k w0 bf bg bo A0 c0 f hr0 hc0 p0 p1 _ La [] false (by rw [beq_eq_false_iff_ne]; omega) (wrapu_nonneg _) hb i1 (by rw [if_neg (by simp)])
   rwa [List.append_nil] at this
  | true =>
   rw [if_pos rfl] at h
   obtain ⟨Lb, hLb, h⟩ := Option.bind_eq_some_iff.mp h
   obtain rfl := Option.some.inj h
   have i2 := grow0_all k w0 bf bg bo A0 c0 f hr0 hc0 hn m (by omega) _ _ Lb hLb
   rw [← ew] at i2
   exact grow_step0 k w0 bf bg bo A0 c0 f hr0 hc0 p0 p1 _ La Lb true (by rw [beq_eq_false_iff_ne]; omega) (wrapu_nonneg _) hb i1 (by rw [if_pos rfl]; exact i2)
set_option maxHeartbeats 16000000 in
set_option maxRecDepth 100000 in
theorem d_pairs.calls (k : Nat) (A0 : Option Addr) (c0 : Nat) (l0 : List (List Int)) (r : List S76) (w : World) (hr0 : Kd.C (Kd.slice 3 (Kd.int .i64)) w A0 l0.length l0) (hc0 : l0.length ≤ c0) (h : d_pairs.f k l0 = some r) :
  Calls Tryd.prog 45 #[.slice A0 l0.length c0] w fun e w' => ∃ v0_ : Value, e = .returned (v0_) ∧ Kd.R k76 76 w' w.heap.size (fun _ => True) v0_ r ∧ Below w.heap.size w w' := by
 unfold d_pairs.f at h
 by_cases hn : l0.length ≤ 1000
 case neg => rw [if_neg hn] at h; cases h
 rw [if_pos hn] at h
 obtain ⟨L, hL, h⟩ := Option.bind_eq_some_iff.mp h
 try dsimp only at h
 by_cases hl : L.length ≤ 17000000
 case neg => rw [if_neg hl] at h; cases h
 rw [if_pos hl] at h
 obtain rfl := Option.some.inj h
 have IH : ∀ bf bg bo, Aside0 (GrowC w bf bg bo A0 c0 l0 0 0 0 0 L) := fun bf bg bo => ⟨by
  have := grow0_all k w bf bg bo A0 c0 l0 hr0 hc0 hn l0.length (Nat.le_refl _) 0 0 L hL
  rwa [Nat.sub_self] at this⟩
 have HL := aM (show ([] : List S76).length + L.length ≤ 17000000 by simpa using hl)
 have hmf : ∀ (fn : Fn) (first cap : Array Value) (w : World), (Instr.makeFunc fn first cap).run Tryd.prog w = .ok (.func fn first cap) w := fun _ _ _ _ => rfl
 clear h hL hr0 hc0 hl hn
 have HB := aM (Below.refl w.heap.size w)
 go_enter Tryd.func45, Tryd.ntmps45
 go_wp2_with (first | ((with_reducible refine gate_dst (N := 1) rfl ?_); (try (refine gate_guard (by rfl) ?_; dsimp only)); refine bX 1 (cs := #[.slice A0 l0.length c0]) (t := 47) ?_; intro bf hg w1 hbox hb; have B1 := aM (show w1.heap[bf]? = some (.cells #[.slice A0 l0.length c0] 47 (0, 0)) from hbox); have GF := aM (show w.heap.size ≤ bf by rw [hg]; exact below_size (by repeat (first | exact HB.out | apply below_alloc))); have NB := aM (below_step (by repeat (first | exact HB.out | apply below_alloc)) hb); clear hb hbox hg HB; have HB := NB; clear NB) | ((with_reducible refine gate_dst (N := 3) rfl ?_); (try (refine gate_guard (by rfl) ?_; dsimp only)); refine bX 3 (cs := #[.slice none 0 0]) (t := 74) ?_; intro bo hg w2 hbox hb; have B3 := aM (show w2.heap[bo]? = some (.cells #[.slice none 0 0] 74 (0, 0)) from hbox); have N1 := aM (blk_below B1.out hb); have GO := aM (show w.heap.size ≤ bo by rw [hg]; exact below_size HB.out); have NB := aM (below_step HB.out hb); clear hb hbox hg HB B1; have HB := NB; have B1 := N1; clear NB N1) | ((with_reducible refine gate_dst (N := 4) rfl ?_); (try (refine gate_guard (by rfl) ?_; dsimp only)); refine bX 4 (cs := #[.nilFunc]) (t := 86) ?_; intro bg hg w3 hbox hb; have B2 := aM (show w3.heap[bg]? = some (.cells #[.nilFunc] 86 (0, 0)) from hbox); have N1 := aM (blk_below B1.out hb); have N3 := aM (blk_below B3.out hb); have GG := aM (show w.heap.size ≤ bg by rw [hg]; exact below_size HB.out); have NB := aM (below_step HB.out hb); clear hb hbox hg HB B1 B3; have HB := NB; have B1 := N1; have B3 := N3; clear NB N1 N3; have m1 := blk_ne B1.out B2.out (by decide); have m2 := blk_ne B3.out B2.out (by decide); have m3 := m1.symm; have m4 := m2.symm; have hg3 : w3.cell? ⟨bg, 0, none⟩ = some (.nilFunc) := (blk_cell B2.out 0).trans rfl; have zg3 := blk_frozen B2.out 0; have ho3 : w3.cell? ⟨bo, 0, none⟩ = some (.slice none 0 0) := (blk_cell B3.out 0).trans rfl) | (go_at_call 61; (with_reducible refine ((IH bf bg bo).out.app _ (fun _ => True) (.slice none 0 0) [] ⟨?q1, ?q2, ?q3, GF.out, GG.out, GO.out, ?q4, ?q5, ?q6⟩ HL.out).mono ?_); (case q1 => exact blk_far B1.out (by assumption) _); (case q2 => exact blk_put (cs := #[.nilFunc]) B2.out 0 _ rfl); (case q3 => exact blk_far B3.out (by assumption) _); (case q4 => exact Kd.R_nil _ _ _ _ _); (case q5 => exact fun _ _ => trivial); (case q6 => exact HB.out.setCell GG.out _); rintro e w5 ⟨⟨u5, rfl⟩, hb5, hk5, v5, h5, hr5, ho5⟩; have HB5 := aM hb5; have HR5 := aM hr5; have hv5 : w5.cell? ⟨bo, 0, none⟩ = some v5 := (blk_cell h5 0).trans rfl; clear hb5 hk5 h5 hr5 ho5; obtain ⟨A5, c5, ev5⟩ := Kd.R_slice HR5.out; subst ev5))
 go_ret
 exact ⟨_, rfl, HR5.out, HB5.out⟩


end



/-! ### d_before: function 46 -/
def d_before.f (a0_0 : Int) (a0_1 : Int) (a1_0 : Int) (a1_1 : Int) : Option (Bool) := if a0_0 < a1_0 then (some true) else (if a0_0 = a1_0 then (some (decide (a0_1 < a1_1))) else (some false))
set_option maxHeartbeats 8000000 in
set_option maxRecDepth 100000 in
theorem d_before.calls (a0_0 : Int) (a0_1 : Int) (a1_0 : Int) (a1_1 : Int) (r : Bool) (w : World) (h : d_before.f a0_0 a0_1 a1_0 a1_1 = some r) :
  Calls Tryd.prog 46 #[.agg #[.int .u64 a0_0, .int .u64 a0_1], .agg #[.int .u64 a1_0, .int .u64 a1_1]] w fun e w' => e = .returned (.bool r) ∧ Below w.heap.size w w' := by
 have hu76 := Tryd.underlying76; have hu56 := Tryd.underlying56; have HB := aM (Below.refl w.heap.size w); have H : (if a0_0 < a1_0 then (some true) else (if a0_0 = a1_0 then (some (decide (a0_1 < a1_1))) else (some false))) = some r := h; clear h
 by_cases c3 : a0_0 < a1_0
 ·
  rw [if_pos c3] at H
  have c3b0 := decide_eq_true c3; clear c3
  obtain rfl := Option.some.inj H
  go_enter Tryd.func46, Tryd.ntmps46
  go_wp2_with (first | ((with_reducible refine gate_dst (N := 2) rfl ?_); refine bX 2 (cs := #[.int .u64 a0_0, .int .u64 a0_1]) (t := 76) ?_; intro gb168 hg w4 hbox hb; have BK168 := aM (hbox); have GW168 := aM (gE hg (below_size (bB HB.out))); have GE168 := GW168; replace HB := aM (below_step (bB HB.out) hb); clear hb hbox hg) | ((with_reducible refine gate_dst (N := 3) rfl ?_); refine bX 3 (cs := #[.int .u64 a1_0, .int .u64 a1_1]) (t := 76) ?_; intro gb169 hg w5 hbox hb; have BK169 := aM (hbox); have GW169 := aM (gE hg (below_size (bB1 HB.out GE168.out))); have GE169 := GW169; replace HB := aM (below_step (bB1 HB.out GE168.out) hb); have NB168_169 := aM (gL hg (kL BK168.out)); have NB169_168 := aM (gG hg (kL BK168.out)); replace BK168 := aM (kW BK168.out hb); clear hb hbox hg; have hnb6 := NB168_169.out; have hnc6 := NB169_168.out; obtain ⟨hcz7_0, hcz7_1, hfz7_0, hfz7_1⟩ := cd2 BK168.out; obtain ⟨hcz8_0, hcz8_1, hfz8_0, hfz8_1⟩ := cd2 BK169.out))
  go_ret
  exact ⟨rT, bB2 HB.out GE168.out GE169.out⟩
 rw [if_neg c3] at H; have c3b0 := decide_eq_false c3; clear c3
 by_cases c9 : a0_0 = a1_0
 rotate_left
 ·
  rw [if_neg c9] at H
  have c9b0 : (a0_0 == a1_0) = false := beq_eq_false_iff_ne.mpr c9; have c9b1 : (a0_0 != a1_0) = true := bne_iff_ne.mpr c9
  obtain rfl := Option.some.inj H
  go_enter Tryd.func46, Tryd.ntmps46
  go_wp2_with (first | ((with_reducible refine gate_dst (N := 2) rfl ?_); refine bX 2 (cs := #[.int .u64 a0_0, .int .u64 a0_1]) (t := 76) ?_; intro gb168 hg w15 hbox hb; have BK168 := aM (hbox); have GW168 := aM (gE hg (below_size (bB HB.out))); have GE168 := GW168; replace HB := aM (below_step (bB HB.out) hb); clear hb hbox hg) | ((with_reducible refine gate_dst (N := 3) rfl ?_); refine bX 3 (cs := #[.int .u64 a1_0, .int .u64 a1_1]) (t := 76) ?_; intro gb169 hg w16 hbox hb; have BK169 := aM (hbox); have GW169 := aM (gE hg (below_size (bB1 HB.out GE168.out))); have GE169 := GW169; replace HB := aM (below_step (bB1 HB.out GE168.out) hb); have NB168_169 := aM (gL hg (kL BK168.out)); have NB169_168 := aM (gG hg (kL BK168.out)); replace BK168 := aM (kW BK168.out hb); clear hb hbox hg; have hnb17 := NB168_169.out; have hnc17 := NB169_168.out; obtain ⟨hcz18_0, hcz18_1, hfz18_0, hfz18_1⟩ := cd2 BK168.out; obtain ⟨hcz19_0, hcz19_1, hfz19_0, hfz19_1⟩ := cd2 BK169.out))
  go_ret
  exact ⟨rT, bB2 HB.out GE168.out GE169.out⟩


 rw [if_pos c9] at H; have c9b0 : (a0_0 == a1_0) = true := beq_iff_eq.mpr c9; have c9b1 : (a0_0 != a1_0) = false := bne_eq_false_iff_eq.mpr c9; clear c9
 obtain rfl := Option.some.inj H
 go_enter Tryd.func46, Tryd.ntmps46
 go_wp2_with (first | ((with_reducible refine gate_dst (N := 2) rfl ?_); refine bX 2 (cs := #[.int .u64 a0_0, .int .u64 a0_1]) (t := 76) ?_; intro gb168 hg w10 hbox hb; have BK168 := aM (hbox); have GW168 := aM (gE hg (below_size (bB HB.out))); have GE168 := GW168; replace HB := aM (below_step (bB HB.out) hb); clear hb hbox hg) | ((with_reducible refine gate_dst (N := 3) rfl ?_); refine bX 3 (cs := #[.int .u64 a1_0, .int .u64 a1_1]) (t := 76) ?_; intro gb169 hg w11 hbox hb; have BK169 := aM (hbox); have GW169 := aM (gE hg (below_size (bB1 HB.out GE168.out))); have GE169 := GW169; replace HB := aM (below_step (bB1 HB.out GE168.out) hb); have NB168_169 := aM (gL hg (kL BK168.out)); have NB169_168 := aM (gG hg (kL BK168.out)); replace BK168 := aM (kW BK168.out hb); clear hb hbox hg; have hnb12 := NB168_169.out; have hnc12 := NB169_168.out; obtain ⟨hcz13_0, hcz13_1, hfz13_0, hfz13_1⟩ := cd2 BK168.out; obtain ⟨hcz14_0, hcz14_1, hfz14_0, hfz14_1⟩ := cd2 BK169.out))
 go_ret
 exact ⟨rT, bB2 HB.out GE168.out GE169.out⟩


section
-- STUBBED 22
/-! ### d_Pairs: function 22: by hand -/
open Go.Proofs.YtejchnmhlcbfcaaDoor.Iter Go.Proofs.YtejchnmhlcbfcaaDoor.CopyN

def befB (q : S57) (p : S76) : Bool := if q.f0 < p.f0 then true else if q.f0 = p.f0 then decide (q.f1 < p.f1) else false
def toP (p : S76) : S57 := ⟨p.f0, p.f1⟩
def posP (out : List S57) (p : S76) : Nat := (out.takeWhile (befB · p)).length
def insP (out : List S57) (p : S76) : List S57 := out.take (posP out p) ++ toP p :: out.drop (posP out p)
def d_Pairs.f (k : Nat) (l0 : List (List ByteArray)) : Option (List S57 × Int) := (d_Footprint.f k l0).bind fun q => if q.2 = 0 then (d_pairs.f k q.1).bind fun ps => if ps.length ≤ 17000000 then some (ps.foldl insP [], 0) else none else some ([], q.2)
theorem d_Pairs.mono : ∀ a0 k, LeO (d_Pairs.f k a0) (d_Pairs.f (k + 1) a0) := by
 intro a0 k
 unfold d_Pairs.f
 exact LeO.bind (d_Footprint.mono _ _) fun q => LeO.ite (LeO.bind (d_pairs.mono _ _) fun _ => LeO.refl _) (LeO.refl _)
theorem before_fP (q : S57) (p : S76) : d_before.f q.f0 q.f1 p.f0 p.f1 = some (befB q p) := by
 unfold d_before.f befB
 split
 ·rfl
 ·split <;> rfl
theorem takeWhile_atP {α : Type} (p : α → Bool) : ∀ (l : List α) (j : Nat), (∀ q, (h : q < l.length) → q < j → p l[q] = true) → j ≤ l.length → (∀ h : j < l.length, p l[j] = false) → (l.takeWhile p).length = j
 | [], j, _, h2, _ => by simp at h2; simp [h2]
 | x :: l, 0, _, _, h3 => by
  have := h3 (by simp)
  simp at this
  simp [this]
 | x :: l, j + 1, h1, h2, h3 => by
  have hx : p x = true := h1 0 (by simp) (by omega)
  rw [List.takeWhile_cons, if_pos hx, List.length_cons, takeWhile_atP p l j (fun q hq hj => h1 (q + 1) (by simp; omega) (by omega)) (by simp at h2; omega) (fun h => h3 (by simp; omega))]
theorem insP_len (out : List S57) (p : S76) : (insP out p).length = out.length + 1 := by
 unfold insP
 simp only [List.length_append, List.length_take, List.length_cons, List.length_drop]
 have : posP out p ≤ out.length := by unfold posP; exact (List.takeWhile_sublist _).length_le
 omega
theorem foldP_len : ∀ (ps : List S76) (out : List S57), (ps.foldl insP out).length = out.length + ps.length
 | [], out => rfl
 | p :: ps, out => by rw [List.foldl_cons, foldP_len ps, insP_len, List.length_cons]; omega
def cells2 (x : S57) : List Value := [.int .u64 x.f0, .int .u64 x.f1]
theorem blk_grown8 {w w1 : World} {base : Nat} {ok : Nat → Prop} {v : Value} {xs : List S57} {g : Nat} {cs : Array Value} (h : w.heap[g]? = some (.cells cs 76 (0, 0))) (hg : w.grownBy w1 v.ownBlock) (ho : Kd.R k57 57 w base ok v xs) : w1.heap[g]? = some (.cells cs 76 (0, 0)) := by
 refine blk_grown h hg (fun e => ?_)
 obtain ⟨cells, hc⟩ := Kd.R_typed ho g e.symm
 rw [h] at hc
 injection hc with hc
 injection hc with _ hc _
 exact absurd hc (by decide)
set_option maxHeartbeats 16000000 in
set_option maxRecDepth 100000 in
theorem d_Pairs.calls (k : Nat) (A0 : Option Addr) (c0 : Nat) (l0 : List (List ByteArray)) (r1 : List S57) (r2 : Int) (w : World) (hr0 : Kd.C (Kd.slice 9 Kd.string) w A0 l0.length l0) (hc0 : l0.length ≤ c0) (h : d_Pairs.f k l0 = some (r1, r2)) :
  Calls Tryd.prog 22 #[.slice A0 l0.length c0] w fun e w' => ∃ v0_ : Value, e = .returned (.tuple #[v0_, .int .i64 r2]) ∧ Kd.R k57 57 w' w.heap.size (fun _ => True) v0_ r1 ∧ Below w.heap.size w w' := by
 unfold d_Pairs.f at h
 obtain ⟨⟨f, e⟩, hF, h⟩ := Option.bind_eq_some_iff.mp h
 try dsimp only at h
 have HR0 := aM hr0
 have HC0 := aM hc0
 have HFo := aM hF
 have HB := aM (Below.refl w.heap.size w)
 clear hr0 hc0 hF
 by_cases he : e = 0
 case neg =>
  rw [if_neg he] at h
  obtain ⟨rfl, rfl⟩ := Prod.mk.inj (Option.some.inj h)
  have e1 : (e == 0) = false := beq_eq_false_iff_ne.2 he
  have e2 : (e != 0) = true := bne_iff_ne.2 he
  clear h he
  go_enter Tryd.func22, Tryd.ntmps22
  go_wp2_with (first | (go_at_call 19; (with_reducible refine (d_Footprint.calls k A0 c0 l0 f _ _ ?side1 ?side2 HFo.out).mono ?_); (case side1 => repeat (first | exact (Kd.C_below HR0.out HB.out) | (with_reducible refine Kd.C_alloc ?_ _) | (with_reducible refine Kd.C_drewN ?_ _) | (with_reducible refine Kd.C_drew ?_))); (case side2 => exact HC0.out); rintro e w1 ⟨vf, rfl, hs, hb⟩; obtain ⟨Af, cf, evf, hcf, hCf⟩ := Kd.S_reads hs; subst evf; have HCf := aM hCf; have HLf := aM hcf; have HB := aM (below_step HB.out hb); clear hs hb hCf hcf))
  go_ret2
  exact ⟨_, rfl, Kd.R_nil _ _ _ _ _, HB.out⟩
 rw [if_pos he] at h
 obtain ⟨ps, hP, h⟩ := Option.bind_eq_some_iff.mp h
 try dsimp only at h
 by_cases hlp : ps.length ≤ 17000000
 case neg => rw [if_neg hlp] at h; cases h
 rw [if_pos hlp] at h
 obtain ⟨rfl, rfl⟩ := Prod.mk.inj (Option.some.inj h)
 subst he
 have HPp := aM hP
 clear h hP
 go_enter Tryd.func22, Tryd.ntmps22
 go_wp2_with (first | (go_at_call 19; (with_reducible refine (d_Footprint.calls k A0 c0 l0 f _ _ ?side1 ?side2 HFo.out).mono ?_); (case side1 => repeat (first | exact (Kd.C_below HR0.out HB.out) | (with_reducible refine Kd.C_alloc ?_ _) | (with_reducible refine Kd.C_drewN ?_ _) | (with_reducible refine Kd.C_drew ?_))); (case side2 => exact HC0.out); rintro e w1 ⟨vf, rfl, hs, hb⟩; obtain ⟨Af, cf, evf, hcf, hCf⟩ := Kd.S_reads hs; subst evf; have HCf := aM hCf; have HLf := aM hcf; have HB := aM (below_step HB.out hb); clear hs hb hCf hcf) | (go_at_call 45; (with_reducible refine (d_pairs.calls k Af cf f ps _ HCf.out HLf.out HPp.out).mono ?_); rintro e w2 ⟨vp, rfl, hs, hb⟩; obtain ⟨Ap, cp, evp⟩ := Kd.R_slice hs; subst evp; have HPS := aM (Kd.R_lower hs (below_size HB.out)); have HB := aM (below_step HB.out hb); clear hs hb))
 go_loopw [6, 21] (fun v6 v21 wr => ∃ (i : Nat) (out : List S57), v21 = .int .i64 i ∧ i ≤ ps.length ∧ Aside0 (out = (ps.take i).foldl insP []) ∧ Aside0 (Kd.R k57 57 wr w.heap.size (fun _ => True) v6 out) ∧ Aside0 (Kd.R k76 76 wr w.heap.size (fun _ => True) (.slice Ap ps.length cp) ps) ∧ Aside0 (Below w.heap.size w wr)) (fun _ v21 _ => ps.length - (intOf v21).toNat)
 case atStart => exact ⟨0, [], rfl, Nat.zero_le _, ⟨rfl⟩, ⟨Kd.R_nil _ _ _ _ _⟩, HPS, HB⟩
 case round =>
  clear HB HPS
  obtain ⟨i, out, rfl, hi, HE, HO, HPS, HB⟩ := hrel
  obtain ⟨A1, c1, ev1⟩ := Kd.R_slice HO.out
  subst ev1
  have HLEN : Aside0 (out.length = i) := ⟨by
   have := foldP_len (ps.take i) []
   rw [← HE.out] at this
   simp at this
   omega⟩
  by_cases hlt : i < ps.length
  ·obtain ⟨ad, e1, hx0, hx1⟩ := at_T76 (Kd.R_reads' HPS.out).2.2 (i : Int) (by omega) (by omega)
   cases e1
   rw [Int.toNat_natCast] at hx0 hx1
   have hstep : Aside0 ((ps.take (i + 1)).foldl insP [] = insP out (rd_T76 ps (i : Int))) := ⟨by
    rw [HE.out, List.take_succ_eq_append_getElem hlt, List.foldl_append]
    simp [rd_T76, hlt]⟩
   generalize rd_T76 ps (i : Int) = s at hx0 hx1 hstep
   have p0 : (0 ≤ (i : Int)) = True := eq_true (by omega)
   have q0 : ((i : Int) < (ps.length : Int)) = True := eq_true (by omega)
   have q1 : decide ((i : Int) < (ps.length : Int)) = true := decide_eq_true (by omega)
   go_wp2
   obtain ⟨b8, hb8⟩ : ∃ b8 : Nat, b8 = wr.heap.size := ⟨_, rfl⟩
   have HP8 : Aside0 ((wr.alloc (.cells #[.int .u64 s.f0, .int .u64 s.f1] 76)).heap[b8]? = some (.cells #[.int .u64 s.f0, .int .u64 s.f1] 76 (0, 0))) := ⟨by rw [hb8]; exact blk_new _ _⟩
   have HO1 := aM (Kd.R_alloc HO.out (.cells #[.int .u64 s.f0, .int .u64 s.f1] 76))
   have HPS1 := aM (Kd.R_alloc HPS.out (.cells #[.int .u64 s.f0, .int .u64 s.f1] 76))
   have HB1 := aM (below_alloc HB.out (.cells #[.int .u64 s.f0, .int .u64 s.f1] 76))
   clear HO HPS HB hx0 hx1 p0 q0 q1
   rw [← hb8]
   clear hb8
   obtain ⟨wo, hwo⟩ : ∃ wo : World, wo = wr.alloc (.cells #[.int .u64 s.f0, .int .u64 s.f1] 76) := ⟨_, rfl⟩
   rw [← hwo] at HP8 HO1 HPS1 HB1 ⊢
   clear hwo
   go_loopw [9] (fun v9 wi => ∃ j : Nat, v9 = .int .i64 j ∧ j ≤ out.length ∧ Aside0 (∀ q, (h : q < out.length) → q < j → befB out[q] s = true) ∧ Aside0 (Kd.R k57 57 wi w.heap.size (fun _ => True) (.slice A1 out.length c1) out) ∧ Aside0 (Kd.R k76 76 wi w.heap.size (fun _ => True) (.slice (some ad) ps.length cp) ps) ∧ Aside0 (wi.heap[b8]? = some (.cells #[.int .u64 s.f0, .int .u64 s.f1] 76 (0, 0))) ∧ Aside0 (Below w.heap.size w wi)) (fun v9 _ => out.length - (intOf v9).toNat)
   case atStart => exact ⟨0, rfl, Nat.zero_le _, ⟨fun _ _ h => absurd h (Nat.not_lt_zero _)⟩, HO1, HPS1, HP8, HB1⟩
   case round =>
    clear HO1 HPS1 HP8 HB1
    obtain ⟨j, rfl, hj, HQ, HO, HPS, HP8, HB⟩ := hrel
    have hp0 : wr.cell? ⟨b8, 0, none⟩ = some (.int .u64 s.f0) := (blk_cell HP8.out 0).trans rfl
    have hp1 : wr.cell? ⟨b8, 1, none⟩ = some (.int .u64 s.f1) := (blk_cell HP8.out 1).trans rfl
    have hob : out.length ≤ 17000000 := by have := HLEN.out; omega
    by_cases hjl : j < out.length
    ·obtain ⟨ad2, e2, hx2, hx3⟩ := at_T57 (Kd.R_reads' HO.out).2.2 (j : Int) (by omega) (by omega)
     cases e2
     rw [Int.toNat_natCast] at hx2 hx3
     have hrd : rd_T57 out (j : Int) = out[j] := by simp [rd_T57, hjl]
     rw [hrd] at hx2 hx3
     have HBF := aM (before_fP out[j] s)
     obtain ⟨x, hxo⟩ : ∃ x, x = out[j] := ⟨_, rfl⟩
     rw [← hxo] at hx2 hx3 HBF
     have HX := aM hxo
     have pj0 : (0 ≤ (j : Int)) = True := eq_true (by omega)
     have pj1 : ((j : Int) < (out.length : Int)) = True := eq_true (by omega)
     have pj2 : decide ((j : Int) < (out.length : Int)) = true := decide_eq_true (by omega)
     clear hxo hrd
     cases hb : befB x s with
     | true =>
      rw [hb] at HBF
      have HB2 := aM hb
      clear hb
      go_wp2
      refine start_ (n := 12) (S := fun w' => w'.cell? (ad2.add (j * 2)) = some (.int .u64 x.f0) ∧ w'.cell? ⟨(ad2.add (j * 2)).block, (ad2.add (j * 2)).off + 1, none⟩ = some (.int .u64 x.f1) ∧ w'.cell? ⟨b8, 0, none⟩ = some (.int .u64 s.f0) ∧ w'.cell? ⟨b8, 1, none⟩ = some (.int .u64 s.f1)) (ds := []) #[false, false, false, false, false, false, false, false, false, false, false, false] (by kernel_rfl) rfl rfl ⟨hx2, hx3, hp0, hp1⟩ (fun hHeld => ?_)
      refine pU 0 25 (by kernel_rfl) ?_
      refine pU 1 26 (by kernel_rfl) ?_
      refine pU 2 27 (by kernel_rfl) ?_
      refine pU 3 28 (by kernel_rfl) ?_
      refine pU 4 29 (by kernel_rfl) ?_
      refine pU 5 30 (by kernel_rfl) ?_
      refine pU 6 31 (by kernel_rfl) ?_
      refine pU 7 32 (by kernel_rfl) ?_
      refine tU 8 33 (by kernel_rfl) hHeld ?_
      refine tU 9 34 (by kernel_rfl) hHeld ?_
      refine one_ (i := 10) (N := some 35) #[true, true, true, true, true, true, true, true, true, true, true, false] rfl rfl (by kernel_rfl) (by decide) (fun K hK => ?_)
      refine goes_ Tryd.func46 (by kernel_rfl) rfl #[.agg #[.int .u64 x.f0, .int .u64 x.f1], .agg #[.int .u64 s.f0, .int .u64 s.f1]] (by rfl) rfl rfl mT ?_
      with_reducible refine (d_before.calls x.f0 x.f1 s.f0 s.f1 _ _ HBF.out).mono ?_
      rintro e w3 ⟨rfl, hbw⟩
      refine ⟨_, rfl, ?_⟩
      have hbw' : Below wr.heap.size wr w3 := below_step (below_drew1 (Below.refl wr.heap.size wr)) hbw
      have HBW := aM hbw'
      clear hbw hbw'
      have hy0 := (HBW.out.cell (World.block_lt_of_cell? wr _ hx2)).trans hx2
      have hy1 := (HBW.out.cell (World.block_lt_of_cell? wr _ hx3)).trans hx3
      have hy2 := (HBW.out.cell (World.block_lt_of_cell? wr _ hp0)).trans hp0
      have hy3 := (HBW.out.cell (World.block_lt_of_cell? wr _ hp1)).trans hp1
      refine hK.out _ _ ⟨hy0, hy1, hy2, hy3⟩ (fun hHeld => ?_)
      refine pU 11 36 (by kernel_rfl) ?_
      refine done_ (by kernel_rfl) ?_
      go_wp2
      go_roundw
      case rel => exact ⟨j + 1, by go_num, by omega, ⟨fun q hq hlt2 => by
       by_cases e : q = j
       ·subst e; rw [← HX.out]; exact HB2.out
       ·exact HQ.out q hq (by omega)⟩, ⟨Kd.R_below HO.out HBW.out⟩, ⟨Kd.R_below HPS.out HBW.out⟩, ⟨blk_below HP8.out HBW.out⟩, ⟨below_step HB.out HBW.out⟩⟩
      case measure => simp [intOf]; omega
     | false =>
      rw [hb] at HBF
      have HPo : Aside0 (posP out s = j) := ⟨takeWhile_atP _ out j (fun q hq hlt2 => HQ.out q hq hlt2) (by omega) (fun _ => by rw [← HX.out]; exact hb)⟩
      have HIN : Aside0 (insP out s = out.take j ++ toP s :: out.drop j) := ⟨by unfold insP; rw [HPo.out]⟩
      clear hb
      go_wp2
      refine start_ (n := 12) (S := fun w' => w'.cell? (ad2.add (j * 2)) = some (.int .u64 x.f0) ∧ w'.cell? ⟨(ad2.add (j * 2)).block, (ad2.add (j * 2)).off + 1, none⟩ = some (.int .u64 x.f1) ∧ w'.cell? ⟨b8, 0, none⟩ = some (.int .u64 s.f0) ∧ w'.cell? ⟨b8, 1, none⟩ = some (.int .u64 s.f1)) (ds := []) #[false, false, false, false, false, false, false, false, false, false, false, false] (by kernel_rfl) rfl rfl ⟨hx2, hx3, hp0, hp1⟩ (fun hHeld => ?_)
      refine pU 0 25 (by kernel_rfl) ?_
      refine pU 1 26 (by kernel_rfl) ?_
      refine pU 2 27 (by kernel_rfl) ?_
      refine pU 3 28 (by kernel_rfl) ?_
      refine pU 4 29 (by kernel_rfl) ?_
      refine pU 5 30 (by kernel_rfl) ?_
      refine pU 6 31 (by kernel_rfl) ?_
      refine pU 7 32 (by kernel_rfl) ?_
      refine tU 8 33 (by kernel_rfl) hHeld ?_
      refine tU 9 34 (by kernel_rfl) hHeld ?_
      refine one_ (i := 10) (N := some 35) #[true, true, true, true, true, true, true, true, true, true, true, false] rfl rfl (by kernel_rfl) (by decide) (fun K hK => ?_)
      refine goes_ Tryd.func46 (by kernel_rfl) rfl #[.agg #[.int .u64 x.f0, .int .u64 x.f1], .agg #[.int .u64 s.f0, .int .u64 s.f1]] (by rfl) rfl rfl mT ?_
      with_reducible refine (d_before.calls x.f0 x.f1 s.f0 s.f1 _ _ HBF.out).mono ?_
      rintro e w3 ⟨rfl, hbw⟩
      refine ⟨_, rfl, ?_⟩
      have hbw' : Below wr.heap.size wr w3 := below_step (below_drew1 (Below.refl wr.heap.size wr)) hbw
      have HBW := aM hbw'
      clear hbw hbw'
      have hy0 := (HBW.out.cell (World.block_lt_of_cell? wr _ hx2)).trans hx2
      have hy1 := (HBW.out.cell (World.block_lt_of_cell? wr _ hx3)).trans hx3
      have hy2 := (HBW.out.cell (World.block_lt_of_cell? wr _ hp0)).trans hp0
      have hy3 := (HBW.out.cell (World.block_lt_of_cell? wr _ hp1)).trans hp1
      refine hK.out _ _ ⟨hy0, hy1, hy2, hy3⟩ (fun hHeld => ?_)
      refine pU 11 36 (by kernel_rfl) ?_
      refine done_ (by kernel_rfl) ?_
      have N1 := aM (Kd.R_below HO.out HBW.out)
      have N2 := aM (Kd.R_below HPS.out HBW.out)
      have N3 := aM (blk_below HP8.out HBW.out)
      have N4 := aM (below_step HB.out HBW.out)
      clear HO HPS HP8 HB
      have HO := N1
      have HPS := N2
      have HP8 := N3
      have HB := N4
      clear N1 N2 N3 N4 pj0 pj1 pj2
      go_wp2_with (first | ((with_reducible refine gate_builtin (b := .append) (xs := #[.tmp 39, .tmp 41]) rfl ?_); at_builtin; refine Kd.R_append k57 (w0 := w) w.heap.size rfl (.tmp 39) (.tmp 41) 52 57 (.agg #[(.int .u64 0), (.int .u64 0)]) 16 rfl Tryd.underlying52 info57 rfl (by decide) (by omega) (.slice (some ad2) out.length c1) out (⟨0, 0⟩ : S57) [.int .u64 0, .int .u64 0] (fun _ => True) (fun _ => False) rfl rfl ?aP (fun _ hk => hk.elim) ?aF ?aO ?aB ?aS ?aL ?_; (case aP => exact k57_mkM _ _ _ (⟨0, 0⟩ : S57)); (case aB => exact (bB HB.out)); (case aF => exact (fun _ _ => trivial)); (case aO => exact (oR HO.out)); (case aS => exact (below_size (bB HB.out))); (case aL => have := HLEN.out; omega); intro v' w4 ho hb4 hg hat; have HB4 := aM hb4; have hown' : w4.ownsRow w.heap.size 57 2 v' (out.length + 1) (out.flatMap cells2 ++ [.int .u64 0, .int .u64 0]) := (by have h_ := own_flat (g := cells2) (fun h_ => k57_openM h_) ho; rwa [List.flatMap_append, List.length_append] at h_); have HPS4 := aM (Kd.R_typed ho); have HGR4 := aM hg; clear ho hb4 hg hat; rcases hown'.2 with ⟨_, h0⟩ | ⟨g, cap, cur, rfl, hbg, hhg, hnc, hcm, hcs, htk⟩; (exact absurd h0 (Nat.succ_ne_zero _)); have HHG := aM hhg; have HTK := aM htk; have HCS := aM hcs; clear hhg htk hcs hown'))
      have HPS5 := aM (show Kd.R k76 76 w4 w.heap.size (fun _ => True) (.slice (some ad) ps.length cp) ps from Kd.R_over' (oR HPS.out) (Kd.R_typed (oR HO.out)) (by decide) HGR4.out)
      have hp04 := (blk_cell (blk_grown8 HP8.out HGR4.out HO.out) 0).trans (rfl : #[Value.int .u64 s.f0, Value.int .u64 s.f1][0]? = some (.int .u64 s.f0))
      have hp14 := (blk_cell (blk_grown8 HP8.out HGR4.out HO.out) 1).trans (rfl : #[Value.int .u64 s.f0, Value.int .u64 s.f1][1]? = some (.int .u64 s.f1))
      have hfl : (out.flatMap cells2).length = out.length * 2 := flat_len (g := cells2) (fun _ => rfl) out
      have hcl : cur.toList.length = cap * 2 := by simpa using HCS.out
      have HCP := aM (copy_cells2 (j := j * 2) (n := out.length * 2) hfl (show j * 2 ≤ out.length * 2 by omega) HTK.out (by omega) HHG.out)
      have HL := aM (show ((out.flatMap cells2).drop (j * 2)).length = Nat.min (out.length + 1 - j) (out.length - j) * 2 by rw [List.length_drop, hfl, show Nat.min (out.length + 1 - j) (out.length - j) = out.length - j from Nat.min_eq_right (by omega), Nat.sub_mul])
      have HFT := aM (show j * 2 + 2 + ((out.flatMap cells2).drop (j * 2)).length ≤ cur.toList.length by rw [hcl, List.length_drop, hfl]; omega)
      have H1C := aM (show ∀ v ∈ (out.flatMap cells2).drop (j * 2), v.oneCell' = true from fun v hv => by
       have := List.mem_of_mem_drop hv
       simp only [List.mem_flatMap, cells2, List.mem_cons, List.not_mem_nil, or_false] at this
       obtain ⟨z, _, rfl | rfl⟩ := this <;> rfl)
      have HS2 := aM (show (Tryd.prog.info? 57).map (·.size) = some 2 by kernel_rfl)
      have HHT := aM (show w4.heap[g]? = some (.cells cur.toList.toArray 57 (0, 0)) by simpa using HHG.out)
      have hj1 : (0 : Int) ≤ (j : Int) + 1 := by omega
      have hj2 : (j : Int) + 1 ≤ (out.length : Int) + 1 := by omega
      have hj3 : (j : Int) ≤ (out.length : Int) + 1 := by omega
      have hc2 : ¬ cap = j := by omega
      have hjt : ((j : Int) + 1).toNat = j + 1 := by omega
      have hjw : IntKind.i64.wrap ((j : Int) + 1) = (j : Int) + 1 := IntWalk.i64_in _ (by omega)
      have hc1 : ¬ cap = j + 1 := by omega
      go_region_law ((with_reducible refine step_copy_gN rfl (.tmp 46) (.tmp 49) 52 52 rfl 57 Tryd.underlying52 2 HS2.out (some ⟨g, (j + 1) * 2, none⟩) (some ⟨g, j * 2, none⟩) (out.length - j) (cap - (j + 1)) (out.length + 1 - j) (cap - j) ?g4 ?g5 g (j * 2 + 2) cur.toList 57 ?g1 ((out.flatMap cells2).drop (j * 2)) HL.out ?g2 HFT.out H1C.out ?_); (case g4 => go_simp); (case g5 => go_simp); (case g1 => exact HHT.out); (case g2 => exact (fun _ => ⟨by rw [Nat.add_mul], ⟨g, j * 2, none⟩, rfl, HCP.out⟩)); intro w5 hg5 hgr5)
      clear hjw hjt
      have hgr5' : w4.grownBy w5 (some g) := ⟨hgr5.os, hgr5.tape, hgr5.output, hgr5.size, hgr5.block⟩
      have hspl : j * 2 + 1 < (splice cur.toList (j * 2 + 2) ((out.flatMap cells2).drop (j * 2))).length := by
       unfold splice
       simp only [List.length_append, List.length_take, List.length_drop, hcl, hfl]
       omega
      obtain ⟨⟨v5, hv5⟩, hf5⟩ := splice_cell hg5.out (show j * 2 < _ by omega)
      obtain ⟨⟨v6, hv6⟩, hf6⟩ := splice_cell hg5.out hspl
      have hne8 : b8 ≠ g := blk_ne (blk_grown8 HP8.out HGR4.out HO.out) HHG.out (by decide)
      have HP85 := aM ((hgr5'.block b8 (blk_lt (blk_grown8 HP8.out HGR4.out HO.out)) (fun e_ => hne8 (Option.some.inj e_))).trans (blk_grown8 HP8.out HGR4.out HO.out))
      have hp05 : w5.cell? ⟨b8, 0, none⟩ = some (.int .u64 s.f0) := (blk_cell HP85.out 0).trans rfl
      have hp15 : w5.cell? ⟨b8, 1, none⟩ = some (.int .u64 s.f1) := (blk_cell HP85.out 1).trans rfl
      have HG5 := aM hg5.out
      have HGR5 := aM hgr5'
      have HPS6 := aM (Kd.R_over' (v := (.slice (some ⟨g, 0, none⟩) (out.length + 1) cap : Value)) HPS5.out (fun k_ hk_ => by cases hk_; exact ⟨_, HHG.out⟩) (by decide) HGR5.out)
      clear hg5 hgr5 hgr5'
      have pj0 : (0 ≤ (j : Int)) = True := eq_true (by omega)
      have pj1 : ((j : Int) < (out.length : Int) + 1) = True := eq_true (by omega)
      have pj2 : decide ((j : Int) < (out.length : Int) + 1) = true := decide_eq_true (by omega)
      go_wp2
      go_roundw
      case rel =>
       have hrow := insert_row2 (x1 := .int .u64 s.f0) (x2 := .int .u64 s.f1) hbg hfl (show j ≤ out.length by omega) hnc hcm HCS.out HTK.out HG5.out
       refine ⟨i + 1, out.take j ++ toP s :: out.drop j, by go_num, by omega, ⟨by rw [hstep.out]; exact HIN.out.symm⟩, ⟨?_⟩, ⟨?_⟩, ⟨?_⟩⟩
       ·refine flat_own (g := cells2) (fun w_ b_ o_ x_ => k57_mkM w_ b_ o_ x_) (fun _ => rfl) ?_ (fun _ _ => trivial)
        have e1 : (out.take j ++ toP s :: out.drop j).flatMap cells2 = (out.flatMap cells2).take (j * 2) ++ .int .u64 s.f0 :: .int .u64 s.f1 :: (out.flatMap cells2).drop (j * 2) := by rw [List.flatMap_append, List.flatMap_cons, flat_take (g := cells2) (s := 2) (fun _ => rfl), flat_drop (g := cells2) (s := 2) (fun _ => rfl)]; rfl
        have e2 : (out.take j ++ toP s :: out.drop j).length = out.length + 1 := by simp; omega
        rw [e1, e2]
        first | exact hrow | (rw [hc1] at hrow; exact hrow)
       ·exact tM HPS6.out HG5.out (fun _ hk => hk.1)
       ·exact ((HB4.out.grown HGR5.out (by have := HB4.out.size; omega) (fun k_ hk_ => by cases hk_; exact hbg)).setCell (p := ⟨g, j * 2, none⟩) hbg _).setCell (p := ⟨g, j * 2 + 1, none⟩) hbg _
      case measure => simp [intOf]; omega
    ·have HPo : Aside0 (posP out s = j) := ⟨takeWhile_atP _ out j (fun q hq hlt2 => HQ.out q hq hlt2) hj (fun h => absurd h hjl)⟩
     have HIN : Aside0 (insP out s = out.take j ++ toP s :: out.drop j) := ⟨by unfold insP; rw [HPo.out]⟩
     have hjn : out.length ≤ j := by omega
     have pj2 : decide ((j : Int) < (out.length : Int)) = false := decide_eq_false (by omega)
     go_wp2
     go_quiet (fail)
     go_wp2_with (first | ((with_reducible refine gate_builtin (b := .append) (xs := #[.tmp 39, .tmp 41]) rfl ?_); at_builtin; refine Kd.R_append k57 (w0 := w) w.heap.size rfl (.tmp 39) (.tmp 41) 52 57 (.agg #[(.int .u64 0), (.int .u64 0)]) 16 rfl Tryd.underlying52 info57 rfl (by decide) (by omega) (.slice A1 out.length c1) out (⟨0, 0⟩ : S57) [.int .u64 0, .int .u64 0] (fun _ => True) (fun _ => False) rfl rfl ?aP (fun _ hk => hk.elim) ?aF ?aO ?aB ?aS ?aL ?_; (case aP => exact k57_mkM _ _ _ (⟨0, 0⟩ : S57)); (case aB => exact (bB HB.out)); (case aF => exact (fun _ _ => trivial)); (case aO => exact (oR HO.out)); (case aS => exact (below_size (bB HB.out))); (case aL => have := HLEN.out; omega); intro v' w4 ho hb4 hg hat; have HB4 := aM hb4; have hown' : w4.ownsRow w.heap.size 57 2 v' (out.length + 1) (out.flatMap cells2 ++ [.int .u64 0, .int .u64 0]) := (by have h_ := own_flat (g := cells2) (fun h_ => k57_openM h_) ho; rwa [List.flatMap_append, List.length_append] at h_); have HPS4 := aM (Kd.R_typed ho); have HGR4 := aM hg; clear ho hb4 hg hat; rcases hown'.2 with ⟨_, h0⟩ | ⟨g, cap, cur, rfl, hbg, hhg, hnc, hcm, hcs, htk⟩; (exact absurd h0 (Nat.succ_ne_zero _)); have HHG := aM hhg; have HTK := aM htk; have HCS := aM hcs; clear hhg htk hcs hown'))
     have HPS5 := aM (show Kd.R k76 76 w4 w.heap.size (fun _ => True) (.slice (some ad) ps.length cp) ps from Kd.R_over' (oR HPS.out) (Kd.R_typed (oR HO.out)) (by decide) HGR4.out)
     have hp04 := (blk_cell (blk_grown8 (blk_drewN HP8.out _) HGR4.out (Kd.R_drewN HO.out _)) 0).trans (rfl : #[Value.int .u64 s.f0, Value.int .u64 s.f1][0]? = some (.int .u64 s.f0))
     have hp14 := (blk_cell (blk_grown8 (blk_drewN HP8.out _) HGR4.out (Kd.R_drewN HO.out _)) 1).trans (rfl : #[Value.int .u64 s.f0, Value.int .u64 s.f1][1]? = some (.int .u64 s.f1))
     have hfl : (out.flatMap cells2).length = out.length * 2 := flat_len (g := cells2) (fun _ => rfl) out
     have hcl : cur.toList.length = cap * 2 := by simpa using HCS.out
     have HCP := aM (copy_cells2 (j := j * 2) (n := out.length * 2) hfl (show j * 2 ≤ out.length * 2 by omega) HTK.out (by omega) HHG.out)
     have HL := aM (show ((out.flatMap cells2).drop (j * 2)).length = Nat.min (out.length + 1 - j) (out.length - j) * 2 by rw [List.length_drop, hfl, show Nat.min (out.length + 1 - j) (out.length - j) = out.length - j from Nat.min_eq_right (by omega), Nat.sub_mul])
     have HFT := aM (show j * 2 + 2 + ((out.flatMap cells2).drop (j * 2)).length ≤ cur.toList.length by rw [hcl, List.length_drop, hfl]; omega)
     have H1C := aM (show ∀ v ∈ (out.flatMap cells2).drop (j * 2), v.oneCell' = true from fun v hv => by
      have := List.mem_of_mem_drop hv
      simp only [List.mem_flatMap, cells2, List.mem_cons, List.not_mem_nil, or_false] at this
      obtain ⟨z, _, rfl | rfl⟩ := this <;> rfl)
     have HS2 := aM (show (Tryd.prog.info? 57).map (·.size) = some 2 by kernel_rfl)
     have HHT := aM (show w4.heap[g]? = some (.cells cur.toList.toArray 57 (0, 0)) by simpa using HHG.out)
     have hj1 : (0 : Int) ≤ (j : Int) + 1 := by omega
     have hj2 : (j : Int) + 1 ≤ (out.length : Int) + 1 := by omega
     have hj3 : (j : Int) ≤ (out.length : Int) + 1 := by omega
     have hc2 : ¬ cap = j := by omega
     have hjt : ((j : Int) + 1).toNat = j + 1 := by omega
     have hjw : IntKind.i64.wrap ((j : Int) + 1) = (j : Int) + 1 := IntWalk.i64_in _ (by omega)
     by_cases hc1 : cap = j + 1
     ·go_region_law ((with_reducible refine step_copy_gN rfl (.tmp 46) (.tmp 49) 52 52 rfl 57 Tryd.underlying52 2 HS2.out (some ⟨g, 0, none⟩) (some ⟨g, j * 2, none⟩) (out.length - j) (cap - (j + 1)) (out.length + 1 - j) (cap - j) ?g4 ?g5 g (j * 2 + 2) cur.toList 57 ?g1 ((out.flatMap cells2).drop (j * 2)) HL.out ?g2 HFT.out H1C.out ?_); (case g4 => go_simp); (case g5 => go_simp); (case g1 => exact HHT.out); (case g2 => exact (fun h_ => absurd h_ (by have h7 : Nat.min (out.length + 1 - j) (out.length - j) = out.length - j := Nat.min_eq_right (by omega); rw [h7]; omega))); intro w5 hg5 hgr5)
      clear hjw hjt
      have hgr5' : w4.grownBy w5 (some g) := ⟨hgr5.os, hgr5.tape, hgr5.output, hgr5.size, hgr5.block⟩
      have hspl : j * 2 + 1 < (splice cur.toList (j * 2 + 2) ((out.flatMap cells2).drop (j * 2))).length := by
       unfold splice
       simp only [List.length_append, List.length_take, List.length_drop, hcl, hfl]
       omega
      obtain ⟨⟨v5, hv5⟩, hf5⟩ := splice_cell hg5.out (show j * 2 < _ by omega)
      obtain ⟨⟨v6, hv6⟩, hf6⟩ := splice_cell hg5.out hspl
      have hne8 : b8 ≠ g := blk_ne (blk_grown8 (blk_drewN HP8.out _) HGR4.out (Kd.R_drewN HO.out _)) HHG.out (by decide)
      have HP85 := aM ((hgr5'.block b8 (blk_lt (blk_grown8 (blk_drewN HP8.out _) HGR4.out (Kd.R_drewN HO.out _))) (fun e_ => hne8 (Option.some.inj e_))).trans (blk_grown8 (blk_drewN HP8.out _) HGR4.out (Kd.R_drewN HO.out _)))
      have hp05 : w5.cell? ⟨b8, 0, none⟩ = some (.int .u64 s.f0) := (blk_cell HP85.out 0).trans rfl
      have hp15 : w5.cell? ⟨b8, 1, none⟩ = some (.int .u64 s.f1) := (blk_cell HP85.out 1).trans rfl
      have HG5 := aM hg5.out
      have HGR5 := aM hgr5'
      have HPS6 := aM (Kd.R_over' (v := (.slice (some ⟨g, 0, none⟩) (out.length + 1) cap : Value)) HPS5.out (fun k_ hk_ => by cases hk_; exact ⟨_, HHG.out⟩) (by decide) HGR5.out)
      clear hg5 hgr5 hgr5'
      have pj0 : (0 ≤ (j : Int)) = True := eq_true (by omega)
      have pj1 : ((j : Int) < (out.length : Int) + 1) = True := eq_true (by omega)
      have pj2 : decide ((j : Int) < (out.length : Int) + 1) = true := decide_eq_true (by omega)
      go_wp2
      go_roundw
      case rel =>
       have hrow := insert_row2 (x1 := .int .u64 s.f0) (x2 := .int .u64 s.f1) hbg hfl (show j ≤ out.length by omega) hnc hcm HCS.out HTK.out HG5.out
       refine ⟨i + 1, out.take j ++ toP s :: out.drop j, by go_num, by omega, ⟨by rw [hstep.out]; exact HIN.out.symm⟩, ⟨?_⟩, ⟨?_⟩, ⟨?_⟩⟩
       ·refine flat_own (g := cells2) (fun w_ b_ o_ x_ => k57_mkM w_ b_ o_ x_) (fun _ => rfl) ?_ (fun _ _ => trivial)
        have e1 : (out.take j ++ toP s :: out.drop j).flatMap cells2 = (out.flatMap cells2).take (j * 2) ++ .int .u64 s.f0 :: .int .u64 s.f1 :: (out.flatMap cells2).drop (j * 2) := by rw [List.flatMap_append, List.flatMap_cons, flat_take (g := cells2) (s := 2) (fun _ => rfl), flat_drop (g := cells2) (s := 2) (fun _ => rfl)]; rfl
        have e2 : (out.take j ++ toP s :: out.drop j).length = out.length + 1 := by simp; omega
        rw [e1, e2]
        first | exact hrow | (rw [hc1] at hrow; exact hrow)
       ·exact tM HPS6.out HG5.out (fun _ hk => hk.1)
       ·exact ((HB4.out.grown HGR5.out (by have := HB4.out.size; omega) (fun k_ hk_ => by cases hk_; exact hbg)).setCell (p := ⟨g, j * 2, none⟩) hbg _).setCell (p := ⟨g, j * 2 + 1, none⟩) hbg _
      case measure => simp [intOf]; omega
     ·go_region_law ((with_reducible refine step_copy_gN rfl (.tmp 46) (.tmp 49) 52 52 rfl 57 Tryd.underlying52 2 HS2.out (some ⟨g, (j + 1) * 2, none⟩) (some ⟨g, j * 2, none⟩) (out.length - j) (cap - (j + 1)) (out.length + 1 - j) (cap - j) ?g4 ?g5 g (j * 2 + 2) cur.toList 57 ?g1 ((out.flatMap cells2).drop (j * 2)) HL.out ?g2 HFT.out H1C.out ?_); (case g4 => go_simp); (case g5 => go_simp); (case g1 => exact HHT.out); (case g2 => exact (fun _ => ⟨by rw [Nat.add_mul], ⟨g, j * 2, none⟩, rfl, HCP.out⟩)); intro w5 hg5 hgr5)
      clear hjw hjt
      have hgr5' : w4.grownBy w5 (some g) := ⟨hgr5.os, hgr5.tape, hgr5.output, hgr5.size, hgr5.block⟩
      have hspl : j * 2 + 1 < (splice cur.toList (j * 2 + 2) ((out.flatMap cells2).drop (j * 2))).length := by
       unfold splice
       simp only [List.length_append, List.length_take, List.length_drop, hcl, hfl]
       omega
      obtain ⟨⟨v5, hv5⟩, hf5⟩ := splice_cell hg5.out (show j * 2 < _ by omega)
      obtain ⟨⟨v6, hv6⟩, hf6⟩ := splice_cell hg5.out hspl
      have hne8 : b8 ≠ g := blk_ne (blk_grown8 (blk_drewN HP8.out _) HGR4.out (Kd.R_drewN HO.out _)) HHG.out (by decide)
      have HP85 := aM ((hgr5'.block b8 (blk_lt (blk_grown8 (blk_drewN HP8.out _) HGR4.out (Kd.R_drewN HO.out _))) (fun e_ => hne8 (Option.some.inj e_))).trans (blk_grown8 (blk_drewN HP8.out _) HGR4.out (Kd.R_drewN HO.out _)))
      have hp05 : w5.cell? ⟨b8, 0, none⟩ = some (.int .u64 s.f0) := (blk_cell HP85.out 0).trans rfl
      have hp15 : w5.cell? ⟨b8, 1, none⟩ = some (.int .u64 s.f1) := (blk_cell HP85.out 1).trans rfl
      have HG5 := aM hg5.out
      have HGR5 := aM hgr5'
      have HPS6 := aM (Kd.R_over' (v := (.slice (some ⟨g, 0, none⟩) (out.length + 1) cap : Value)) HPS5.out (fun k_ hk_ => by cases hk_; exact ⟨_, HHG.out⟩) (by decide) HGR5.out)
      clear hg5 hgr5 hgr5'
      have pj0 : (0 ≤ (j : Int)) = True := eq_true (by omega)
      have pj1 : ((j : Int) < (out.length : Int) + 1) = True := eq_true (by omega)
      have pj2 : decide ((j : Int) < (out.length : Int) + 1) = true := decide_eq_true (by omega)
      go_wp2
      go_roundw
      case rel =>
       have hrow := insert_row2 (x1 := .int .u64 s.f0) (x2 := .int .u64 s.f1) hbg hfl (show j ≤ out.length by omega) hnc hcm HCS.out HTK.out HG5.out
       refine ⟨i + 1, out.take j ++ toP s :: out.drop j, by go_num, by omega, ⟨by rw [hstep.out]; exact HIN.out.symm⟩, ⟨?_⟩, ⟨?_⟩, ⟨?_⟩⟩
       ·refine flat_own (g := cells2) (fun w_ b_ o_ x_ => k57_mkM w_ b_ o_ x_) (fun _ => rfl) ?_ (fun _ _ => trivial)
        have e1 : (out.take j ++ toP s :: out.drop j).flatMap cells2 = (out.flatMap cells2).take (j * 2) ++ .int .u64 s.f0 :: .int .u64 s.f1 :: (out.flatMap cells2).drop (j * 2) := by rw [List.flatMap_append, List.flatMap_cons, flat_take (g := cells2) (s := 2) (fun _ => rfl), flat_drop (g := cells2) (s := 2) (fun _ => rfl)]; rfl
        have e2 : (out.take j ++ toP s :: out.drop j).length = out.length + 1 := by simp; omega
        rw [e1, e2]
        first | exact hrow | (rw [hc1] at hrow; exact hrow)
       ·exact tM HPS6.out HG5.out (fun _ hk => hk.1)
       ·exact ((HB4.out.grown HGR5.out (by have := HB4.out.size; omega) (fun k_ hk_ => by cases hk_; exact hbg)).setCell (p := ⟨g, j * 2, none⟩) hbg _).setCell (p := ⟨g, j * 2 + 1, none⟩) hbg _
      case measure => simp [intOf]; omega
  ·have hin : i = ps.length := by omega
   subst hin
   have q1 : decide ((ps.length : Int) < (ps.length : Int)) = false := decide_eq_false (by omega)
   go_wp2
   go_ret2
   exact ⟨_, rfl, by rw [List.take_length] at HE; rw [← HE.out]; exact HO.out, HB.out⟩


end


attribute [local go_sem high] eqA57

/-! ### r49_Equal: function 23 -/
def r49_Equal.l0 : Nat → List (S57) → List (S57) → Int → Option (Bool)
 | 0, _, _, _ => none
 | k + 1, x0, x1, x5 => if x5 < (x0.length : Int) then (if 0 ≤ x5 then (if x5 < (x1.length : Int) then (if (!(((rd_T57 x0 x5).f0) == ((rd_T57 x1 x5).f0)) || (!(((rd_T57 x0 x5).f1) == ((rd_T57 x1 x5).f1)))) = true then (some false) else (r49_Equal.l0 k x0 x1 (wrap64 (x5 + 1)))) else (none)) else (none)) else (some true)
def r49_Equal.f (k : Nat) (l0 : List (S57)) (l1 : List (S57)) : Option (Bool) := if (l0.length : Int) = (l1.length : Int) then (r49_Equal.l0 k l0 l1 0) else (some false)
theorem r49_Equal.mono_l : ∀ k, (∀ y0 y1 y2, LeO (r49_Equal.l0 k y0 y1 y2) (r49_Equal.l0 (k + 1) y0 y1 y2))
 | 0 => fun _ _ _ r h => by simp [r49_Equal.l0] at h
 | k + 1 => by
  have ih0 := r49_Equal.mono_l k
  ·
   intro y0 y1 y2
   unfold r49_Equal.l0
   repeat' first
   | (with_reducible first | apply ih0 | exact LeO.refl _ | exact LeO.none _ | refine LeO.ite ?_ ?_ | refine LeO.bind ?_ (fun _ => ?_))
theorem r49_Equal.mono : ∀ a0 a1 k, LeO (r49_Equal.f k a0 a1) (r49_Equal.f (k + 1) a0 a1) := by
 intro a0 a1 k
 have ih0 := r49_Equal.mono_l k
 unfold r49_Equal.f
 repeat' first
   | (with_reducible first | apply ih0 | exact LeO.refl _ | exact LeO.none _ | refine LeO.ite ?_ ?_ | refine LeO.bind ?_ (fun _ => ?_))
set_option maxHeartbeats 8000000 in
set_option maxRecDepth 100000 in
theorem r49_Equal.calls (k : Nat) (A0 : Option Addr) (c0 : Nat) (l0 : List (S57)) (A1 : Option Addr) (c1 : Nat) (l1 : List (S57)) (r : Bool) (w : World) (hr0 : Kd.C k57 w A0 l0.length l0) (hc0 : l0.length ≤ c0) (hr1 : Kd.C k57 w A1 l1.length l1) (hc1 : l1.length ≤ c1) (h : r49_Equal.f k l0 l1 = some r) :
  Calls Tryd.prog 23 #[.slice A0 l0.length c0, .slice A1 l1.length c1] w fun e w' => e = .returned (.bool r) ∧ Drawn0 w w' := by
 have hu57 := Tryd.underlying57; have hu56 := Tryd.underlying56; have HR0 := aM hr0; have HC0 := aM hc0; clear hr0 hc0; have HR1 := aM hr1; have HC1 := aM hc1; clear hr1 hc1; have H : (if (l0.length : Int) = (l1.length : Int) then (r49_Equal.l0 k l0 l1 0) else (some false)) = some r := h; clear h
 by_cases c3 : (l0.length : Int) = (l1.length : Int)
 rotate_left
 ·
  rw [if_neg c3] at H
  have c3b0 : ((l0.length : Int) == (l1.length : Int)) = false := beq_eq_false_iff_ne.mpr c3; have c3b1 : ((l0.length : Int) != (l1.length : Int)) = true := bne_iff_ne.mpr c3
  have c3b2 : (l0.length == l1.length) = false := by first | simpa using c3 | (simp at c3 ⊢; omega)
  obtain rfl := Option.some.inj H
  go_enter Tryd.func23, Tryd.ntmps23
  go_wp2
  repeat (go_quiet (fail); try go_wp2)
  go_ret
  exact ⟨by first | rfl | (simp; done) | (simp [*]; done), by repeat (first | exact Drawn0.refl _ | apply Drawn0.step)⟩


 rw [if_pos c3] at H; have c3b0 : ((l0.length : Int) == (l1.length : Int)) = true := beq_iff_eq.mpr c3; have c3b1 : ((l0.length : Int) != (l1.length : Int)) = false := bne_eq_false_iff_eq.mpr c3
 have c3b2 : (l0.length == l1.length) = true := by first | simpa using c3 | (simp at c3 ⊢; omega)
 clear c3
 have H' := aM H
 clear H
 go_enter Tryd.func23, Tryd.ntmps23
 go_wp2
 repeat (go_quiet (fail); try go_wp2)
 go_loopg [5] k (fun kq v5 w' => ∃ (x5_1 : Int), v5 = .int .i64 x5_1 ∧ Aside0 (r49_Equal.l0 kq l0 l1 x5_1 = some r) ∧ Aside0 (kq ≤ k) ∧ Drawn0 w w')
 case atStart => exact ⟨(0), eT, H', ⟨Nat.le_refl _⟩, by repeat (first | exact Drawn0.refl _ | apply Drawn0.step)⟩
 clear H'
 obtain ⟨x5_1, rfl, HA, HK1, ⟨m1, rfl⟩⟩ := hrel
 cases gk with
 | zero => exact absurd HA.out (by simp [r49_Equal.l0])
 | succ k1 =>
  have H := HA.out; clear HA
  simp only [r49_Equal.l0] at H
  by_cases c4 : x5_1 < (l0.length : Int)
  rotate_left
  ·
   rw [if_neg c4] at H
   have c4b0 := decide_eq_false c4; clear c4
   obtain rfl := Option.some.inj H
   go_wp2
   repeat (go_quiet (fail); try go_wp2)
   go_ret
   exact ⟨by first | rfl | (simp; done) | (simp [*]; done), by repeat (first | exact Drawn0.refl _ | apply Drawn0.step)⟩
  rw [if_pos c4] at H; have c4b0 := decide_eq_true c4; clear c4
  obtain ⟨c5, H⟩ := iP H; have c5b0 := decide_eq_true c5; clear c5
  obtain ⟨c6, H⟩ := iP H; have c6b0 := decide_eq_true c6; clear c6
  by_cases c7 : (!(((rd_T57 l0 x5_1).f0) == ((rd_T57 l1 x5_1).f0)) || (!(((rd_T57 l0 x5_1).f1) == ((rd_T57 l1 x5_1).f1)))) = true
  ·
   rw [if_pos c7] at H
   have c7b0 : (!(((rd_T57 l0 x5_1).f0) == ((rd_T57 l1 x5_1).f0)) || (!(((rd_T57 l0 x5_1).f1) == ((rd_T57 l1 x5_1).f1)))) = true := c7; clear c7
   obtain rfl := Option.some.inj H
   obtain ⟨p170, q170, ad170, e170, hx170_0, hx170_1⟩ := aT (at_T57 HR0.out x5_1); cases e170; obtain ⟨p171, q171, ad171, e171, hx171_0, hx171_1⟩ := aT (at_T57 HR1.out x5_1); cases e171
   go_wp2
   repeat (go_quiet (fail); try go_wp2)
   go_ret
   exact ⟨by first | rfl | (simp; done) | (simp [*]; done), by repeat (first | exact Drawn0.refl _ | apply Drawn0.step)⟩
  rw [if_neg c7] at H
  have c7b0 : (!(((rd_T57 l0 x5_1).f0) == ((rd_T57 l1 x5_1).f0)) || (!(((rd_T57 l0 x5_1).f1) == ((rd_T57 l1 x5_1).f1)))) = false := by simpa using c7
  clear c7
  have H' := aM H
  clear H; obtain ⟨p170, q170, ad170, e170, hx170_0, hx170_1⟩ := aT (at_T57 HR0.out x5_1); cases e170; obtain ⟨p171, q171, ad171, e171, hx171_0, hx171_1⟩ := aT (at_T57 HR1.out x5_1); cases e171
  go_wp2
  repeat (go_quiet (fail); try go_wp2)
  go_roundg k1
  case measure => have := HK1.out; omega
  case rel => exact ⟨(wrap64 (x5_1 + 1)), eT, H', ⟨by have := HK1.out; omega⟩, by repeat (first | exact Drawn0.refl _ | apply Drawn0.step)⟩
/-! ### l49_exampleHolds: function 8 -/
def l49_exampleHolds.f (k : Nat)  : Option (Bool) := (d_Pairs.f k (([(([(⟨#[97]⟩ : ByteArray), (⟨#[98]⟩ : ByteArray), (⟨#[99]⟩ : ByteArray)] : List ByteArray))] : List (List ByteArray)))).bind fun bt178 => (if bt178.2 = 0 then ((r49_Equal.f k bt178.1 (([(⟨1, 2⟩ : S57), (⟨2, 4⟩ : S57)] : List (S57)))).bind fun t185 => (some t185)) else (some false))
theorem l49_exampleHolds.mono : ∀ k, LeO (l49_exampleHolds.f k ) (l49_exampleHolds.f (k + 1) ) := by
 intro  k
 unfold l49_exampleHolds.f
 repeat' first
   | (with_reducible first | apply d_Pairs.mono | apply r49_Equal.mono | exact LeO.refl _ | exact LeO.none _ | refine LeO.ite ?_ ?_ | refine LeO.bind ?_ (fun _ => ?_))
set_option maxHeartbeats 8000000 in
set_option maxRecDepth 100000 in
theorem l49_exampleHolds.calls (k : Nat)  (r : Bool) (w : World) (h : l49_exampleHolds.f k  = some r) (hrT_ : Aside0 (r = true)) :
  Calls Tryd.prog 8 #[] w fun e w' => e = .returned (.bool r) ∧ Below w.heap.size w w' := by
 have hu57 := Tryd.underlying57; have hu56 := Tryd.underlying56; have HB := aM (Below.refl w.heap.size w)
 have H : ((d_Pairs.f k (([(([(⟨#[97]⟩ : ByteArray), (⟨#[98]⟩ : ByteArray), (⟨#[99]⟩ : ByteArray)] : List ByteArray))] : List (List ByteArray)))).bind fun bt178 => (if bt178.2 = 0 then ((r49_Equal.f k bt178.1 (([(⟨1, 2⟩ : S57), (⟨2, 4⟩ : S57)] : List (S57)))).bind fun t185 => (some t185)) else (some false))) = some r := h
 clear h
 obtain ⟨y172, hy172⟩ : ∃ y_ : List ByteArray, y_ = (([(⟨#[97]⟩ : ByteArray), (⟨#[98]⟩ : ByteArray), (⟨#[99]⟩ : ByteArray)] : List ByteArray)) := ⟨_, rfl⟩
 replace H : ((d_Pairs.f k (([y172] : List (List ByteArray)))).bind fun bt178 => (if bt178.2 = 0 then ((r49_Equal.f k bt178.1 (([(⟨1, 2⟩ : S57), (⟨2, 4⟩ : S57)] : List (S57)))).bind fun t185 => (some t185)) else (some false))) = some r := yT hy172 H
 have Ny172 := aM hy172; clear hy172
 obtain ⟨y175, hy175⟩ : ∃ y_ : List (List ByteArray), y_ = (([y172] : List (List ByteArray))) := ⟨_, rfl⟩
 replace H : ((d_Pairs.f k y175).bind fun bt178 => (if bt178.2 = 0 then ((r49_Equal.f k bt178.1 (([(⟨1, 2⟩ : S57), (⟨2, 4⟩ : S57)] : List (S57)))).bind fun t185 => (some t185)) else (some false))) = some r := yT hy175 H
 have Ny175 := aM hy175; clear hy175; obtain ⟨⟨t178, t179⟩, A1, H⟩ := iB H; (try dsimp only at H)
 by_cases c2 : t179 = 0
 rotate_left
 ·
  rw [if_neg c2] at H
  have c2b0 : (t179 == 0) = false := beq_eq_false_iff_ne.mpr c2; have c2b1 : (t179 != 0) = true := bne_iff_ne.mpr c2
  exact absurd ((Option.some.inj H).trans hrT_.out) Bool.false_ne_true


 rw [if_pos c2] at H; have c2b0 : (t179 == 0) = true := beq_iff_eq.mpr c2; have c2b1 : (t179 != 0) = false := bne_eq_false_iff_eq.mpr c2; clear c2
 obtain ⟨y182, hy182⟩ : ∃ y_ : List (S57), y_ = (([(⟨1, 2⟩ : S57), (⟨2, 4⟩ : S57)] : List (S57))) := ⟨_, rfl⟩
 replace H : ((r49_Equal.f k t178 y182).bind fun t185 => (some t185)) = some r := yT hy182 H
 have Ny182 := aM hy182; clear hy182; replace H := Option.bind_eq_some_iff.mp H; obtain ⟨t185, A30, H⟩ := H
 replace H : (some t185) = some r := H
 have A3 := aM A30; clear A30
 obtain rfl := Option.some.inj H
 go_enter Tryd.func8, Tryd.ntmps8
 go_wp2_with (first | ((with_reducible refine gate_dst (N := 4) rfl ?_); (try (refine gate_guard (by rfl) ?_; dsimp only)); refine Kd.R_lit Kd.string _ 9 ?hg (N := 4) ?hd (xs := ([(⟨#[97]⟩ : ByteArray), (⟨#[98]⟩ : ByteArray), (⟨#[99]⟩ : ByteArray)] : List ByteArray)) (inner := [.string (⟨#[97]⟩ : ByteArray), .string (⟨#[98]⟩ : ByteArray), .string (⟨#[99]⟩ : ByteArray)]) (ok := fun _ => True) (okp := fun _ => True) ?hr ?hp (fun _ hk => hk) trivial (Below.refl _ _) (Nat.le_refl _) (by simp) ?_; (case hd => rfl); (case hg => rfl); (case hr => first | (go_simp; done) | (go_simp; rfl)); (case hp => exact (Reps.one (show Kd.M Kd.string _ _ _ (⟨#[97]⟩ : ByteArray) [.string (⟨#[97]⟩ : ByteArray)] from rfl) (Reps.one (show Kd.M Kd.string _ _ _ (⟨#[98]⟩ : ByteArray) [.string (⟨#[98]⟩ : ByteArray)] from rfl) (Reps.one (show Kd.M Kd.string _ _ _ (⟨#[99]⟩ : ByteArray) [.string (⟨#[99]⟩ : ByteArray)] from rfl) (Reps.none _ _))))); intro v173 w4 ho5 hb hg_ hnew_; clear hg_ hnew_; (first | rw [← Ny172.out] at ho5 | (simp only [Int.reduceToNat] at ho5; rw [← Ny172.out] at ho5)); have HO174 := aM (Kd.R_lower ho5 (below_size (bB HB.out))); replace HB := aM (below_step (bB HB.out) hb); clear hb ho5; obtain ⟨Ao6, co6, eo6⟩ := Kd.R_slice HO174.out; subst eo6) | ((with_reducible refine gate_dst (N := 5) rfl ?_); (try (refine gate_guard (by rfl) ?_; dsimp only)); refine Kd.N_lit (Kd.slice 9 Kd.string) _ 34 ?hg (N' := 5) ?hd (xs := ([y172] : List (List ByteArray))) (inner := [.slice Ao6 y172.length co6]) (ok := (fun _ => True)) (okp := (fun _ => True)) ?hr ?hp (fun _ hk => hk) ((show ∀ k_, w4.heap.size ≤ k_ → (fun _ => True) k_ from fun k_ hk => trivial) _ (Nat.le_refl _)) (Below.refl _ _) (Nat.le_refl _) (by simp) ?_; (case hd => rfl); (case hg => rfl); (case hr => first | (go_simp; done) | (go_simp; rfl)); (case hp => exact (Reps.one (show Kd.FK (Kd.slice 9 Kd.string) _ _ y172 [.slice Ao6 y172.length co6] from (Kd.FK_slice_mk (Kd.R_reads' (Kd.R_mono (ok' := (fun _ => True)) (HO174.out) (fun k_ hk => trivial))).2.1 (Kd.R_F (Kd.R_mono (ok' := (fun _ => True)) (HO174.out) (fun k_ hk => trivial))))) (Reps.none _ _))); intro v176 w7 ho8 hb hg_ hnew_; clear hg_ hnew_; (first | rw [← Ny175.out] at ho8 | (simp only [Int.reduceToNat] at ho8; rw [← Ny175.out] at ho8)); have HO177 := aM (Kd.N_lower ho8 (below_size (bB HB.out))); replace HB := aM (below_step (bB HB.out) hb); clear HO174; clear hb ho8; obtain ⟨Ao9, co9, eo9⟩ := Kd.N_slice HO177.out; subst eo9) | ((with_reducible refine gate_callee (f := 22) rfl ?_); refine gM (some 6) Tryd.func22 #[.slice Ao9 y175.length co9] ?_; (with_reducible refine (d_Pairs.calls k _ _ y175 t178 t179 _ ?side1 ?side2 A1.out).mono ?_); (case side1 => repeat (first | exact (Kd.N_reads' HO177.out).2.2 | (with_reducible refine Kd.C_alloc ?_ _) | (with_reducible refine Kd.C_drewN ?_ _) | (with_reducible refine Kd.C_drew ?_))); (case side2 => exact (Kd.N_reads' HO177.out).2.1); rintro e w10 ⟨v180, rfl, ho0, hb⟩; refine ⟨_, rfl, ?_⟩; replace HO177 := aM (Kd.N_elder' (oN HO177.out) (Kd.R_base ho0) hb); have HO181 := aM (Kd.R_lower ho0 (below_size (bB HB.out))); replace HB := aM (below_step (bB HB.out) hb); clear hb ho0) | ((with_reducible refine gate_dst (N := 15) rfl ?_); (try (refine gate_guard (by rfl) ?_; dsimp only)); refine Kd.R_lit k57 _ 57 ?hg (N := 15) ?hd (xs := ([(⟨1, 2⟩ : S57), (⟨2, 4⟩ : S57)] : List (S57))) (inner := [.int .u64 1, .int .u64 2, .int .u64 2, .int .u64 4]) (ok := fun _ => True) (okp := fun _ => True) ?hr ?hp (fun _ hk => hk) trivial (Below.refl _ _) (Nat.le_refl _) (by simp) ?_; (case hd => rfl); (case hg => rfl); (case hr => first | (go_simp; done) | (go_simp; rfl)); (case hp => exact (Reps.c2 (show Kd.M k57 _ _ _ (⟨1, 2⟩ : S57) [.int .u64 1, .int .u64 2] from (k57_mkM _ _ _ (⟨1, 2⟩ : S57) )) (Reps.c2 (show Kd.M k57 _ _ _ (⟨2, 4⟩ : S57) [.int .u64 2, .int .u64 4] from (k57_mkM _ _ _ (⟨2, 4⟩ : S57) )) (Reps.none _ _)))); intro v183 w11 ho12 hb hg_ hnew_; clear hg_ hnew_; (first | rw [← Ny182.out] at ho12 | (simp only [Int.reduceToNat] at ho12; rw [← Ny182.out] at ho12)); replace HO177 := aM (Kd.N_elder' (oN HO177.out) (Kd.R_base ho12) hb); have HO184 := aM (Kd.R_lower (Kd.R_new' ho12 (Kd.R_lt (oR HO181.out))) (below_size (bB HB.out))); replace HO181 := aM (Kd.R_elder' (oR HO181.out) (Kd.R_base ho12) hb); replace HB := aM (below_step (bB HB.out) hb); clear hb ho12; obtain ⟨Ao13, co13, eo13⟩ := Kd.R_slice HO181.out; subst eo13; obtain ⟨Ao14, co14, eo14⟩ := Kd.R_slice HO184.out; subst eo14) | (go_at_call 23; (with_reducible refine (r49_Equal.calls k _ _ t178 _ _ y182 t185 _ ?side1 ?side2 ?side3 ?side4 A3.out).mono ?_); (case side1 => repeat (first | exact (Kd.R_reads' HO181.out).2.2 | (with_reducible refine Kd.C_alloc ?_ _) | (with_reducible refine Kd.C_drewN ?_ _) | (with_reducible refine Kd.C_drew ?_))); (case side2 => exact (Kd.R_reads' HO181.out).2.1); (case side3 => repeat (first | exact (Kd.R_reads' HO184.out).2.2 | (with_reducible refine Kd.C_alloc ?_ _) | (with_reducible refine Kd.C_drewN ?_ _) | (with_reducible refine Kd.C_drew ?_))); (case side4 => exact (Kd.R_reads' HO184.out).2.1); rintro e w' ⟨rfl, ⟨nd, rfl⟩⟩))
 go_ret
 exact ⟨rT, bB HB.out⟩


section
-- STUBBED 69
/-! ### strconv_small: function 69: by hand -/
def smallRen : Go.Shelf.Ren := ⟨fun | 283 => 69 | n => n, fun | 3 => 3 | 4 => 4 | 9 => 9 | n => n, fun | n => n⟩
theorem smallLays : Go.Proofs.Lays.n283 Tryd.prog smallRen := {
 mixed := by kernel_rfl
 f283 := Tryd.func69.trans (congrArg some (by kernel_rfl))
 t3 := Tryd.underlying3
 a3 := Tryd.isAgg3
 z3 := Tryd.sizeOf3
 v3 := Tryd.zeroValue3
 t4 := Tryd.underlying4
 a4 := Tryd.isAgg4
 z4 := Tryd.sizeOf4
 v4 := Tryd.zeroValue4
 t9 := Tryd.underlying9
 a9 := Tryd.isAgg9
 z9 := Tryd.sizeOf9
 v9 := Tryd.zeroValue9
}
def strconv_small.f (a0 : Int) : Option (ByteArray) := if 0 ≤ a0 ∧ a0 < 100 then some ⟨(Go.Lib.decDigits a0.toNat).toArray⟩ else none
theorem strconv_small.calls (a0 : Int) (r : ByteArray) (w : World) (h : strconv_small.f a0 = some r) :
  Calls Tryd.prog 69 #[.int .i64 a0] w fun e w' => e = .returned (.string r) ∧ Drawn0 w w' := by
 unfold strconv_small.f at h
 split at h
 ·rename_i hc
  obtain ⟨i, rfl⟩ := Int.eq_ofNat_of_zero_le hc.1
  obtain rfl := Option.some.inj h
  refine (Go.Proofs.Any.internal_strconv_small smallLays i (by omega) w).mono ?_
  rintro e w' ⟨rfl, rfl⟩
  exact ⟨rfl, Drawn0.refl _⟩
 ·cases h


end





section
-- STUBBED 64
/-! ### strconv_FormatInt: function 64: by hand -/
def strconv_FormatInt.f (a0 : Int) (a1 : Int) : Option (ByteArray) := if a1 = 10 ∧ 0 ≤ a0 ∧ a0 < 100 then strconv_small.f a0 else none
set_option maxHeartbeats 8000000 in
set_option maxRecDepth 100000 in
theorem strconv_FormatInt.calls (a0 : Int) (a1 : Int) (r : ByteArray) (w : World) (h : strconv_FormatInt.f a0 a1 = some r) :
  Calls Tryd.prog 64 #[.int .i64 a0, .int .i64 a1] w fun e w' => e = .returned (.string r) ∧ Drawn0 w w' := by
 unfold strconv_FormatInt.f at h
 by_cases hc : a1 = 10 ∧ 0 ≤ a0 ∧ a0 < 100
 ·rw [if_pos hc] at h
  obtain ⟨rfl, h1, h2⟩ := hc
  have HS := aM h
  have p1 : decide (0 ≤ a0) = true := decide_eq_true h1
  have p2 : decide (a0 < 100) = true := decide_eq_true h2
  clear h h1 h2
  go_enter Tryd.func64, Tryd.ntmps64
  go_wp2_with (go_at_call 69; (refine (strconv_small.calls a0 r _ HS.out).mono ?_); rintro e_ w_ ⟨rfl, dn, rfl⟩)
  go_ret
  exact ⟨rfl, by first | exact ⟨_, rfl⟩ | exact Drawn0.refl _ | (repeat (first | exact Drawn0.refl _ | apply Drawn0.step))⟩
 ·rw [if_neg hc] at h; cases h


end



/-! ### strconv_Itoa_47: function 47 -/
def strconv_Itoa_47.f (a0 : Int) : Option (ByteArray) := (strconv_FormatInt.f a0 10).bind fun t204 => (some t204)
set_option maxHeartbeats 8000000 in
set_option maxRecDepth 100000 in
theorem strconv_Itoa_47.calls (a0 : Int) (r : ByteArray) (w : World) (h : strconv_Itoa_47.f a0 = some r) :
  Calls Tryd.prog 47 #[.int .i64 a0] w fun e w' => e = .returned (.string r) ∧ Drawn0 w w' := by
 have H : ((strconv_FormatInt.f a0 10).bind fun t204 => (some t204)) = some r := h; clear h; replace H := Option.bind_eq_some_iff.mp H; obtain ⟨t204, A20, H⟩ := H
 replace H : (some t204) = some r := H
 have A2 := aM A20; clear A20
 obtain rfl := Option.some.inj H
 go_enter Tryd.func47, Tryd.ntmps47
 go_wp2_with (first | ((with_reducible refine gate_callee (f := 64) rfl ?_); refine gM (some 4) Tryd.func64 #[.int .i64 a0, .int .i64 10] ?_; (with_reducible refine (strconv_FormatInt.calls a0 10 t204 _ A2.out).mono ?_); rintro e w' ⟨rfl, ⟨nd, rfl⟩⟩; refine ⟨_, rfl, ?_⟩))
 go_ret
 exact ⟨by first | rfl | (simp; done) | (simp [*]; done), by repeat (first | exact Drawn0.refl _ | apply Drawn0.step)⟩


/-! ### strconv_Itoa_24: function 24 -/
def strconv_Itoa_24.f (a0 : Int) : Option (ByteArray) := (strconv_Itoa_47.f a0).bind fun t205 => (some t205)
set_option maxHeartbeats 8000000 in
set_option maxRecDepth 100000 in
theorem strconv_Itoa_24.calls (a0 : Int) (r : ByteArray) (w : World) (h : strconv_Itoa_24.f a0 = some r) :
  Calls Tryd.prog 24 #[.int .i64 a0] w fun e w' => e = .returned (.string r) ∧ Drawn0 w w' := by
 have H : ((strconv_Itoa_47.f a0).bind fun t205 => (some t205)) = some r := h; clear h; replace H := Option.bind_eq_some_iff.mp H; obtain ⟨t205, A20, H⟩ := H
 replace H : (some t205) = some r := H
 have A2 := aM A20; clear A20
 obtain rfl := Option.some.inj H
 go_enter Tryd.func24, Tryd.ntmps24
 go_wp2_with (first | ((with_reducible refine gate_callee (f := 47) rfl ?_); refine gM (some 4) Tryd.func47 #[.int .i64 a0] ?_; (with_reducible refine (strconv_Itoa_47.calls a0 t205 _ A2.out).mono ?_); rintro e w' ⟨rfl, ⟨nd, rfl⟩⟩; refine ⟨_, rfl, ?_⟩))
 go_ret
 exact ⟨by first | rfl | (simp; done) | (simp [*]; done), by repeat (first | exact Drawn0.refl _ | apply Drawn0.step)⟩


/-! ### e_First: function 25 -/
def e_First.l0 : Nat → List ByteArray → List (List ByteArray) → Int → Int → Option (List ByteArray)
 | 0, _, _, _, _ => none
 | k + 1, x3, x6, x7, x8 => if x8 < x7 then (if 0 ≤ x8 then (if x8 < (x6.length : Int) then (if ((rd_L1 x6 x8).length : Int) > 0 then (if 0 < ((rd_L1 x6 x8).length : Int) then ((e_insert.f x3 (rdOf ByteArray.empty (rd_L1 x6 x8) 0)).bind fun t208 => (e_First.l0 k t208 x6 x7 (wrap64 (x8 + 1)))) else (none)) else (e_First.l0 k x3 x6 x7 (wrap64 (x8 + 1)))) else (none)) else (none)) else (some x3)
def e_First.f (k : Nat) (l0 : List (List ByteArray)) : Option (List ByteArray) := e_First.l0 k ([] : List ByteArray) l0 (l0.length : Int) 0
theorem e_First.mono_l : ∀ k, (∀ y0 y1 y2 y3, LeO (e_First.l0 k y0 y1 y2 y3) (e_First.l0 (k + 1) y0 y1 y2 y3))
 | 0 => fun _ _ _ _ r h => by simp [e_First.l0] at h
 | k + 1 => by
  have ih0 := e_First.mono_l k
  ·
   intro y0 y1 y2 y3
   unfold e_First.l0
   repeat' first
   | (with_reducible first | apply ih0 | exact LeO.refl _ | exact LeO.none _ | refine LeO.ite ?_ ?_ | refine LeO.bind ?_ (fun _ => ?_))
theorem e_First.mono : ∀ a0 k, LeO (e_First.f k a0) (e_First.f (k + 1) a0) := by
 intro a0 k
 have ih0 := e_First.mono_l k
 unfold e_First.f
 repeat' first
   | (with_reducible first | apply ih0 | exact LeO.refl _ | exact LeO.none _ | refine LeO.ite ?_ ?_ | refine LeO.bind ?_ (fun _ => ?_))
set_option maxHeartbeats 8000000 in
set_option maxRecDepth 100000 in
theorem e_First.calls (k : Nat) (A0 : Option Addr) (c0 : Nat) (l0 : List (List ByteArray)) (r : List ByteArray) (w : World) (hr0 : Kd.C (Kd.slice 9 Kd.string) w A0 l0.length l0) (hc0 : l0.length ≤ c0) (h : e_First.f k l0 = some r) :
  Calls Tryd.prog 25 #[.slice A0 l0.length c0] w fun e w' => ∃ v0_ : Value, e = .returned (v0_) ∧ Kd.R Kd.string 9 w' w.heap.size (fun _ => True) v0_ r ∧ Below w.heap.size w w' := by
 have HR0 := aM hr0; have HC0 := aM hc0; clear hr0 hc0; have HB := aM (Below.refl w.heap.size w); have H : (e_First.l0 k ([] : List ByteArray) l0 (l0.length : Int) 0) = some r := h; clear h
 have H' := aM H
 clear H
 go_enter Tryd.func25, Tryd.ntmps25
 go_wp2
 go_loopg [3, 8] k (fun kq v3 v8 w' => ∃ (x3_1 : List ByteArray) (x8_1 : Int), v8 = .int .i64 x8_1 ∧ Aside0 (e_First.l0 kq x3_1 l0 (l0.length : Int) x8_1 = some r) ∧ Aside0 (kq ≤ k) ∧ Aside0 (Kd.R Kd.string 9 w' w.heap.size (fun _ => True) v3 x3_1) ∧ Aside0 (Below w.heap.size w w'))
 case atStart => exact ⟨(([] : List ByteArray)), (0), eT, H', ⟨Nat.le_refl _⟩, ⟨nT⟩, ⟨bB HB.out⟩⟩
 clear H'; obtain ⟨x3_1, x8_1, rfl, HA, HK1, HO_3, HB⟩ := hrel
 cases gk with
 | zero => exact absurd HA.out (by simp [e_First.l0])
 | succ k1 =>
  have H := HA.out; clear HA
  simp only [e_First.l0] at H
  by_cases c2 : x8_1 < (l0.length : Int)
  rotate_left
  ·
   rw [if_neg c2] at H
   have c2b0 := decide_eq_false c2; clear c2
   obtain rfl := Option.some.inj H
   go_wp2
   go_ret
   exact ⟨_, rT, oR HO_3.out, bB HB.out⟩


  rw [if_pos c2] at H; have c2b0 := decide_eq_true c2; clear c2
  obtain ⟨c3, H⟩ := iP H; have c3b0 := decide_eq_true c3; clear c3
  obtain ⟨c4, H⟩ := iP H; have c4b0 := decide_eq_true c4; clear c4
  by_cases c5 : ((rd_L1 l0 x8_1).length : Int) > 0
  rotate_left
  ·
   rw [if_neg c5] at H
   have c5b0 : decide (0 < ((rd_L1 l0 x8_1).length : Int)) = false := decide_eq_false c5; have c5b1 : decide (0 < (rd_L1 l0 x8_1).length) = false := decide_eq_false (by omega); clear c5
   have H' := aM H
   clear H; obtain ⟨p206, q206, ad206, A206_0, c206_0, e206, hx206_0, hl206_0, hi206_0⟩ := aT (at_L1 HR0.out x8_1); cases e206
   try replace hx206_0 := kX HB.out hx206_0
   have HR206_0 := aM hi206_0; have HC206_0 := aM hl206_0; clear hi206_0 hl206_0
   go_wp2
   go_roundg k1
   case measure => have := HK1.out; omega
   case rel => exact ⟨(x3_1), (wrap64 (x8_1 + 1)), eT, H', ⟨by have := HK1.out; omega⟩, ⟨oR HO_3.out⟩, ⟨bB HB.out⟩⟩
  rw [if_pos c5] at H; have c5b0 : decide (0 < ((rd_L1 l0 x8_1).length : Int)) = true := decide_eq_true c5; have c5b1 : decide (0 < (rd_L1 l0 x8_1).length) = true := decide_eq_true (by omega); clear c5
  obtain ⟨c6, H⟩ := iP H; have c6b0 := decide_eq_true c6; have c6b1 : decide (0 < (rd_L1 l0 x8_1).length) = true := decide_eq_true (by omega); clear c6; obtain ⟨t208, A7, H⟩ := iB H; (try dsimp only at H)
  have H' := aM H
  clear H; obtain ⟨p206, q206, ad206, A206_0, c206_0, e206, hx206_0, hl206_0, hi206_0⟩ := aT (at_L1 HR0.out x8_1); cases e206
  try replace hx206_0 := kX HB.out hx206_0
  have HR206_0 := aM hi206_0; have HC206_0 := aM hl206_0; clear hi206_0 hl206_0; have p207 : 0 ≤ (0 : Int) := (by omega); have q207 : 0 < ((rd_L1 l0 x8_1).length : Int) := dT; obtain ⟨ad207, e207, hx207_0⟩ := Kd.at_string HR206_0.out 0 p207 q207; cases e207; have qi207 : (0 < (rd_L1 l0 x8_1).length) = True := eq_true (by omega)
  (try rw [show ((0 : Int)).toNat = 0 from rfl] at hx207_0)
  (try rw [Addr.add_zero'] at hx207_0)
  try replace hx207_0 := kX HB.out hx207_0
  replace p207 := eq_true p207; replace q207 := eq_true q207; obtain ⟨Ao8, co8, eo8⟩ := Kd.R_slice HO_3.out; subst eo8
  go_wp2_with (first | ((with_reducible refine gate_callee (f := 48) rfl ?_); refine gM (some 19) Tryd.func48 #[.slice Ao8 x3_1.length co8, .string (rdOf ByteArray.empty (rd_L1 l0 x8_1) 0)] ?_; (with_reducible refine (e_insert.calls (fun k_ => some k_ = (.slice Ao8 x3_1.length co8 : Value).ownBlock) (.slice Ao8 x3_1.length co8) x3_1 (rdOf ByteArray.empty (rd_L1 l0 x8_1) 0) t208 w _ ?side1 ?side2 A7.out).mono ?_); (case side1 => repeat (first | (with_reducible first | exact HB.out | apply below_alloc | apply pw_below_drewN | apply below_drew1) | exact HB.out)); (case side2 => exact Kd.R_tight rfl HO_3.out); rintro e w9 ⟨v209, rfl, ho0, hb, hkp⟩; refine ⟨_, rfl, ?_⟩; have HO210 := aM (Kd.R_mono (ok' := fun k_ => True) ho0 (fun k_ hk_ => trivial)); replace HB := aM (hb); clear HO_3; clear hb hkp ho0))
  go_roundg k1
  case measure => have := HK1.out; omega
  case rel => exact ⟨(t208), (wrap64 (x8_1 + 1)), eT, H', ⟨by have := HK1.out; omega⟩, ⟨oR HO210.out⟩, ⟨bB HB.out⟩⟩
/-! ### e_Last: function 26 -/
def e_Last.l0 : Nat → List ByteArray → List (List ByteArray) → Int → Int → Option (List ByteArray)
 | 0, _, _, _, _ => none
 | k + 1, x3, x6, x7, x8 => if x8 < x7 then (if 0 ≤ x8 then (if x8 < (x6.length : Int) then (if ((rd_L1 x6 x8).length : Int) > 0 then (if 0 ≤ (wrap64 (((rd_L1 x6 x8).length : Int) - 1)) then (if (wrap64 (((rd_L1 x6 x8).length : Int) - 1)) < ((rd_L1 x6 x8).length : Int) then ((e_insert.f x3 (rdOf ByteArray.empty (rd_L1 x6 x8) (wrap64 (((rd_L1 x6 x8).length : Int) - 1)))).bind fun t213 => (e_Last.l0 k t213 x6 x7 (wrap64 (x8 + 1)))) else (none)) else (none)) else (e_Last.l0 k x3 x6 x7 (wrap64 (x8 + 1)))) else (none)) else (none)) else (some x3)
def e_Last.f (k : Nat) (l0 : List (List ByteArray)) : Option (List ByteArray) := e_Last.l0 k ([] : List ByteArray) l0 (l0.length : Int) 0
theorem e_Last.mono_l : ∀ k, (∀ y0 y1 y2 y3, LeO (e_Last.l0 k y0 y1 y2 y3) (e_Last.l0 (k + 1) y0 y1 y2 y3))
 | 0 => fun _ _ _ _ r h => by simp [e_Last.l0] at h
 | k + 1 => by
  have ih0 := e_Last.mono_l k
  ·
   intro y0 y1 y2 y3
   unfold e_Last.l0
   repeat' first
   | (with_reducible first | apply ih0 | exact LeO.refl _ | exact LeO.none _ | refine LeO.ite ?_ ?_ | refine LeO.bind ?_ (fun _ => ?_))
theorem e_Last.mono : ∀ a0 k, LeO (e_Last.f k a0) (e_Last.f (k + 1) a0) := by
 intro a0 k
 have ih0 := e_Last.mono_l k
 unfold e_Last.f
 repeat' first
   | (with_reducible first | apply ih0 | exact LeO.refl _ | exact LeO.none _ | refine LeO.ite ?_ ?_ | refine LeO.bind ?_ (fun _ => ?_))
set_option maxHeartbeats 8000000 in
set_option maxRecDepth 100000 in
theorem e_Last.calls (k : Nat) (A0 : Option Addr) (c0 : Nat) (l0 : List (List ByteArray)) (r : List ByteArray) (w : World) (hr0 : Kd.C (Kd.slice 9 Kd.string) w A0 l0.length l0) (hc0 : l0.length ≤ c0) (h : e_Last.f k l0 = some r) :
  Calls Tryd.prog 26 #[.slice A0 l0.length c0] w fun e w' => ∃ v0_ : Value, e = .returned (v0_) ∧ Kd.R Kd.string 9 w' w.heap.size (fun _ => True) v0_ r ∧ Below w.heap.size w w' := by
 have HR0 := aM hr0; have HC0 := aM hc0; clear hr0 hc0; have HB := aM (Below.refl w.heap.size w); have H : (e_Last.l0 k ([] : List ByteArray) l0 (l0.length : Int) 0) = some r := h; clear h
 have H' := aM H
 clear H
 go_enter Tryd.func26, Tryd.ntmps26
 go_wp2
 go_loopg [3, 8] k (fun kq v3 v8 w' => ∃ (x3_1 : List ByteArray) (x8_1 : Int), v8 = .int .i64 x8_1 ∧ Aside0 (e_Last.l0 kq x3_1 l0 (l0.length : Int) x8_1 = some r) ∧ Aside0 (kq ≤ k) ∧ Aside0 (Kd.R Kd.string 9 w' w.heap.size (fun _ => True) v3 x3_1) ∧ Aside0 (Below w.heap.size w w'))
 case atStart => exact ⟨(([] : List ByteArray)), (0), eT, H', ⟨Nat.le_refl _⟩, ⟨nT⟩, ⟨bB HB.out⟩⟩
 clear H'; obtain ⟨x3_1, x8_1, rfl, HA, HK1, HO_3, HB⟩ := hrel
 cases gk with
 | zero => exact absurd HA.out (by simp [e_Last.l0])
 | succ k1 =>
  have H := HA.out; clear HA
  simp only [e_Last.l0] at H
  by_cases c2 : x8_1 < (l0.length : Int)
  rotate_left
  ·
   rw [if_neg c2] at H
   have c2b0 := decide_eq_false c2; clear c2
   obtain rfl := Option.some.inj H
   go_wp2
   go_ret
   exact ⟨_, rT, oR HO_3.out, bB HB.out⟩


  rw [if_pos c2] at H; have c2b0 := decide_eq_true c2; clear c2
  obtain ⟨c3, H⟩ := iP H; have c3b0 := decide_eq_true c3; clear c3
  obtain ⟨c4, H⟩ := iP H; have c4b0 := decide_eq_true c4; clear c4
  by_cases c5 : ((rd_L1 l0 x8_1).length : Int) > 0
  rotate_left
  ·
   rw [if_neg c5] at H
   have c5b0 : decide (0 < ((rd_L1 l0 x8_1).length : Int)) = false := decide_eq_false c5; have c5b1 : decide (0 < (rd_L1 l0 x8_1).length) = false := decide_eq_false (by omega); clear c5
   have H' := aM H
   clear H; obtain ⟨p211, q211, ad211, A211_0, c211_0, e211, hx211_0, hl211_0, hi211_0⟩ := aT (at_L1 HR0.out x8_1); cases e211
   try replace hx211_0 := kX HB.out hx211_0
   have HR211_0 := aM hi211_0; have HC211_0 := aM hl211_0; clear hi211_0 hl211_0
   go_wp2
   go_roundg k1
   case measure => have := HK1.out; omega
   case rel => exact ⟨(x3_1), (wrap64 (x8_1 + 1)), eT, H', ⟨by have := HK1.out; omega⟩, ⟨oR HO_3.out⟩, ⟨bB HB.out⟩⟩
  rw [if_pos c5] at H; have c5b0 : decide (0 < ((rd_L1 l0 x8_1).length : Int)) = true := decide_eq_true c5; have c5b1 : decide (0 < (rd_L1 l0 x8_1).length) = true := decide_eq_true (by omega); clear c5
  obtain ⟨ji6, hji6⟩ : ∃ j_ : Int, (wrap64 (((rd_L1 l0 x8_1).length : Int) - 1)) = j_ := ⟨_, rfl⟩
  replace H : (if 0 ≤ (ji6) then (if (ji6) < ((rd_L1 l0 x8_1).length : Int) then ((e_insert.f x3_1 (rdOf ByteArray.empty (rd_L1 l0 x8_1) (ji6))).bind fun t213 => (e_Last.l0 k1 t213 l0 (l0.length : Int) (wrap64 (x8_1 + 1)))) else (none)) else (none)) = some r := by first | (rw [hji6] at H; exact H) | (simp only [hji6] at H ⊢; exact H)
  have hji6w : (IntKind.i64.wrap (((rd_L1 l0 x8_1).length : Int) - 1)) = ji6 := (i64_w _).trans hji6
  obtain ⟨c7, H⟩ := iP H; have c7b0 := decide_eq_true c7; clear c7
  obtain ⟨c8, H⟩ := iP H; have c8b0 := decide_eq_true c8; clear c8; obtain ⟨t213, A9, H⟩ := iB H; (try dsimp only at H)
  have H' := aM H
  clear H; obtain ⟨p211, q211, ad211, A211_0, c211_0, e211, hx211_0, hl211_0, hi211_0⟩ := aT (at_L1 HR0.out x8_1); cases e211
  try replace hx211_0 := kX HB.out hx211_0
  have HR211_0 := aM hi211_0; have HC211_0 := aM hl211_0; clear hi211_0 hl211_0; obtain ⟨p212, q212, ad212, e212, hx212_0⟩ := aT (Kd.at_string HR211_0.out (ji6)); cases e212
  try replace hx212_0 := kX HB.out hx212_0; obtain ⟨Ao10, co10, eo10⟩ := Kd.R_slice HO_3.out; subst eo10
  go_wp2_with (first | ((with_reducible refine gate_callee (f := 48) rfl ?_); refine goesL_ (some 22) rfl rfl Tryd.func48 (by kernel_rfl) rfl #[.slice Ao10 x3_1.length co10, .string (rdOf ByteArray.empty (rd_L1 l0 x8_1) (ji6))] rfl (by (try simp only [List.map_toArray, List.map_cons, List.map_nil]); first | done | (simp only [hji6]; rfl) | rfl | (simp only [List.length_drop, List.length_take]; rfl)) ?_; (with_reducible refine (e_insert.calls (fun k_ => some k_ = (.slice Ao10 x3_1.length co10 : Value).ownBlock) (.slice Ao10 x3_1.length co10) x3_1 (rdOf ByteArray.empty (rd_L1 l0 x8_1) (ji6)) t213 w _ ?side1 ?side2 A9.out).mono ?_); (case side1 => repeat (first | (with_reducible first | exact HB.out | apply below_alloc | apply pw_below_drewN | apply below_drew1) | exact HB.out)); (case side2 => exact Kd.R_tight rfl HO_3.out); rintro e w11 ⟨v214, rfl, ho0, hb, hkp⟩; refine ⟨_, rfl, ?_⟩; have HO215 := aM (Kd.R_mono (ok' := fun k_ => True) ho0 (fun k_ hk_ => trivial)); replace HB := aM (hb); clear HO_3; clear hb hkp ho0))
  go_roundg k1
  case measure => have := HK1.out; omega
  case rel => exact ⟨(t213), (wrap64 (x8_1 + 1)), eT, H', ⟨by have := HK1.out; omega⟩, ⟨oR HO215.out⟩, ⟨bB HB.out⟩⟩
/-! ### d_among: function 28 -/
def d_among.l0 : Nat → ByteArray → List ByteArray → Int → Int → Option (Bool)
 | 0, _, _, _, _ => none
 | k + 1, x1, x7, x8, x9 => if x9 < x8 then (if 0 ≤ x9 then (if x9 < (x7.length : Int) then (if (rdOf ByteArray.empty x7 x9).toList = x1.toList then (some true) else (d_among.l0 k x1 x7 x8 (wrap64 (x9 + 1)))) else (none)) else (none)) else (some false)
def d_among.f (k : Nat) (l0 : List ByteArray) (a1 : ByteArray) : Option (Bool) := d_among.l0 k a1 l0 (l0.length : Int) 0
theorem d_among.mono_l : ∀ k, (∀ y0 y1 y2 y3, LeO (d_among.l0 k y0 y1 y2 y3) (d_among.l0 (k + 1) y0 y1 y2 y3))
 | 0 => fun _ _ _ _ r h => by simp [d_among.l0] at h
 | k + 1 => by
  have ih0 := d_among.mono_l k
  ·
   intro y0 y1 y2 y3
   unfold d_among.l0
   repeat' first
   | (with_reducible first | apply ih0 | exact LeO.refl _ | exact LeO.none _ | refine LeO.ite ?_ ?_ | refine LeO.bind ?_ (fun _ => ?_))
theorem d_among.mono : ∀ a0 a1 k, LeO (d_among.f k a0 a1) (d_among.f (k + 1) a0 a1) := by
 intro a0 a1 k
 have ih0 := d_among.mono_l k
 unfold d_among.f
 repeat' first
   | (with_reducible first | apply ih0 | exact LeO.refl _ | exact LeO.none _ | refine LeO.ite ?_ ?_ | refine LeO.bind ?_ (fun _ => ?_))
set_option maxHeartbeats 8000000 in
set_option maxRecDepth 100000 in
theorem d_among.calls (k : Nat) (A0 : Option Addr) (c0 : Nat) (l0 : List ByteArray) (a1 : ByteArray) (r : Bool) (w : World) (hr0 : Kd.C Kd.string w A0 l0.length l0) (hc0 : l0.length ≤ c0) (h : d_among.f k l0 a1 = some r) :
  Calls Tryd.prog 28 #[.slice A0 l0.length c0, .string a1] w fun e w' => e = .returned (.bool r) ∧ Drawn0 w w' := by
 have HR0 := aM hr0; have HC0 := aM hc0; clear hr0 hc0; have H : (d_among.l0 k a1 l0 (l0.length : Int) 0) = some r := h; clear h
 have H' := aM H
 clear H
 go_enter Tryd.func28, Tryd.ntmps28
 go_wp2
 go_loopg [9] k (fun kq v9 w' => ∃ (x9_1 : Int), v9 = .int .i64 x9_1 ∧ Aside0 (d_among.l0 kq a1 l0 (l0.length : Int) x9_1 = some r) ∧ Aside0 (kq ≤ k) ∧ Drawn0 w w')
 case atStart => exact ⟨(0), eT, H', ⟨Nat.le_refl _⟩, by repeat (first | exact Drawn0.refl _ | apply Drawn0.step)⟩
 clear H'
 obtain ⟨x9_1, rfl, HA, HK1, ⟨m1, rfl⟩⟩ := hrel
 cases gk with
 | zero => exact absurd HA.out (by simp [d_among.l0])
 | succ k1 =>
  have H := HA.out; clear HA
  simp only [d_among.l0] at H
  by_cases c3 : x9_1 < (l0.length : Int)
  rotate_left
  ·
   rw [if_neg c3] at H
   have c3b0 := decide_eq_false c3; clear c3
   obtain rfl := Option.some.inj H
   go_wp2
   go_ret
   exact ⟨by first | rfl | (simp; done) | (simp [*]; done), by repeat (first | exact Drawn0.refl _ | apply Drawn0.step)⟩


  rw [if_pos c3] at H; have c3b0 := decide_eq_true c3; clear c3
  obtain ⟨c4, H⟩ := iP H; have c4b0 := decide_eq_true c4; clear c4
  obtain ⟨c5, H⟩ := iP H; have c5b0 := decide_eq_true c5; clear c5
  by_cases c6 : (rdOf ByteArray.empty l0 x9_1).toList = a1.toList
  ·
   rw [if_pos c6] at H
   have c6b0 : ((rdOf ByteArray.empty l0 x9_1).toList == a1.toList) = true := beq_iff_eq.mpr c6; have c6b1 : ((rdOf ByteArray.empty l0 x9_1).toList != a1.toList) = false := bne_eq_false_iff_eq.mpr c6; clear c6
   obtain rfl := Option.some.inj H
   obtain ⟨p216, q216, ad216, e216, hx216_0⟩ := aT (Kd.at_string HR0.out x9_1); cases e216
   go_wp2
   go_ret
   exact ⟨by first | rfl | (simp; done) | (simp [*]; done), by repeat (first | exact Drawn0.refl _ | apply Drawn0.step)⟩
  rw [if_neg c6] at H; have c6b0 : ((rdOf ByteArray.empty l0 x9_1).toList == a1.toList) = false := beq_eq_false_iff_ne.mpr c6; have c6b1 : ((rdOf ByteArray.empty l0 x9_1).toList != a1.toList) = true := bne_iff_ne.mpr c6
  have H' := aM H
  clear H; obtain ⟨p216, q216, ad216, e216, hx216_0⟩ := aT (Kd.at_string HR0.out x9_1); cases e216
  go_wp2
  go_roundg k1
  case measure => have := HK1.out; omega
  case rel => exact ⟨(wrap64 (x9_1 + 1)), eT, H', ⟨by have := HK1.out; omega⟩, by repeat (first | exact Drawn0.refl _ | apply Drawn0.step)⟩


end Go.Proofs.YtejchnmhlcbfcaaDoor.Pr
