/- Functions that the statement reaches: what each answers, and that the program answers it (written by a program of this work). -/
import Derived.Test.YtejchnmhlcbfcaaProg
import Derived.Below
import Derived.Deep.Draws
import Derived.Deep.AppendLies
import Derived.Maps.AppendAt
import Derived.OwnWalk
import Derived.Laws.BytesArg
import Derived.Laws.MakeOwn
import Derived.Laws.OwnMore
import Derived.Deep.OwnRows
import Derived.Tactics
import Derived.Lib.ConvBytes
import Derived.Laws.Slices
import Derived.WalkKit
import Derived.KernelRfl
import Derived.RowKit3
import Derived.Deep.LoopGhost
import Derived.Deep.QuietTactic
import Derived.BigQuiet
import Derived.WideLaws
import Derived.Deep.DeepCutAuto
import Derived.Deep.CutBlock
import Derived.Deep.RegionHeld3
import Derived.Laws.Rows
import Derived.Lib.AppendStr
import Derived.ArgAppend
import Derived.Laws.IdiomCopy
import Derived.OrdersHeld
import Derived.Laws.BitsLemmas
import Derived.RowKit
import Derived.WalkMore
import Derived.ChangeKeysEq
import Derived.Test.YtejchnmhlcbfcaaVDiscoverFootprints
import Derived.LoopN
import Derived.Laws.EntriesVeiled
import Derived.Test.YtejchnmhlcbfcaaBDiscoverFootprints
import Derived.Test.YtejchnmhlcbfcaaQDiscoverFootprints0
namespace Go.Proofs.Ytejchnmhlcbfcaa.Pr
open Go.RowKit Go.Proofs.YtejchnmhlcbfcaaW.PrintWords Go.Proofs.YtejchnmhlcbfcaaW.PrintLast Go.Proofs.YtejchnmhlcbfcaaW.PrintMore
attribute [local go_sem] Instr.field asAgg
attribute [local go_sem] max2_int min2_int max_two min_two max_three min_three max_four min_four   -- for this text's walks alone
set_option linter.unusedVariables false
set_option linter.unusedSimpArgs false
/-! ### discover_all: function 42 -/
def discover_all.l0 : Nat → List (List Int) → Int → Int → Int → Int → Int → Option (Bool)
 | 0, _, _, _, _, _, _ => none
 | k + 1, x0, x1, x2, x3, x11, x12 => if x12 < x11 then ((discover_has.f x2 x12).bind fun t164 => (if t164 = true then (if 0 ≤ x1 then (if x1 < (x0.length : Int) then (if 0 ≤ x12 then (if x12 < ((rd_L5 x0 x1).length : Int) then (if (rd (rd_L5 x0 x1) x12) = x3 then (discover_all.l0 k x0 x1 x2 x3 x11 (wrap64 (x12 + 1))) else (some false)) else (none)) else (none)) else (none)) else (none)) else (discover_all.l0 k x0 x1 x2 x3 x11 (wrap64 (x12 + 1))))) else (some true)
def discover_all.f (k : Nat) (l0 : List (List Int)) (a1 : Int) (a2 : Int) (a3 : Int) : Option (Bool) := discover_all.l0 k l0 a1 a2 a3 (l0.length : Int) 0
theorem discover_all.mono_l : ∀ k, (∀ y0 y1 y2 y3 y4 y5, LeO (discover_all.l0 k y0 y1 y2 y3 y4 y5) (discover_all.l0 (k + 1) y0 y1 y2 y3 y4 y5))
 | 0 => fun _ _ _ _ _ _ r h => by simp [discover_all.l0] at h
 | k + 1 => by
  have ih0 := discover_all.mono_l k
  ·
   intro y0 y1 y2 y3 y4 y5
   unfold discover_all.l0
   repeat' first
   | (with_reducible exact ih0 _ _ _ _ _ _)
   | (with_reducible exact LeO.refl _)
   | (with_reducible exact LeO.none _)
   | (with_reducible refine LeO.ite ?_ ?_)
   | (with_reducible refine LeO.bind ?_ (fun _ => ?_))
   | exact ih0 _ _ _ _ _ _
   | exact LeO.none _
   | refine LeO.ite ?_ ?_
   | refine LeO.bind ?_ (fun _ => ?_)
theorem discover_all.mono : ∀ a0 a1 a2 a3 k, LeO (discover_all.f k a0 a1 a2 a3) (discover_all.f (k + 1) a0 a1 a2 a3) := by
 intro a0 a1 a2 a3 k
 have ih0 := discover_all.mono_l k
 unfold discover_all.f
 repeat' first
   | (with_reducible exact ih0 _ _ _ _ _ _)
   | (with_reducible exact LeO.refl _)
   | (with_reducible exact LeO.none _)
   | (with_reducible refine LeO.ite ?_ ?_)
   | (with_reducible refine LeO.bind ?_ (fun _ => ?_))
   | exact ih0 _ _ _ _ _ _
   | exact LeO.none _
   | refine LeO.ite ?_ ?_
   | refine LeO.bind ?_ (fun _ => ?_)
set_option maxHeartbeats 8000000 in
set_option maxRecDepth 100000 in
theorem discover_all.calls (k : Nat) (A0 : Option Addr) (c0 : Nat) (l0 : List (List Int)) (a1 : Int) (a2 : Int) (a3 : Int) (r : Bool) (w : World) (hr0 : Kd.C (Kd.slice 3 (Kd.int .i64)) w A0 l0.length l0) (hc0 : l0.length ≤ c0) (h : discover_all.f k l0 a1 a2 a3 = some r) :
  Calls Try.prog 42 #[.slice A0 l0.length c0, .int .i64 a1, .int .u64 a2, .int .i64 a3] w fun e w' => e = .returned (.bool r) ∧ Drawn0 w w' := by
 have HR0 := Aside0.mk hr0
 have HC0 := Aside0.mk hc0
 clear hr0 hc0
 have H : (discover_all.l0 k l0 a1 a2 a3 (l0.length : Int) 0) = some r := h
 clear h
 have H' := Aside0.mk H
 clear H
 go_enter Try.func42, Try.ntmps42
 go_wp2
 go_loopg [12] k (fun kq v12 w' => ∃ (x12_1 : Int), v12 = .int .i64 x12_1 ∧ Aside0 (discover_all.l0 kq l0 a1 a2 a3 (l0.length : Int) x12_1 = some r) ∧ Aside0 (kq ≤ k) ∧ Drawn0 w w')
 case atStart => exact ⟨(0), (by first | rfl | (simp; done) | (simp [*]; done) | (simp [i64_w]; done)), H', ⟨Nat.le_refl _⟩, by repeat (first | exact Drawn0.refl _ | apply Drawn0.step)⟩
 case round =>
  clear H'
  try clear p2
  try clear c4
  obtain ⟨x12_1, rfl, HA, HK1, ⟨m1, rfl⟩⟩ := hrel
  cases gk with
  | zero => exact absurd HA.out (by simp [discover_all.l0])
  | succ k1 =>
   have H := HA.out
   clear HA
   simp only [discover_all.l0] at H
   by_cases c5 : x12_1 < (l0.length : Int)
   ·
    rw [if_pos c5] at H
    have c5b0 : decide (x12_1 < (l0.length : Int)) = true := decide_eq_true c5
    clear c5
    replace H := Option.bind_eq_some_iff.mp H
    obtain ⟨t164, A60, H⟩ := H
    replace H : (if t164 = true then (if 0 ≤ a1 then (if a1 < (l0.length : Int) then (if 0 ≤ x12_1 then (if x12_1 < ((rd_L5 l0 a1).length : Int) then (if (rd (rd_L5 l0 a1) x12_1) = a3 then (discover_all.l0 k1 l0 a1 a2 a3 (l0.length : Int) (wrap64 (x12_1 + 1))) else (some false)) else (none)) else (none)) else (none)) else (none)) else (discover_all.l0 k1 l0 a1 a2 a3 (l0.length : Int) (wrap64 (x12_1 + 1)))) = some r := H
    have A6 := Aside0.mk A60
    clear A60
    by_cases c7 : t164 = true
    ·
     subst c7
     have H1 : (if 0 ≤ a1 then (if a1 < (l0.length : Int) then (if 0 ≤ x12_1 then (if x12_1 < ((rd_L5 l0 a1).length : Int) then (if (rd (rd_L5 l0 a1) x12_1) = a3 then (discover_all.l0 k1 l0 a1 a2 a3 (l0.length : Int) (wrap64 (x12_1 + 1))) else (some false)) else (none)) else (none)) else (none)) else (none)) = some r := by rw [if_pos rfl] at H; exact H
     clear H
     have H := H1
     clear H1
     by_cases c8 : 0 ≤ a1
     ·
      rw [if_pos c8] at H
      have c8b0 : decide (0 ≤ a1) = true := decide_eq_true c8
      clear c8
      by_cases c9 : a1 < (l0.length : Int)
      ·
       rw [if_pos c9] at H
       have c9b0 : decide (a1 < (l0.length : Int)) = true := decide_eq_true c9
       clear c9
       by_cases c10 : 0 ≤ x12_1
       ·
        rw [if_pos c10] at H
        have c10b0 : decide (0 ≤ x12_1) = true := decide_eq_true c10
        clear c10
        by_cases c11 : x12_1 < ((rd_L5 l0 a1).length : Int)
        ·
         rw [if_pos c11] at H
         have c11b0 : decide (x12_1 < ((rd_L5 l0 a1).length : Int)) = true := decide_eq_true c11
         clear c11
         by_cases c12 : (rd (rd_L5 l0 a1) x12_1) = a3
         ·
          rw [if_pos c12] at H
          have c12b0 : ((rd (rd_L5 l0 a1) x12_1) == a3) = true := beq_iff_eq.mpr c12
          have c12b1 : ((rd (rd_L5 l0 a1) x12_1) != a3) = false := bne_eq_false_iff_eq.mpr c12
          clear c12
          have H' := Aside0.mk H
          clear H
          go_wp2_with (first | ((with_reducible refine gate_callee (f := 41) rfl ?_); refine goesL_ (some 17) rfl rfl Try.func41 (by kernel_rfl) rfl #[.int .u64 a2, .int .i64 x12_1] rfl (by (try simp only [List.map_toArray, List.map_cons, List.map_nil]); first | done | rfl | (simp only [List.length_drop, List.length_take]; rfl)) ?_; (with_reducible refine (discover_has.calls a2 x12_1 true _ A6.out).mono ?_); rintro e w' ⟨rfl, ⟨nd, rfl⟩⟩; refine ⟨_, rfl, ?_⟩; have p165 : 0 ≤ (a1 : Int) := of_decide_eq_true (by first | (with_reducible assumption) | assumption); have q165 : a1 < (l0.length : Int) := of_decide_eq_true (by first | (with_reducible assumption) | assumption); obtain ⟨ad165, A165_0, c165_0, e165, hx165_0, hl165_0, hi165_0⟩ := at_L5 HR0.out a1 p165 q165; cases e165; have HR165_0 := Aside0.mk hi165_0; have HC165_0 := Aside0.mk hl165_0; clear hi165_0 hl165_0; replace p165 := eq_true p165; replace q165 := eq_true q165; have p166 : 0 ≤ (x12_1 : Int) := of_decide_eq_true (by first | (with_reducible assumption) | assumption); have q166 : x12_1 < ((rd_L5 l0 a1).length : Int) := of_decide_eq_true (by first | (with_reducible assumption) | assumption); obtain ⟨ad166, e166, hx166_0⟩ := Kd.at_int HR165_0.out x12_1 p166 q166; cases e166; replace p166 := eq_true p166; replace q166 := eq_true q166))
          go_roundg k1
          case measure => have := HK1.out; omega
          case rel => exact ⟨(wrap64 (x12_1 + 1)), (by first | rfl | (simp; done) | (simp [*]; done) | (simp [i64_w]; done)), H', ⟨by have := HK1.out; omega⟩, by repeat (first | exact Drawn0.refl _ | apply Drawn0.step)⟩
         ·
          rw [if_neg c12] at H
          have c12b0 : ((rd (rd_L5 l0 a1) x12_1) == a3) = false := beq_eq_false_iff_ne.mpr c12
          have c12b1 : ((rd (rd_L5 l0 a1) x12_1) != a3) = true := bne_iff_ne.mpr c12
          obtain rfl := Option.some.inj H
          go_wp2_with (first | ((with_reducible refine gate_callee (f := 41) rfl ?_); refine goesL_ (some 17) rfl rfl Try.func41 (by kernel_rfl) rfl #[.int .u64 a2, .int .i64 x12_1] rfl (by (try simp only [List.map_toArray, List.map_cons, List.map_nil]); first | done | rfl | (simp only [List.length_drop, List.length_take]; rfl)) ?_; (with_reducible refine (discover_has.calls a2 x12_1 true _ A6.out).mono ?_); rintro e w' ⟨rfl, ⟨nd, rfl⟩⟩; refine ⟨_, rfl, ?_⟩; have p165 : 0 ≤ (a1 : Int) := of_decide_eq_true (by first | (with_reducible assumption) | assumption); have q165 : a1 < (l0.length : Int) := of_decide_eq_true (by first | (with_reducible assumption) | assumption); obtain ⟨ad165, A165_0, c165_0, e165, hx165_0, hl165_0, hi165_0⟩ := at_L5 HR0.out a1 p165 q165; cases e165; have HR165_0 := Aside0.mk hi165_0; have HC165_0 := Aside0.mk hl165_0; clear hi165_0 hl165_0; replace p165 := eq_true p165; replace q165 := eq_true q165; have p166 : 0 ≤ (x12_1 : Int) := of_decide_eq_true (by first | (with_reducible assumption) | assumption); have q166 : x12_1 < ((rd_L5 l0 a1).length : Int) := of_decide_eq_true (by first | (with_reducible assumption) | assumption); obtain ⟨ad166, e166, hx166_0⟩ := Kd.at_int HR165_0.out x12_1 p166 q166; cases e166; replace p166 := eq_true p166; replace q166 := eq_true q166))
          go_ret
          exact ⟨by first | rfl | (simp; done) | (simp [*]; done), by repeat (first | exact Drawn0.refl _ | apply Drawn0.step)⟩
        ·
         rw [if_neg c11] at H
         exact absurd H (by simp)
       ·
        rw [if_neg c10] at H
        exact absurd H (by simp)
      ·
       rw [if_neg c9] at H
       exact absurd H (by simp)
     ·
      rw [if_neg c8] at H
      exact absurd H (by simp)
    ·
     replace c7 := Bool.eq_false_iff.mpr c7
     subst c7
     have H1 : (discover_all.l0 k1 l0 a1 a2 a3 (l0.length : Int) (wrap64 (x12_1 + 1))) = some r := by rw [if_neg (show ¬ (false = true) by decide)] at H; exact H
     clear H
     have H := H1
     clear H1
     have H' := Aside0.mk H
     clear H
     go_wp2_with (first | ((with_reducible refine gate_callee (f := 41) rfl ?_); refine goesL_ (some 17) rfl rfl Try.func41 (by kernel_rfl) rfl #[.int .u64 a2, .int .i64 x12_1] rfl (by (try simp only [List.map_toArray, List.map_cons, List.map_nil]); first | done | rfl | (simp only [List.length_drop, List.length_take]; rfl)) ?_; (with_reducible refine (discover_has.calls a2 x12_1 false _ A6.out).mono ?_); rintro e w' ⟨rfl, ⟨nd, rfl⟩⟩; refine ⟨_, rfl, ?_⟩))
     go_roundg k1
     case measure => have := HK1.out; omega
     case rel => exact ⟨(wrap64 (x12_1 + 1)), (by first | rfl | (simp; done) | (simp [*]; done) | (simp [i64_w]; done)), H', ⟨by have := HK1.out; omega⟩, by repeat (first | exact Drawn0.refl _ | apply Drawn0.step)⟩
   ·
    rw [if_neg c5] at H
    have c5b0 : decide (x12_1 < (l0.length : Int)) = false := decide_eq_false c5
    clear c5
    obtain rfl := Option.some.inj H
    go_wp2
    go_ret
    exact ⟨by first | rfl | (simp; done) | (simp [*]; done), by repeat (first | exact Drawn0.refl _ | apply Drawn0.step)⟩




section
-- STUBBED 32
/-! ### discover_fits: function 32: by hand -/
def discover_fits0.f (k : Nat) (l0 : List (List Int)) (a1_0 : Int) (a1_1 : Int) (a2 : Int) : Option (Bool) := (if 0 ≤ a2 then (if a2 < (l0.length : Int) then (if a2 < ((rd_L5 l0 a2).length : Int) then (if (rd (rd_L5 l0 a2) a2) = 0 then ((discover_all.f k l0 a2 a1_0 0).bind fun t174 => (if t174 = true then ((discover_all.f k l0 a2 a1_1 1).bind fun t175 => (some t175)) else (some false))) else (some false)) else (none)) else (none)) else (none))
theorem discover_fits0.mono : ∀ a0 a1 a2 a3 k, LeO (discover_fits0.f k a0 a1 a2 a3) (discover_fits0.f (k + 1) a0 a1 a2 a3) := by
  intro a0 a1 a2 a3 k
  unfold discover_fits0.f
  repeat' first
      | (with_reducible exact discover_all.mono _ _ _ _ _)
      | (with_reducible exact LeO.refl _)
      | (with_reducible exact LeO.none _)
      | (with_reducible refine LeO.ite ?_ ?_)
      | (with_reducible refine LeO.bind ?_ (fun _ => ?_))
      | exact discover_all.mono _ _ _ _ _
      | exact LeO.none _
      | refine LeO.ite ?_ ?_
      | refine LeO.bind ?_ (fun _ => ?_)
set_option maxHeartbeats 8000000 in
set_option maxRecDepth 100000 in
theorem discover_fits0.calls (k : Nat) (A0 : Option Addr) (c0 : Nat) (l0 : List (List Int)) (a1_0 : Int) (a1_1 : Int) (a2 : Int) (r : Bool) (w : World) (hr0 : Kd.C (Kd.slice 3 (Kd.int .i64)) w A0 l0.length l0) (hc0 : l0.length ≤ c0) (h : discover_fits0.f k l0 a1_0 a1_1 a2 = some r) :
    Calls Try.prog 32 #[.slice A0 l0.length c0, .agg #[.int .u64 a1_0, .int .u64 a1_1], .int .i64 a2, .int .i64 0] w fun e w' => e = .returned (.bool r) ∧ Below w.heap.size w w' := by
  have hu41 := Try.underlying41
  have hu37 := Try.underlying37
  have hu37 := Try.underlying37
  have HR0 := Aside0.mk hr0
  have HC0 := Aside0.mk hc0
  clear hr0 hc0
  have HB := Aside0.mk (Below.refl w.heap.size w)
  have H : ((if 0 ≤ a2 then (if a2 < (l0.length : Int) then (if a2 < ((rd_L5 l0 a2).length : Int) then (if (rd (rd_L5 l0 a2) a2) = 0 then ((discover_all.f k l0 a2 a1_0 0).bind fun t174 => (if t174 = true then ((discover_all.f k l0 a2 a1_1 1).bind fun t175 => (some t175)) else (some false))) else (some false)) else (none)) else (none)) else (none))) = some r := h
  clear h
  by_cases c18 : 0 ≤ a2
  · rw [if_pos c18] at H
    have c18b0 : decide (0 ≤ a2) = true := decide_eq_true c18
    clear c18
    by_cases c19 : a2 < (l0.length : Int)
    · rw [if_pos c19] at H
      have c19b0 : decide (a2 < (l0.length : Int)) = true := decide_eq_true c19
      clear c19
      by_cases c20 : a2 < ((rd_L5 l0 a2).length : Int)
      · rw [if_pos c20] at H
        have c20b0 : decide (a2 < ((rd_L5 l0 a2).length : Int)) = true := decide_eq_true c20
        clear c20
        by_cases c21 : (rd (rd_L5 l0 a2) a2) = 0
        · rw [if_pos c21] at H
          have c21b0 : ((rd (rd_L5 l0 a2) a2) == 0) = true := beq_iff_eq.mpr c21
          have c21b1 : ((rd (rd_L5 l0 a2) a2) != 0) = false := bne_eq_false_iff_eq.mpr c21
          clear c21
          replace H := Option.bind_eq_some_iff.mp H
          obtain ⟨t174, A220, H⟩ := H
          replace H : (if t174 = true then ((discover_all.f k l0 a2 a1_1 1).bind fun t175 => (some t175)) else (some false)) = some r := H
          have A22 := Aside0.mk A220
          clear A220
          by_cases c23 : t174 = true
          · subst c23
            have H1 : ((discover_all.f k l0 a2 a1_1 1).bind fun t175 => (some t175)) = some r := by rw [if_pos rfl] at H; exact H
            clear H
            have H := H1
            clear H1
            replace H := Option.bind_eq_some_iff.mp H
            obtain ⟨t175, A240, H⟩ := H
            replace H : (some t175) = some r := H
            have A24 := Aside0.mk A240
            clear A240
            obtain rfl := Option.some.inj H
            go_enter Try.func32, Try.ntmps32
            go_wp2_with (first | ((with_reducible refine gate_dst (N := 5) rfl ?_); refine box_event ?hg (N := 5) ?hd (cs := #[.int .u64 a1_0, .int .u64 a1_1]) (t := 41) ?hr ?_; (case hd => rfl); (case hg => rfl); (case hr => first | (go_simp; done) | (go_simp; rfl)); intro gb167 hg w25 hbox hb; have n0_ := Aside0.mk (below_step (by repeat (first | (with_reducible first | exact HB.out | apply below_alloc | apply pw_below_drewN | apply below_drew1) | exact HB.out)) hb); have n1_ := Aside0.mk (hbox); have n2_ := Aside0.mk ((by rw [hg]; exact (below_size (by repeat (first | (with_reducible first | exact HB.out | apply below_alloc | apply pw_below_drewN | apply below_drew1) | exact HB.out))) : w.heap.size ≤ gb167)); have n3_ := Aside0.mk ((by rw [hg]; exact (below_size (by repeat (first | (with_reducible first | exact HB.out | apply below_alloc | apply pw_below_drewN | apply below_drew1) | exact HB.out))) : w.heap.size ≤ gb167)); clear HB; have HB := n0_; have BK167 := n1_; have GW167 := n2_; have GE167 := n3_; clear n0_ n1_ n2_ n3_; clear hb hbox hg; have p172 : 0 ≤ (a2 : Int) := of_decide_eq_true (by first | (with_reducible assumption) | assumption); have q172 : a2 < (l0.length : Int) := of_decide_eq_true (by first | (with_reducible assumption) | assumption); obtain ⟨ad172, A172_0, c172_0, e172, hx172_0, hl172_0, hi172_0⟩ := at_L5 HR0.out a2 p172 q172; cases e172; replace hx172_0 := (HB.out.cell (World.block_lt_of_cell? w _ hx172_0)).trans hx172_0; have HR172_0 := Aside0.mk hi172_0; have HC172_0 := Aside0.mk hl172_0; clear hi172_0 hl172_0; replace p172 := eq_true p172; replace q172 := eq_true q172; have p173 : 0 ≤ (a2 : Int) := of_decide_eq_true (by first | (with_reducible assumption) | assumption); have q173 : a2 < ((rd_L5 l0 a2).length : Int) := of_decide_eq_true (by first | (with_reducible assumption) | assumption); obtain ⟨ad173, e173, hx173_0⟩ := Kd.at_int HR172_0.out a2 p173 q173; cases e173; replace hx173_0 := (HB.out.cell (World.block_lt_of_cell? w _ hx173_0)).trans hx173_0; replace p173 := eq_true p173; replace q173 := eq_true q173; have hcz26_0 : w25.cell? ⟨gb167, 0, none⟩ = some (.int .u64 a1_0) := (blk_cell BK167.out 0).trans rfl; have hcz26_1 : w25.cell? ⟨gb167, 1, none⟩ = some (.int .u64 a1_1) := (blk_cell BK167.out 1).trans rfl; have hfz26_0 := blk_frozen BK167.out 0; have hfz26_1 := blk_frozen BK167.out 1) | (go_at_call 42; (with_reducible refine (discover_all.calls k _ _ l0 a2 a1_0 0 true _ ?side1 ?side2 A22.out).mono ?_); (case side1 => repeat (first | exact (Kd.C_below HR0.out HB.out) | (with_reducible refine Kd.C_alloc ?_ _) | (with_reducible refine Kd.C_drewN ?_ _) | (with_reducible refine Kd.C_drew ?_))); (case side2 => exact HC0.out); rintro e w' ⟨rfl, ⟨nd, rfl⟩⟩) | (go_at_call 42; (with_reducible refine (discover_all.calls k _ _ l0 a2 a1_1 1 t175 _ ?side1 ?side2 A24.out).mono ?_); (case side1 => repeat (first | exact (Kd.C_below HR0.out (by repeat (first | (with_reducible first | exact HB.out | apply below_alloc | apply pw_below_drewN | apply below_drew1 | refine below_set ?_ GE167.out) | exact HB.out))) | (with_reducible refine Kd.C_alloc ?_ _) | (with_reducible refine Kd.C_drewN ?_ _) | (with_reducible refine Kd.C_drew ?_))); (case side2 => exact HC0.out); rintro e w' ⟨rfl, ⟨nd, rfl⟩⟩))
            go_ret
            exact ⟨by first | rfl | (simp [errW_none, errW_some] <;> rfl) | (simp [*, errW_none, errW_some] <;> rfl), by repeat (first | (with_reducible first | exact HB.out | apply below_alloc | apply pw_below_drewN | apply below_drew1 | refine below_set ?_ GE167.out) | exact HB.out)⟩
          · replace c23 := Bool.eq_false_iff.mpr c23
            subst c23
            have H1 : (some false) = some r := by rw [if_neg (show ¬ (false = true) by decide)] at H; exact H
            clear H
            have H := H1
            clear H1
            obtain rfl := Option.some.inj H
            go_enter Try.func32, Try.ntmps32
            go_wp2_with (first | ((with_reducible refine gate_dst (N := 5) rfl ?_); refine box_event ?hg (N := 5) ?hd (cs := #[.int .u64 a1_0, .int .u64 a1_1]) (t := 41) ?hr ?_; (case hd => rfl); (case hg => rfl); (case hr => first | (go_simp; done) | (go_simp; rfl)); intro gb167 hg w27 hbox hb; have n0_ := Aside0.mk (below_step (by repeat (first | (with_reducible first | exact HB.out | apply below_alloc | apply pw_below_drewN | apply below_drew1) | exact HB.out)) hb); have n1_ := Aside0.mk (hbox); have n2_ := Aside0.mk ((by rw [hg]; exact (below_size (by repeat (first | (with_reducible first | exact HB.out | apply below_alloc | apply pw_below_drewN | apply below_drew1) | exact HB.out))) : w.heap.size ≤ gb167)); have n3_ := Aside0.mk ((by rw [hg]; exact (below_size (by repeat (first | (with_reducible first | exact HB.out | apply below_alloc | apply pw_below_drewN | apply below_drew1) | exact HB.out))) : w.heap.size ≤ gb167)); clear HB; have HB := n0_; have BK167 := n1_; have GW167 := n2_; have GE167 := n3_; clear n0_ n1_ n2_ n3_; clear hb hbox hg; have p172 : 0 ≤ (a2 : Int) := of_decide_eq_true (by first | (with_reducible assumption) | assumption); have q172 : a2 < (l0.length : Int) := of_decide_eq_true (by first | (with_reducible assumption) | assumption); obtain ⟨ad172, A172_0, c172_0, e172, hx172_0, hl172_0, hi172_0⟩ := at_L5 HR0.out a2 p172 q172; cases e172; replace hx172_0 := (HB.out.cell (World.block_lt_of_cell? w _ hx172_0)).trans hx172_0; have HR172_0 := Aside0.mk hi172_0; have HC172_0 := Aside0.mk hl172_0; clear hi172_0 hl172_0; replace p172 := eq_true p172; replace q172 := eq_true q172; have p173 : 0 ≤ (a2 : Int) := of_decide_eq_true (by first | (with_reducible assumption) | assumption); have q173 : a2 < ((rd_L5 l0 a2).length : Int) := of_decide_eq_true (by first | (with_reducible assumption) | assumption); obtain ⟨ad173, e173, hx173_0⟩ := Kd.at_int HR172_0.out a2 p173 q173; cases e173; replace hx173_0 := (HB.out.cell (World.block_lt_of_cell? w _ hx173_0)).trans hx173_0; replace p173 := eq_true p173; replace q173 := eq_true q173; have hcz28_0 : w27.cell? ⟨gb167, 0, none⟩ = some (.int .u64 a1_0) := (blk_cell BK167.out 0).trans rfl; have hcz28_1 : w27.cell? ⟨gb167, 1, none⟩ = some (.int .u64 a1_1) := (blk_cell BK167.out 1).trans rfl; have hfz28_0 := blk_frozen BK167.out 0; have hfz28_1 := blk_frozen BK167.out 1) | (go_at_call 42; (with_reducible refine (discover_all.calls k _ _ l0 a2 a1_0 0 false _ ?side1 ?side2 A22.out).mono ?_); (case side1 => repeat (first | exact (Kd.C_below HR0.out HB.out) | (with_reducible refine Kd.C_alloc ?_ _) | (with_reducible refine Kd.C_drewN ?_ _) | (with_reducible refine Kd.C_drew ?_))); (case side2 => exact HC0.out); rintro e w' ⟨rfl, ⟨nd, rfl⟩⟩))
            go_ret
            exact ⟨by first | rfl | (simp [errW_none, errW_some] <;> rfl) | (simp [*, errW_none, errW_some] <;> rfl), by repeat (first | (with_reducible first | exact HB.out | apply below_alloc | apply pw_below_drewN | apply below_drew1 | refine below_set ?_ GE167.out) | exact HB.out)⟩
        · rw [if_neg c21] at H
          have c21b0 : ((rd (rd_L5 l0 a2) a2) == 0) = false := beq_eq_false_iff_ne.mpr c21
          have c21b1 : ((rd (rd_L5 l0 a2) a2) != 0) = true := bne_iff_ne.mpr c21
          obtain rfl := Option.some.inj H
          go_enter Try.func32, Try.ntmps32
          go_wp2_with (first | ((with_reducible refine gate_dst (N := 5) rfl ?_); refine box_event ?hg (N := 5) ?hd (cs := #[.int .u64 a1_0, .int .u64 a1_1]) (t := 41) ?hr ?_; (case hd => rfl); (case hg => rfl); (case hr => first | (go_simp; done) | (go_simp; rfl)); intro gb167 hg w29 hbox hb; have n0_ := Aside0.mk (below_step (by repeat (first | (with_reducible first | exact HB.out | apply below_alloc | apply pw_below_drewN | apply below_drew1) | exact HB.out)) hb); have n1_ := Aside0.mk (hbox); have n2_ := Aside0.mk ((by rw [hg]; exact (below_size (by repeat (first | (with_reducible first | exact HB.out | apply below_alloc | apply pw_below_drewN | apply below_drew1) | exact HB.out))) : w.heap.size ≤ gb167)); have n3_ := Aside0.mk ((by rw [hg]; exact (below_size (by repeat (first | (with_reducible first | exact HB.out | apply below_alloc | apply pw_below_drewN | apply below_drew1) | exact HB.out))) : w.heap.size ≤ gb167)); clear HB; have HB := n0_; have BK167 := n1_; have GW167 := n2_; have GE167 := n3_; clear n0_ n1_ n2_ n3_; clear hb hbox hg; have p172 : 0 ≤ (a2 : Int) := of_decide_eq_true (by first | (with_reducible assumption) | assumption); have q172 : a2 < (l0.length : Int) := of_decide_eq_true (by first | (with_reducible assumption) | assumption); obtain ⟨ad172, A172_0, c172_0, e172, hx172_0, hl172_0, hi172_0⟩ := at_L5 HR0.out a2 p172 q172; cases e172; replace hx172_0 := (HB.out.cell (World.block_lt_of_cell? w _ hx172_0)).trans hx172_0; have HR172_0 := Aside0.mk hi172_0; have HC172_0 := Aside0.mk hl172_0; clear hi172_0 hl172_0; replace p172 := eq_true p172; replace q172 := eq_true q172; have p173 : 0 ≤ (a2 : Int) := of_decide_eq_true (by first | (with_reducible assumption) | assumption); have q173 : a2 < ((rd_L5 l0 a2).length : Int) := of_decide_eq_true (by first | (with_reducible assumption) | assumption); obtain ⟨ad173, e173, hx173_0⟩ := Kd.at_int HR172_0.out a2 p173 q173; cases e173; replace hx173_0 := (HB.out.cell (World.block_lt_of_cell? w _ hx173_0)).trans hx173_0; replace p173 := eq_true p173; replace q173 := eq_true q173))
          go_ret
          exact ⟨by first | rfl | (simp [errW_none, errW_some] <;> rfl) | (simp [*, errW_none, errW_some] <;> rfl), by repeat (first | (with_reducible first | exact HB.out | apply below_alloc | apply pw_below_drewN | apply below_drew1 | refine below_set ?_ GE167.out) | exact HB.out)⟩
      · rw [if_neg c20] at H
        exact absurd H (by simp)
    · rw [if_neg c19] at H
      exact absurd H (by simp)
  · rw [if_neg c18] at H
    exact absurd H (by simp)

def discover_fits1.f (k : Nat) (l0 : List (List Int)) (a1_0 : Int) (a1_1 : Int) (a2 : Int) : Option (Bool) := (if 0 ≤ a2 then (if a2 < (l0.length : Int) then (if a2 < ((rd_L5 l0 a2).length : Int) then (if (rd (rd_L5 l0 a2) a2) = 0 then ((discover_all.f k l0 a2 a1_1 0).bind fun t170 => (if t170 = true then ((discover_all.f k l0 a2 a1_0 2).bind fun t171 => (some t171)) else (some false))) else (some false)) else (none)) else (none)) else (none))
theorem discover_fits1.mono : ∀ a0 a1 a2 a3 k, LeO (discover_fits1.f k a0 a1 a2 a3) (discover_fits1.f (k + 1) a0 a1 a2 a3) := by
  intro a0 a1 a2 a3 k
  unfold discover_fits1.f
  repeat' first
      | (with_reducible exact discover_all.mono _ _ _ _ _)
      | (with_reducible exact LeO.refl _)
      | (with_reducible exact LeO.none _)
      | (with_reducible refine LeO.ite ?_ ?_)
      | (with_reducible refine LeO.bind ?_ (fun _ => ?_))
      | exact discover_all.mono _ _ _ _ _
      | exact LeO.none _
      | refine LeO.ite ?_ ?_
      | refine LeO.bind ?_ (fun _ => ?_)
set_option maxHeartbeats 8000000 in
set_option maxRecDepth 100000 in
theorem discover_fits1.calls (k : Nat) (A0 : Option Addr) (c0 : Nat) (l0 : List (List Int)) (a1_0 : Int) (a1_1 : Int) (a2 : Int) (r : Bool) (w : World) (hr0 : Kd.C (Kd.slice 3 (Kd.int .i64)) w A0 l0.length l0) (hc0 : l0.length ≤ c0) (h : discover_fits1.f k l0 a1_0 a1_1 a2 = some r) :
    Calls Try.prog 32 #[.slice A0 l0.length c0, .agg #[.int .u64 a1_0, .int .u64 a1_1], .int .i64 a2, .int .i64 1] w fun e w' => e = .returned (.bool r) ∧ Below w.heap.size w w' := by
  have hu41 := Try.underlying41
  have hu37 := Try.underlying37
  have hu37 := Try.underlying37
  have HR0 := Aside0.mk hr0
  have HC0 := Aside0.mk hc0
  clear hr0 hc0
  have HB := Aside0.mk (Below.refl w.heap.size w)
  have H : ((if 0 ≤ a2 then (if a2 < (l0.length : Int) then (if a2 < ((rd_L5 l0 a2).length : Int) then (if (rd (rd_L5 l0 a2) a2) = 0 then ((discover_all.f k l0 a2 a1_1 0).bind fun t170 => (if t170 = true then ((discover_all.f k l0 a2 a1_0 2).bind fun t171 => (some t171)) else (some false))) else (some false)) else (none)) else (none)) else (none))) = some r := h
  clear h
  by_cases c6 : 0 ≤ a2
  · rw [if_pos c6] at H
    have c6b0 : decide (0 ≤ a2) = true := decide_eq_true c6
    clear c6
    by_cases c7 : a2 < (l0.length : Int)
    · rw [if_pos c7] at H
      have c7b0 : decide (a2 < (l0.length : Int)) = true := decide_eq_true c7
      clear c7
      by_cases c8 : a2 < ((rd_L5 l0 a2).length : Int)
      · rw [if_pos c8] at H
        have c8b0 : decide (a2 < ((rd_L5 l0 a2).length : Int)) = true := decide_eq_true c8
        clear c8
        by_cases c9 : (rd (rd_L5 l0 a2) a2) = 0
        · rw [if_pos c9] at H
          have c9b0 : ((rd (rd_L5 l0 a2) a2) == 0) = true := beq_iff_eq.mpr c9
          have c9b1 : ((rd (rd_L5 l0 a2) a2) != 0) = false := bne_eq_false_iff_eq.mpr c9
          clear c9
          replace H := Option.bind_eq_some_iff.mp H
          obtain ⟨t170, A100, H⟩ := H
          replace H : (if t170 = true then ((discover_all.f k l0 a2 a1_0 2).bind fun t171 => (some t171)) else (some false)) = some r := H
          have A10 := Aside0.mk A100
          clear A100
          by_cases c11 : t170 = true
          · subst c11
            have H1 : ((discover_all.f k l0 a2 a1_0 2).bind fun t171 => (some t171)) = some r := by rw [if_pos rfl] at H; exact H
            clear H
            have H := H1
            clear H1
            replace H := Option.bind_eq_some_iff.mp H
            obtain ⟨t171, A120, H⟩ := H
            replace H : (some t171) = some r := H
            have A12 := Aside0.mk A120
            clear A120
            obtain rfl := Option.some.inj H
            go_enter Try.func32, Try.ntmps32
            go_wp2_with (first | ((with_reducible refine gate_dst (N := 5) rfl ?_); refine box_event ?hg (N := 5) ?hd (cs := #[.int .u64 a1_0, .int .u64 a1_1]) (t := 41) ?hr ?_; (case hd => rfl); (case hg => rfl); (case hr => first | (go_simp; done) | (go_simp; rfl)); intro gb167 hg w13 hbox hb; have n0_ := Aside0.mk (below_step (by repeat (first | (with_reducible first | exact HB.out | apply below_alloc | apply pw_below_drewN | apply below_drew1) | exact HB.out)) hb); have n1_ := Aside0.mk (hbox); have n2_ := Aside0.mk ((by rw [hg]; exact (below_size (by repeat (first | (with_reducible first | exact HB.out | apply below_alloc | apply pw_below_drewN | apply below_drew1) | exact HB.out))) : w.heap.size ≤ gb167)); have n3_ := Aside0.mk ((by rw [hg]; exact (below_size (by repeat (first | (with_reducible first | exact HB.out | apply below_alloc | apply pw_below_drewN | apply below_drew1) | exact HB.out))) : w.heap.size ≤ gb167)); clear HB; have HB := n0_; have BK167 := n1_; have GW167 := n2_; have GE167 := n3_; clear n0_ n1_ n2_ n3_; clear hb hbox hg; have p168 : 0 ≤ (a2 : Int) := of_decide_eq_true (by first | (with_reducible assumption) | assumption); have q168 : a2 < (l0.length : Int) := of_decide_eq_true (by first | (with_reducible assumption) | assumption); obtain ⟨ad168, A168_0, c168_0, e168, hx168_0, hl168_0, hi168_0⟩ := at_L5 HR0.out a2 p168 q168; cases e168; replace hx168_0 := (HB.out.cell (World.block_lt_of_cell? w _ hx168_0)).trans hx168_0; have HR168_0 := Aside0.mk hi168_0; have HC168_0 := Aside0.mk hl168_0; clear hi168_0 hl168_0; replace p168 := eq_true p168; replace q168 := eq_true q168; have p169 : 0 ≤ (a2 : Int) := of_decide_eq_true (by first | (with_reducible assumption) | assumption); have q169 : a2 < ((rd_L5 l0 a2).length : Int) := of_decide_eq_true (by first | (with_reducible assumption) | assumption); obtain ⟨ad169, e169, hx169_0⟩ := Kd.at_int HR168_0.out a2 p169 q169; cases e169; replace hx169_0 := (HB.out.cell (World.block_lt_of_cell? w _ hx169_0)).trans hx169_0; replace p169 := eq_true p169; replace q169 := eq_true q169; have hcz14_0 : w13.cell? ⟨gb167, 0, none⟩ = some (.int .u64 a1_0) := (blk_cell BK167.out 0).trans rfl; have hcz14_1 : w13.cell? ⟨gb167, 1, none⟩ = some (.int .u64 a1_1) := (blk_cell BK167.out 1).trans rfl; have hfz14_0 := blk_frozen BK167.out 0; have hfz14_1 := blk_frozen BK167.out 1) | (go_at_call 42; (with_reducible refine (discover_all.calls k _ _ l0 a2 a1_1 0 true _ ?side1 ?side2 A10.out).mono ?_); (case side1 => repeat (first | exact (Kd.C_below HR0.out HB.out) | (with_reducible refine Kd.C_alloc ?_ _) | (with_reducible refine Kd.C_drewN ?_ _) | (with_reducible refine Kd.C_drew ?_))); (case side2 => exact HC0.out); rintro e w' ⟨rfl, ⟨nd, rfl⟩⟩) | (go_at_call 42; (with_reducible refine (discover_all.calls k _ _ l0 a2 a1_0 2 t171 _ ?side1 ?side2 A12.out).mono ?_); (case side1 => repeat (first | exact (Kd.C_below HR0.out (by repeat (first | (with_reducible first | exact HB.out | apply below_alloc | apply pw_below_drewN | apply below_drew1 | refine below_set ?_ GE167.out) | exact HB.out))) | (with_reducible refine Kd.C_alloc ?_ _) | (with_reducible refine Kd.C_drewN ?_ _) | (with_reducible refine Kd.C_drew ?_))); (case side2 => exact HC0.out); rintro e w' ⟨rfl, ⟨nd, rfl⟩⟩))
            go_ret
            exact ⟨by first | rfl | (simp [errW_none, errW_some] <;> rfl) | (simp [*, errW_none, errW_some] <;> rfl), by repeat (first | (with_reducible first | exact HB.out | apply below_alloc | apply pw_below_drewN | apply below_drew1 | refine below_set ?_ GE167.out) | exact HB.out)⟩
          · replace c11 := Bool.eq_false_iff.mpr c11
            subst c11
            have H1 : (some false) = some r := by rw [if_neg (show ¬ (false = true) by decide)] at H; exact H
            clear H
            have H := H1
            clear H1
            obtain rfl := Option.some.inj H
            go_enter Try.func32, Try.ntmps32
            go_wp2_with (first | ((with_reducible refine gate_dst (N := 5) rfl ?_); refine box_event ?hg (N := 5) ?hd (cs := #[.int .u64 a1_0, .int .u64 a1_1]) (t := 41) ?hr ?_; (case hd => rfl); (case hg => rfl); (case hr => first | (go_simp; done) | (go_simp; rfl)); intro gb167 hg w15 hbox hb; have n0_ := Aside0.mk (below_step (by repeat (first | (with_reducible first | exact HB.out | apply below_alloc | apply pw_below_drewN | apply below_drew1) | exact HB.out)) hb); have n1_ := Aside0.mk (hbox); have n2_ := Aside0.mk ((by rw [hg]; exact (below_size (by repeat (first | (with_reducible first | exact HB.out | apply below_alloc | apply pw_below_drewN | apply below_drew1) | exact HB.out))) : w.heap.size ≤ gb167)); have n3_ := Aside0.mk ((by rw [hg]; exact (below_size (by repeat (first | (with_reducible first | exact HB.out | apply below_alloc | apply pw_below_drewN | apply below_drew1) | exact HB.out))) : w.heap.size ≤ gb167)); clear HB; have HB := n0_; have BK167 := n1_; have GW167 := n2_; have GE167 := n3_; clear n0_ n1_ n2_ n3_; clear hb hbox hg; have p168 : 0 ≤ (a2 : Int) := of_decide_eq_true (by first | (with_reducible assumption) | assumption); have q168 : a2 < (l0.length : Int) := of_decide_eq_true (by first | (with_reducible assumption) | assumption); obtain ⟨ad168, A168_0, c168_0, e168, hx168_0, hl168_0, hi168_0⟩ := at_L5 HR0.out a2 p168 q168; cases e168; replace hx168_0 := (HB.out.cell (World.block_lt_of_cell? w _ hx168_0)).trans hx168_0; have HR168_0 := Aside0.mk hi168_0; have HC168_0 := Aside0.mk hl168_0; clear hi168_0 hl168_0; replace p168 := eq_true p168; replace q168 := eq_true q168; have p169 : 0 ≤ (a2 : Int) := of_decide_eq_true (by first | (with_reducible assumption) | assumption); have q169 : a2 < ((rd_L5 l0 a2).length : Int) := of_decide_eq_true (by first | (with_reducible assumption) | assumption); obtain ⟨ad169, e169, hx169_0⟩ := Kd.at_int HR168_0.out a2 p169 q169; cases e169; replace hx169_0 := (HB.out.cell (World.block_lt_of_cell? w _ hx169_0)).trans hx169_0; replace p169 := eq_true p169; replace q169 := eq_true q169; have hcz16_0 : w15.cell? ⟨gb167, 0, none⟩ = some (.int .u64 a1_0) := (blk_cell BK167.out 0).trans rfl; have hcz16_1 : w15.cell? ⟨gb167, 1, none⟩ = some (.int .u64 a1_1) := (blk_cell BK167.out 1).trans rfl; have hfz16_0 := blk_frozen BK167.out 0; have hfz16_1 := blk_frozen BK167.out 1) | (go_at_call 42; (with_reducible refine (discover_all.calls k _ _ l0 a2 a1_1 0 false _ ?side1 ?side2 A10.out).mono ?_); (case side1 => repeat (first | exact (Kd.C_below HR0.out HB.out) | (with_reducible refine Kd.C_alloc ?_ _) | (with_reducible refine Kd.C_drewN ?_ _) | (with_reducible refine Kd.C_drew ?_))); (case side2 => exact HC0.out); rintro e w' ⟨rfl, ⟨nd, rfl⟩⟩))
            go_ret
            exact ⟨by first | rfl | (simp [errW_none, errW_some] <;> rfl) | (simp [*, errW_none, errW_some] <;> rfl), by repeat (first | (with_reducible first | exact HB.out | apply below_alloc | apply pw_below_drewN | apply below_drew1 | refine below_set ?_ GE167.out) | exact HB.out)⟩
        · rw [if_neg c9] at H
          have c9b0 : ((rd (rd_L5 l0 a2) a2) == 0) = false := beq_eq_false_iff_ne.mpr c9
          have c9b1 : ((rd (rd_L5 l0 a2) a2) != 0) = true := bne_iff_ne.mpr c9
          obtain rfl := Option.some.inj H
          go_enter Try.func32, Try.ntmps32
          go_wp2_with (first | ((with_reducible refine gate_dst (N := 5) rfl ?_); refine box_event ?hg (N := 5) ?hd (cs := #[.int .u64 a1_0, .int .u64 a1_1]) (t := 41) ?hr ?_; (case hd => rfl); (case hg => rfl); (case hr => first | (go_simp; done) | (go_simp; rfl)); intro gb167 hg w17 hbox hb; have n0_ := Aside0.mk (below_step (by repeat (first | (with_reducible first | exact HB.out | apply below_alloc | apply pw_below_drewN | apply below_drew1) | exact HB.out)) hb); have n1_ := Aside0.mk (hbox); have n2_ := Aside0.mk ((by rw [hg]; exact (below_size (by repeat (first | (with_reducible first | exact HB.out | apply below_alloc | apply pw_below_drewN | apply below_drew1) | exact HB.out))) : w.heap.size ≤ gb167)); have n3_ := Aside0.mk ((by rw [hg]; exact (below_size (by repeat (first | (with_reducible first | exact HB.out | apply below_alloc | apply pw_below_drewN | apply below_drew1) | exact HB.out))) : w.heap.size ≤ gb167)); clear HB; have HB := n0_; have BK167 := n1_; have GW167 := n2_; have GE167 := n3_; clear n0_ n1_ n2_ n3_; clear hb hbox hg; have p168 : 0 ≤ (a2 : Int) := of_decide_eq_true (by first | (with_reducible assumption) | assumption); have q168 : a2 < (l0.length : Int) := of_decide_eq_true (by first | (with_reducible assumption) | assumption); obtain ⟨ad168, A168_0, c168_0, e168, hx168_0, hl168_0, hi168_0⟩ := at_L5 HR0.out a2 p168 q168; cases e168; replace hx168_0 := (HB.out.cell (World.block_lt_of_cell? w _ hx168_0)).trans hx168_0; have HR168_0 := Aside0.mk hi168_0; have HC168_0 := Aside0.mk hl168_0; clear hi168_0 hl168_0; replace p168 := eq_true p168; replace q168 := eq_true q168; have p169 : 0 ≤ (a2 : Int) := of_decide_eq_true (by first | (with_reducible assumption) | assumption); have q169 : a2 < ((rd_L5 l0 a2).length : Int) := of_decide_eq_true (by first | (with_reducible assumption) | assumption); obtain ⟨ad169, e169, hx169_0⟩ := Kd.at_int HR168_0.out a2 p169 q169; cases e169; replace hx169_0 := (HB.out.cell (World.block_lt_of_cell? w _ hx169_0)).trans hx169_0; replace p169 := eq_true p169; replace q169 := eq_true q169))
          go_ret
          exact ⟨by first | rfl | (simp [errW_none, errW_some] <;> rfl) | (simp [*, errW_none, errW_some] <;> rfl), by repeat (first | (with_reducible first | exact HB.out | apply below_alloc | apply pw_below_drewN | apply below_drew1 | refine below_set ?_ GE167.out) | exact HB.out)⟩
      · rw [if_neg c8] at H
        exact absurd H (by simp)
    · rw [if_neg c7] at H
      exact absurd H (by simp)
  · rw [if_neg c6] at H
    exact absurd H (by simp)
def discover_fits.f (k : Nat) (l0 : List (List Int)) (a1_0 : Int) (a1_1 : Int) (a2 : Int) (a3 : Int) : Option (Bool) := if a3 = 0 then discover_fits0.f k l0 a1_0 a1_1 a2 else if a3 = 1 then discover_fits1.f k l0 a1_0 a1_1 a2 else none
theorem discover_fits.mono : ∀ a0 a1 a2 a3 a4 k, LeO (discover_fits.f k a0 a1 a2 a3 a4) (discover_fits.f (k + 1) a0 a1 a2 a3 a4) := by
  intro a0 a1 a2 a3 a4 k
  unfold discover_fits.f
  exact LeO.ite (discover_fits0.mono _ _ _ _ _) (LeO.ite (discover_fits1.mono _ _ _ _ _) (LeO.none _))
theorem discover_fits.calls (k : Nat) (A0 : Option Addr) (c0 : Nat) (l0 : List (List Int)) (a1_0 : Int) (a1_1 : Int) (a2 : Int) (a3 : Int) (r : Bool) (w : World) (hr0 : Kd.C (Kd.slice 3 (Kd.int .i64)) w A0 l0.length l0) (hc0 : l0.length ≤ c0) (h : discover_fits.f k l0 a1_0 a1_1 a2 a3 = some r) :
    Calls Try.prog 32 #[.slice A0 l0.length c0, .agg #[.int .u64 a1_0, .int .u64 a1_1], .int .i64 a2, .int .i64 a3] w fun e w' => e = .returned (.bool r) ∧ Below w.heap.size w w' := by
  unfold discover_fits.f at h
  split at h
  · rename_i h3; subst h3; exact discover_fits0.calls k A0 c0 l0 a1_0 a1_1 a2 r w hr0 hc0 h
  · split at h
    · rename_i h3; subst h3; exact discover_fits1.calls k A0 c0 l0 a1_0 a1_1 a2 r w hr0 hc0 h
    · cases h


end



section
-- STUBBED 31
/-! ### discover_grown: function 31: by hand -/
mutual
def discover_grown.l0 : Nat → List (List Int) → Int → Int → Int → Int → Option (Int × Int)
  | 0, _, _, _, _, _ => none
  | k + 1, x0, x13, x14, x168000, x168001 => if x14 < x13 then ((discover_has.f x168000 x14).bind fun t169 => (if t169 = true then (discover_grown.l0 k x0 x13 (wrap64 (x14 + 1)) x168000 x168001) else ((discover_fits.f k x0 x168000 x168001 x14 0).bind fun t170 => (if t170 = true then (if 0 ≤ (IntKind.u64.wrap (x14)) then (some (Go.bits .or .u64 x168000 (shl .u64 1 (IntKind.u64.wrap (x14))), x168001)) else (none)) else (discover_grown.l0 k x0 x13 (wrap64 (x14 + 1)) x168000 x168001))))) else ((discover_grown.l1 k x0 (x0.length : Int) 0 x168000 x168001))
def discover_grown.l1 : Nat → List (List Int) → Int → Int → Int → Int → Option (Int × Int)
  | 0, _, _, _, _, _ => none
  | k + 1, x0, x13, x14, x168000, x168001 => if x14 < x13 then ((discover_has.f x168001 x14).bind fun t172 => (if t172 = true then (discover_grown.l1 k x0 x13 (wrap64 (x14 + 1)) x168000 x168001) else ((discover_fits.f k x0 x168000 x168001 x14 1).bind fun t173 => (if t173 = true then (if 0 ≤ (IntKind.u64.wrap (x14)) then (some (x168000, Go.bits .or .u64 x168001 (shl .u64 1 (IntKind.u64.wrap (x14))))) else (none)) else (discover_grown.l1 k x0 x13 (wrap64 (x14 + 1)) x168000 x168001))))) else ((some (x168000, x168001)))
end
def discover_grown.f (k : Nat) (l0 : List (List Int)) (a1_0 : Int) (a1_1 : Int) : Option (Int × Int) := (discover_grown.l0 k l0 (l0.length : Int) 0 a1_0 a1_1)
theorem discover_grown.mono_l : ∀ k, (∀ y0 y1 y2 y3 y4, LeO (discover_grown.l0 k y0 y1 y2 y3 y4) (discover_grown.l0 (k + 1) y0 y1 y2 y3 y4)) ∧ (∀ y0 y1 y2 y3 y4, LeO (discover_grown.l1 k y0 y1 y2 y3 y4) (discover_grown.l1 (k + 1) y0 y1 y2 y3 y4))
  | 0 => ⟨fun _ _ _ _ _ r h => by simp [discover_grown.l0] at h, fun _ _ _ _ _ r h => by simp [discover_grown.l1] at h⟩
  | k + 1 => by
    obtain ⟨ih0, ih1⟩ := discover_grown.mono_l k
    refine ⟨?_, ?_⟩
    · intro y0 y1 y2 y3 y4
      unfold discover_grown.l0
      repeat' first
      | (with_reducible exact ih0 _ _ _ _ _)
      | (with_reducible exact ih1 _ _ _ _ _)
      | (with_reducible exact discover_fits.mono _ _ _ _ _ _)
      | (with_reducible exact LeO.refl _)
      | (with_reducible exact LeO.none _)
      | (with_reducible refine LeO.ite ?_ ?_)
      | (with_reducible refine LeO.bind ?_ (fun _ => ?_))
      | exact ih0 _ _ _ _ _
      | exact ih1 _ _ _ _ _
      | exact discover_fits.mono _ _ _ _ _ _
      | exact LeO.none _
      | refine LeO.ite ?_ ?_
      | refine LeO.bind ?_ (fun _ => ?_)
    · intro y0 y1 y2 y3 y4
      unfold discover_grown.l1
      repeat' first
      | (with_reducible exact ih0 _ _ _ _ _)
      | (with_reducible exact ih1 _ _ _ _ _)
      | (with_reducible exact discover_fits.mono _ _ _ _ _ _)
      | (with_reducible exact LeO.refl _)
      | (with_reducible exact LeO.none _)
      | (with_reducible refine LeO.ite ?_ ?_)
      | (with_reducible refine LeO.bind ?_ (fun _ => ?_))
      | exact ih0 _ _ _ _ _
      | exact ih1 _ _ _ _ _
      | exact discover_fits.mono _ _ _ _ _ _
      | exact LeO.none _
      | refine LeO.ite ?_ ?_
      | refine LeO.bind ?_ (fun _ => ?_)
theorem discover_grown.mono : ∀ a0 a1 a2 k, LeO (discover_grown.f k a0 a1 a2) (discover_grown.f (k + 1) a0 a1 a2) := by
  intro a0 a1 a2 k
  obtain ⟨ih0, ih1⟩ := discover_grown.mono_l k
  unfold discover_grown.f
  repeat' first
      | (with_reducible exact ih0 _ _ _ _ _)
      | (with_reducible exact ih1 _ _ _ _ _)
      | (with_reducible exact discover_fits.mono _ _ _ _ _ _)
      | (with_reducible exact LeO.refl _)
      | (with_reducible exact LeO.none _)
      | (with_reducible refine LeO.ite ?_ ?_)
      | (with_reducible refine LeO.bind ?_ (fun _ => ?_))
      | exact ih0 _ _ _ _ _
      | exact ih1 _ _ _ _ _
      | exact discover_fits.mono _ _ _ _ _ _
      | exact LeO.none _
      | refine LeO.ite ?_ ?_
      | refine LeO.bind ?_ (fun _ => ?_)
set_option maxHeartbeats 8000000 in
set_option maxRecDepth 100000 in
theorem discover_grown.calls (k : Nat) (A0 : Option Addr) (c0 : Nat) (l0 : List (List Int)) (a1_0 : Int) (a1_1 : Int) (r1 : Int) (r2 : Int) (w : World) (hr0 : Kd.C (Kd.slice 3 (Kd.int .i64)) w A0 l0.length l0) (hc0 : l0.length ≤ c0) (h : discover_grown.f k l0 a1_0 a1_1 = some (r1, r2)) :
    Calls Try.prog 31 #[.slice A0 l0.length c0, .agg #[.int .u64 a1_0, .int .u64 a1_1]] w fun e w' => e = .returned (.agg #[.int .u64 r1, .int .u64 r2]) ∧ Below w.heap.size w w' := by
  have hu41 := Try.underlying41
  have hu37 := Try.underlying37
  have hu37 := Try.underlying37
  have HR0 := Aside0.mk hr0
  have HC0 := Aside0.mk hc0
  clear hr0 hc0
  have HB := Aside0.mk (Below.refl w.heap.size w)
  have H : ((discover_grown.l0 k l0 (l0.length : Int) 0 a1_0 a1_1)) = some (r1, r2) := h
  clear h
  have H' := Aside0.mk H
  clear H
  go_enter Try.func31, Try.ntmps31
  go_wp2_with (first | ((with_reducible refine gate_dst (N := 3) rfl ?_); refine box_event ?hg (N := 3) ?hd (cs := #[.int .u64 a1_0, .int .u64 a1_1]) (t := 41) ?hr ?_; (case hd => rfl); (case hg => rfl); (case hr => first | (go_simp; done) | (go_simp; rfl)); intro gb167 hg w4 hbox hb; have n0_ := Aside0.mk (below_step (by repeat (first | (with_reducible first | exact HB.out | apply below_alloc | apply pw_below_drewN | apply below_drew1) | exact HB.out)) hb); have n1_ := Aside0.mk (hbox); have n2_ := Aside0.mk ((by rw [hg]; exact (below_size (by repeat (first | (with_reducible first | exact HB.out | apply below_alloc | apply pw_below_drewN | apply below_drew1) | exact HB.out))) : w.heap.size ≤ gb167)); have n3_ := Aside0.mk ((by rw [hg]; exact (below_size (by repeat (first | (with_reducible first | exact HB.out | apply below_alloc | apply pw_below_drewN | apply below_drew1) | exact HB.out))) : w.heap.size ≤ gb167)); clear HB; have HB := n0_; have BK167 := n1_; have GW167 := n2_; have GE167 := n3_; clear n0_ n1_ n2_ n3_; clear hb hbox hg) | ((with_reducible refine gate_dst (N := 4) rfl ?_); refine box_event ?hg (N := 4) ?hd (cs := #[.int .u64 0, .int .u64 0]) (t := 41) ?hr ?_; (case hd => rfl); (case hg => rfl); (case hr => first | (go_simp; done) | (go_simp; rfl)); intro gb168 hg w5 hbox hb; have n0_ := Aside0.mk (blk_below (g := gb167) (o := .cells #[.int .u64 a1_0, .int .u64 a1_1] 41 (0, 0)) (by (with_reducible repeat (first | refine blk_drewN ?_ _ | refine blk_drew ?_ | refine blk_alloc ?_ _)); exact BK167.out) hb); have n1_ := Aside0.mk (below_step (by repeat (first | (with_reducible first | exact HB.out | apply below_alloc | apply pw_below_drewN | apply below_drew1 | refine below_set ?_ GE167.out) | exact HB.out)) hb); have n2_ := Aside0.mk (hbox); have n3_ := Aside0.mk ((by rw [hg]; exact (below_size (by repeat (first | (with_reducible first | exact HB.out | apply below_alloc | apply pw_below_drewN | apply below_drew1 | refine below_set ?_ GE167.out) | exact HB.out))) : w.heap.size ≤ gb168)); have n4_ := Aside0.mk ((by rw [hg]; exact (below_size (by repeat (first | (with_reducible first | exact HB.out | apply below_alloc | apply pw_below_drewN | apply below_drew1 | refine below_set ?_ GE167.out) | exact HB.out))) : w.heap.size ≤ gb168)); have n5_ := Aside0.mk ((by rw [hg]; exact Nat.ne_of_lt (blk_lt (g := gb167) (o := .cells #[.int .u64 a1_0, .int .u64 a1_1] 41 (0, 0)) (by (with_reducible repeat (first | refine blk_drewN ?_ _ | refine blk_drew ?_ | refine blk_alloc ?_ _)); exact BK167.out)) : gb167 ≠ gb168)); have n6_ := Aside0.mk ((by rw [hg]; exact Nat.ne_of_gt (blk_lt (g := gb167) (o := .cells #[.int .u64 a1_0, .int .u64 a1_1] 41 (0, 0)) (by (with_reducible repeat (first | refine blk_drewN ?_ _ | refine blk_drew ?_ | refine blk_alloc ?_ _)); exact BK167.out)) : gb168 ≠ gb167)); clear BK167; clear HB; have BK167 := n0_; have HB := n1_; have BK168 := n2_; have GW168 := n3_; have GE168 := n4_; have NB167_168 := n5_; have NB168_167 := n6_; clear n0_ n1_ n2_ n3_ n4_ n5_ n6_; clear hb hbox hg))
  refine wp_loop_rounds 3 ?_
  rw [rounds_succ]
  go_wp2
  go_loopg [14] k (fun kq v14 w' => ∃ (x14_1 : Int) (x169000_1 : Int) (x169001_1 : Int), v14 = .int .i64 x14_1 ∧ Aside0 (discover_grown.l0 kq l0 (l0.length : Int) x14_1 a1_0 a1_1 = some (r1, r2)) ∧ Aside0 (kq ≤ k) ∧ Aside0 (w'.heap[gb167]? = some (.cells #[.int .u64 a1_0, .int .u64 a1_1] 41 (0, 0))) ∧ Aside0 (w'.heap[gb168]? = some (.cells #[.int .u64 x169000_1, .int .u64 x169001_1] 41 (0, 0))) ∧ Aside0 (Below w.heap.size w w'))
  case atStart => exact ⟨(0), (0), (0), (by first | rfl | (simp; done) | (simp [*]; done) | (simp [i64_w]; done)), H', ⟨Nat.le_refl _⟩, ⟨by (with_reducible repeat (first | refine blk_drewN ?_ _ | refine blk_drew ?_ | refine blk_alloc ?_ _)); exact BK167.out⟩, ⟨by (with_reducible repeat (first | refine blk_drewN ?_ _ | refine blk_drew ?_ | refine blk_alloc ?_ _)); exact BK168.out⟩, ⟨by repeat (first | (with_reducible first | exact HB.out | apply below_alloc | apply pw_below_drewN | apply below_drew1 | refine below_set ?_ GE167.out | refine below_set ?_ GE168.out) | exact HB.out)⟩⟩
  case round =>
    clear H'
    try clear p2
    try clear c3
    try clear c3b0
    obtain ⟨x14_1, x169000_1, x169001_1, rfl, HA, HK1, BK167, BK168, HB⟩ := hrel
    cases gk with
    | zero => exact absurd HA.out (by simp [discover_grown.l0])
    | succ k1 =>
      have H := HA.out
      clear HA
      simp only [discover_grown.l0] at H
      by_cases c6 : x14_1 < (l0.length : Int)
      · rw [if_pos c6] at H
        have c6b0 : decide (x14_1 < (l0.length : Int)) = true := decide_eq_true c6
        clear c6
        replace H := Option.bind_eq_some_iff.mp H
        obtain ⟨t169, A70, H⟩ := H
        replace H : (if t169 = true then (discover_grown.l0 k1 l0 (l0.length : Int) (wrap64 (x14_1 + 1)) a1_0 a1_1) else ((discover_fits.f k1 l0 a1_0 a1_1 x14_1 0).bind fun t170 => (if t170 = true then (if 0 ≤ (IntKind.u64.wrap (x14_1)) then (some (Go.bits .or .u64 a1_0 (shl .u64 1 (IntKind.u64.wrap (x14_1))), a1_1)) else (none)) else (discover_grown.l0 k1 l0 (l0.length : Int) (wrap64 (x14_1 + 1)) a1_0 a1_1)))) = some (r1, r2) := H
        have A7 := Aside0.mk A70
        clear A70
        by_cases c8 : t169 = true
        · subst c8
          have H1 : (discover_grown.l0 k1 l0 (l0.length : Int) (wrap64 (x14_1 + 1)) a1_0 a1_1) = some (r1, r2) := by rw [if_pos rfl] at H; exact H
          clear H
          have H := H1
          clear H1
          have H' := Aside0.mk H
          clear H
          have hnb9 := NB167_168.out
          have hnc9 := NB168_167.out
          have hcz10_0 : wr.cell? ⟨gb167, 0, none⟩ = some (.int .u64 a1_0) := (blk_cell BK167.out 0).trans rfl
          have hcz10_1 : wr.cell? ⟨gb167, 1, none⟩ = some (.int .u64 a1_1) := (blk_cell BK167.out 1).trans rfl
          have hfz10_0 := blk_frozen BK167.out 0
          have hfz10_1 := blk_frozen BK167.out 1
          go_wp2_with (first | ((with_reducible refine gate_callee (f := 41) rfl ?_); refine goesL_ (some 21) rfl rfl Try.func41 (by kernel_rfl) rfl #[.int .u64 a1_0, .int .i64 x14_1] rfl (by (try simp only [List.map_toArray, List.map_cons, List.map_nil]); first | done | rfl | (simp only [List.length_drop, List.length_take]; rfl)) ?_; (with_reducible refine (discover_has.calls a1_0 x14_1 true _ A7.out).mono ?_); rintro e w' ⟨rfl, ⟨nd, rfl⟩⟩; refine ⟨_, rfl, ?_⟩))
          go_roundg k1
          case measure => have := HK1.out; omega
          case rel => exact ⟨(wrap64 (x14_1 + 1)), (x169000_1), (x169001_1), (by first | rfl | (simp; done) | (simp [*]; done) | (simp [i64_w]; done)), H', ⟨by have := HK1.out; omega⟩, ⟨by (with_reducible repeat (first | refine blk_drewN ?_ _ | refine blk_drew ?_ | refine blk_alloc ?_ _)); exact BK167.out⟩, ⟨by (with_reducible repeat (first | refine blk_drewN ?_ _ | refine blk_drew ?_ | refine blk_alloc ?_ _)); exact BK168.out⟩, ⟨by repeat (first | (with_reducible first | exact HB.out | apply below_alloc | apply pw_below_drewN | apply below_drew1 | refine below_set ?_ GE167.out | refine below_set ?_ GE168.out) | exact HB.out)⟩⟩
        · replace c8 := Bool.eq_false_iff.mpr c8
          subst c8
          have H1 : ((discover_fits.f k1 l0 a1_0 a1_1 x14_1 0).bind fun t170 => (if t170 = true then (if 0 ≤ (IntKind.u64.wrap (x14_1)) then (some (Go.bits .or .u64 a1_0 (shl .u64 1 (IntKind.u64.wrap (x14_1))), a1_1)) else (none)) else (discover_grown.l0 k1 l0 (l0.length : Int) (wrap64 (x14_1 + 1)) a1_0 a1_1))) = some (r1, r2) := by rw [if_neg (show ¬ (false = true) by decide)] at H; exact H
          clear H
          have H := H1
          clear H1
          replace H := Option.bind_eq_some_iff.mp H
          obtain ⟨t170, A110, H⟩ := H
          replace H : (if t170 = true then (if 0 ≤ (IntKind.u64.wrap (x14_1)) then (some (Go.bits .or .u64 a1_0 (shl .u64 1 (IntKind.u64.wrap (x14_1))), a1_1)) else (none)) else (discover_grown.l0 k1 l0 (l0.length : Int) (wrap64 (x14_1 + 1)) a1_0 a1_1)) = some (r1, r2) := H
          have A11 := Aside0.mk A110
          clear A110
          by_cases c12 : t170 = true
          · subst c12
            have H1 : (if 0 ≤ (IntKind.u64.wrap (x14_1)) then (some (Go.bits .or .u64 a1_0 (shl .u64 1 (IntKind.u64.wrap (x14_1))), a1_1)) else (none)) = some (r1, r2) := by rw [if_pos rfl] at H; exact H
            clear H
            have H := H1
            clear H1
            obtain ⟨ji13, hji13⟩ : ∃ j_ : Int, (IntKind.u64.wrap (x14_1)) = j_ := ⟨_, rfl⟩
            replace H : (if 0 ≤ (ji13) then (some (Go.bits .or .u64 a1_0 (shl .u64 1 (ji13)), a1_1)) else (none)) = some (r1, r2) := by first | (rw [hji13] at H; exact H) | (simp only [hji13] at H ⊢; exact H)
            (try rw [hji13] at A7)
            (try rw [hji13] at A11)
            by_cases c14 : 0 ≤ (ji13)
            · rw [if_pos c14] at H
              have c14b0 := eq_true c14
              have c14b1 : decide (0 ≤ (ji13)) = true := decide_eq_true c14
              clear c14
              obtain ⟨ji15, hji15⟩ : ∃ j_ : Int, (shl .u64 1 (ji13)) = j_ := ⟨_, rfl⟩
              replace H : (some (Go.bits .or .u64 a1_0 (ji15), a1_1)) = some (r1, r2) := by first | (rw [hji15] at H; exact H) | (simp only [hji15] at H ⊢; exact H)
              (try rw [hji15] at A7)
              (try rw [hji15] at A11)
              have hji15_ : (IntKind.u64.wrap (1 * 2 ^ min (ji13).toNat 64)) = ji15 := hji15
              have hji15z : (ji13) ≤ 64 → (IntKind.u64.wrap (1 * 2 ^ (ji13).toNat)) = ji15 := shl_small hji15
              have hji15u : (IntKind.u64.wrap (2 ^ min (ji13).toNat 64)) = ji15 := by have h_ := hji15_; rw [Int.one_mul] at h_; exact h_
              have hji15v : (ji13) ≤ 64 → (IntKind.u64.wrap (2 ^ (ji13).toNat)) = ji15 := fun hle_ => by have h_ := hji15z hle_; rw [Int.one_mul] at h_; exact h_
              simp only [Option.some.injEq, Prod.mk.injEq] at H
              obtain ⟨rfl, rfl⟩ := H
              have hnb16 := NB167_168.out
              have hnc16 := NB168_167.out
              have hcz17_0 : wr.cell? ⟨gb167, 0, none⟩ = some (.int .u64 a1_0) := (blk_cell BK167.out 0).trans rfl
              have hcz17_1 : wr.cell? ⟨gb167, 1, none⟩ = some (.int .u64 a1_1) := (blk_cell BK167.out 1).trans rfl
              have hfz17_0 := blk_frozen BK167.out 0
              have hfz17_1 := blk_frozen BK167.out 1
              go_wp2_with (first | ((with_reducible refine gate_callee (f := 41) rfl ?_); refine goesL_ (some 21) rfl rfl Try.func41 (by kernel_rfl) rfl #[.int .u64 a1_0, .int .i64 x14_1] rfl (by (try simp only [List.map_toArray, List.map_cons, List.map_nil]); first | done | rfl | (simp only [List.length_drop, List.length_take]; rfl)) ?_; (with_reducible refine (discover_has.calls a1_0 x14_1 false _ A7.out).mono ?_); rintro e w' ⟨rfl, ⟨nd, rfl⟩⟩; refine ⟨_, rfl, ?_⟩; (try (rw [drewN_self wr]; generalize hq_ : World.drewN wr _ = wr; have n0_ : Aside0 (wr.heap[gb167]? = some (.cells #[.int .u64 a1_0, .int .u64 a1_1] 41 (0, 0))) := ⟨by rw [← hq_]; exact (by (with_reducible repeat (first | refine blk_drewN ?_ _ | refine blk_drew ?_ | refine blk_alloc ?_ _)); exact BK167.out)⟩; have n1_ : Aside0 (wr.heap[gb168]? = some (.cells #[.int .u64 x169000_1, .int .u64 x169001_1] 41 (0, 0))) := ⟨by rw [← hq_]; exact (by (with_reducible repeat (first | refine blk_drewN ?_ _ | refine blk_drew ?_ | refine blk_alloc ?_ _)); exact BK168.out)⟩; have n2_ : Aside0 (Below w.heap.size w wr) := ⟨by rw [← hq_]; exact (by repeat (first | (with_reducible first | exact HB.out | apply below_alloc | apply pw_below_drewN | apply below_drew1 | refine below_set ?_ GE167.out | refine below_set ?_ GE168.out) | exact HB.out))⟩; clear BK167 BK168 HB hq_; have BK167 := n0_; have BK168 := n1_; have HB := n2_; clear n0_ n1_ n2_; have hcy_0 : wr.cell? ⟨gb167, 0, none⟩ = some (.int .u64 a1_0) := (blk_cell BK167.out 0).trans rfl; have hcy_1 : wr.cell? ⟨gb167, 1, none⟩ = some (.int .u64 a1_1) := (blk_cell BK167.out 1).trans rfl; have hfy_0 := blk_frozen BK167.out 0; have hfy_1 := blk_frozen BK167.out 1))) | (go_at_call 32; (with_reducible refine (discover_fits.calls k1 _ _ l0 a1_0 a1_1 x14_1 0 true _ ?side1 ?side2 A11.out).mono ?_); (case side1 => repeat (first | exact (Kd.C_below HR0.out HB.out) | (with_reducible refine Kd.C_alloc ?_ _) | (with_reducible refine Kd.C_drewN ?_ _) | (with_reducible refine Kd.C_drew ?_))); (case side2 => exact HC0.out); rintro e w18 ⟨rfl, hb⟩; have n0_ := Aside0.mk (blk_below (g := gb167) (o := .cells #[.int .u64 a1_0, .int .u64 a1_1] 41 (0, 0)) (by (with_reducible repeat (first | refine blk_drewN ?_ _ | refine blk_drew ?_ | refine blk_alloc ?_ _)); exact BK167.out) hb); have n1_ := Aside0.mk (blk_below (g := gb168) (o := .cells #[.int .u64 x169000_1, .int .u64 x169001_1] 41 (0, 0)) (by (with_reducible repeat (first | refine blk_drewN ?_ _ | refine blk_drew ?_ | refine blk_alloc ?_ _)); exact BK168.out) hb); have n2_ := Aside0.mk (below_step (by repeat (first | (with_reducible first | exact HB.out | apply below_alloc | apply pw_below_drewN | apply below_drew1 | refine below_set ?_ GE167.out | refine below_set ?_ GE168.out) | exact HB.out)) hb); clear BK167; clear BK168; clear HB; have BK167 := n0_; have BK168 := n1_; have HB := n2_; clear n0_ n1_ n2_; (try clear hb); (try clear hb2); (try clear hk); (try clear hi); have hcz19_0 : w18.cell? ⟨gb167, 0, none⟩ = some (.int .u64 a1_0) := (blk_cell BK167.out 0).trans rfl; have hcz19_1 : w18.cell? ⟨gb167, 1, none⟩ = some (.int .u64 a1_1) := (blk_cell BK167.out 1).trans rfl; have hfz19_0 := blk_frozen BK167.out 0; have hfz19_1 := blk_frozen BK167.out 1) | ((with_reducible refine gate_dst (N := 7) rfl ?_); refine box_event ?hg (N := 7) ?hd (cs := #[.int .u64 0, .int .u64 0]) (t := 41) ?hr ?_; (case hd => rfl); (case hg => rfl); (case hr => first | (go_simp; done) | (go_simp; rfl)); intro gb171 hg w20 hbox hb; have n0_ := Aside0.mk (blk_below (g := gb167) (o := .cells #[.int .u64 a1_0, .int .u64 a1_1] 41 (0, 0)) (by (with_reducible repeat (first | refine blk_drewN ?_ _ | refine blk_drew ?_ | refine blk_alloc ?_ _)); exact BK167.out) hb); have n1_ := Aside0.mk (blk_below (g := gb168) (o := .cells #[.int .u64 x169000_1, .int .u64 x169001_1] 41 (0, 0)) (by (with_reducible repeat (first | refine blk_drewN ?_ _ | refine blk_drew ?_ | refine blk_alloc ?_ _)); exact BK168.out) hb); have n2_ := Aside0.mk (below_step (by repeat (first | (with_reducible first | exact HB.out | apply below_alloc | apply pw_below_drewN | apply below_drew1 | refine below_set ?_ GE167.out | refine below_set ?_ GE168.out) | exact HB.out)) hb); have n3_ := Aside0.mk (hbox); have n4_ := Aside0.mk ((by rw [hg]; exact (below_size (by repeat (first | (with_reducible first | exact HB.out | apply below_alloc | apply pw_below_drewN | apply below_drew1 | refine below_set ?_ GE167.out | refine below_set ?_ GE168.out) | exact HB.out))) : w.heap.size ≤ gb171)); have n5_ := Aside0.mk ((by rw [hg]; exact (below_size (by repeat (first | (with_reducible first | exact HB.out | apply below_alloc | apply pw_below_drewN | apply below_drew1 | refine below_set ?_ GE167.out | refine below_set ?_ GE168.out) | exact HB.out))) : w.heap.size ≤ gb171)); have n6_ := Aside0.mk ((by rw [hg]; exact Nat.ne_of_lt (blk_lt (g := gb167) (o := .cells #[.int .u64 a1_0, .int .u64 a1_1] 41 (0, 0)) (by (with_reducible repeat (first | refine blk_drewN ?_ _ | refine blk_drew ?_ | refine blk_alloc ?_ _)); exact BK167.out)) : gb167 ≠ gb171)); have n7_ := Aside0.mk ((by rw [hg]; exact Nat.ne_of_gt (blk_lt (g := gb167) (o := .cells #[.int .u64 a1_0, .int .u64 a1_1] 41 (0, 0)) (by (with_reducible repeat (first | refine blk_drewN ?_ _ | refine blk_drew ?_ | refine blk_alloc ?_ _)); exact BK167.out)) : gb171 ≠ gb167)); have n8_ := Aside0.mk ((by rw [hg]; exact Nat.ne_of_lt (blk_lt (g := gb168) (o := .cells #[.int .u64 x169000_1, .int .u64 x169001_1] 41 (0, 0)) (by (with_reducible repeat (first | refine blk_drewN ?_ _ | refine blk_drew ?_ | refine blk_alloc ?_ _)); exact BK168.out)) : gb168 ≠ gb171)); have n9_ := Aside0.mk ((by rw [hg]; exact Nat.ne_of_gt (blk_lt (g := gb168) (o := .cells #[.int .u64 x169000_1, .int .u64 x169001_1] 41 (0, 0)) (by (with_reducible repeat (first | refine blk_drewN ?_ _ | refine blk_drew ?_ | refine blk_alloc ?_ _)); exact BK168.out)) : gb171 ≠ gb168)); clear BK167; clear BK168; clear HB; have BK167 := n0_; have BK168 := n1_; have HB := n2_; have BK171 := n3_; have GW171 := n4_; have GE171 := n5_; have NB167_171 := n6_; have NB171_167 := n7_; have NB168_171 := n8_; have NB171_168 := n9_; clear n0_ n1_ n2_ n3_ n4_ n5_ n6_ n7_ n8_ n9_; clear hb hbox hg; have hnb21 := NB171_167.out; have hnc21 := NB167_171.out; have hnb22 := NB171_168.out; have hnc22 := NB168_171.out; have hcz23_0 : w20.cell? ⟨gb171, 0, none⟩ = some (.int .u64 0) := (blk_cell BK171.out 0).trans rfl; have hcz23_1 : w20.cell? ⟨gb171, 1, none⟩ = some (.int .u64 0) := (blk_cell BK171.out 1).trans rfl; have hfz23_0 := blk_frozen BK171.out 0; have hfz23_1 := blk_frozen BK171.out 1; have hcz24_0 : w20.cell? ⟨gb168, 0, none⟩ = some (.int .u64 x169000_1) := (blk_cell BK168.out 0).trans rfl; have hcz24_1 : w20.cell? ⟨gb168, 1, none⟩ = some (.int .u64 x169001_1) := (blk_cell BK168.out 1).trans rfl; have hfz24_0 := blk_frozen BK168.out 0; have hfz24_1 := blk_frozen BK168.out 1))
              refine bodyPost_ret (results_cell_row rfl _ _ gb168 41 #[.int .u64 (Go.bits .or .u64 a1_0 (ji15)), .int .u64 a1_1] (0, 0) _ rfl (by (with_reducible repeat (first | refine blk_drewN ?_ _ | refine blk_drew ?_ | refine blk_alloc ?_ _)); refine blk_put (cs := #[.int .u64 (Go.bits .or .u64 a1_0 (ji15)), .int .u64 x169001_1]) ?_ 1 _ rfl; (with_reducible repeat (first | refine blk_drewN ?_ _ | refine blk_drew ?_ | refine blk_alloc ?_ _)); refine blk_put (cs := #[.int .u64 x169000_1, .int .u64 x169001_1]) ?_ 0 _ rfl; (with_reducible repeat (first | refine blk_drewN ?_ _ | refine blk_drew ?_ | refine blk_alloc ?_ _)); refine blk_far ?_ NB168_171.out _; (with_reducible repeat (first | refine blk_drewN ?_ _ | refine blk_drew ?_ | refine blk_alloc ?_ _)); refine blk_far ?_ NB168_171.out _; (with_reducible repeat (first | refine blk_drewN ?_ _ | refine blk_drew ?_ | refine blk_alloc ?_ _)); refine blk_far ?_ NB168_171.out _; (with_reducible repeat (first | refine blk_drewN ?_ _ | refine blk_drew ?_ | refine blk_alloc ?_ _)); exact BK168.out) Try.underlying41 rfl (by kernel_rfl)) rfl ?_
              exact ⟨by first | rfl | (simp [errW_none, errW_some] <;> rfl) | (simp only [← hji13, ← hji15]; first | rfl | (simp [errW_none, errW_some] <;> rfl)) | (simp [*, errW_none, errW_some] <;> rfl), by repeat (first | (with_reducible first | exact HB.out | apply below_alloc | apply pw_below_drewN | apply below_drew1 | refine below_set ?_ GE167.out | refine below_set ?_ GE168.out | refine below_set ?_ GE171.out) | exact HB.out)⟩
            · rw [if_neg c14] at H
              exact absurd H (by simp)
          · replace c12 := Bool.eq_false_iff.mpr c12
            subst c12
            have H1 : (discover_grown.l0 k1 l0 (l0.length : Int) (wrap64 (x14_1 + 1)) a1_0 a1_1) = some (r1, r2) := by rw [if_neg (show ¬ (false = true) by decide)] at H; exact H
            clear H
            have H := H1
            clear H1
            have H' := Aside0.mk H
            clear H
            have hnb25 := NB167_168.out
            have hnc25 := NB168_167.out
            have hcz26_0 : wr.cell? ⟨gb167, 0, none⟩ = some (.int .u64 a1_0) := (blk_cell BK167.out 0).trans rfl
            have hcz26_1 : wr.cell? ⟨gb167, 1, none⟩ = some (.int .u64 a1_1) := (blk_cell BK167.out 1).trans rfl
            have hfz26_0 := blk_frozen BK167.out 0
            have hfz26_1 := blk_frozen BK167.out 1
            go_wp2_with (first | ((with_reducible refine gate_callee (f := 41) rfl ?_); refine goesL_ (some 21) rfl rfl Try.func41 (by kernel_rfl) rfl #[.int .u64 a1_0, .int .i64 x14_1] rfl (by (try simp only [List.map_toArray, List.map_cons, List.map_nil]); first | done | rfl | (simp only [List.length_drop, List.length_take]; rfl)) ?_; (with_reducible refine (discover_has.calls a1_0 x14_1 false _ A7.out).mono ?_); rintro e w' ⟨rfl, ⟨nd, rfl⟩⟩; refine ⟨_, rfl, ?_⟩) | (go_at_call 32; (with_reducible refine (discover_fits.calls k1 _ _ l0 a1_0 a1_1 x14_1 0 false _ ?side1 ?side2 A11.out).mono ?_); (case side1 => repeat (first | exact (Kd.C_below HR0.out (by repeat (first | (with_reducible first | exact HB.out | apply below_alloc | apply pw_below_drewN | apply below_drew1 | refine below_set ?_ GE167.out | refine below_set ?_ GE168.out) | exact HB.out))) | (with_reducible refine Kd.C_alloc ?_ _) | (with_reducible refine Kd.C_drewN ?_ _) | (with_reducible refine Kd.C_drew ?_))); (case side2 => exact HC0.out); rintro e w27 ⟨rfl, hb⟩; have n0_ := Aside0.mk (blk_below (g := gb167) (o := .cells #[.int .u64 a1_0, .int .u64 a1_1] 41 (0, 0)) (by (with_reducible repeat (first | refine blk_drewN ?_ _ | refine blk_drew ?_ | refine blk_alloc ?_ _)); exact BK167.out) hb); have n1_ := Aside0.mk (blk_below (g := gb168) (o := .cells #[.int .u64 x169000_1, .int .u64 x169001_1] 41 (0, 0)) (by (with_reducible repeat (first | refine blk_drewN ?_ _ | refine blk_drew ?_ | refine blk_alloc ?_ _)); exact BK168.out) hb); have n2_ := Aside0.mk (below_step (by repeat (first | (with_reducible first | exact HB.out | apply below_alloc | apply pw_below_drewN | apply below_drew1 | refine below_set ?_ GE167.out | refine below_set ?_ GE168.out) | exact HB.out)) hb); clear BK167; clear BK168; clear HB; have BK167 := n0_; have BK168 := n1_; have HB := n2_; clear n0_ n1_ n2_; (try clear hb); (try clear hb2); (try clear hk); (try clear hi)))
            go_roundg k1
            case measure => have := HK1.out; omega
            case rel => exact ⟨(wrap64 (x14_1 + 1)), (x169000_1), (x169001_1), (by first | rfl | (simp; done) | (simp [*]; done) | (simp [i64_w]; done)), H', ⟨by have := HK1.out; omega⟩, ⟨by (with_reducible repeat (first | refine blk_drewN ?_ _ | refine blk_drew ?_ | refine blk_alloc ?_ _)); exact BK167.out⟩, ⟨by (with_reducible repeat (first | refine blk_drewN ?_ _ | refine blk_drew ?_ | refine blk_alloc ?_ _)); exact BK168.out⟩, ⟨by repeat (first | (with_reducible first | exact HB.out | apply below_alloc | apply pw_below_drewN | apply below_drew1 | refine below_set ?_ GE167.out | refine below_set ?_ GE168.out) | exact HB.out)⟩⟩
      · rw [if_neg c6] at H
        have c6b0 : decide (x14_1 < (l0.length : Int)) = false := decide_eq_false c6
        clear c6
        have H' := Aside0.mk H
        clear H
        go_wp2
        rw [rounds_succ]
        go_wp2
        go_loopg [14] k1 (fun kq v14 w' => ∃ (x14_2 : Int) (x169000_2 : Int) (x169001_2 : Int), v14 = .int .i64 x14_2 ∧ Aside0 (discover_grown.l1 kq l0 (l0.length : Int) x14_2 a1_0 a1_1 = some (r1, r2)) ∧ Aside0 (kq ≤ k1) ∧ Aside0 (w'.heap[gb167]? = some (.cells #[.int .u64 a1_0, .int .u64 a1_1] 41 (0, 0))) ∧ Aside0 (w'.heap[gb168]? = some (.cells #[.int .u64 x169000_2, .int .u64 x169001_2] 41 (0, 0))) ∧ Aside0 (Below w.heap.size w w'))
        case atStart => exact ⟨(0), (x169000_1), (x169001_1), (by first | rfl | (simp; done) | (simp [*]; done) | (simp [i64_w]; done)), H', ⟨Nat.le_refl _⟩, ⟨by (with_reducible repeat (first | refine blk_drewN ?_ _ | refine blk_drew ?_ | refine blk_alloc ?_ _)); exact BK167.out⟩, ⟨by (with_reducible repeat (first | refine blk_drewN ?_ _ | refine blk_drew ?_ | refine blk_alloc ?_ _)); exact BK168.out⟩, ⟨by repeat (first | (with_reducible first | exact HB.out | apply below_alloc | apply pw_below_drewN | apply below_drew1 | refine below_set ?_ GE167.out | refine below_set ?_ GE168.out) | exact HB.out)⟩⟩
        case round =>
          clear H'
          try clear c1
          try clear c2
          try clear p2
          try clear c3
          try clear c3b0
          try clear c4
          try clear c6
          try clear c6b0
          try clear p6
          try clear c8
          try clear c9
          try clear c12
          try clear c14
          try clear c14b0
          try clear c14b1
          try clear c16
          try clear c21
          try clear c22
          try clear c25
          try clear c28
          try clear c28b0
          try clear hcz10_0
          try clear hcz10_1
          try clear hcz17_0
          try clear hcz17_1
          try clear hcz19_0
          try clear hcz19_1
          try clear hcz23_0
          try clear hcz23_1
          try clear hcz24_0
          try clear hcz24_1
          try clear hcz26_0
          try clear hcz26_1
          try clear hfz10_0
          try clear hfz10_1
          try clear hfz17_0
          try clear hfz17_1
          try clear hfz19_0
          try clear hfz19_1
          try clear hfz23_0
          try clear hfz23_1
          try clear hfz24_0
          try clear hfz24_1
          try clear hfz26_0
          try clear hfz26_1
          try clear p2
          obtain ⟨x14_2, x169000_2, x169001_2, rfl, HA, HK2, BK167, BK168, HB⟩ := hrel
          cases gk with
          | zero => exact absurd HA.out (by simp [discover_grown.l1])
          | succ k2 =>
            have H := HA.out
            clear HA
            simp only [discover_grown.l1] at H
            by_cases c29 : x14_2 < (l0.length : Int)
            · rw [if_pos c29] at H
              have c29b0 : decide (x14_2 < (l0.length : Int)) = true := decide_eq_true c29
              clear c29
              replace H := Option.bind_eq_some_iff.mp H
              obtain ⟨t172, A300, H⟩ := H
              replace H : (if t172 = true then (discover_grown.l1 k2 l0 (l0.length : Int) (wrap64 (x14_2 + 1)) a1_0 a1_1) else ((discover_fits.f k2 l0 a1_0 a1_1 x14_2 1).bind fun t173 => (if t173 = true then (if 0 ≤ (IntKind.u64.wrap (x14_2)) then (some (a1_0, Go.bits .or .u64 a1_1 (shl .u64 1 (IntKind.u64.wrap (x14_2))))) else (none)) else (discover_grown.l1 k2 l0 (l0.length : Int) (wrap64 (x14_2 + 1)) a1_0 a1_1)))) = some (r1, r2) := H
              have A30 := Aside0.mk A300
              clear A300
              by_cases c31 : t172 = true
              · subst c31
                have H1 : (discover_grown.l1 k2 l0 (l0.length : Int) (wrap64 (x14_2 + 1)) a1_0 a1_1) = some (r1, r2) := by rw [if_pos rfl] at H; exact H
                clear H
                have H := H1
                clear H1
                have H' := Aside0.mk H
                clear H
                have hnb32 := NB167_168.out
                have hnc32 := NB168_167.out
                have hcz33_0 : wr.cell? ⟨gb167, 0, none⟩ = some (.int .u64 a1_0) := (blk_cell BK167.out 0).trans rfl
                have hcz33_1 : wr.cell? ⟨gb167, 1, none⟩ = some (.int .u64 a1_1) := (blk_cell BK167.out 1).trans rfl
                have hfz33_0 := blk_frozen BK167.out 0
                have hfz33_1 := blk_frozen BK167.out 1
                go_wp2_with (first | ((with_reducible refine gate_callee (f := 41) rfl ?_); refine goesL_ (some 21) rfl rfl Try.func41 (by kernel_rfl) rfl #[.int .u64 a1_1, .int .i64 x14_2] rfl (by (try simp only [List.map_toArray, List.map_cons, List.map_nil]); first | done | rfl | (simp only [List.length_drop, List.length_take]; rfl)) ?_; (with_reducible refine (discover_has.calls a1_1 x14_2 true _ A30.out).mono ?_); rintro e w' ⟨rfl, ⟨nd, rfl⟩⟩; refine ⟨_, rfl, ?_⟩))
                go_roundg k2
                case measure => have := HK1.out; have := HK2.out; omega
                case rel => exact ⟨(wrap64 (x14_2 + 1)), (x169000_2), (x169001_2), (by first | rfl | (simp; done) | (simp [*]; done) | (simp [i64_w]; done)), H', ⟨by have := HK1.out; have := HK2.out; omega⟩, ⟨by (with_reducible repeat (first | refine blk_drewN ?_ _ | refine blk_drew ?_ | refine blk_alloc ?_ _)); exact BK167.out⟩, ⟨by (with_reducible repeat (first | refine blk_drewN ?_ _ | refine blk_drew ?_ | refine blk_alloc ?_ _)); exact BK168.out⟩, ⟨by repeat (first | (with_reducible first | exact HB.out | apply below_alloc | apply pw_below_drewN | apply below_drew1 | refine below_set ?_ GE167.out | refine below_set ?_ GE168.out) | exact HB.out)⟩⟩
              · replace c31 := Bool.eq_false_iff.mpr c31
                subst c31
                have H1 : ((discover_fits.f k2 l0 a1_0 a1_1 x14_2 1).bind fun t173 => (if t173 = true then (if 0 ≤ (IntKind.u64.wrap (x14_2)) then (some (a1_0, Go.bits .or .u64 a1_1 (shl .u64 1 (IntKind.u64.wrap (x14_2))))) else (none)) else (discover_grown.l1 k2 l0 (l0.length : Int) (wrap64 (x14_2 + 1)) a1_0 a1_1))) = some (r1, r2) := by rw [if_neg (show ¬ (false = true) by decide)] at H; exact H
                clear H
                have H := H1
                clear H1
                replace H := Option.bind_eq_some_iff.mp H
                obtain ⟨t173, A340, H⟩ := H
                replace H : (if t173 = true then (if 0 ≤ (IntKind.u64.wrap (x14_2)) then (some (a1_0, Go.bits .or .u64 a1_1 (shl .u64 1 (IntKind.u64.wrap (x14_2))))) else (none)) else (discover_grown.l1 k2 l0 (l0.length : Int) (wrap64 (x14_2 + 1)) a1_0 a1_1)) = some (r1, r2) := H
                have A34 := Aside0.mk A340
                clear A340
                by_cases c35 : t173 = true
                · subst c35
                  have H1 : (if 0 ≤ (IntKind.u64.wrap (x14_2)) then (some (a1_0, Go.bits .or .u64 a1_1 (shl .u64 1 (IntKind.u64.wrap (x14_2))))) else (none)) = some (r1, r2) := by rw [if_pos rfl] at H; exact H
                  clear H
                  have H := H1
                  clear H1
                  obtain ⟨ji36, hji36⟩ : ∃ j_ : Int, (IntKind.u64.wrap (x14_2)) = j_ := ⟨_, rfl⟩
                  replace H : (if 0 ≤ (ji36) then (some (a1_0, Go.bits .or .u64 a1_1 (shl .u64 1 (ji36)))) else (none)) = some (r1, r2) := by first | (rw [hji36] at H; exact H) | (simp only [hji36] at H ⊢; exact H)
                  (try rw [hji36] at A30)
                  (try rw [hji36] at A34)
                  by_cases c37 : 0 ≤ (ji36)
                  · rw [if_pos c37] at H
                    have c37b0 := eq_true c37
                    have c37b1 : decide (0 ≤ (ji36)) = true := decide_eq_true c37
                    clear c37
                    obtain ⟨ji38, hji38⟩ : ∃ j_ : Int, (shl .u64 1 (ji36)) = j_ := ⟨_, rfl⟩
                    replace H : (some (a1_0, Go.bits .or .u64 a1_1 (ji38))) = some (r1, r2) := by first | (rw [hji38] at H; exact H) | (simp only [hji38] at H ⊢; exact H)
                    (try rw [hji38] at A30)
                    (try rw [hji38] at A34)
                    have hji38_ : (IntKind.u64.wrap (1 * 2 ^ min (ji36).toNat 64)) = ji38 := hji38
                    have hji38z : (ji36) ≤ 64 → (IntKind.u64.wrap (1 * 2 ^ (ji36).toNat)) = ji38 := shl_small hji38
                    have hji38u : (IntKind.u64.wrap (2 ^ min (ji36).toNat 64)) = ji38 := by have h_ := hji38_; rw [Int.one_mul] at h_; exact h_
                    have hji38v : (ji36) ≤ 64 → (IntKind.u64.wrap (2 ^ (ji36).toNat)) = ji38 := fun hle_ => by have h_ := hji38z hle_; rw [Int.one_mul] at h_; exact h_
                    simp only [Option.some.injEq, Prod.mk.injEq] at H
                    obtain ⟨rfl, rfl⟩ := H
                    have hnb39 := NB167_168.out
                    have hnc39 := NB168_167.out
                    have hcz40_0 : wr.cell? ⟨gb167, 0, none⟩ = some (.int .u64 a1_0) := (blk_cell BK167.out 0).trans rfl
                    have hcz40_1 : wr.cell? ⟨gb167, 1, none⟩ = some (.int .u64 a1_1) := (blk_cell BK167.out 1).trans rfl
                    have hfz40_0 := blk_frozen BK167.out 0
                    have hfz40_1 := blk_frozen BK167.out 1
                    go_wp2_with (first | ((with_reducible refine gate_callee (f := 41) rfl ?_); refine goesL_ (some 21) rfl rfl Try.func41 (by kernel_rfl) rfl #[.int .u64 a1_1, .int .i64 x14_2] rfl (by (try simp only [List.map_toArray, List.map_cons, List.map_nil]); first | done | rfl | (simp only [List.length_drop, List.length_take]; rfl)) ?_; (with_reducible refine (discover_has.calls a1_1 x14_2 false _ A30.out).mono ?_); rintro e w' ⟨rfl, ⟨nd, rfl⟩⟩; refine ⟨_, rfl, ?_⟩; (try (rw [drewN_self wr]; generalize hq_ : World.drewN wr _ = wr; have n0_ : Aside0 (wr.heap[gb167]? = some (.cells #[.int .u64 a1_0, .int .u64 a1_1] 41 (0, 0))) := ⟨by rw [← hq_]; exact (by (with_reducible repeat (first | refine blk_drewN ?_ _ | refine blk_drew ?_ | refine blk_alloc ?_ _)); exact BK167.out)⟩; have n1_ : Aside0 (wr.heap[gb168]? = some (.cells #[.int .u64 x169000_2, .int .u64 x169001_2] 41 (0, 0))) := ⟨by rw [← hq_]; exact (by (with_reducible repeat (first | refine blk_drewN ?_ _ | refine blk_drew ?_ | refine blk_alloc ?_ _)); exact BK168.out)⟩; have n2_ : Aside0 (Below w.heap.size w wr) := ⟨by rw [← hq_]; exact (by repeat (first | (with_reducible first | exact HB.out | apply below_alloc | apply pw_below_drewN | apply below_drew1 | refine below_set ?_ GE167.out | refine below_set ?_ GE168.out) | exact HB.out))⟩; clear BK167 BK168 HB hq_; have BK167 := n0_; have BK168 := n1_; have HB := n2_; clear n0_ n1_ n2_; have hcy_0 : wr.cell? ⟨gb167, 0, none⟩ = some (.int .u64 a1_0) := (blk_cell BK167.out 0).trans rfl; have hcy_1 : wr.cell? ⟨gb167, 1, none⟩ = some (.int .u64 a1_1) := (blk_cell BK167.out 1).trans rfl; have hfy_0 := blk_frozen BK167.out 0; have hfy_1 := blk_frozen BK167.out 1))) | (go_at_call 32; (with_reducible refine (discover_fits.calls k2 _ _ l0 a1_0 a1_1 x14_2 1 true _ ?side1 ?side2 A34.out).mono ?_); (case side1 => repeat (first | exact (Kd.C_below HR0.out HB.out) | (with_reducible refine Kd.C_alloc ?_ _) | (with_reducible refine Kd.C_drewN ?_ _) | (with_reducible refine Kd.C_drew ?_))); (case side2 => exact HC0.out); rintro e w41 ⟨rfl, hb⟩; have n0_ := Aside0.mk (blk_below (g := gb167) (o := .cells #[.int .u64 a1_0, .int .u64 a1_1] 41 (0, 0)) (by (with_reducible repeat (first | refine blk_drewN ?_ _ | refine blk_drew ?_ | refine blk_alloc ?_ _)); exact BK167.out) hb); have n1_ := Aside0.mk (blk_below (g := gb168) (o := .cells #[.int .u64 x169000_2, .int .u64 x169001_2] 41 (0, 0)) (by (with_reducible repeat (first | refine blk_drewN ?_ _ | refine blk_drew ?_ | refine blk_alloc ?_ _)); exact BK168.out) hb); have n2_ := Aside0.mk (below_step (by repeat (first | (with_reducible first | exact HB.out | apply below_alloc | apply pw_below_drewN | apply below_drew1 | refine below_set ?_ GE167.out | refine below_set ?_ GE168.out) | exact HB.out)) hb); clear BK167; clear BK168; clear HB; have BK167 := n0_; have BK168 := n1_; have HB := n2_; clear n0_ n1_ n2_; (try clear hb); (try clear hb2); (try clear hk); (try clear hi); have hcz42_0 : w41.cell? ⟨gb167, 0, none⟩ = some (.int .u64 a1_0) := (blk_cell BK167.out 0).trans rfl; have hcz42_1 : w41.cell? ⟨gb167, 1, none⟩ = some (.int .u64 a1_1) := (blk_cell BK167.out 1).trans rfl; have hfz42_0 := blk_frozen BK167.out 0; have hfz42_1 := blk_frozen BK167.out 1) | ((with_reducible refine gate_dst (N := 7) rfl ?_); refine box_event ?hg (N := 7) ?hd (cs := #[.int .u64 0, .int .u64 0]) (t := 41) ?hr ?_; (case hd => rfl); (case hg => rfl); (case hr => first | (go_simp; done) | (go_simp; rfl)); intro gb174 hg w43 hbox hb; have n0_ := Aside0.mk (blk_below (g := gb167) (o := .cells #[.int .u64 a1_0, .int .u64 a1_1] 41 (0, 0)) (by (with_reducible repeat (first | refine blk_drewN ?_ _ | refine blk_drew ?_ | refine blk_alloc ?_ _)); exact BK167.out) hb); have n1_ := Aside0.mk (blk_below (g := gb168) (o := .cells #[.int .u64 x169000_2, .int .u64 x169001_2] 41 (0, 0)) (by (with_reducible repeat (first | refine blk_drewN ?_ _ | refine blk_drew ?_ | refine blk_alloc ?_ _)); exact BK168.out) hb); have n2_ := Aside0.mk (below_step (by repeat (first | (with_reducible first | exact HB.out | apply below_alloc | apply pw_below_drewN | apply below_drew1 | refine below_set ?_ GE167.out | refine below_set ?_ GE168.out) | exact HB.out)) hb); have n3_ := Aside0.mk (hbox); have n4_ := Aside0.mk ((by rw [hg]; exact (below_size (by repeat (first | (with_reducible first | exact HB.out | apply below_alloc | apply pw_below_drewN | apply below_drew1 | refine below_set ?_ GE167.out | refine below_set ?_ GE168.out) | exact HB.out))) : w.heap.size ≤ gb174)); have n5_ := Aside0.mk ((by rw [hg]; exact (below_size (by repeat (first | (with_reducible first | exact HB.out | apply below_alloc | apply pw_below_drewN | apply below_drew1 | refine below_set ?_ GE167.out | refine below_set ?_ GE168.out) | exact HB.out))) : w.heap.size ≤ gb174)); have n6_ := Aside0.mk ((by rw [hg]; exact Nat.ne_of_lt (blk_lt (g := gb167) (o := .cells #[.int .u64 a1_0, .int .u64 a1_1] 41 (0, 0)) (by (with_reducible repeat (first | refine blk_drewN ?_ _ | refine blk_drew ?_ | refine blk_alloc ?_ _)); exact BK167.out)) : gb167 ≠ gb174)); have n7_ := Aside0.mk ((by rw [hg]; exact Nat.ne_of_gt (blk_lt (g := gb167) (o := .cells #[.int .u64 a1_0, .int .u64 a1_1] 41 (0, 0)) (by (with_reducible repeat (first | refine blk_drewN ?_ _ | refine blk_drew ?_ | refine blk_alloc ?_ _)); exact BK167.out)) : gb174 ≠ gb167)); have n8_ := Aside0.mk ((by rw [hg]; exact Nat.ne_of_lt (blk_lt (g := gb168) (o := .cells #[.int .u64 x169000_2, .int .u64 x169001_2] 41 (0, 0)) (by (with_reducible repeat (first | refine blk_drewN ?_ _ | refine blk_drew ?_ | refine blk_alloc ?_ _)); exact BK168.out)) : gb168 ≠ gb174)); have n9_ := Aside0.mk ((by rw [hg]; exact Nat.ne_of_gt (blk_lt (g := gb168) (o := .cells #[.int .u64 x169000_2, .int .u64 x169001_2] 41 (0, 0)) (by (with_reducible repeat (first | refine blk_drewN ?_ _ | refine blk_drew ?_ | refine blk_alloc ?_ _)); exact BK168.out)) : gb174 ≠ gb168)); clear BK167; clear BK168; clear HB; have BK167 := n0_; have BK168 := n1_; have HB := n2_; have BK174 := n3_; have GW174 := n4_; have GE174 := n5_; have NB167_174 := n6_; have NB174_167 := n7_; have NB168_174 := n8_; have NB174_168 := n9_; clear n0_ n1_ n2_ n3_ n4_ n5_ n6_ n7_ n8_ n9_; clear hb hbox hg; have hnb44 := NB174_167.out; have hnc44 := NB167_174.out; have hnb45 := NB174_168.out; have hnc45 := NB168_174.out; have hcz46_0 : w43.cell? ⟨gb174, 0, none⟩ = some (.int .u64 0) := (blk_cell BK174.out 0).trans rfl; have hcz46_1 : w43.cell? ⟨gb174, 1, none⟩ = some (.int .u64 0) := (blk_cell BK174.out 1).trans rfl; have hcq_1 : ∀ a b c, (((w43.setCell ⟨gb174, 0, none⟩ a).setCell ⟨gb174, 1, none⟩ b).setCell ⟨gb174, 1, none⟩ c).cell? ⟨gb174, 1, none⟩ = some c := fun a b c => World.cell?_setCell_same _ _ _ (World.cell?_setCell_same _ _ _ ((World.cell?_setCell_other _ _ _ _ (by simp)).trans hcz46_1)); have hfz46_0 := blk_frozen BK174.out 0; have hfz46_1 := blk_frozen BK174.out 1; have hcz47_0 : w43.cell? ⟨gb168, 0, none⟩ = some (.int .u64 x169000_2) := (blk_cell BK168.out 0).trans rfl; have hcz47_1 : w43.cell? ⟨gb168, 1, none⟩ = some (.int .u64 x169001_2) := (blk_cell BK168.out 1).trans rfl; have hfz47_0 := blk_frozen BK168.out 0; have hfz47_1 := blk_frozen BK168.out 1))
                    refine bodyPost_ret (results_cell_row rfl _ _ gb168 41 #[.int .u64 a1_0, .int .u64 (Go.bits .or .u64 a1_1 (ji38))] (0, 0) _ rfl (by (with_reducible repeat (first | refine blk_drewN ?_ _ | refine blk_drew ?_ | refine blk_alloc ?_ _)); refine blk_put (cs := #[.int .u64 a1_0, .int .u64 x169001_2]) ?_ 1 _ rfl; (with_reducible repeat (first | refine blk_drewN ?_ _ | refine blk_drew ?_ | refine blk_alloc ?_ _)); refine blk_put (cs := #[.int .u64 x169000_2, .int .u64 x169001_2]) ?_ 0 _ rfl; (with_reducible repeat (first | refine blk_drewN ?_ _ | refine blk_drew ?_ | refine blk_alloc ?_ _)); refine blk_far ?_ NB168_174.out _; (with_reducible repeat (first | refine blk_drewN ?_ _ | refine blk_drew ?_ | refine blk_alloc ?_ _)); refine blk_far ?_ NB168_174.out _; (with_reducible repeat (first | refine blk_drewN ?_ _ | refine blk_drew ?_ | refine blk_alloc ?_ _)); refine blk_far ?_ NB168_174.out _; (with_reducible repeat (first | refine blk_drewN ?_ _ | refine blk_drew ?_ | refine blk_alloc ?_ _)); exact BK168.out) Try.underlying41 rfl (by kernel_rfl)) rfl ?_
                    exact ⟨by first | rfl | (simp [errW_none, errW_some] <;> rfl) | (simp only [← hji36, ← hji38]; first | rfl | (simp [errW_none, errW_some] <;> rfl)) | (simp [*, errW_none, errW_some] <;> rfl), by repeat (first | (with_reducible first | exact HB.out | apply below_alloc | apply pw_below_drewN | apply below_drew1 | refine below_set ?_ GE167.out | refine below_set ?_ GE168.out | refine below_set ?_ GE174.out) | exact HB.out)⟩
                  · rw [if_neg c37] at H
                    exact absurd H (by simp)
                · replace c35 := Bool.eq_false_iff.mpr c35
                  subst c35
                  have H1 : (discover_grown.l1 k2 l0 (l0.length : Int) (wrap64 (x14_2 + 1)) a1_0 a1_1) = some (r1, r2) := by rw [if_neg (show ¬ (false = true) by decide)] at H; exact H
                  clear H
                  have H := H1
                  clear H1
                  have H' := Aside0.mk H
                  clear H
                  have hnb48 := NB167_168.out
                  have hnc48 := NB168_167.out
                  have hcz49_0 : wr.cell? ⟨gb167, 0, none⟩ = some (.int .u64 a1_0) := (blk_cell BK167.out 0).trans rfl
                  have hcz49_1 : wr.cell? ⟨gb167, 1, none⟩ = some (.int .u64 a1_1) := (blk_cell BK167.out 1).trans rfl
                  have hfz49_0 := blk_frozen BK167.out 0
                  have hfz49_1 := blk_frozen BK167.out 1
                  go_wp2_with (first | ((with_reducible refine gate_callee (f := 41) rfl ?_); refine goesL_ (some 21) rfl rfl Try.func41 (by kernel_rfl) rfl #[.int .u64 a1_1, .int .i64 x14_2] rfl (by (try simp only [List.map_toArray, List.map_cons, List.map_nil]); first | done | rfl | (simp only [List.length_drop, List.length_take]; rfl)) ?_; (with_reducible refine (discover_has.calls a1_1 x14_2 false _ A30.out).mono ?_); rintro e w' ⟨rfl, ⟨nd, rfl⟩⟩; refine ⟨_, rfl, ?_⟩) | (go_at_call 32; (with_reducible refine (discover_fits.calls k2 _ _ l0 a1_0 a1_1 x14_2 1 false _ ?side1 ?side2 A34.out).mono ?_); (case side1 => repeat (first | exact (Kd.C_below HR0.out (by repeat (first | (with_reducible first | exact HB.out | apply below_alloc | apply pw_below_drewN | apply below_drew1 | refine below_set ?_ GE167.out | refine below_set ?_ GE168.out) | exact HB.out))) | (with_reducible refine Kd.C_alloc ?_ _) | (with_reducible refine Kd.C_drewN ?_ _) | (with_reducible refine Kd.C_drew ?_))); (case side2 => exact HC0.out); rintro e w50 ⟨rfl, hb⟩; have n0_ := Aside0.mk (blk_below (g := gb167) (o := .cells #[.int .u64 a1_0, .int .u64 a1_1] 41 (0, 0)) (by (with_reducible repeat (first | refine blk_drewN ?_ _ | refine blk_drew ?_ | refine blk_alloc ?_ _)); exact BK167.out) hb); have n1_ := Aside0.mk (blk_below (g := gb168) (o := .cells #[.int .u64 x169000_2, .int .u64 x169001_2] 41 (0, 0)) (by (with_reducible repeat (first | refine blk_drewN ?_ _ | refine blk_drew ?_ | refine blk_alloc ?_ _)); exact BK168.out) hb); have n2_ := Aside0.mk (below_step (by repeat (first | (with_reducible first | exact HB.out | apply below_alloc | apply pw_below_drewN | apply below_drew1 | refine below_set ?_ GE167.out | refine below_set ?_ GE168.out) | exact HB.out)) hb); clear BK167; clear BK168; clear HB; have BK167 := n0_; have BK168 := n1_; have HB := n2_; clear n0_ n1_ n2_; (try clear hb); (try clear hb2); (try clear hk); (try clear hi)))
                  go_roundg k2
                  case measure => have := HK1.out; have := HK2.out; omega
                  case rel => exact ⟨(wrap64 (x14_2 + 1)), (x169000_2), (x169001_2), (by first | rfl | (simp; done) | (simp [*]; done) | (simp [i64_w]; done)), H', ⟨by have := HK1.out; have := HK2.out; omega⟩, ⟨by (with_reducible repeat (first | refine blk_drewN ?_ _ | refine blk_drew ?_ | refine blk_alloc ?_ _)); exact BK167.out⟩, ⟨by (with_reducible repeat (first | refine blk_drewN ?_ _ | refine blk_drew ?_ | refine blk_alloc ?_ _)); exact BK168.out⟩, ⟨by repeat (first | (with_reducible first | exact HB.out | apply below_alloc | apply pw_below_drewN | apply below_drew1 | refine below_set ?_ GE167.out | refine below_set ?_ GE168.out) | exact HB.out)⟩⟩
            · rw [if_neg c29] at H
              have c29b0 : decide (x14_2 < (l0.length : Int)) = false := decide_eq_false c29
              clear c29
              simp only [Option.some.injEq, Prod.mk.injEq] at H
              obtain ⟨rfl, rfl⟩ := H
              have hnb55 := NB167_168.out
              have hnc55 := NB168_167.out
              have hcz56_0 : wr.cell? ⟨gb167, 0, none⟩ = some (.int .u64 a1_0) := (blk_cell BK167.out 0).trans rfl
              have hcz56_1 : wr.cell? ⟨gb167, 1, none⟩ = some (.int .u64 a1_1) := (blk_cell BK167.out 1).trans rfl
              have hfz56_0 := blk_frozen BK167.out 0
              have hfz56_1 := blk_frozen BK167.out 1
              have hcz57_0 : wr.cell? ⟨gb168, 0, none⟩ = some (.int .u64 x169000_2) := (blk_cell BK168.out 0).trans rfl
              have hcz57_1 : wr.cell? ⟨gb168, 1, none⟩ = some (.int .u64 x169001_2) := (blk_cell BK168.out 1).trans rfl
              have hfz57_0 := blk_frozen BK168.out 0
              have hfz57_1 := blk_frozen BK168.out 1
              go_wp2
              rw [rounds_succ]
              go_wp2
              refine bodyPost_ret (results_cell_row rfl _ _ gb168 41 #[.int .u64 a1_0, .int .u64 a1_1] (0, 0) _ rfl (by (with_reducible repeat (first | refine blk_drewN ?_ _ | refine blk_drew ?_ | refine blk_alloc ?_ _)); refine blk_put (cs := #[.int .u64 a1_0, .int .u64 x169001_2]) ?_ 1 _ rfl; (with_reducible repeat (first | refine blk_drewN ?_ _ | refine blk_drew ?_ | refine blk_alloc ?_ _)); refine blk_put (cs := #[.int .u64 x169000_2, .int .u64 x169001_2]) ?_ 0 _ rfl; (with_reducible repeat (first | refine blk_drewN ?_ _ | refine blk_drew ?_ | refine blk_alloc ?_ _)); exact BK168.out) Try.underlying41 rfl (by kernel_rfl)) rfl ?_
              exact ⟨by first | rfl | (simp [errW_none, errW_some] <;> rfl) | (simp [*, errW_none, errW_some] <;> rfl), by repeat (first | (with_reducible first | exact HB.out | apply below_alloc | apply pw_below_drewN | apply below_drew1 | refine below_set ?_ GE167.out | refine below_set ?_ GE168.out) | exact HB.out)⟩


end


-- NOT PRINTED: function 30 (discover_pairs_1)




section
-- STUBBED 17
/-! ### discover_pairs: function 17: by hand -/

theorem eqA41_cons {P : Program} {d : Nat} {e : TypeId} {c : Nat} {xs ys : Array Value} {i : Nat} {is : List Nat} {a b : Value} {r s : Bool} {w : World} (ha : (part e xs (i * c)).run P w = .ok a w) (hb : (part e ys (i * c)).run P w = .ok b w) (he : (Op.equalIn d e a b).run P w = .ok r w) (hr : (Op.eqItems d e c xs ys is).run P w = .ok s w) : (Op.eqItems d e c xs ys (i :: is)).run P w = .ok (r && s) w := by
  simp only [Op.eqItems, Sem.run_bind, ha, hb, he, Result.andThen_ok]
  cases r
  · simp
  · simpa using hr
theorem eqA_pair (d : Nat) (w : World) (x0 y0 : Int) (x1 y1 : Int) :
    (Op.equalIn (d + 2) 41 (.agg #[.int .u64 x0, .int .u64 x1]) (.agg #[.int .u64 y0, .int .u64 y1])).run Try.prog w = .ok (x0 == y0 && (x1 == y1)) w := by
  obtain ⟨i, hi⟩ := Option.isSome_iff_exists.1 (show (Try.prog.info? 37).isSome = true by kernel_rfl)
  rw [run_equalIn_array w (d + 1) _ _ Try.underlying41 hi, show Try.prog.cellsOf 37 = 1 by kernel_rfl]
  show (Op.eqItems (d + 1) 37 1 _ _ [0, 1]).run _ _ = _
  have h0 : (Op.eqItems (d + 1) 37 1 (#[.int .u64 x0, .int .u64 x1] : Array Value) #[.int .u64 y0, .int .u64 y1] []).run Try.prog w = .ok true w := by simp [Op.eqItems]
  have h1 := eqA41_cons (i := 1) (d := d + 1) (e := 37) (c := 1) (a := .int .u64 x1) (b := .int .u64 y1) (r := (x1 == y1)) (by first | (go_simp; done) | (go_simp; rfl)) (by first | (go_simp; done) | (go_simp; rfl)) (by go_simp) h0
  have h2 := eqA41_cons (i := 0) (d := d + 1) (e := 37) (c := 1) (a := .int .u64 x0) (b := .int .u64 y0) (r := (x0 == y0)) (by first | (go_simp; done) | (go_simp; rfl)) (by first | (go_simp; done) | (go_simp; rfl)) (by go_simp) h1
  simpa only [Bool.and_true] using h2
attribute [local go_sem high] eqA_pair

def orB (p at_ : Int) : Int := Go.bits .or .u64 p (shl .u64 1 (IntKind.u64.wrap at_))
def growE (k : Nat) (f : List (List Int)) (p0 p1 : Int) : Option (List S41) :=
  if p1 = 0 then some [] else (discover_grown.f k f p0 p1).bind fun q => if q.1 = p0 ∧ q.2 = p1 then some [⟨p0, p1⟩] else some []
def grow1 (k : Nat) (f : List (List Int)) : Nat → Int → Int → Option (List S41)
  | 0, p0, p1 => growE k f p0 p1
  | m + 1, p0, p1 => (grow1 k f m p0 p1).bind fun a => (discover_fits.f k f p0 p1 ((f.length - (m + 1) : Nat) : Int) 1).bind fun b => if b = true then (grow1 k f m p0 (orB p1 ((f.length - (m + 1) : Nat) : Int))).bind fun c => some (a ++ c) else some a
def grow0 (k : Nat) (f : List (List Int)) : Nat → Int → Int → Option (List S41)
  | 0, p0, p1 => if p0 = 0 then some [] else grow1 k f f.length p0 p1
  | m + 1, p0, p1 => (grow0 k f m p0 p1).bind fun a => (discover_fits.f k f p0 p1 ((f.length - (m + 1) : Nat) : Int) 0).bind fun b => if b = true then (grow0 k f m (orB p0 ((f.length - (m + 1) : Nat) : Int)) p1).bind fun c => some (a ++ c) else some a
def discover_pairs.f (k : Nat) (l0 : List (List Int)) : Option (List S41) := if l0.length ≤ 1000 then (grow0 k l0 l0.length 0 0).bind fun L => if L.length ≤ 100000 then some L else none else none
theorem growE_mono (k : Nat) (f : List (List Int)) (p0 p1 : Int) : LeO (growE k f p0 p1) (growE (k + 1) f p0 p1) := by
  unfold growE
  exact LeO.ite (LeO.refl _) (LeO.bind (discover_grown.mono _ _ _ _) fun _ => LeO.refl _)
theorem grow1_mono (k : Nat) (f : List (List Int)) : ∀ m p0 p1, LeO (grow1 k f m p0 p1) (grow1 (k + 1) f m p0 p1)
  | 0, p0, p1 => growE_mono k f p0 p1
  | m + 1, p0, p1 => LeO.bind (grow1_mono k f m p0 p1) fun _ => LeO.bind (discover_fits.mono _ _ _ _ _ _) fun _ => LeO.ite (LeO.bind (grow1_mono k f m _ _) fun _ => LeO.refl _) (LeO.refl _)
theorem grow0_mono (k : Nat) (f : List (List Int)) : ∀ m p0 p1, LeO (grow0 k f m p0 p1) (grow0 (k + 1) f m p0 p1)
  | 0, p0, p1 => LeO.ite (LeO.refl _) (grow1_mono k f _ p0 p1)
  | m + 1, p0, p1 => LeO.bind (grow0_mono k f m p0 p1) fun _ => LeO.bind (discover_fits.mono _ _ _ _ _ _) fun _ => LeO.ite (LeO.bind (grow0_mono k f m _ _) fun _ => LeO.refl _) (LeO.refl _)
theorem discover_pairs.mono : ∀ a0 k, LeO (discover_pairs.f k a0) (discover_pairs.f (k + 1) a0) := by
  intro a0 k
  unfold discover_pairs.f
  exact LeO.ite (LeO.bind (grow0_mono k a0 _ _ _) fun _ => LeO.refl _) (LeO.refl _)

structure GPre (w0 W : World) (bf bg bo : Nat) (A0 : Option Addr) (c0 : Nat) (f : List (List Int)) (ok : Nat → Prop) (v : Value) (pre : List S41) : Prop where
  b1 : W.heap[bf]? = some (.cells #[.slice A0 f.length c0] 30 (0, 0))
  b2 : W.heap[bg]? = some (.cells #[.func (.func 30) #[] #[.pointer (some ⟨bf, 0, none⟩), .pointer (some ⟨bg, 0, none⟩), .pointer (some ⟨bo, 0, none⟩)]] 54 (0, 0))
  b3 : W.heap[bo]? = some (.cells #[v] 39 (0, 0))
  gf : w0.heap.size ≤ bf
  gg : w0.heap.size ≤ bg
  go : w0.heap.size ≤ bo
  row : Kd.R k41 41 W w0.heap.size ok v pre
  fresh : ∀ k, W.heap.size ≤ k → ok k
  bel : Below w0.heap.size w0 W
def GPost (w0 W : World) (bo : Nat) (ok : Nat → Prop) (v : Value) (xs : List S41) (W' : World) : Prop :=
  Below w0.heap.size w0 W' ∧ KeepBut W W' bo v.ownBlock ∧ ∃ v1, W'.heap[bo]? = some (.cells #[v1] 39 (0, 0)) ∧ Kd.R k41 41 W' w0.heap.size ok v1 xs ∧ (v1.ownBlock = v.ownBlock ∨ ∃ b, v1.ownBlock = some b ∧ W.heap.size ≤ b)
def GrowC (w0 : World) (bf bg bo : Nat) (A0 : Option Addr) (c0 : Nat) (f : List (List Int)) (side at_ p0 p1 : Int) (L : List S41) : Prop :=
  ∀ W ok v pre, GPre w0 W bf bg bo A0 c0 f ok v pre → pre.length + L.length ≤ 100000 →
    Calls Try.prog 30 #[.agg #[.int .u64 p0, .int .u64 p1], .int .i64 side, .int .i64 at_, .pointer (some ⟨bf, 0, none⟩), .pointer (some ⟨bg, 0, none⟩), .pointer (some ⟨bo, 0, none⟩)] W fun e W' => (∃ u, e = .returned u) ∧ GPost w0 W bo ok v (pre ++ L) W'
theorem GrowC.app {w0 : World} {bf bg bo : Nat} {A0 : Option Addr} {c0 : Nat} {f : List (List Int)} {side at_ p0 p1 : Int} {L : List S41} (h : GrowC w0 bf bg bo A0 c0 f side at_ p0 p1 L) (W : World) (ok : Nat → Prop) (v : Value) (pre : List S41) (hp : GPre w0 W bf bg bo A0 c0 f ok v pre) (hl : pre.length + L.length ≤ 100000) :
    Calls Try.prog 30 #[.agg #[.int .u64 p0, .int .u64 p1], .int .i64 side, .int .i64 at_, .pointer (some ⟨bf, 0, none⟩), .pointer (some ⟨bg, 0, none⟩), .pointer (some ⟨bo, 0, none⟩)] W fun e W' => (∃ u, e = .returned u) ∧ GPost w0 W bo ok v (pre ++ L) W' := h W ok v pre hp hl
theorem row_ne {w : World} {base : Nat} {ok : Nat → Prop} {v : Value} {xs : List S41} {bo : Nat} {t : TypeId} {cs : Array Value} (h : Kd.R k41 41 w base ok v xs) (hb : w.heap[bo]? = some (.cells cs t (0, 0))) (ht : t ≠ 41) : some bo ≠ v.ownBlock := by
  intro e
  obtain ⟨cells, hc⟩ := Kd.R_typed h bo e.symm
  rw [hb] at hc
  injection hc with hc
  injection hc with _ hc _
  exact ht hc
set_option maxHeartbeats 16000000 in
set_option maxRecDepth 100000 in
theorem grow_end1 (k : Nat) (w0 : World) (bf bg bo : Nat) (A0 : Option Addr) (c0 : Nat) (f : List (List Int)) (hr0 : Kd.C (Kd.slice 3 (Kd.int .i64)) w0 A0 f.length f) (hc0 : f.length ≤ c0) (p0 p1 : Int) (L : List S41) (h : growE k f p0 p1 = some L) : GrowC w0 bf bg bo A0 c0 f 1 (f.length : Int) p0 p1 L := by
  intro W ok v pre hpre hlen
  obtain ⟨Av, cv, ev⟩ := Kd.R_slice hpre.row
  subst ev
  have B1 := Aside0.mk hpre.b1
  have B2 := Aside0.mk hpre.b2
  have B3 := Aside0.mk hpre.b3
  have HR := Aside0.mk hpre.row
  have HB := Aside0.mk hpre.bel
  have GF := Aside0.mk hpre.fresh
  have HC := Aside0.mk hr0
  have HC0 := Aside0.mk hc0
  have GO := Aside0.mk hpre.go
  have GF1 := Aside0.mk hpre.gf
  have GG1 := Aside0.mk hpre.gg
  have HL := Aside0.mk hlen
  have N13 := Aside0.mk (show bf ≠ bo from blk_ne hpre.b1 hpre.b3 (by decide))
  have N23 := Aside0.mk (show bg ≠ bo from blk_ne hpre.b2 hpre.b3 (by decide))
  clear hpre hlen hr0 hc0
  unfold growE at h
  by_cases h1 : p1 = 0
  · rw [if_pos h1] at h
    obtain rfl := Option.some.inj h
    have e1 : (p1 == 0) = true := beq_iff_eq.2 h1
    have e2 : (p1 != 0) = false := bne_eq_false_iff_eq.2 h1
    clear h h1
    go_enter Try.func30, Try.ntmps30
    go_wp2_with (first | ((with_reducible refine gate_dst (N := 6) rfl ?_); (try (refine gate_guard (by rfl) ?_; dsimp only)); refine box_event ?hg (N := 6) ?hd (cs := #[.int .u64 p0, .int .u64 p1]) (t := 41) ?hr ?_; (case hd => rfl); (case hg => rfl); (case hr => first | (go_simp; done) | (go_simp; rfl)); intro b6 hg w4 hbox hb; have BP := Aside0.mk (show w4.heap[b6]? = some (.cells #[.int .u64 p0, .int .u64 p1] 41 (0, 0)) from hbox); have N1 := Aside0.mk (show w4.heap[bf]? = some (.cells #[.slice A0 f.length c0] 30 (0, 0)) from blk_below B1.out hb); have N2 := Aside0.mk (show w4.heap[bg]? = some (.cells #[.func (.func 30) #[] #[.pointer (some ⟨bf, 0, none⟩), .pointer (some ⟨bg, 0, none⟩), .pointer (some ⟨bo, 0, none⟩)]] 54 (0, 0)) from blk_below B2.out hb); have N3 := Aside0.mk (show w4.heap[bo]? = some (.cells #[(.slice Av pre.length cv)] 39 (0, 0)) from blk_below B3.out hb); have NR := Aside0.mk (show Kd.R k41 41 w4 w0.heap.size (fun k => ok k ∧ k ≠ b6) (.slice Av pre.length cv) pre from Kd.R_below (Kd.R_mono (Kd.R_bound HR.out) (fun k hk => ⟨hk.1, by rw [hg]; exact Nat.ne_of_lt hk.2.2.1⟩)) hb); have NB := Aside0.mk (below_step HB.out hb); have HK := Aside0.mk (KeepBut.of_below hb bo (.slice Av pre.length cv : Value).ownBlock); have G6 := Aside0.mk (show W.heap.size ≤ b6 by rw [hg]; exact Nat.le_refl _); have L6 := Aside0.mk (show b6 < w4.heap.size from blk_lt hbox); have VL := Aside0.mk (Kd.R_lt HR.out); have HBW := Aside0.mk HB.out; clear hb hbox hg B1 B2 B3 HR HB; have B1 := N1; have B2 := N2; have B3 := N3; have HR := NR; have HB := NB; clear N1 N2 N3 NR NB; have FR := Aside0.mk (show ∀ k, w4.heap.size ≤ k → ok k ∧ k ≠ b6 from fun k hk => ⟨GF.out k (Nat.le_trans (keep_size HK.out) hk), Nat.ne_of_gt (Nat.lt_of_lt_of_le L6.out hk)⟩); have N6o := Aside0.mk (show b6 ≠ bo from blk_ne BP.out B3.out (by decide)); have No6 := Aside0.mk (show bo ≠ b6 from blk_ne B3.out BP.out (by decide)); have Nf6 := Aside0.mk (show bf ≠ b6 from blk_ne B1.out BP.out (by decide)); have Ng6 := Aside0.mk (show bg ≠ b6 from blk_ne B2.out BP.out (by decide)); have m1 := N6o.out; have m2 := No6.out; have m3 := Nf6.out; have m4 := Nf6.out.symm; have m5 := Ng6.out; have m6 := Ng6.out.symm; have hfa : w4.cell? ⟨bf, 0, none⟩ = some (.slice A0 f.length c0) := (blk_cell B1.out 0).trans rfl; have zfa := blk_frozen B1.out 0; have hga : w4.cell? ⟨bg, 0, none⟩ = some (.func (.func 30) #[] #[.pointer (some ⟨bf, 0, none⟩), .pointer (some ⟨bg, 0, none⟩), .pointer (some ⟨bo, 0, none⟩)]) := (blk_cell B2.out 0).trans rfl; have zga := blk_frozen B2.out 0; have hoa : w4.cell? ⟨bo, 0, none⟩ = some (.slice Av pre.length cv) := (blk_cell B3.out 0).trans rfl; have zoa := blk_frozen B3.out 0; have hpa : w4.cell? ⟨b6, 0, none⟩ = some (.int .u64 p0) := (blk_cell BP.out 0).trans rfl; have zpa := blk_frozen BP.out 0; have hqa : w4.cell? ⟨b6, 1, none⟩ = some (.int .u64 p1) := (blk_cell BP.out 1).trans rfl; have zqa := blk_frozen BP.out 1))
    repeat (go_quiet (fail); try go_wp2)
    first | refine bodyPost_ret (results_none rfl _ _ _) rfl ?_ | refine bodyPost_end (results_none rfl _ _ _) rfl ?_
    exact ⟨⟨_, rfl⟩, by repeat (first | (with_reducible first | exact HB.out | apply below_alloc | apply pw_below_drewN | apply below_drew1) | exact HB.out), HK.out, _, B3.out, by rw [List.append_nil]; exact Kd.R_mono HR.out (fun _ hk => hk.1), .inl rfl⟩
  · rw [if_neg h1] at h
    obtain ⟨⟨q0, q1⟩, hg, h⟩ := Option.bind_eq_some_iff.mp h
    have e1 : (p1 == 0) = false := beq_eq_false_iff_ne.2 h1
    have e2 : (p1 != 0) = true := bne_iff_ne.2 h1
    have HG := Aside0.mk hg
    clear hg h1
    dsimp only at h
    by_cases h2 : q0 = p0 ∧ q1 = p1
    · rw [if_pos h2] at h
      obtain rfl := Option.some.inj h
      have e3 : (q0 == p0 && (q1 == p1)) = true := by rw [h2.1, h2.2]; simp
      clear h h2
      go_enter Try.func30, Try.ntmps30
      go_wp2_with (first | ((with_reducible refine gate_dst (N := 6) rfl ?_); (try (refine gate_guard (by rfl) ?_; dsimp only)); refine box_event ?hg (N := 6) ?hd (cs := #[.int .u64 p0, .int .u64 p1]) (t := 41) ?hr ?_; (case hd => rfl); (case hg => rfl); (case hr => first | (go_simp; done) | (go_simp; rfl)); intro b6 hg w4 hbox hb; have BP := Aside0.mk (show w4.heap[b6]? = some (.cells #[.int .u64 p0, .int .u64 p1] 41 (0, 0)) from hbox); have N1 := Aside0.mk (show w4.heap[bf]? = some (.cells #[.slice A0 f.length c0] 30 (0, 0)) from blk_below B1.out hb); have N2 := Aside0.mk (show w4.heap[bg]? = some (.cells #[.func (.func 30) #[] #[.pointer (some ⟨bf, 0, none⟩), .pointer (some ⟨bg, 0, none⟩), .pointer (some ⟨bo, 0, none⟩)]] 54 (0, 0)) from blk_below B2.out hb); have N3 := Aside0.mk (show w4.heap[bo]? = some (.cells #[(.slice Av pre.length cv)] 39 (0, 0)) from blk_below B3.out hb); have NR := Aside0.mk (show Kd.R k41 41 w4 w0.heap.size (fun k => ok k ∧ k ≠ b6) (.slice Av pre.length cv) pre from Kd.R_below (Kd.R_mono (Kd.R_bound HR.out) (fun k hk => ⟨hk.1, by rw [hg]; exact Nat.ne_of_lt hk.2.2.1⟩)) hb); have NB := Aside0.mk (below_step HB.out hb); have HK := Aside0.mk (KeepBut.of_below hb bo (.slice Av pre.length cv : Value).ownBlock); have G6 := Aside0.mk (show W.heap.size ≤ b6 by rw [hg]; exact Nat.le_refl _); have L6 := Aside0.mk (show b6 < w4.heap.size from blk_lt hbox); have VL := Aside0.mk (Kd.R_lt HR.out); have HBW := Aside0.mk HB.out; clear hb hbox hg B1 B2 B3 HR HB; have B1 := N1; have B2 := N2; have B3 := N3; have HR := NR; have HB := NB; clear N1 N2 N3 NR NB; have FR := Aside0.mk (show ∀ k, w4.heap.size ≤ k → ok k ∧ k ≠ b6 from fun k hk => ⟨GF.out k (Nat.le_trans (keep_size HK.out) hk), Nat.ne_of_gt (Nat.lt_of_lt_of_le L6.out hk)⟩); have N6o := Aside0.mk (show b6 ≠ bo from blk_ne BP.out B3.out (by decide)); have No6 := Aside0.mk (show bo ≠ b6 from blk_ne B3.out BP.out (by decide)); have Nf6 := Aside0.mk (show bf ≠ b6 from blk_ne B1.out BP.out (by decide)); have Ng6 := Aside0.mk (show bg ≠ b6 from blk_ne B2.out BP.out (by decide)); have m1 := N6o.out; have m2 := No6.out; have m3 := Nf6.out; have m4 := Nf6.out.symm; have m5 := Ng6.out; have m6 := Ng6.out.symm; have hfa : w4.cell? ⟨bf, 0, none⟩ = some (.slice A0 f.length c0) := (blk_cell B1.out 0).trans rfl; have zfa := blk_frozen B1.out 0; have hga : w4.cell? ⟨bg, 0, none⟩ = some (.func (.func 30) #[] #[.pointer (some ⟨bf, 0, none⟩), .pointer (some ⟨bg, 0, none⟩), .pointer (some ⟨bo, 0, none⟩)]) := (blk_cell B2.out 0).trans rfl; have zga := blk_frozen B2.out 0; have hoa : w4.cell? ⟨bo, 0, none⟩ = some (.slice Av pre.length cv) := (blk_cell B3.out 0).trans rfl; have zoa := blk_frozen B3.out 0; have hpa : w4.cell? ⟨b6, 0, none⟩ = some (.int .u64 p0) := (blk_cell BP.out 0).trans rfl; have zpa := blk_frozen BP.out 0; have hqa : w4.cell? ⟨b6, 1, none⟩ = some (.int .u64 p1) := (blk_cell BP.out 1).trans rfl; have zqa := blk_frozen BP.out 1))
      refine start_ (n := 15) (S := fun w' => w'.cell? ⟨b6, 0, none⟩ = some (.int .u64 p0) ∧ w'.cell? ⟨b6, 1, none⟩ = some (.int .u64 p1) ∧ w'.cell? ⟨bf, 0, none⟩ = some (.slice A0 f.length c0)) (ds := []) #[false, false, false, false, false, false, false, false, false, false, false, false, false, false, false] (by kernel_rfl) rfl rfl ⟨hpa, hqa, hfa⟩ (fun hHeld => ?_)
      refine pure_ (i := 0) (N := some 25) (v := ?_) (a' := ?_) #[true, false, false, false, false, false, false, false, false, false, false, false, false, false, false] rfl rfl (by kernel_rfl) (fun _ _ _ h => h) (Or.inl ⟨by rfl, ?_⟩) ?_ ?_
      rotate_left
      · intro w'
        go_simp
        with_reducible rfl
      rotate_left
      · simp only [Act.put, List.setIfInBounds_toArray, List.set_cons_zero, List.set_cons_succ, i64_w, i32_w]
        rfl
      refine pure_ (i := 1) (N := some 26) (v := ?_) (a' := ?_) #[true, true, false, false, false, false, false, false, false, false, false, false, false, false, false] rfl rfl (by kernel_rfl) (fun _ _ _ h => h) (Or.inl ⟨by rfl, ?_⟩) ?_ ?_
      rotate_left
      · intro w'
        go_simp
        with_reducible rfl
      rotate_left
      · simp only [Act.put, List.setIfInBounds_toArray, List.set_cons_zero, List.set_cons_succ, i64_w, i32_w]
        rfl
      refine pure_ (i := 2) (N := some 27) (v := ?_) (a' := ?_) #[true, true, true, false, false, false, false, false, false, false, false, false, false, false, false] rfl rfl (by kernel_rfl) (fun _ _ _ h => h) (Or.inl ⟨by rfl, ?_⟩) ?_ ?_
      rotate_left
      · intro w'
        go_simp
        with_reducible rfl
      rotate_left
      · simp only [Act.put, List.setIfInBounds_toArray, List.set_cons_zero, List.set_cons_succ, i64_w, i32_w]
        rfl
      refine pure_ (i := 3) (N := some 28) (v := ?_) (a' := ?_) #[true, true, true, true, false, false, false, false, false, false, false, false, false, false, false] rfl rfl (by kernel_rfl) (fun _ _ _ h => h) (Or.inl ⟨by rfl, ?_⟩) ?_ ?_
      rotate_left
      · intro w'
        go_simp
        with_reducible rfl
      rotate_left
      · simp only [Act.put, List.setIfInBounds_toArray, List.set_cons_zero, List.set_cons_succ, i64_w, i32_w]
        rfl
      refine take_ (i := 4) (N := some 29) (v := ?_) (a' := ?_) #[true, true, true, true, true, false, false, false, false, false, false, false, false, false, false] rfl rfl (by kernel_rfl) (fun _ _ _ h => h) (Or.inl ⟨by rfl, ?_⟩) hHeld ?_ ?_
      rotate_left
      · rintro w' ⟨s0, s1, s2⟩
        go_simp
        with_reducible rfl
      rotate_left
      · simp only [Act.put, List.setIfInBounds_toArray, List.set_cons_zero, List.set_cons_succ, i64_w, i32_w]
        rfl
      refine pure_ (i := 5) (N := some 30) (v := ?_) (a' := ?_) #[true, true, true, true, true, true, false, false, false, false, false, false, false, false, false] rfl rfl (by kernel_rfl) (fun _ _ _ h => h) (Or.inl ⟨by rfl, ?_⟩) ?_ ?_
      rotate_left
      · intro w'
        go_simp
        with_reducible rfl
      rotate_left
      · simp only [Act.put, List.setIfInBounds_toArray, List.set_cons_zero, List.set_cons_succ, i64_w, i32_w]
        rfl
      refine pure_ (i := 6) (N := some 31) (v := ?_) (a' := ?_) #[true, true, true, true, true, true, true, false, false, false, false, false, false, false, false] rfl rfl (by kernel_rfl) (fun _ _ _ h => h) (Or.inl ⟨by rfl, ?_⟩) ?_ ?_
      rotate_left
      · intro w'
        go_simp
        with_reducible rfl
      rotate_left
      · simp only [Act.put, List.setIfInBounds_toArray, List.set_cons_zero, List.set_cons_succ, i64_w, i32_w]
        rfl
      refine pure_ (i := 7) (N := some 32) (v := ?_) (a' := ?_) #[true, true, true, true, true, true, true, true, false, false, false, false, false, false, false] rfl rfl (by kernel_rfl) (fun _ _ _ h => h) (Or.inl ⟨by rfl, ?_⟩) ?_ ?_
      rotate_left
      · intro w'
        go_simp
        with_reducible rfl
      rotate_left
      · simp only [Act.put, List.setIfInBounds_toArray, List.set_cons_zero, List.set_cons_succ, i64_w, i32_w]
        rfl
      refine take_ (i := 8) (N := some 33) (v := ?_) (a' := ?_) #[true, true, true, true, true, true, true, true, true, false, false, false, false, false, false] rfl rfl (by kernel_rfl) (fun _ _ _ h => h) (Or.inl ⟨by rfl, ?_⟩) hHeld ?_ ?_
      rotate_left
      · rintro w' ⟨s0, s1, s2⟩
        go_simp
        with_reducible rfl
      rotate_left
      · simp only [Act.put, List.setIfInBounds_toArray, List.set_cons_zero, List.set_cons_succ, i64_w, i32_w]
        rfl
      refine take_ (i := 9) (N := some 34) (v := ?_) (a' := ?_) #[true, true, true, true, true, true, true, true, true, true, false, false, false, false, false] rfl rfl (by kernel_rfl) (fun _ _ _ h => h) (Or.inl ⟨by rfl, ?_⟩) hHeld ?_ ?_
      rotate_left
      · rintro w' ⟨s0, s1, s2⟩
        go_simp
        with_reducible rfl
      rotate_left
      · simp only [Act.put, List.setIfInBounds_toArray, List.set_cons_zero, List.set_cons_succ, i64_w, i32_w]
        rfl
      refine take_ (i := 11) (N := some 36) (v := ?_) (a' := ?_) #[true, true, true, true, true, true, true, true, true, true, false, true, false, false, false] rfl rfl (by kernel_rfl) (fun _ _ _ h => h) (Or.inl ⟨by rfl, ?_⟩) hHeld ?_ ?_
      rotate_left
      · rintro w' ⟨s0, s1, s2⟩
        go_simp
        with_reducible rfl
      rotate_left
      · simp only [Act.put, List.setIfInBounds_toArray, List.set_cons_zero, List.set_cons_succ, i64_w, i32_w]
        rfl
      refine one_ (i := 10) (N := some 35) #[true, true, true, true, true, true, true, true, true, true, true, true, false, false, false] rfl rfl (by kernel_rfl) (by decide) (fun K hK => ?_)
      refine goes_ Try.func31 (by kernel_rfl) rfl #[.slice A0 f.length c0, .agg #[.int .u64 p0, .int .u64 p1]] (by rfl) rfl rfl (by (try simp only [List.map_toArray, List.map_cons, List.map_nil]); first | done | rfl | (simp only [List.length_drop, List.length_take]; rfl)) ?_
      with_reducible refine (discover_grown.calls k A0 c0 f p0 p1 q0 q1 _ ?side1 ?side2 HG.out).mono ?_
      (case side1 => repeat (first | exact (Kd.C_below HC.out HB.out) | (with_reducible refine Kd.C_alloc ?_ _) | (with_reducible refine Kd.C_drewN ?_ _) | (with_reducible refine Kd.C_drew ?_)))
      (case side2 => exact HC0.out)
      rintro e w5 ⟨rfl, hb⟩
      refine ⟨_, rfl, ?_⟩
      have N1 := Aside0.mk (show w5.heap[bf]? = some (.cells #[.slice A0 f.length c0] 30 (0, 0)) from blk_below (by (with_reducible repeat (first | refine blk_drewN ?_ _ | refine blk_drew ?_ | refine blk_alloc ?_ _)); exact B1.out) hb); have N2 := Aside0.mk (show w5.heap[bg]? = some (.cells #[.func (.func 30) #[] #[.pointer (some ⟨bf, 0, none⟩), .pointer (some ⟨bg, 0, none⟩), .pointer (some ⟨bo, 0, none⟩)]] 54 (0, 0)) from blk_below (by (with_reducible repeat (first | refine blk_drewN ?_ _ | refine blk_drew ?_ | refine blk_alloc ?_ _)); exact B2.out) hb); have N3 := Aside0.mk (show w5.heap[bo]? = some (.cells #[(.slice Av pre.length cv)] 39 (0, 0)) from blk_below (by (with_reducible repeat (first | refine blk_drewN ?_ _ | refine blk_drew ?_ | refine blk_alloc ?_ _)); exact B3.out) hb); have NP := Aside0.mk (show w5.heap[b6]? = some (.cells #[.int .u64 p0, .int .u64 p1] 41 (0, 0)) from blk_below (by (with_reducible repeat (first | refine blk_drewN ?_ _ | refine blk_drew ?_ | refine blk_alloc ?_ _)); exact BP.out) hb); have NR := Aside0.mk (Kd.R_below (by (with_reducible repeat (first | apply Kd.R_alloc | apply Kd.R_drewN | apply Kd.R_drew)); exact HR.out) hb); have NB := Aside0.mk (below_step (by repeat (first | (with_reducible first | exact HB.out | apply below_alloc | apply pw_below_drewN | apply below_drew1) | exact HB.out)) hb); have NK := Aside0.mk (KeepBut.trans (by first | exact HK.out | exact keep_drew HK.out) (KeepBut.of_below hb bo (.slice Av pre.length cv : Value).ownBlock) (.inl rfl)); clear B1 B2 B3 BP HR HB HK; have B1 := N1; have B2 := N2; have B3 := N3; have BP := NP; have HR := NR; have HB := NB; have HK := NK; clear N1 N2 N3 NP NR NB NK; clear hb
      have hfb : w5.cell? ⟨bf, 0, none⟩ = some (.slice A0 f.length c0) := (blk_cell B1.out 0).trans rfl; have zfb := blk_frozen B1.out 0; have hgb : w5.cell? ⟨bg, 0, none⟩ = some (.func (.func 30) #[] #[.pointer (some ⟨bf, 0, none⟩), .pointer (some ⟨bg, 0, none⟩), .pointer (some ⟨bo, 0, none⟩)]) := (blk_cell B2.out 0).trans rfl; have zgb := blk_frozen B2.out 0; have hob : w5.cell? ⟨bo, 0, none⟩ = some (.slice Av pre.length cv) := (blk_cell B3.out 0).trans rfl; have zob := blk_frozen B3.out 0; have hpb : w5.cell? ⟨b6, 0, none⟩ = some (.int .u64 p0) := (blk_cell BP.out 0).trans rfl; have zpb := blk_frozen BP.out 0; have hqb : w5.cell? ⟨b6, 1, none⟩ = some (.int .u64 p1) := (blk_cell BP.out 1).trans rfl; have zqb := blk_frozen BP.out 1
      refine hK.out _ _ ⟨hpb, hqb, hfb⟩ (fun hHeld => ?_)
      refine pure_ (i := 12) (N := some 37) (v := ?_) (a' := ?_) #[true, true, true, true, true, true, true, true, true, true, true, true, true, false, false] rfl rfl (by kernel_rfl) (fun _ _ _ h => h) (Or.inl ⟨by rfl, ?_⟩) ?_ ?_
      rotate_left
      · intro w'
        go_simp
        with_reducible rfl
      rotate_left
      · simp only [Act.put, List.setIfInBounds_toArray, List.set_cons_zero, List.set_cons_succ, i64_w, i32_w]
        rfl
      refine pure_ (i := 13) (N := some 38) (v := ?_) (a' := ?_) #[true, true, true, true, true, true, true, true, true, true, true, true, true, true, false] rfl rfl (by kernel_rfl) (fun _ _ _ h => h) (Or.inl ⟨by rfl, ?_⟩) ?_ ?_
      rotate_left
      · intro w'
        go_simp
        with_reducible rfl
      rotate_left
      · simp only [Act.put, List.setIfInBounds_toArray, List.set_cons_zero, List.set_cons_succ, i64_w, i32_w]
        rfl
      refine pure_ (i := 14) (N := some 24) (v := ?_) (a' := ?_) #[true, true, true, true, true, true, true, true, true, true, true, true, true, true, true] rfl rfl (by kernel_rfl) (fun _ _ _ h => h) (Or.inl ⟨by rfl, ?_⟩) ?_ ?_
      rotate_left
      · intro w'
        go_simp
        with_reducible rfl
      rotate_left
      · simp only [Act.put, List.setIfInBounds_toArray, List.set_cons_zero, List.set_cons_succ, i64_w, i32_w]
        rfl
      refine done_ (by kernel_rfl) ?_
      go_wp2_with (first | ((with_reducible refine gate_builtin (b := .append) (xs := #[.tmp 39, .tmp 41]) rfl ?_); at_builtin; refine Kd.R_append k41 (w0 := w0) w0.heap.size rfl (.tmp 39) (.tmp 41) 39 41 (.agg #[(.int .u64 0), (.int .u64 0)]) 16 rfl Try.underlying39 info41 rfl (by decide) (by omega) (.slice Av pre.length cv) pre (⟨p0, p1⟩ : S41) [.int .u64 p0, .int .u64 p1] (fun k => ok k ∧ k ≠ b6) (fun _ => False) rfl rfl ?aP (fun _ hk => hk.elim) ?aF ?aO ?aB ?aS ?aL ?_; (case aP => exact k41_mkM _ _ _ (⟨p0, p1⟩ : S41)); (case aB => exact (by repeat (first | (with_reducible first | exact HB.out | apply below_alloc | apply pw_below_drewN | apply below_drew1) | exact HB.out))); (case aF => exact (fun k hk => ⟨GF.out k (Nat.le_trans (keep_size HK.out) hk), Nat.ne_of_gt (Nat.lt_of_lt_of_le (blk_lt BP.out) hk)⟩)); (case aO => exact (by (with_reducible repeat (first | apply Kd.R_alloc | apply Kd.R_drewN | apply Kd.R_drew)); exact HR.out)); (case aS => exact (below_size (by repeat (first | (with_reducible first | exact HB.out | apply below_alloc | apply pw_below_drewN | apply below_drew1) | exact HB.out)))); (case aL => have := HL.out; simp only [List.length_singleton] at this; omega); intro v1 w7 ho hb hgr hat; obtain ⟨xs1, hxs1⟩ : ∃ y_ : List S41, y_ = pre ++ [(⟨p0, p1⟩ : S41)] := ⟨_, rfl⟩; rw [← hxs1] at ho; have HX := Aside0.mk hxs1; clear hxs1; obtain ⟨A1, c1, ev1⟩ := Kd.R_slice ho; subst ev1; have N3 := Aside0.mk (show w7.heap[bo]? = some (.cells #[(.slice Av pre.length cv)] 39 (0, 0)) from blk_grown B3.out hgr (row_ne HR.out B3.out (by decide))); have HR1 := Aside0.mk ho; have HB1 := Aside0.mk hb; have HA1 := Aside0.mk hat; have HK1 := Aside0.mk (KeepBut.trans HK.out (KeepBut.of_grown hgr bo) (.inl rfl)); have HS1 := Aside0.mk (keep_size HK.out); clear hgr hat ho hb; have ho2 : w7.cell? ⟨bo, 0, none⟩ = some (.slice Av pre.length cv) := (blk_cell N3.out 0).trans rfl; have zo2 := blk_frozen N3.out 0))
      first | refine bodyPost_ret (results_none rfl _ _ _) rfl ?_ | refine bodyPost_end (results_none rfl _ _ _) rfl ?_
      refine ⟨⟨_, rfl⟩, (HB1.out).setCell GO.out _, KeepBut.set_ HK1.out 0 _, .slice A1 xs1.length c1, ?_, ?_, HA1.out.imp id (fun ⟨b, hb, hl⟩ => ⟨b, hb, Nat.le_trans HS1.out hl⟩)⟩
      · exact blk_put (cs := #[(.slice Av pre.length cv)]) N3.out 0 _ rfl
      · rw [← HX.out]
        exact Kd.R_mono (Kd.R_far (p := ⟨bo, 0, none⟩) (Kd.R_types HR1.out N3.out (by decide)) (fun _ hk => hk.2) _) (fun _ hk => hk.1.1)
    · rw [if_neg h2] at h
      obtain rfl := Option.some.inj h
      have e3 : (q0 == p0 && (q1 == p1)) = false := by
        rw [Bool.eq_false_iff]; intro hh; rw [Bool.and_eq_true, beq_iff_eq, beq_iff_eq] at hh; exact h2 hh
      clear h h2
      go_enter Try.func30, Try.ntmps30
      go_wp2_with (first | ((with_reducible refine gate_dst (N := 6) rfl ?_); (try (refine gate_guard (by rfl) ?_; dsimp only)); refine box_event ?hg (N := 6) ?hd (cs := #[.int .u64 p0, .int .u64 p1]) (t := 41) ?hr ?_; (case hd => rfl); (case hg => rfl); (case hr => first | (go_simp; done) | (go_simp; rfl)); intro b6 hg w4 hbox hb; have BP := Aside0.mk (show w4.heap[b6]? = some (.cells #[.int .u64 p0, .int .u64 p1] 41 (0, 0)) from hbox); have N1 := Aside0.mk (show w4.heap[bf]? = some (.cells #[.slice A0 f.length c0] 30 (0, 0)) from blk_below B1.out hb); have N2 := Aside0.mk (show w4.heap[bg]? = some (.cells #[.func (.func 30) #[] #[.pointer (some ⟨bf, 0, none⟩), .pointer (some ⟨bg, 0, none⟩), .pointer (some ⟨bo, 0, none⟩)]] 54 (0, 0)) from blk_below B2.out hb); have N3 := Aside0.mk (show w4.heap[bo]? = some (.cells #[(.slice Av pre.length cv)] 39 (0, 0)) from blk_below B3.out hb); have NR := Aside0.mk (show Kd.R k41 41 w4 w0.heap.size (fun k => ok k ∧ k ≠ b6) (.slice Av pre.length cv) pre from Kd.R_below (Kd.R_mono (Kd.R_bound HR.out) (fun k hk => ⟨hk.1, by rw [hg]; exact Nat.ne_of_lt hk.2.2.1⟩)) hb); have NB := Aside0.mk (below_step HB.out hb); have HK := Aside0.mk (KeepBut.of_below hb bo (.slice Av pre.length cv : Value).ownBlock); have G6 := Aside0.mk (show W.heap.size ≤ b6 by rw [hg]; exact Nat.le_refl _); have L6 := Aside0.mk (show b6 < w4.heap.size from blk_lt hbox); have VL := Aside0.mk (Kd.R_lt HR.out); have HBW := Aside0.mk HB.out; clear hb hbox hg B1 B2 B3 HR HB; have B1 := N1; have B2 := N2; have B3 := N3; have HR := NR; have HB := NB; clear N1 N2 N3 NR NB; have FR := Aside0.mk (show ∀ k, w4.heap.size ≤ k → ok k ∧ k ≠ b6 from fun k hk => ⟨GF.out k (Nat.le_trans (keep_size HK.out) hk), Nat.ne_of_gt (Nat.lt_of_lt_of_le L6.out hk)⟩); have N6o := Aside0.mk (show b6 ≠ bo from blk_ne BP.out B3.out (by decide)); have No6 := Aside0.mk (show bo ≠ b6 from blk_ne B3.out BP.out (by decide)); have Nf6 := Aside0.mk (show bf ≠ b6 from blk_ne B1.out BP.out (by decide)); have Ng6 := Aside0.mk (show bg ≠ b6 from blk_ne B2.out BP.out (by decide)); have m1 := N6o.out; have m2 := No6.out; have m3 := Nf6.out; have m4 := Nf6.out.symm; have m5 := Ng6.out; have m6 := Ng6.out.symm; have hfa : w4.cell? ⟨bf, 0, none⟩ = some (.slice A0 f.length c0) := (blk_cell B1.out 0).trans rfl; have zfa := blk_frozen B1.out 0; have hga : w4.cell? ⟨bg, 0, none⟩ = some (.func (.func 30) #[] #[.pointer (some ⟨bf, 0, none⟩), .pointer (some ⟨bg, 0, none⟩), .pointer (some ⟨bo, 0, none⟩)]) := (blk_cell B2.out 0).trans rfl; have zga := blk_frozen B2.out 0; have hoa : w4.cell? ⟨bo, 0, none⟩ = some (.slice Av pre.length cv) := (blk_cell B3.out 0).trans rfl; have zoa := blk_frozen B3.out 0; have hpa : w4.cell? ⟨b6, 0, none⟩ = some (.int .u64 p0) := (blk_cell BP.out 0).trans rfl; have zpa := blk_frozen BP.out 0; have hqa : w4.cell? ⟨b6, 1, none⟩ = some (.int .u64 p1) := (blk_cell BP.out 1).trans rfl; have zqa := blk_frozen BP.out 1))
      refine start_ (n := 15) (S := fun w' => w'.cell? ⟨b6, 0, none⟩ = some (.int .u64 p0) ∧ w'.cell? ⟨b6, 1, none⟩ = some (.int .u64 p1) ∧ w'.cell? ⟨bf, 0, none⟩ = some (.slice A0 f.length c0)) (ds := []) #[false, false, false, false, false, false, false, false, false, false, false, false, false, false, false] (by kernel_rfl) rfl rfl ⟨hpa, hqa, hfa⟩ (fun hHeld => ?_)
      refine pure_ (i := 0) (N := some 25) (v := ?_) (a' := ?_) #[true, false, false, false, false, false, false, false, false, false, false, false, false, false, false] rfl rfl (by kernel_rfl) (fun _ _ _ h => h) (Or.inl ⟨by rfl, ?_⟩) ?_ ?_
      rotate_left
      · intro w'
        go_simp
        with_reducible rfl
      rotate_left
      · simp only [Act.put, List.setIfInBounds_toArray, List.set_cons_zero, List.set_cons_succ, i64_w, i32_w]
        rfl
      refine pure_ (i := 1) (N := some 26) (v := ?_) (a' := ?_) #[true, true, false, false, false, false, false, false, false, false, false, false, false, false, false] rfl rfl (by kernel_rfl) (fun _ _ _ h => h) (Or.inl ⟨by rfl, ?_⟩) ?_ ?_
      rotate_left
      · intro w'
        go_simp
        with_reducible rfl
      rotate_left
      · simp only [Act.put, List.setIfInBounds_toArray, List.set_cons_zero, List.set_cons_succ, i64_w, i32_w]
        rfl
      refine pure_ (i := 2) (N := some 27) (v := ?_) (a' := ?_) #[true, true, true, false, false, false, false, false, false, false, false, false, false, false, false] rfl rfl (by kernel_rfl) (fun _ _ _ h => h) (Or.inl ⟨by rfl, ?_⟩) ?_ ?_
      rotate_left
      · intro w'
        go_simp
        with_reducible rfl
      rotate_left
      · simp only [Act.put, List.setIfInBounds_toArray, List.set_cons_zero, List.set_cons_succ, i64_w, i32_w]
        rfl
      refine pure_ (i := 3) (N := some 28) (v := ?_) (a' := ?_) #[true, true, true, true, false, false, false, false, false, false, false, false, false, false, false] rfl rfl (by kernel_rfl) (fun _ _ _ h => h) (Or.inl ⟨by rfl, ?_⟩) ?_ ?_
      rotate_left
      · intro w'
        go_simp
        with_reducible rfl
      rotate_left
      · simp only [Act.put, List.setIfInBounds_toArray, List.set_cons_zero, List.set_cons_succ, i64_w, i32_w]
        rfl
      refine take_ (i := 4) (N := some 29) (v := ?_) (a' := ?_) #[true, true, true, true, true, false, false, false, false, false, false, false, false, false, false] rfl rfl (by kernel_rfl) (fun _ _ _ h => h) (Or.inl ⟨by rfl, ?_⟩) hHeld ?_ ?_
      rotate_left
      · rintro w' ⟨s0, s1, s2⟩
        go_simp
        with_reducible rfl
      rotate_left
      · simp only [Act.put, List.setIfInBounds_toArray, List.set_cons_zero, List.set_cons_succ, i64_w, i32_w]
        rfl
      refine pure_ (i := 5) (N := some 30) (v := ?_) (a' := ?_) #[true, true, true, true, true, true, false, false, false, false, false, false, false, false, false] rfl rfl (by kernel_rfl) (fun _ _ _ h => h) (Or.inl ⟨by rfl, ?_⟩) ?_ ?_
      rotate_left
      · intro w'
        go_simp
        with_reducible rfl
      rotate_left
      · simp only [Act.put, List.setIfInBounds_toArray, List.set_cons_zero, List.set_cons_succ, i64_w, i32_w]
        rfl
      refine pure_ (i := 6) (N := some 31) (v := ?_) (a' := ?_) #[true, true, true, true, true, true, true, false, false, false, false, false, false, false, false] rfl rfl (by kernel_rfl) (fun _ _ _ h => h) (Or.inl ⟨by rfl, ?_⟩) ?_ ?_
      rotate_left
      · intro w'
        go_simp
        with_reducible rfl
      rotate_left
      · simp only [Act.put, List.setIfInBounds_toArray, List.set_cons_zero, List.set_cons_succ, i64_w, i32_w]
        rfl
      refine pure_ (i := 7) (N := some 32) (v := ?_) (a' := ?_) #[true, true, true, true, true, true, true, true, false, false, false, false, false, false, false] rfl rfl (by kernel_rfl) (fun _ _ _ h => h) (Or.inl ⟨by rfl, ?_⟩) ?_ ?_
      rotate_left
      · intro w'
        go_simp
        with_reducible rfl
      rotate_left
      · simp only [Act.put, List.setIfInBounds_toArray, List.set_cons_zero, List.set_cons_succ, i64_w, i32_w]
        rfl
      refine take_ (i := 8) (N := some 33) (v := ?_) (a' := ?_) #[true, true, true, true, true, true, true, true, true, false, false, false, false, false, false] rfl rfl (by kernel_rfl) (fun _ _ _ h => h) (Or.inl ⟨by rfl, ?_⟩) hHeld ?_ ?_
      rotate_left
      · rintro w' ⟨s0, s1, s2⟩
        go_simp
        with_reducible rfl
      rotate_left
      · simp only [Act.put, List.setIfInBounds_toArray, List.set_cons_zero, List.set_cons_succ, i64_w, i32_w]
        rfl
      refine take_ (i := 9) (N := some 34) (v := ?_) (a' := ?_) #[true, true, true, true, true, true, true, true, true, true, false, false, false, false, false] rfl rfl (by kernel_rfl) (fun _ _ _ h => h) (Or.inl ⟨by rfl, ?_⟩) hHeld ?_ ?_
      rotate_left
      · rintro w' ⟨s0, s1, s2⟩
        go_simp
        with_reducible rfl
      rotate_left
      · simp only [Act.put, List.setIfInBounds_toArray, List.set_cons_zero, List.set_cons_succ, i64_w, i32_w]
        rfl
      refine take_ (i := 11) (N := some 36) (v := ?_) (a' := ?_) #[true, true, true, true, true, true, true, true, true, true, false, true, false, false, false] rfl rfl (by kernel_rfl) (fun _ _ _ h => h) (Or.inl ⟨by rfl, ?_⟩) hHeld ?_ ?_
      rotate_left
      · rintro w' ⟨s0, s1, s2⟩
        go_simp
        with_reducible rfl
      rotate_left
      · simp only [Act.put, List.setIfInBounds_toArray, List.set_cons_zero, List.set_cons_succ, i64_w, i32_w]
        rfl
      refine one_ (i := 10) (N := some 35) #[true, true, true, true, true, true, true, true, true, true, true, true, false, false, false] rfl rfl (by kernel_rfl) (by decide) (fun K hK => ?_)
      refine goes_ Try.func31 (by kernel_rfl) rfl #[.slice A0 f.length c0, .agg #[.int .u64 p0, .int .u64 p1]] (by rfl) rfl rfl (by (try simp only [List.map_toArray, List.map_cons, List.map_nil]); first | done | rfl | (simp only [List.length_drop, List.length_take]; rfl)) ?_
      with_reducible refine (discover_grown.calls k A0 c0 f p0 p1 q0 q1 _ ?side1 ?side2 HG.out).mono ?_
      (case side1 => repeat (first | exact (Kd.C_below HC.out HB.out) | (with_reducible refine Kd.C_alloc ?_ _) | (with_reducible refine Kd.C_drewN ?_ _) | (with_reducible refine Kd.C_drew ?_)))
      (case side2 => exact HC0.out)
      rintro e w5 ⟨rfl, hb⟩
      refine ⟨_, rfl, ?_⟩
      have N1 := Aside0.mk (show w5.heap[bf]? = some (.cells #[.slice A0 f.length c0] 30 (0, 0)) from blk_below (by (with_reducible repeat (first | refine blk_drewN ?_ _ | refine blk_drew ?_ | refine blk_alloc ?_ _)); exact B1.out) hb); have N2 := Aside0.mk (show w5.heap[bg]? = some (.cells #[.func (.func 30) #[] #[.pointer (some ⟨bf, 0, none⟩), .pointer (some ⟨bg, 0, none⟩), .pointer (some ⟨bo, 0, none⟩)]] 54 (0, 0)) from blk_below (by (with_reducible repeat (first | refine blk_drewN ?_ _ | refine blk_drew ?_ | refine blk_alloc ?_ _)); exact B2.out) hb); have N3 := Aside0.mk (show w5.heap[bo]? = some (.cells #[(.slice Av pre.length cv)] 39 (0, 0)) from blk_below (by (with_reducible repeat (first | refine blk_drewN ?_ _ | refine blk_drew ?_ | refine blk_alloc ?_ _)); exact B3.out) hb); have NP := Aside0.mk (show w5.heap[b6]? = some (.cells #[.int .u64 p0, .int .u64 p1] 41 (0, 0)) from blk_below (by (with_reducible repeat (first | refine blk_drewN ?_ _ | refine blk_drew ?_ | refine blk_alloc ?_ _)); exact BP.out) hb); have NR := Aside0.mk (Kd.R_below (by (with_reducible repeat (first | apply Kd.R_alloc | apply Kd.R_drewN | apply Kd.R_drew)); exact HR.out) hb); have NB := Aside0.mk (below_step (by repeat (first | (with_reducible first | exact HB.out | apply below_alloc | apply pw_below_drewN | apply below_drew1) | exact HB.out)) hb); have NK := Aside0.mk (KeepBut.trans (by first | exact HK.out | exact keep_drew HK.out) (KeepBut.of_below hb bo (.slice Av pre.length cv : Value).ownBlock) (.inl rfl)); clear B1 B2 B3 BP HR HB HK; have B1 := N1; have B2 := N2; have B3 := N3; have BP := NP; have HR := NR; have HB := NB; have HK := NK; clear N1 N2 N3 NP NR NB NK; clear hb
      have hfb : w5.cell? ⟨bf, 0, none⟩ = some (.slice A0 f.length c0) := (blk_cell B1.out 0).trans rfl; have zfb := blk_frozen B1.out 0; have hgb : w5.cell? ⟨bg, 0, none⟩ = some (.func (.func 30) #[] #[.pointer (some ⟨bf, 0, none⟩), .pointer (some ⟨bg, 0, none⟩), .pointer (some ⟨bo, 0, none⟩)]) := (blk_cell B2.out 0).trans rfl; have zgb := blk_frozen B2.out 0; have hob : w5.cell? ⟨bo, 0, none⟩ = some (.slice Av pre.length cv) := (blk_cell B3.out 0).trans rfl; have zob := blk_frozen B3.out 0; have hpb : w5.cell? ⟨b6, 0, none⟩ = some (.int .u64 p0) := (blk_cell BP.out 0).trans rfl; have zpb := blk_frozen BP.out 0; have hqb : w5.cell? ⟨b6, 1, none⟩ = some (.int .u64 p1) := (blk_cell BP.out 1).trans rfl; have zqb := blk_frozen BP.out 1
      refine hK.out _ _ ⟨hpb, hqb, hfb⟩ (fun hHeld => ?_)
      refine pure_ (i := 12) (N := some 37) (v := ?_) (a' := ?_) #[true, true, true, true, true, true, true, true, true, true, true, true, true, false, false] rfl rfl (by kernel_rfl) (fun _ _ _ h => h) (Or.inl ⟨by rfl, ?_⟩) ?_ ?_
      rotate_left
      · intro w'
        go_simp
        with_reducible rfl
      rotate_left
      · simp only [Act.put, List.setIfInBounds_toArray, List.set_cons_zero, List.set_cons_succ, i64_w, i32_w]
        rfl
      refine pure_ (i := 13) (N := some 38) (v := ?_) (a' := ?_) #[true, true, true, true, true, true, true, true, true, true, true, true, true, true, false] rfl rfl (by kernel_rfl) (fun _ _ _ h => h) (Or.inl ⟨by rfl, ?_⟩) ?_ ?_
      rotate_left
      · intro w'
        go_simp
        with_reducible rfl
      rotate_left
      · simp only [Act.put, List.setIfInBounds_toArray, List.set_cons_zero, List.set_cons_succ, i64_w, i32_w]
        rfl
      refine pure_ (i := 14) (N := some 24) (v := ?_) (a' := ?_) #[true, true, true, true, true, true, true, true, true, true, true, true, true, true, true] rfl rfl (by kernel_rfl) (fun _ _ _ h => h) (Or.inl ⟨by rfl, ?_⟩) ?_ ?_
      rotate_left
      · intro w'
        go_simp
        with_reducible rfl
      rotate_left
      · simp only [Act.put, List.setIfInBounds_toArray, List.set_cons_zero, List.set_cons_succ, i64_w, i32_w]
        rfl
      refine done_ (by kernel_rfl) ?_
      go_wp2
      first | refine bodyPost_ret (results_none rfl _ _ _) rfl ?_ | refine bodyPost_end (results_none rfl _ _ _) rfl ?_
      exact ⟨⟨_, rfl⟩, by repeat (first | (with_reducible first | exact HB.out | apply below_alloc | apply pw_below_drewN | apply below_drew1) | exact HB.out), HK.out, _, B3.out, by rw [List.append_nil]; exact Kd.R_mono HR.out (fun _ hk => hk.1), .inl rfl⟩
set_option maxHeartbeats 16000000 in
set_option maxRecDepth 100000 in
theorem grow_end0 (k : Nat) (w0 : World) (bf bg bo : Nat) (A0 : Option Addr) (c0 : Nat) (f : List (List Int)) (hr0 : Kd.C (Kd.slice 3 (Kd.int .i64)) w0 A0 f.length f) (hc0 : f.length ≤ c0) (p0 p1 : Int) (L : List S41) (hL : if p0 = 0 then L = [] else GrowC w0 bf bg bo A0 c0 f 1 0 p0 p1 L) : GrowC w0 bf bg bo A0 c0 f 0 (f.length : Int) p0 p1 L := by
  intro W ok v pre hpre hlen
  obtain ⟨Av, cv, ev⟩ := Kd.R_slice hpre.row
  subst ev
  have B1 := Aside0.mk hpre.b1
  have B2 := Aside0.mk hpre.b2
  have B3 := Aside0.mk hpre.b3
  have HR := Aside0.mk hpre.row
  have HB := Aside0.mk hpre.bel
  have GF := Aside0.mk hpre.fresh
  have HC := Aside0.mk hr0
  have HC0 := Aside0.mk hc0
  have GO := Aside0.mk hpre.go
  have GF1 := Aside0.mk hpre.gf
  have GG1 := Aside0.mk hpre.gg
  have HL := Aside0.mk hlen
  have N13 := Aside0.mk (show bf ≠ bo from blk_ne hpre.b1 hpre.b3 (by decide))
  have N23 := Aside0.mk (show bg ≠ bo from blk_ne hpre.b2 hpre.b3 (by decide))
  clear hpre hlen hr0 hc0
  by_cases h1 : p0 = 0
  · rw [if_pos h1] at hL
    subst hL
    have e1 : (p0 == 0) = true := beq_iff_eq.2 h1
    have e2 : (p0 != 0) = false := bne_eq_false_iff_eq.2 h1
    clear h1
    go_enter Try.func30, Try.ntmps30
    go_wp2_with (first | ((with_reducible refine gate_dst (N := 6) rfl ?_); (try (refine gate_guard (by rfl) ?_; dsimp only)); refine box_event ?hg (N := 6) ?hd (cs := #[.int .u64 p0, .int .u64 p1]) (t := 41) ?hr ?_; (case hd => rfl); (case hg => rfl); (case hr => first | (go_simp; done) | (go_simp; rfl)); intro b6 hg w4 hbox hb; have BP := Aside0.mk (show w4.heap[b6]? = some (.cells #[.int .u64 p0, .int .u64 p1] 41 (0, 0)) from hbox); have N1 := Aside0.mk (show w4.heap[bf]? = some (.cells #[.slice A0 f.length c0] 30 (0, 0)) from blk_below B1.out hb); have N2 := Aside0.mk (show w4.heap[bg]? = some (.cells #[.func (.func 30) #[] #[.pointer (some ⟨bf, 0, none⟩), .pointer (some ⟨bg, 0, none⟩), .pointer (some ⟨bo, 0, none⟩)]] 54 (0, 0)) from blk_below B2.out hb); have N3 := Aside0.mk (show w4.heap[bo]? = some (.cells #[(.slice Av pre.length cv)] 39 (0, 0)) from blk_below B3.out hb); have NR := Aside0.mk (show Kd.R k41 41 w4 w0.heap.size (fun k => ok k ∧ k ≠ b6) (.slice Av pre.length cv) pre from Kd.R_below (Kd.R_mono (Kd.R_bound HR.out) (fun k hk => ⟨hk.1, by rw [hg]; exact Nat.ne_of_lt hk.2.2.1⟩)) hb); have NB := Aside0.mk (below_step HB.out hb); have HK := Aside0.mk (KeepBut.of_below hb bo (.slice Av pre.length cv : Value).ownBlock); have G6 := Aside0.mk (show W.heap.size ≤ b6 by rw [hg]; exact Nat.le_refl _); have L6 := Aside0.mk (show b6 < w4.heap.size from blk_lt hbox); have VL := Aside0.mk (Kd.R_lt HR.out); have HBW := Aside0.mk HB.out; clear hb hbox hg B1 B2 B3 HR HB; have B1 := N1; have B2 := N2; have B3 := N3; have HR := NR; have HB := NB; clear N1 N2 N3 NR NB; have FR := Aside0.mk (show ∀ k, w4.heap.size ≤ k → ok k ∧ k ≠ b6 from fun k hk => ⟨GF.out k (Nat.le_trans (keep_size HK.out) hk), Nat.ne_of_gt (Nat.lt_of_lt_of_le L6.out hk)⟩); have N6o := Aside0.mk (show b6 ≠ bo from blk_ne BP.out B3.out (by decide)); have No6 := Aside0.mk (show bo ≠ b6 from blk_ne B3.out BP.out (by decide)); have Nf6 := Aside0.mk (show bf ≠ b6 from blk_ne B1.out BP.out (by decide)); have Ng6 := Aside0.mk (show bg ≠ b6 from blk_ne B2.out BP.out (by decide)); have m1 := N6o.out; have m2 := No6.out; have m3 := Nf6.out; have m4 := Nf6.out.symm; have m5 := Ng6.out; have m6 := Ng6.out.symm; have hfa : w4.cell? ⟨bf, 0, none⟩ = some (.slice A0 f.length c0) := (blk_cell B1.out 0).trans rfl; have zfa := blk_frozen B1.out 0; have hga : w4.cell? ⟨bg, 0, none⟩ = some (.func (.func 30) #[] #[.pointer (some ⟨bf, 0, none⟩), .pointer (some ⟨bg, 0, none⟩), .pointer (some ⟨bo, 0, none⟩)]) := (blk_cell B2.out 0).trans rfl; have zga := blk_frozen B2.out 0; have hoa : w4.cell? ⟨bo, 0, none⟩ = some (.slice Av pre.length cv) := (blk_cell B3.out 0).trans rfl; have zoa := blk_frozen B3.out 0; have hpa : w4.cell? ⟨b6, 0, none⟩ = some (.int .u64 p0) := (blk_cell BP.out 0).trans rfl; have zpa := blk_frozen BP.out 0; have hqa : w4.cell? ⟨b6, 1, none⟩ = some (.int .u64 p1) := (blk_cell BP.out 1).trans rfl; have zqa := blk_frozen BP.out 1))
    repeat (go_quiet (fail); try go_wp2)
    first | refine bodyPost_ret (results_none rfl _ _ _) rfl ?_ | refine bodyPost_end (results_none rfl _ _ _) rfl ?_
    exact ⟨⟨_, rfl⟩, by repeat (first | (with_reducible first | exact HB.out | apply below_alloc | apply pw_below_drewN | apply below_drew1) | exact HB.out), HK.out, _, B3.out, by rw [List.append_nil]; exact Kd.R_mono HR.out (fun _ hk => hk.1), .inl rfl⟩
  · rw [if_neg h1] at hL
    have e1 : (p0 == 0) = false := beq_eq_false_iff_ne.2 h1
    have e2 : (p0 != 0) = true := bne_iff_ne.2 h1
    have IH := Aside0.mk hL
    clear h1 hL
    go_enter Try.func30, Try.ntmps30
    go_wp2_with (first | ((with_reducible refine gate_dst (N := 6) rfl ?_); (try (refine gate_guard (by rfl) ?_; dsimp only)); refine box_event ?hg (N := 6) ?hd (cs := #[.int .u64 p0, .int .u64 p1]) (t := 41) ?hr ?_; (case hd => rfl); (case hg => rfl); (case hr => first | (go_simp; done) | (go_simp; rfl)); intro b6 hg w4 hbox hb; have BP := Aside0.mk (show w4.heap[b6]? = some (.cells #[.int .u64 p0, .int .u64 p1] 41 (0, 0)) from hbox); have N1 := Aside0.mk (show w4.heap[bf]? = some (.cells #[.slice A0 f.length c0] 30 (0, 0)) from blk_below B1.out hb); have N2 := Aside0.mk (show w4.heap[bg]? = some (.cells #[.func (.func 30) #[] #[.pointer (some ⟨bf, 0, none⟩), .pointer (some ⟨bg, 0, none⟩), .pointer (some ⟨bo, 0, none⟩)]] 54 (0, 0)) from blk_below B2.out hb); have N3 := Aside0.mk (show w4.heap[bo]? = some (.cells #[(.slice Av pre.length cv)] 39 (0, 0)) from blk_below B3.out hb); have NR := Aside0.mk (show Kd.R k41 41 w4 w0.heap.size (fun k => ok k ∧ k ≠ b6) (.slice Av pre.length cv) pre from Kd.R_below (Kd.R_mono (Kd.R_bound HR.out) (fun k hk => ⟨hk.1, by rw [hg]; exact Nat.ne_of_lt hk.2.2.1⟩)) hb); have NB := Aside0.mk (below_step HB.out hb); have HK := Aside0.mk (KeepBut.of_below hb bo (.slice Av pre.length cv : Value).ownBlock); have G6 := Aside0.mk (show W.heap.size ≤ b6 by rw [hg]; exact Nat.le_refl _); have L6 := Aside0.mk (show b6 < w4.heap.size from blk_lt hbox); have VL := Aside0.mk (Kd.R_lt HR.out); have HBW := Aside0.mk HB.out; clear hb hbox hg B1 B2 B3 HR HB; have B1 := N1; have B2 := N2; have B3 := N3; have HR := NR; have HB := NB; clear N1 N2 N3 NR NB; have FR := Aside0.mk (show ∀ k, w4.heap.size ≤ k → ok k ∧ k ≠ b6 from fun k hk => ⟨GF.out k (Nat.le_trans (keep_size HK.out) hk), Nat.ne_of_gt (Nat.lt_of_lt_of_le L6.out hk)⟩); have N6o := Aside0.mk (show b6 ≠ bo from blk_ne BP.out B3.out (by decide)); have No6 := Aside0.mk (show bo ≠ b6 from blk_ne B3.out BP.out (by decide)); have Nf6 := Aside0.mk (show bf ≠ b6 from blk_ne B1.out BP.out (by decide)); have Ng6 := Aside0.mk (show bg ≠ b6 from blk_ne B2.out BP.out (by decide)); have m1 := N6o.out; have m2 := No6.out; have m3 := Nf6.out; have m4 := Nf6.out.symm; have m5 := Ng6.out; have m6 := Ng6.out.symm; have hfa : w4.cell? ⟨bf, 0, none⟩ = some (.slice A0 f.length c0) := (blk_cell B1.out 0).trans rfl; have zfa := blk_frozen B1.out 0; have hga : w4.cell? ⟨bg, 0, none⟩ = some (.func (.func 30) #[] #[.pointer (some ⟨bf, 0, none⟩), .pointer (some ⟨bg, 0, none⟩), .pointer (some ⟨bo, 0, none⟩)]) := (blk_cell B2.out 0).trans rfl; have zga := blk_frozen B2.out 0; have hoa : w4.cell? ⟨bo, 0, none⟩ = some (.slice Av pre.length cv) := (blk_cell B3.out 0).trans rfl; have zoa := blk_frozen B3.out 0; have hpa : w4.cell? ⟨b6, 0, none⟩ = some (.int .u64 p0) := (blk_cell BP.out 0).trans rfl; have zpa := blk_frozen BP.out 0; have hqa : w4.cell? ⟨b6, 1, none⟩ = some (.int .u64 p1) := (blk_cell BP.out 1).trans rfl; have zqa := blk_frozen BP.out 1) | (go_at_call 30; (with_reducible refine (IH.out.app _ (fun k => ok k ∧ k ≠ b6) _ pre ⟨B1.out, B2.out, B3.out, GF1.out, GG1.out, GO.out, HR.out, FR.out, HB.out⟩ HL.out).mono ?_); rintro e w5 ⟨⟨u5, rfl⟩, hb5, hk5, v5, h5, hr5, ho5⟩; have HB5 := Aside0.mk hb5; have HK5 := Aside0.mk (KeepBut.trans HK.out hk5 (.inl rfl)); have H5 := Aside0.mk h5; have HR5 := Aside0.mk hr5; have HO5 := Aside0.mk ho5; clear hb5 hk5 h5 hr5 ho5))
    first | refine bodyPost_ret (results_none rfl _ _ _) rfl ?_ | refine bodyPost_end (results_none rfl _ _ _) rfl ?_
    exact ⟨⟨_, rfl⟩, HB5.out, HK5.out, v5, H5.out, Kd.R_mono HR5.out (fun _ hk => hk.1), HO5.out.imp id (fun ⟨b, hb, hl⟩ => ⟨b, hb, Nat.le_trans (keep_size HK.out) hl⟩)⟩
set_option maxHeartbeats 16000000 in
set_option maxRecDepth 100000 in
theorem grow_step0 (k : Nat) (w0 : World) (bf bg bo : Nat) (A0 : Option Addr) (c0 : Nat) (f : List (List Int)) (hr0 : Kd.C (Kd.slice 3 (Kd.int .i64)) w0 A0 f.length f) (hc0 : f.length ≤ c0) (p0 p1 at_ : Int) (La Lb : List S41) (BB : Bool) (he : (at_ == (f.length : Int)) = false) (hj : 0 ≤ IntKind.u64.wrap at_) (hF : discover_fits.f k f p0 p1 at_ 0 = some BB)
    (h1 : GrowC w0 bf bg bo A0 c0 f 0 (wrap64 (at_ + 1)) p0 p1 La) (h2 : if BB = true then GrowC w0 bf bg bo A0 c0 f 0 (wrap64 (at_ + 1)) (orB p0 at_) p1 Lb else Lb = []) : GrowC w0 bf bg bo A0 c0 f 0 at_ p0 p1 (La ++ Lb) := by
  intro W ok v pre hpre hlen
  obtain ⟨Av, cv, ev⟩ := Kd.R_slice hpre.row
  subst ev
  have B1 := Aside0.mk hpre.b1
  have B2 := Aside0.mk hpre.b2
  have B3 := Aside0.mk hpre.b3
  have HR := Aside0.mk hpre.row
  have HB := Aside0.mk hpre.bel
  have GF := Aside0.mk hpre.fresh
  have HC := Aside0.mk hr0
  have HC0 := Aside0.mk hc0
  have GO := Aside0.mk hpre.go
  have GF1 := Aside0.mk hpre.gf
  have GG1 := Aside0.mk hpre.gg
  have HL := Aside0.mk hlen
  have N13 := Aside0.mk (show bf ≠ bo from blk_ne hpre.b1 hpre.b3 (by decide))
  have N23 := Aside0.mk (show bg ≠ bo from blk_ne hpre.b2 hpre.b3 (by decide))
  clear hpre hlen hr0 hc0
  have IH1 := Aside0.mk h1
  have HF := Aside0.mk hF
  have HL1 := Aside0.mk (show pre.length + La.length ≤ 100000 by have := HL.out; rw [List.length_append] at this; omega)
  unfold orB at h2
  obtain ⟨j1, hj1⟩ : ∃ j_ : Int, IntKind.u64.wrap at_ = j_ := ⟨_, rfl⟩
  rw [hj1] at hj h2
  have c14b0 := eq_true hj
  have c14b1 : decide (0 ≤ j1) = true := decide_eq_true hj
  obtain ⟨j2, hj2⟩ : ∃ j_ : Int, shl .u64 1 j1 = j_ := ⟨_, rfl⟩
  rw [hj2] at h2
  have hj2_ : (IntKind.u64.wrap (1 * 2 ^ min j1.toNat 64)) = j2 := hj2
  have hj2z : j1 ≤ 64 → (IntKind.u64.wrap (1 * 2 ^ j1.toNat)) = j2 := shl_small hj2
  have hj2u : (IntKind.u64.wrap (2 ^ min j1.toNat 64)) = j2 := by have h_ := hj2_; rw [Int.one_mul] at h_; exact h_
  have hj2v : j1 ≤ 64 → (IntKind.u64.wrap (2 ^ j1.toNat)) = j2 := fun hle_ => by have h_ := hj2z hle_; rw [Int.one_mul] at h_; exact h_
  clear h1 hF hj
  cases BB with
  | false =>
    rw [if_neg (by simp)] at h2
    subst h2
    go_enter Try.func30, Try.ntmps30
    go_wp2_with (first | ((with_reducible refine gate_dst (N := 6) rfl ?_); (try (refine gate_guard (by rfl) ?_; dsimp only)); refine box_event ?hg (N := 6) ?hd (cs := #[.int .u64 p0, .int .u64 p1]) (t := 41) ?hr ?_; (case hd => rfl); (case hg => rfl); (case hr => first | (go_simp; done) | (go_simp; rfl)); intro b6 hg w4 hbox hb; have BP := Aside0.mk (show w4.heap[b6]? = some (.cells #[.int .u64 p0, .int .u64 p1] 41 (0, 0)) from hbox); have N1 := Aside0.mk (show w4.heap[bf]? = some (.cells #[.slice A0 f.length c0] 30 (0, 0)) from blk_below B1.out hb); have N2 := Aside0.mk (show w4.heap[bg]? = some (.cells #[.func (.func 30) #[] #[.pointer (some ⟨bf, 0, none⟩), .pointer (some ⟨bg, 0, none⟩), .pointer (some ⟨bo, 0, none⟩)]] 54 (0, 0)) from blk_below B2.out hb); have N3 := Aside0.mk (show w4.heap[bo]? = some (.cells #[(.slice Av pre.length cv)] 39 (0, 0)) from blk_below B3.out hb); have NR := Aside0.mk (show Kd.R k41 41 w4 w0.heap.size (fun k => ok k ∧ k ≠ b6) (.slice Av pre.length cv) pre from Kd.R_below (Kd.R_mono (Kd.R_bound HR.out) (fun k hk => ⟨hk.1, by rw [hg]; exact Nat.ne_of_lt hk.2.2.1⟩)) hb); have NB := Aside0.mk (below_step HB.out hb); have HK := Aside0.mk (KeepBut.of_below hb bo (.slice Av pre.length cv : Value).ownBlock); have G6 := Aside0.mk (show W.heap.size ≤ b6 by rw [hg]; exact Nat.le_refl _); have L6 := Aside0.mk (show b6 < w4.heap.size from blk_lt hbox); have VL := Aside0.mk (Kd.R_lt HR.out); have HBW := Aside0.mk HB.out; clear hb hbox hg B1 B2 B3 HR HB; have B1 := N1; have B2 := N2; have B3 := N3; have HR := NR; have HB := NB; clear N1 N2 N3 NR NB; have FR := Aside0.mk (show ∀ k, w4.heap.size ≤ k → ok k ∧ k ≠ b6 from fun k hk => ⟨GF.out k (Nat.le_trans (keep_size HK.out) hk), Nat.ne_of_gt (Nat.lt_of_lt_of_le L6.out hk)⟩); have N6o := Aside0.mk (show b6 ≠ bo from blk_ne BP.out B3.out (by decide)); have No6 := Aside0.mk (show bo ≠ b6 from blk_ne B3.out BP.out (by decide)); have Nf6 := Aside0.mk (show bf ≠ b6 from blk_ne B1.out BP.out (by decide)); have Ng6 := Aside0.mk (show bg ≠ b6 from blk_ne B2.out BP.out (by decide)); have m1 := N6o.out; have m2 := No6.out; have m3 := Nf6.out; have m4 := Nf6.out.symm; have m5 := Ng6.out; have m6 := Ng6.out.symm; have hfa : w4.cell? ⟨bf, 0, none⟩ = some (.slice A0 f.length c0) := (blk_cell B1.out 0).trans rfl; have zfa := blk_frozen B1.out 0; have hga : w4.cell? ⟨bg, 0, none⟩ = some (.func (.func 30) #[] #[.pointer (some ⟨bf, 0, none⟩), .pointer (some ⟨bg, 0, none⟩), .pointer (some ⟨bo, 0, none⟩)]) := (blk_cell B2.out 0).trans rfl; have zga := blk_frozen B2.out 0; have hoa : w4.cell? ⟨bo, 0, none⟩ = some (.slice Av pre.length cv) := (blk_cell B3.out 0).trans rfl; have zoa := blk_frozen B3.out 0; have hpa : w4.cell? ⟨b6, 0, none⟩ = some (.int .u64 p0) := (blk_cell BP.out 0).trans rfl; have zpa := blk_frozen BP.out 0; have hqa : w4.cell? ⟨b6, 1, none⟩ = some (.int .u64 p1) := (blk_cell BP.out 1).trans rfl; have zqa := blk_frozen BP.out 1) | (go_at_call 30; (with_reducible refine (IH1.out.app _ (fun k => ok k ∧ k ≠ b6) _ pre ⟨B1.out, B2.out, B3.out, GF1.out, GG1.out, GO.out, HR.out, FR.out, HB.out⟩ HL1.out).mono ?_); rintro e w5 ⟨⟨u5, rfl⟩, hb5, hk5, v5, h5, hr5, ho5⟩; obtain ⟨xs5, hx5⟩ : ∃ y_ : List S41, y_ = pre ++ La := ⟨_, rfl⟩; rw [← hx5] at hr5; have HX5 := Aside0.mk hx5; clear hx5; obtain ⟨A5, c5, ev5⟩ := Kd.R_slice hr5; subst ev5; have N1 := Aside0.mk (show w5.heap[bf]? = some (.cells #[.slice A0 f.length c0] 30 (0, 0)) from hk5.blk B1.out N13.out (row_ne HR.out B1.out (by decide))); have N2 := Aside0.mk (show w5.heap[bg]? = some (.cells #[.func (.func 30) #[] #[.pointer (some ⟨bf, 0, none⟩), .pointer (some ⟨bg, 0, none⟩), .pointer (some ⟨bo, 0, none⟩)]] 54 (0, 0)) from hk5.blk B2.out N23.out (row_ne HR.out B2.out (by decide))); have N3 := Aside0.mk (show w5.heap[bo]? = some (.cells #[(.slice A5 xs5.length c5)] 39 (0, 0)) from h5); have NP := Aside0.mk (show w5.heap[b6]? = some (.cells #[.int .u64 p0, .int .u64 p1] 41 (0, 0)) from hk5.blk BP.out N6o.out (fun e => Nat.lt_irrefl _ (Nat.lt_of_lt_of_le (VL.out b6 e.symm) G6.out))); have NK := Aside0.mk (KeepBut.trans HK.out hk5 (.inl rfl)); have HS4 := Aside0.mk (keep_size HK.out); have FR5 := Aside0.mk (show ∀ k, w5.heap.size ≤ k → ok k ∧ k ≠ b6 from fun k hk => FR.out k (Nat.le_trans hk5.1 hk)); have HO5 := Aside0.mk ho5; have NR := Aside0.mk hr5; have NB := Aside0.mk hb5; clear hb5 hk5 h5 hr5 ho5 FR B1 B2 B3 BP HR HB HK; have B1 := N1; have B2 := N2; have B3 := N3; have BP := NP; have HR := NR; have HB := NB; have HK := NK; clear N1 N2 N3 NP NR NB NK; have hfb : w5.cell? ⟨bf, 0, none⟩ = some (.slice A0 f.length c0) := (blk_cell B1.out 0).trans rfl; have zfb := blk_frozen B1.out 0; have hgb : w5.cell? ⟨bg, 0, none⟩ = some (.func (.func 30) #[] #[.pointer (some ⟨bf, 0, none⟩), .pointer (some ⟨bg, 0, none⟩), .pointer (some ⟨bo, 0, none⟩)]) := (blk_cell B2.out 0).trans rfl; have zgb := blk_frozen B2.out 0; have hob : w5.cell? ⟨bo, 0, none⟩ = some (.slice A5 xs5.length c5) := (blk_cell B3.out 0).trans rfl; have zob := blk_frozen B3.out 0; have hpb : w5.cell? ⟨b6, 0, none⟩ = some (.int .u64 p0) := (blk_cell BP.out 0).trans rfl; have zpb := blk_frozen BP.out 0; have hqb : w5.cell? ⟨b6, 1, none⟩ = some (.int .u64 p1) := (blk_cell BP.out 1).trans rfl; have zqb := blk_frozen BP.out 1) | (go_at_call 32; (with_reducible refine (discover_fits.calls k A0 c0 f p0 p1 at_ 0 _ _ ?side1 ?side2 HF.out).mono ?_); (case side1 => repeat (first | exact (Kd.C_below HC.out HB.out) | (with_reducible refine Kd.C_alloc ?_ _) | (with_reducible refine Kd.C_drewN ?_ _) | (with_reducible refine Kd.C_drew ?_))); (case side2 => exact HC0.out); rintro e w6 ⟨rfl, hb⟩; have FR6 := Aside0.mk (show ∀ k, w6.heap.size ≤ k → ok k ∧ k ≠ b6 from fun k hk => FR5.out k (Nat.le_trans (below_size (by repeat (first | exact hb | apply below_alloc))) hk)); have N1 := Aside0.mk (show w6.heap[bf]? = some (.cells #[.slice A0 f.length c0] 30 (0, 0)) from blk_below (by (with_reducible repeat (first | refine blk_drewN ?_ _ | refine blk_drew ?_ | refine blk_alloc ?_ _)); exact B1.out) hb); have N2 := Aside0.mk (show w6.heap[bg]? = some (.cells #[.func (.func 30) #[] #[.pointer (some ⟨bf, 0, none⟩), .pointer (some ⟨bg, 0, none⟩), .pointer (some ⟨bo, 0, none⟩)]] 54 (0, 0)) from blk_below (by (with_reducible repeat (first | refine blk_drewN ?_ _ | refine blk_drew ?_ | refine blk_alloc ?_ _)); exact B2.out) hb); have N3 := Aside0.mk (show w6.heap[bo]? = some (.cells #[(.slice A5 xs5.length c5)] 39 (0, 0)) from blk_below (by (with_reducible repeat (first | refine blk_drewN ?_ _ | refine blk_drew ?_ | refine blk_alloc ?_ _)); exact B3.out) hb); have NP := Aside0.mk (show w6.heap[b6]? = some (.cells #[.int .u64 p0, .int .u64 p1] 41 (0, 0)) from blk_below (by (with_reducible repeat (first | refine blk_drewN ?_ _ | refine blk_drew ?_ | refine blk_alloc ?_ _)); exact BP.out) hb); have NR := Aside0.mk (Kd.R_below (by (with_reducible repeat (first | apply Kd.R_alloc | apply Kd.R_drewN | apply Kd.R_drew)); exact HR.out) hb); have NB := Aside0.mk (below_step (by repeat (first | (with_reducible first | exact HB.out | apply below_alloc | apply pw_below_drewN | apply below_drew1) | exact HB.out)) hb); have NK := Aside0.mk (KeepBut.trans (by first | exact HK.out | exact keep_drew HK.out) (KeepBut.of_below hb bo (.slice Av pre.length cv : Value).ownBlock) (.inl rfl)); clear B1 B2 B3 BP HR HB HK; have B1 := N1; have B2 := N2; have B3 := N3; have BP := NP; have HR := NR; have HB := NB; have HK := NK; clear N1 N2 N3 NP NR NB NK; clear hb; have hfc : w6.cell? ⟨bf, 0, none⟩ = some (.slice A0 f.length c0) := (blk_cell B1.out 0).trans rfl; have zfc := blk_frozen B1.out 0; have hgc : w6.cell? ⟨bg, 0, none⟩ = some (.func (.func 30) #[] #[.pointer (some ⟨bf, 0, none⟩), .pointer (some ⟨bg, 0, none⟩), .pointer (some ⟨bo, 0, none⟩)]) := (blk_cell B2.out 0).trans rfl; have zgc := blk_frozen B2.out 0; have hoc : w6.cell? ⟨bo, 0, none⟩ = some (.slice A5 xs5.length c5) := (blk_cell B3.out 0).trans rfl; have zoc := blk_frozen B3.out 0; have hpc : w6.cell? ⟨b6, 0, none⟩ = some (.int .u64 p0) := (blk_cell BP.out 0).trans rfl; have zpc := blk_frozen BP.out 0; have hqc : w6.cell? ⟨b6, 1, none⟩ = some (.int .u64 p1) := (blk_cell BP.out 1).trans rfl; have zqc := blk_frozen BP.out 1))
    first | refine bodyPost_ret (results_none rfl _ _ _) rfl ?_ | refine bodyPost_end (results_none rfl _ _ _) rfl ?_
    exact ⟨⟨_, rfl⟩, by repeat (first | (with_reducible first | exact HB.out | apply below_alloc | apply pw_below_drewN | apply below_drew1) | exact HB.out), HK.out, _, B3.out, by rw [List.append_nil, ← HX5.out]; exact Kd.R_mono HR.out (fun _ hk => hk.1), HO5.out.imp id (fun ⟨b, hb, hl⟩ => ⟨b, hb, Nat.le_trans HS4.out hl⟩)⟩
  | true =>
    rw [if_pos rfl] at h2
    have IH2 := Aside0.mk h2
    clear h2
    go_enter Try.func30, Try.ntmps30
    go_wp2_with (first | ((with_reducible refine gate_dst (N := 6) rfl ?_); (try (refine gate_guard (by rfl) ?_; dsimp only)); refine box_event ?hg (N := 6) ?hd (cs := #[.int .u64 p0, .int .u64 p1]) (t := 41) ?hr ?_; (case hd => rfl); (case hg => rfl); (case hr => first | (go_simp; done) | (go_simp; rfl)); intro b6 hg w4 hbox hb; have BP := Aside0.mk (show w4.heap[b6]? = some (.cells #[.int .u64 p0, .int .u64 p1] 41 (0, 0)) from hbox); have N1 := Aside0.mk (show w4.heap[bf]? = some (.cells #[.slice A0 f.length c0] 30 (0, 0)) from blk_below B1.out hb); have N2 := Aside0.mk (show w4.heap[bg]? = some (.cells #[.func (.func 30) #[] #[.pointer (some ⟨bf, 0, none⟩), .pointer (some ⟨bg, 0, none⟩), .pointer (some ⟨bo, 0, none⟩)]] 54 (0, 0)) from blk_below B2.out hb); have N3 := Aside0.mk (show w4.heap[bo]? = some (.cells #[(.slice Av pre.length cv)] 39 (0, 0)) from blk_below B3.out hb); have NR := Aside0.mk (show Kd.R k41 41 w4 w0.heap.size (fun k => ok k ∧ k ≠ b6) (.slice Av pre.length cv) pre from Kd.R_below (Kd.R_mono (Kd.R_bound HR.out) (fun k hk => ⟨hk.1, by rw [hg]; exact Nat.ne_of_lt hk.2.2.1⟩)) hb); have NB := Aside0.mk (below_step HB.out hb); have HK := Aside0.mk (KeepBut.of_below hb bo (.slice Av pre.length cv : Value).ownBlock); have G6 := Aside0.mk (show W.heap.size ≤ b6 by rw [hg]; exact Nat.le_refl _); have L6 := Aside0.mk (show b6 < w4.heap.size from blk_lt hbox); have VL := Aside0.mk (Kd.R_lt HR.out); have HBW := Aside0.mk HB.out; clear hb hbox hg B1 B2 B3 HR HB; have B1 := N1; have B2 := N2; have B3 := N3; have HR := NR; have HB := NB; clear N1 N2 N3 NR NB; have FR := Aside0.mk (show ∀ k, w4.heap.size ≤ k → ok k ∧ k ≠ b6 from fun k hk => ⟨GF.out k (Nat.le_trans (keep_size HK.out) hk), Nat.ne_of_gt (Nat.lt_of_lt_of_le L6.out hk)⟩); have N6o := Aside0.mk (show b6 ≠ bo from blk_ne BP.out B3.out (by decide)); have No6 := Aside0.mk (show bo ≠ b6 from blk_ne B3.out BP.out (by decide)); have Nf6 := Aside0.mk (show bf ≠ b6 from blk_ne B1.out BP.out (by decide)); have Ng6 := Aside0.mk (show bg ≠ b6 from blk_ne B2.out BP.out (by decide)); have m1 := N6o.out; have m2 := No6.out; have m3 := Nf6.out; have m4 := Nf6.out.symm; have m5 := Ng6.out; have m6 := Ng6.out.symm; have hfa : w4.cell? ⟨bf, 0, none⟩ = some (.slice A0 f.length c0) := (blk_cell B1.out 0).trans rfl; have zfa := blk_frozen B1.out 0; have hga : w4.cell? ⟨bg, 0, none⟩ = some (.func (.func 30) #[] #[.pointer (some ⟨bf, 0, none⟩), .pointer (some ⟨bg, 0, none⟩), .pointer (some ⟨bo, 0, none⟩)]) := (blk_cell B2.out 0).trans rfl; have zga := blk_frozen B2.out 0; have hoa : w4.cell? ⟨bo, 0, none⟩ = some (.slice Av pre.length cv) := (blk_cell B3.out 0).trans rfl; have zoa := blk_frozen B3.out 0; have hpa : w4.cell? ⟨b6, 0, none⟩ = some (.int .u64 p0) := (blk_cell BP.out 0).trans rfl; have zpa := blk_frozen BP.out 0; have hqa : w4.cell? ⟨b6, 1, none⟩ = some (.int .u64 p1) := (blk_cell BP.out 1).trans rfl; have zqa := blk_frozen BP.out 1) | (go_at_call 30; (with_reducible refine (IH1.out.app _ (fun k => ok k ∧ k ≠ b6) _ pre ⟨B1.out, B2.out, B3.out, GF1.out, GG1.out, GO.out, HR.out, FR.out, HB.out⟩ HL1.out).mono ?_); rintro e w5 ⟨⟨u5, rfl⟩, hb5, hk5, v5, h5, hr5, ho5⟩; obtain ⟨xs5, hx5⟩ : ∃ y_ : List S41, y_ = pre ++ La := ⟨_, rfl⟩; rw [← hx5] at hr5; have HX5 := Aside0.mk hx5; clear hx5; obtain ⟨A5, c5, ev5⟩ := Kd.R_slice hr5; subst ev5; have N1 := Aside0.mk (show w5.heap[bf]? = some (.cells #[.slice A0 f.length c0] 30 (0, 0)) from hk5.blk B1.out N13.out (row_ne HR.out B1.out (by decide))); have N2 := Aside0.mk (show w5.heap[bg]? = some (.cells #[.func (.func 30) #[] #[.pointer (some ⟨bf, 0, none⟩), .pointer (some ⟨bg, 0, none⟩), .pointer (some ⟨bo, 0, none⟩)]] 54 (0, 0)) from hk5.blk B2.out N23.out (row_ne HR.out B2.out (by decide))); have N3 := Aside0.mk (show w5.heap[bo]? = some (.cells #[(.slice A5 xs5.length c5)] 39 (0, 0)) from h5); have NP := Aside0.mk (show w5.heap[b6]? = some (.cells #[.int .u64 p0, .int .u64 p1] 41 (0, 0)) from hk5.blk BP.out N6o.out (fun e => Nat.lt_irrefl _ (Nat.lt_of_lt_of_le (VL.out b6 e.symm) G6.out))); have NK := Aside0.mk (KeepBut.trans HK.out hk5 (.inl rfl)); have HS4 := Aside0.mk (keep_size HK.out); have FR5 := Aside0.mk (show ∀ k, w5.heap.size ≤ k → ok k ∧ k ≠ b6 from fun k hk => FR.out k (Nat.le_trans hk5.1 hk)); have HO5 := Aside0.mk ho5; have NR := Aside0.mk hr5; have NB := Aside0.mk hb5; clear hb5 hk5 h5 hr5 ho5 FR B1 B2 B3 BP HR HB HK; have B1 := N1; have B2 := N2; have B3 := N3; have BP := NP; have HR := NR; have HB := NB; have HK := NK; clear N1 N2 N3 NP NR NB NK; have hfb : w5.cell? ⟨bf, 0, none⟩ = some (.slice A0 f.length c0) := (blk_cell B1.out 0).trans rfl; have zfb := blk_frozen B1.out 0; have hgb : w5.cell? ⟨bg, 0, none⟩ = some (.func (.func 30) #[] #[.pointer (some ⟨bf, 0, none⟩), .pointer (some ⟨bg, 0, none⟩), .pointer (some ⟨bo, 0, none⟩)]) := (blk_cell B2.out 0).trans rfl; have zgb := blk_frozen B2.out 0; have hob : w5.cell? ⟨bo, 0, none⟩ = some (.slice A5 xs5.length c5) := (blk_cell B3.out 0).trans rfl; have zob := blk_frozen B3.out 0; have hpb : w5.cell? ⟨b6, 0, none⟩ = some (.int .u64 p0) := (blk_cell BP.out 0).trans rfl; have zpb := blk_frozen BP.out 0; have hqb : w5.cell? ⟨b6, 1, none⟩ = some (.int .u64 p1) := (blk_cell BP.out 1).trans rfl; have zqb := blk_frozen BP.out 1) | (go_at_call 32; (with_reducible refine (discover_fits.calls k A0 c0 f p0 p1 at_ 0 _ _ ?side1 ?side2 HF.out).mono ?_); (case side1 => repeat (first | exact (Kd.C_below HC.out HB.out) | (with_reducible refine Kd.C_alloc ?_ _) | (with_reducible refine Kd.C_drewN ?_ _) | (with_reducible refine Kd.C_drew ?_))); (case side2 => exact HC0.out); rintro e w6 ⟨rfl, hb⟩; have FR6 := Aside0.mk (show ∀ k, w6.heap.size ≤ k → ok k ∧ k ≠ b6 from fun k hk => FR5.out k (Nat.le_trans (below_size (by repeat (first | exact hb | apply below_alloc))) hk)); have N1 := Aside0.mk (show w6.heap[bf]? = some (.cells #[.slice A0 f.length c0] 30 (0, 0)) from blk_below (by (with_reducible repeat (first | refine blk_drewN ?_ _ | refine blk_drew ?_ | refine blk_alloc ?_ _)); exact B1.out) hb); have N2 := Aside0.mk (show w6.heap[bg]? = some (.cells #[.func (.func 30) #[] #[.pointer (some ⟨bf, 0, none⟩), .pointer (some ⟨bg, 0, none⟩), .pointer (some ⟨bo, 0, none⟩)]] 54 (0, 0)) from blk_below (by (with_reducible repeat (first | refine blk_drewN ?_ _ | refine blk_drew ?_ | refine blk_alloc ?_ _)); exact B2.out) hb); have N3 := Aside0.mk (show w6.heap[bo]? = some (.cells #[(.slice A5 xs5.length c5)] 39 (0, 0)) from blk_below (by (with_reducible repeat (first | refine blk_drewN ?_ _ | refine blk_drew ?_ | refine blk_alloc ?_ _)); exact B3.out) hb); have NP := Aside0.mk (show w6.heap[b6]? = some (.cells #[.int .u64 p0, .int .u64 p1] 41 (0, 0)) from blk_below (by (with_reducible repeat (first | refine blk_drewN ?_ _ | refine blk_drew ?_ | refine blk_alloc ?_ _)); exact BP.out) hb); have NR := Aside0.mk (Kd.R_below (by (with_reducible repeat (first | apply Kd.R_alloc | apply Kd.R_drewN | apply Kd.R_drew)); exact HR.out) hb); have NB := Aside0.mk (below_step (by repeat (first | (with_reducible first | exact HB.out | apply below_alloc | apply pw_below_drewN | apply below_drew1) | exact HB.out)) hb); have NK := Aside0.mk (KeepBut.trans (by first | exact HK.out | exact keep_drew HK.out) (KeepBut.of_below hb bo (.slice Av pre.length cv : Value).ownBlock) (.inl rfl)); clear B1 B2 B3 BP HR HB HK; have B1 := N1; have B2 := N2; have B3 := N3; have BP := NP; have HR := NR; have HB := NB; have HK := NK; clear N1 N2 N3 NP NR NB NK; clear hb; have hfc : w6.cell? ⟨bf, 0, none⟩ = some (.slice A0 f.length c0) := (blk_cell B1.out 0).trans rfl; have zfc := blk_frozen B1.out 0; have hgc : w6.cell? ⟨bg, 0, none⟩ = some (.func (.func 30) #[] #[.pointer (some ⟨bf, 0, none⟩), .pointer (some ⟨bg, 0, none⟩), .pointer (some ⟨bo, 0, none⟩)]) := (blk_cell B2.out 0).trans rfl; have zgc := blk_frozen B2.out 0; have hoc : w6.cell? ⟨bo, 0, none⟩ = some (.slice A5 xs5.length c5) := (blk_cell B3.out 0).trans rfl; have zoc := blk_frozen B3.out 0; have hpc : w6.cell? ⟨b6, 0, none⟩ = some (.int .u64 p0) := (blk_cell BP.out 0).trans rfl; have zpc := blk_frozen BP.out 0; have hqc : w6.cell? ⟨b6, 1, none⟩ = some (.int .u64 p1) := (blk_cell BP.out 1).trans rfl; have zqc := blk_frozen BP.out 1) | (go_at_call 30; (with_reducible refine (IH2.out.app _ (fun k => ok k ∧ k ≠ b6) (.slice A5 xs5.length c5) xs5 ⟨?q1, ?q2, ?q3, GF1.out, GG1.out, GO.out, ?q4, ?q5, ?q6⟩ ?q7).mono ?_); (case q1 => exact blk_far B1.out Nf6.out _); (case q2 => exact blk_far B2.out Ng6.out _); (case q3 => exact blk_far B3.out No6.out _); (case q4 => exact Kd.R_far (p := ⟨b6, 0, none⟩) HR.out (fun _ hk => hk.2) _); (case q5 => exact fun k hk => FR6.out k (by simpa [World.setCell] using hk)); (case q6 => exact HB.out.setCell (Nat.le_trans (below_size HBW.out) G6.out) _); (case q7 => rw [HX5.out, List.length_append]; have := HL.out; rw [List.length_append] at this; omega); rintro e w9 ⟨⟨u9, rfl⟩, hb9, hk9, v9, h9, hr9, ho9⟩; have HB9 := Aside0.mk hb9; have HK9 := Aside0.mk (KeepBut.trans (keep_far HK.out (p := ⟨b6, 0, none⟩) G6.out _) hk9 (HO5.out.imp id (fun ⟨b, hb, hl⟩ => ⟨b, hb, Nat.le_trans HS4.out hl⟩))); have H9 := Aside0.mk h9; have HR9 := Aside0.mk hr9; have HS6 := Aside0.mk (keep_size HK.out); have HO9 := Aside0.mk (show v9.ownBlock = (.slice A5 xs5.length c5 : Value).ownBlock ∨ ∃ b, v9.ownBlock = some b ∧ w6.heap.size ≤ b from ho9.imp id (fun ⟨b, hb, hl⟩ => ⟨b, hb, by simpa [World.setCell] using hl⟩)); clear hb9 hk9 h9 hr9 ho9))
    first | refine bodyPost_ret (results_none rfl _ _ _) rfl ?_ | refine bodyPost_end (results_none rfl _ _ _) rfl ?_
    refine ⟨⟨_, rfl⟩, HB9.out, HK9.out, v9, H9.out, ?_, ?_⟩
    · rw [← List.append_assoc, ← HX5.out]; exact Kd.R_mono HR9.out (fun _ hk => hk.1)
    · rcases HO9.out with e | ⟨b, hb, hl⟩
      · rw [e]; exact HO5.out.imp id (fun ⟨b, hb, hl⟩ => ⟨b, hb, Nat.le_trans HS4.out hl⟩)
      · exact .inr ⟨b, hb, Nat.le_trans HS6.out hl⟩
set_option maxHeartbeats 16000000 in
set_option maxRecDepth 100000 in
theorem grow_step1 (k : Nat) (w0 : World) (bf bg bo : Nat) (A0 : Option Addr) (c0 : Nat) (f : List (List Int)) (hr0 : Kd.C (Kd.slice 3 (Kd.int .i64)) w0 A0 f.length f) (hc0 : f.length ≤ c0) (p0 p1 at_ : Int) (La Lb : List S41) (BB : Bool) (he : (at_ == (f.length : Int)) = false) (hj : 0 ≤ IntKind.u64.wrap at_) (hF : discover_fits.f k f p0 p1 at_ 1 = some BB)
    (h1 : GrowC w0 bf bg bo A0 c0 f 1 (wrap64 (at_ + 1)) p0 p1 La) (h2 : if BB = true then GrowC w0 bf bg bo A0 c0 f 1 (wrap64 (at_ + 1)) p0 (orB p1 at_) Lb else Lb = []) : GrowC w0 bf bg bo A0 c0 f 1 at_ p0 p1 (La ++ Lb) := by
  intro W ok v pre hpre hlen
  obtain ⟨Av, cv, ev⟩ := Kd.R_slice hpre.row
  subst ev
  have B1 := Aside0.mk hpre.b1
  have B2 := Aside0.mk hpre.b2
  have B3 := Aside0.mk hpre.b3
  have HR := Aside0.mk hpre.row
  have HB := Aside0.mk hpre.bel
  have GF := Aside0.mk hpre.fresh
  have HC := Aside0.mk hr0
  have HC0 := Aside0.mk hc0
  have GO := Aside0.mk hpre.go
  have GF1 := Aside0.mk hpre.gf
  have GG1 := Aside0.mk hpre.gg
  have HL := Aside0.mk hlen
  have N13 := Aside0.mk (show bf ≠ bo from blk_ne hpre.b1 hpre.b3 (by decide))
  have N23 := Aside0.mk (show bg ≠ bo from blk_ne hpre.b2 hpre.b3 (by decide))
  clear hpre hlen hr0 hc0
  have IH1 := Aside0.mk h1
  have HF := Aside0.mk hF
  have HL1 := Aside0.mk (show pre.length + La.length ≤ 100000 by have := HL.out; rw [List.length_append] at this; omega)
  unfold orB at h2
  obtain ⟨j1, hj1⟩ : ∃ j_ : Int, IntKind.u64.wrap at_ = j_ := ⟨_, rfl⟩
  rw [hj1] at hj h2
  have c14b0 := eq_true hj
  have c14b1 : decide (0 ≤ j1) = true := decide_eq_true hj
  obtain ⟨j2, hj2⟩ : ∃ j_ : Int, shl .u64 1 j1 = j_ := ⟨_, rfl⟩
  rw [hj2] at h2
  have hj2_ : (IntKind.u64.wrap (1 * 2 ^ min j1.toNat 64)) = j2 := hj2
  have hj2z : j1 ≤ 64 → (IntKind.u64.wrap (1 * 2 ^ j1.toNat)) = j2 := shl_small hj2
  have hj2u : (IntKind.u64.wrap (2 ^ min j1.toNat 64)) = j2 := by have h_ := hj2_; rw [Int.one_mul] at h_; exact h_
  have hj2v : j1 ≤ 64 → (IntKind.u64.wrap (2 ^ j1.toNat)) = j2 := fun hle_ => by have h_ := hj2z hle_; rw [Int.one_mul] at h_; exact h_
  clear h1 hF hj
  cases BB with
  | false =>
    rw [if_neg (by simp)] at h2
    subst h2
    go_enter Try.func30, Try.ntmps30
    go_wp2_with (first | ((with_reducible refine gate_dst (N := 6) rfl ?_); (try (refine gate_guard (by rfl) ?_; dsimp only)); refine box_event ?hg (N := 6) ?hd (cs := #[.int .u64 p0, .int .u64 p1]) (t := 41) ?hr ?_; (case hd => rfl); (case hg => rfl); (case hr => first | (go_simp; done) | (go_simp; rfl)); intro b6 hg w4 hbox hb; have BP := Aside0.mk (show w4.heap[b6]? = some (.cells #[.int .u64 p0, .int .u64 p1] 41 (0, 0)) from hbox); have N1 := Aside0.mk (show w4.heap[bf]? = some (.cells #[.slice A0 f.length c0] 30 (0, 0)) from blk_below B1.out hb); have N2 := Aside0.mk (show w4.heap[bg]? = some (.cells #[.func (.func 30) #[] #[.pointer (some ⟨bf, 0, none⟩), .pointer (some ⟨bg, 0, none⟩), .pointer (some ⟨bo, 0, none⟩)]] 54 (0, 0)) from blk_below B2.out hb); have N3 := Aside0.mk (show w4.heap[bo]? = some (.cells #[(.slice Av pre.length cv)] 39 (0, 0)) from blk_below B3.out hb); have NR := Aside0.mk (show Kd.R k41 41 w4 w0.heap.size (fun k => ok k ∧ k ≠ b6) (.slice Av pre.length cv) pre from Kd.R_below (Kd.R_mono (Kd.R_bound HR.out) (fun k hk => ⟨hk.1, by rw [hg]; exact Nat.ne_of_lt hk.2.2.1⟩)) hb); have NB := Aside0.mk (below_step HB.out hb); have HK := Aside0.mk (KeepBut.of_below hb bo (.slice Av pre.length cv : Value).ownBlock); have G6 := Aside0.mk (show W.heap.size ≤ b6 by rw [hg]; exact Nat.le_refl _); have L6 := Aside0.mk (show b6 < w4.heap.size from blk_lt hbox); have VL := Aside0.mk (Kd.R_lt HR.out); have HBW := Aside0.mk HB.out; clear hb hbox hg B1 B2 B3 HR HB; have B1 := N1; have B2 := N2; have B3 := N3; have HR := NR; have HB := NB; clear N1 N2 N3 NR NB; have FR := Aside0.mk (show ∀ k, w4.heap.size ≤ k → ok k ∧ k ≠ b6 from fun k hk => ⟨GF.out k (Nat.le_trans (keep_size HK.out) hk), Nat.ne_of_gt (Nat.lt_of_lt_of_le L6.out hk)⟩); have N6o := Aside0.mk (show b6 ≠ bo from blk_ne BP.out B3.out (by decide)); have No6 := Aside0.mk (show bo ≠ b6 from blk_ne B3.out BP.out (by decide)); have Nf6 := Aside0.mk (show bf ≠ b6 from blk_ne B1.out BP.out (by decide)); have Ng6 := Aside0.mk (show bg ≠ b6 from blk_ne B2.out BP.out (by decide)); have m1 := N6o.out; have m2 := No6.out; have m3 := Nf6.out; have m4 := Nf6.out.symm; have m5 := Ng6.out; have m6 := Ng6.out.symm; have hfa : w4.cell? ⟨bf, 0, none⟩ = some (.slice A0 f.length c0) := (blk_cell B1.out 0).trans rfl; have zfa := blk_frozen B1.out 0; have hga : w4.cell? ⟨bg, 0, none⟩ = some (.func (.func 30) #[] #[.pointer (some ⟨bf, 0, none⟩), .pointer (some ⟨bg, 0, none⟩), .pointer (some ⟨bo, 0, none⟩)]) := (blk_cell B2.out 0).trans rfl; have zga := blk_frozen B2.out 0; have hoa : w4.cell? ⟨bo, 0, none⟩ = some (.slice Av pre.length cv) := (blk_cell B3.out 0).trans rfl; have zoa := blk_frozen B3.out 0; have hpa : w4.cell? ⟨b6, 0, none⟩ = some (.int .u64 p0) := (blk_cell BP.out 0).trans rfl; have zpa := blk_frozen BP.out 0; have hqa : w4.cell? ⟨b6, 1, none⟩ = some (.int .u64 p1) := (blk_cell BP.out 1).trans rfl; have zqa := blk_frozen BP.out 1) | (go_at_call 30; (with_reducible refine (IH1.out.app _ (fun k => ok k ∧ k ≠ b6) _ pre ⟨B1.out, B2.out, B3.out, GF1.out, GG1.out, GO.out, HR.out, FR.out, HB.out⟩ HL1.out).mono ?_); rintro e w5 ⟨⟨u5, rfl⟩, hb5, hk5, v5, h5, hr5, ho5⟩; obtain ⟨xs5, hx5⟩ : ∃ y_ : List S41, y_ = pre ++ La := ⟨_, rfl⟩; rw [← hx5] at hr5; have HX5 := Aside0.mk hx5; clear hx5; obtain ⟨A5, c5, ev5⟩ := Kd.R_slice hr5; subst ev5; have N1 := Aside0.mk (show w5.heap[bf]? = some (.cells #[.slice A0 f.length c0] 30 (0, 0)) from hk5.blk B1.out N13.out (row_ne HR.out B1.out (by decide))); have N2 := Aside0.mk (show w5.heap[bg]? = some (.cells #[.func (.func 30) #[] #[.pointer (some ⟨bf, 0, none⟩), .pointer (some ⟨bg, 0, none⟩), .pointer (some ⟨bo, 0, none⟩)]] 54 (0, 0)) from hk5.blk B2.out N23.out (row_ne HR.out B2.out (by decide))); have N3 := Aside0.mk (show w5.heap[bo]? = some (.cells #[(.slice A5 xs5.length c5)] 39 (0, 0)) from h5); have NP := Aside0.mk (show w5.heap[b6]? = some (.cells #[.int .u64 p0, .int .u64 p1] 41 (0, 0)) from hk5.blk BP.out N6o.out (fun e => Nat.lt_irrefl _ (Nat.lt_of_lt_of_le (VL.out b6 e.symm) G6.out))); have NK := Aside0.mk (KeepBut.trans HK.out hk5 (.inl rfl)); have HS4 := Aside0.mk (keep_size HK.out); have FR5 := Aside0.mk (show ∀ k, w5.heap.size ≤ k → ok k ∧ k ≠ b6 from fun k hk => FR.out k (Nat.le_trans hk5.1 hk)); have HO5 := Aside0.mk ho5; have NR := Aside0.mk hr5; have NB := Aside0.mk hb5; clear hb5 hk5 h5 hr5 ho5 FR B1 B2 B3 BP HR HB HK; have B1 := N1; have B2 := N2; have B3 := N3; have BP := NP; have HR := NR; have HB := NB; have HK := NK; clear N1 N2 N3 NP NR NB NK; have hfb : w5.cell? ⟨bf, 0, none⟩ = some (.slice A0 f.length c0) := (blk_cell B1.out 0).trans rfl; have zfb := blk_frozen B1.out 0; have hgb : w5.cell? ⟨bg, 0, none⟩ = some (.func (.func 30) #[] #[.pointer (some ⟨bf, 0, none⟩), .pointer (some ⟨bg, 0, none⟩), .pointer (some ⟨bo, 0, none⟩)]) := (blk_cell B2.out 0).trans rfl; have zgb := blk_frozen B2.out 0; have hob : w5.cell? ⟨bo, 0, none⟩ = some (.slice A5 xs5.length c5) := (blk_cell B3.out 0).trans rfl; have zob := blk_frozen B3.out 0; have hpb : w5.cell? ⟨b6, 0, none⟩ = some (.int .u64 p0) := (blk_cell BP.out 0).trans rfl; have zpb := blk_frozen BP.out 0; have hqb : w5.cell? ⟨b6, 1, none⟩ = some (.int .u64 p1) := (blk_cell BP.out 1).trans rfl; have zqb := blk_frozen BP.out 1) | (go_at_call 32; (with_reducible refine (discover_fits.calls k A0 c0 f p0 p1 at_ 1 _ _ ?side1 ?side2 HF.out).mono ?_); (case side1 => repeat (first | exact (Kd.C_below HC.out HB.out) | (with_reducible refine Kd.C_alloc ?_ _) | (with_reducible refine Kd.C_drewN ?_ _) | (with_reducible refine Kd.C_drew ?_))); (case side2 => exact HC0.out); rintro e w6 ⟨rfl, hb⟩; have FR6 := Aside0.mk (show ∀ k, w6.heap.size ≤ k → ok k ∧ k ≠ b6 from fun k hk => FR5.out k (Nat.le_trans (below_size (by repeat (first | exact hb | apply below_alloc))) hk)); have N1 := Aside0.mk (show w6.heap[bf]? = some (.cells #[.slice A0 f.length c0] 30 (0, 0)) from blk_below (by (with_reducible repeat (first | refine blk_drewN ?_ _ | refine blk_drew ?_ | refine blk_alloc ?_ _)); exact B1.out) hb); have N2 := Aside0.mk (show w6.heap[bg]? = some (.cells #[.func (.func 30) #[] #[.pointer (some ⟨bf, 0, none⟩), .pointer (some ⟨bg, 0, none⟩), .pointer (some ⟨bo, 0, none⟩)]] 54 (0, 0)) from blk_below (by (with_reducible repeat (first | refine blk_drewN ?_ _ | refine blk_drew ?_ | refine blk_alloc ?_ _)); exact B2.out) hb); have N3 := Aside0.mk (show w6.heap[bo]? = some (.cells #[(.slice A5 xs5.length c5)] 39 (0, 0)) from blk_below (by (with_reducible repeat (first | refine blk_drewN ?_ _ | refine blk_drew ?_ | refine blk_alloc ?_ _)); exact B3.out) hb); have NP := Aside0.mk (show w6.heap[b6]? = some (.cells #[.int .u64 p0, .int .u64 p1] 41 (0, 0)) from blk_below (by (with_reducible repeat (first | refine blk_drewN ?_ _ | refine blk_drew ?_ | refine blk_alloc ?_ _)); exact BP.out) hb); have NR := Aside0.mk (Kd.R_below (by (with_reducible repeat (first | apply Kd.R_alloc | apply Kd.R_drewN | apply Kd.R_drew)); exact HR.out) hb); have NB := Aside0.mk (below_step (by repeat (first | (with_reducible first | exact HB.out | apply below_alloc | apply pw_below_drewN | apply below_drew1) | exact HB.out)) hb); have NK := Aside0.mk (KeepBut.trans (by first | exact HK.out | exact keep_drew HK.out) (KeepBut.of_below hb bo (.slice Av pre.length cv : Value).ownBlock) (.inl rfl)); clear B1 B2 B3 BP HR HB HK; have B1 := N1; have B2 := N2; have B3 := N3; have BP := NP; have HR := NR; have HB := NB; have HK := NK; clear N1 N2 N3 NP NR NB NK; clear hb; have hfc : w6.cell? ⟨bf, 0, none⟩ = some (.slice A0 f.length c0) := (blk_cell B1.out 0).trans rfl; have zfc := blk_frozen B1.out 0; have hgc : w6.cell? ⟨bg, 0, none⟩ = some (.func (.func 30) #[] #[.pointer (some ⟨bf, 0, none⟩), .pointer (some ⟨bg, 0, none⟩), .pointer (some ⟨bo, 0, none⟩)]) := (blk_cell B2.out 0).trans rfl; have zgc := blk_frozen B2.out 0; have hoc : w6.cell? ⟨bo, 0, none⟩ = some (.slice A5 xs5.length c5) := (blk_cell B3.out 0).trans rfl; have zoc := blk_frozen B3.out 0; have hpc : w6.cell? ⟨b6, 0, none⟩ = some (.int .u64 p0) := (blk_cell BP.out 0).trans rfl; have zpc := blk_frozen BP.out 0; have hqc : w6.cell? ⟨b6, 1, none⟩ = some (.int .u64 p1) := (blk_cell BP.out 1).trans rfl; have zqc := blk_frozen BP.out 1))
    first | refine bodyPost_ret (results_none rfl _ _ _) rfl ?_ | refine bodyPost_end (results_none rfl _ _ _) rfl ?_
    exact ⟨⟨_, rfl⟩, by repeat (first | (with_reducible first | exact HB.out | apply below_alloc | apply pw_below_drewN | apply below_drew1) | exact HB.out), HK.out, _, B3.out, by rw [List.append_nil, ← HX5.out]; exact Kd.R_mono HR.out (fun _ hk => hk.1), HO5.out.imp id (fun ⟨b, hb, hl⟩ => ⟨b, hb, Nat.le_trans HS4.out hl⟩)⟩
  | true =>
    rw [if_pos rfl] at h2
    have IH2 := Aside0.mk h2
    clear h2
    go_enter Try.func30, Try.ntmps30
    go_wp2_with (first | ((with_reducible refine gate_dst (N := 6) rfl ?_); (try (refine gate_guard (by rfl) ?_; dsimp only)); refine box_event ?hg (N := 6) ?hd (cs := #[.int .u64 p0, .int .u64 p1]) (t := 41) ?hr ?_; (case hd => rfl); (case hg => rfl); (case hr => first | (go_simp; done) | (go_simp; rfl)); intro b6 hg w4 hbox hb; have BP := Aside0.mk (show w4.heap[b6]? = some (.cells #[.int .u64 p0, .int .u64 p1] 41 (0, 0)) from hbox); have N1 := Aside0.mk (show w4.heap[bf]? = some (.cells #[.slice A0 f.length c0] 30 (0, 0)) from blk_below B1.out hb); have N2 := Aside0.mk (show w4.heap[bg]? = some (.cells #[.func (.func 30) #[] #[.pointer (some ⟨bf, 0, none⟩), .pointer (some ⟨bg, 0, none⟩), .pointer (some ⟨bo, 0, none⟩)]] 54 (0, 0)) from blk_below B2.out hb); have N3 := Aside0.mk (show w4.heap[bo]? = some (.cells #[(.slice Av pre.length cv)] 39 (0, 0)) from blk_below B3.out hb); have NR := Aside0.mk (show Kd.R k41 41 w4 w0.heap.size (fun k => ok k ∧ k ≠ b6) (.slice Av pre.length cv) pre from Kd.R_below (Kd.R_mono (Kd.R_bound HR.out) (fun k hk => ⟨hk.1, by rw [hg]; exact Nat.ne_of_lt hk.2.2.1⟩)) hb); have NB := Aside0.mk (below_step HB.out hb); have HK := Aside0.mk (KeepBut.of_below hb bo (.slice Av pre.length cv : Value).ownBlock); have G6 := Aside0.mk (show W.heap.size ≤ b6 by rw [hg]; exact Nat.le_refl _); have L6 := Aside0.mk (show b6 < w4.heap.size from blk_lt hbox); have VL := Aside0.mk (Kd.R_lt HR.out); have HBW := Aside0.mk HB.out; clear hb hbox hg B1 B2 B3 HR HB; have B1 := N1; have B2 := N2; have B3 := N3; have HR := NR; have HB := NB; clear N1 N2 N3 NR NB; have FR := Aside0.mk (show ∀ k, w4.heap.size ≤ k → ok k ∧ k ≠ b6 from fun k hk => ⟨GF.out k (Nat.le_trans (keep_size HK.out) hk), Nat.ne_of_gt (Nat.lt_of_lt_of_le L6.out hk)⟩); have N6o := Aside0.mk (show b6 ≠ bo from blk_ne BP.out B3.out (by decide)); have No6 := Aside0.mk (show bo ≠ b6 from blk_ne B3.out BP.out (by decide)); have Nf6 := Aside0.mk (show bf ≠ b6 from blk_ne B1.out BP.out (by decide)); have Ng6 := Aside0.mk (show bg ≠ b6 from blk_ne B2.out BP.out (by decide)); have m1 := N6o.out; have m2 := No6.out; have m3 := Nf6.out; have m4 := Nf6.out.symm; have m5 := Ng6.out; have m6 := Ng6.out.symm; have hfa : w4.cell? ⟨bf, 0, none⟩ = some (.slice A0 f.length c0) := (blk_cell B1.out 0).trans rfl; have zfa := blk_frozen B1.out 0; have hga : w4.cell? ⟨bg, 0, none⟩ = some (.func (.func 30) #[] #[.pointer (some ⟨bf, 0, none⟩), .pointer (some ⟨bg, 0, none⟩), .pointer (some ⟨bo, 0, none⟩)]) := (blk_cell B2.out 0).trans rfl; have zga := blk_frozen B2.out 0; have hoa : w4.cell? ⟨bo, 0, none⟩ = some (.slice Av pre.length cv) := (blk_cell B3.out 0).trans rfl; have zoa := blk_frozen B3.out 0; have hpa : w4.cell? ⟨b6, 0, none⟩ = some (.int .u64 p0) := (blk_cell BP.out 0).trans rfl; have zpa := blk_frozen BP.out 0; have hqa : w4.cell? ⟨b6, 1, none⟩ = some (.int .u64 p1) := (blk_cell BP.out 1).trans rfl; have zqa := blk_frozen BP.out 1) | (go_at_call 30; (with_reducible refine (IH1.out.app _ (fun k => ok k ∧ k ≠ b6) _ pre ⟨B1.out, B2.out, B3.out, GF1.out, GG1.out, GO.out, HR.out, FR.out, HB.out⟩ HL1.out).mono ?_); rintro e w5 ⟨⟨u5, rfl⟩, hb5, hk5, v5, h5, hr5, ho5⟩; obtain ⟨xs5, hx5⟩ : ∃ y_ : List S41, y_ = pre ++ La := ⟨_, rfl⟩; rw [← hx5] at hr5; have HX5 := Aside0.mk hx5; clear hx5; obtain ⟨A5, c5, ev5⟩ := Kd.R_slice hr5; subst ev5; have N1 := Aside0.mk (show w5.heap[bf]? = some (.cells #[.slice A0 f.length c0] 30 (0, 0)) from hk5.blk B1.out N13.out (row_ne HR.out B1.out (by decide))); have N2 := Aside0.mk (show w5.heap[bg]? = some (.cells #[.func (.func 30) #[] #[.pointer (some ⟨bf, 0, none⟩), .pointer (some ⟨bg, 0, none⟩), .pointer (some ⟨bo, 0, none⟩)]] 54 (0, 0)) from hk5.blk B2.out N23.out (row_ne HR.out B2.out (by decide))); have N3 := Aside0.mk (show w5.heap[bo]? = some (.cells #[(.slice A5 xs5.length c5)] 39 (0, 0)) from h5); have NP := Aside0.mk (show w5.heap[b6]? = some (.cells #[.int .u64 p0, .int .u64 p1] 41 (0, 0)) from hk5.blk BP.out N6o.out (fun e => Nat.lt_irrefl _ (Nat.lt_of_lt_of_le (VL.out b6 e.symm) G6.out))); have NK := Aside0.mk (KeepBut.trans HK.out hk5 (.inl rfl)); have HS4 := Aside0.mk (keep_size HK.out); have FR5 := Aside0.mk (show ∀ k, w5.heap.size ≤ k → ok k ∧ k ≠ b6 from fun k hk => FR.out k (Nat.le_trans hk5.1 hk)); have HO5 := Aside0.mk ho5; have NR := Aside0.mk hr5; have NB := Aside0.mk hb5; clear hb5 hk5 h5 hr5 ho5 FR B1 B2 B3 BP HR HB HK; have B1 := N1; have B2 := N2; have B3 := N3; have BP := NP; have HR := NR; have HB := NB; have HK := NK; clear N1 N2 N3 NP NR NB NK; have hfb : w5.cell? ⟨bf, 0, none⟩ = some (.slice A0 f.length c0) := (blk_cell B1.out 0).trans rfl; have zfb := blk_frozen B1.out 0; have hgb : w5.cell? ⟨bg, 0, none⟩ = some (.func (.func 30) #[] #[.pointer (some ⟨bf, 0, none⟩), .pointer (some ⟨bg, 0, none⟩), .pointer (some ⟨bo, 0, none⟩)]) := (blk_cell B2.out 0).trans rfl; have zgb := blk_frozen B2.out 0; have hob : w5.cell? ⟨bo, 0, none⟩ = some (.slice A5 xs5.length c5) := (blk_cell B3.out 0).trans rfl; have zob := blk_frozen B3.out 0; have hpb : w5.cell? ⟨b6, 0, none⟩ = some (.int .u64 p0) := (blk_cell BP.out 0).trans rfl; have zpb := blk_frozen BP.out 0; have hqb : w5.cell? ⟨b6, 1, none⟩ = some (.int .u64 p1) := (blk_cell BP.out 1).trans rfl; have zqb := blk_frozen BP.out 1) | (go_at_call 32; (with_reducible refine (discover_fits.calls k A0 c0 f p0 p1 at_ 1 _ _ ?side1 ?side2 HF.out).mono ?_); (case side1 => repeat (first | exact (Kd.C_below HC.out HB.out) | (with_reducible refine Kd.C_alloc ?_ _) | (with_reducible refine Kd.C_drewN ?_ _) | (with_reducible refine Kd.C_drew ?_))); (case side2 => exact HC0.out); rintro e w6 ⟨rfl, hb⟩; have FR6 := Aside0.mk (show ∀ k, w6.heap.size ≤ k → ok k ∧ k ≠ b6 from fun k hk => FR5.out k (Nat.le_trans (below_size (by repeat (first | exact hb | apply below_alloc))) hk)); have N1 := Aside0.mk (show w6.heap[bf]? = some (.cells #[.slice A0 f.length c0] 30 (0, 0)) from blk_below (by (with_reducible repeat (first | refine blk_drewN ?_ _ | refine blk_drew ?_ | refine blk_alloc ?_ _)); exact B1.out) hb); have N2 := Aside0.mk (show w6.heap[bg]? = some (.cells #[.func (.func 30) #[] #[.pointer (some ⟨bf, 0, none⟩), .pointer (some ⟨bg, 0, none⟩), .pointer (some ⟨bo, 0, none⟩)]] 54 (0, 0)) from blk_below (by (with_reducible repeat (first | refine blk_drewN ?_ _ | refine blk_drew ?_ | refine blk_alloc ?_ _)); exact B2.out) hb); have N3 := Aside0.mk (show w6.heap[bo]? = some (.cells #[(.slice A5 xs5.length c5)] 39 (0, 0)) from blk_below (by (with_reducible repeat (first | refine blk_drewN ?_ _ | refine blk_drew ?_ | refine blk_alloc ?_ _)); exact B3.out) hb); have NP := Aside0.mk (show w6.heap[b6]? = some (.cells #[.int .u64 p0, .int .u64 p1] 41 (0, 0)) from blk_below (by (with_reducible repeat (first | refine blk_drewN ?_ _ | refine blk_drew ?_ | refine blk_alloc ?_ _)); exact BP.out) hb); have NR := Aside0.mk (Kd.R_below (by (with_reducible repeat (first | apply Kd.R_alloc | apply Kd.R_drewN | apply Kd.R_drew)); exact HR.out) hb); have NB := Aside0.mk (below_step (by repeat (first | (with_reducible first | exact HB.out | apply below_alloc | apply pw_below_drewN | apply below_drew1) | exact HB.out)) hb); have NK := Aside0.mk (KeepBut.trans (by first | exact HK.out | exact keep_drew HK.out) (KeepBut.of_below hb bo (.slice Av pre.length cv : Value).ownBlock) (.inl rfl)); clear B1 B2 B3 BP HR HB HK; have B1 := N1; have B2 := N2; have B3 := N3; have BP := NP; have HR := NR; have HB := NB; have HK := NK; clear N1 N2 N3 NP NR NB NK; clear hb; have hfc : w6.cell? ⟨bf, 0, none⟩ = some (.slice A0 f.length c0) := (blk_cell B1.out 0).trans rfl; have zfc := blk_frozen B1.out 0; have hgc : w6.cell? ⟨bg, 0, none⟩ = some (.func (.func 30) #[] #[.pointer (some ⟨bf, 0, none⟩), .pointer (some ⟨bg, 0, none⟩), .pointer (some ⟨bo, 0, none⟩)]) := (blk_cell B2.out 0).trans rfl; have zgc := blk_frozen B2.out 0; have hoc : w6.cell? ⟨bo, 0, none⟩ = some (.slice A5 xs5.length c5) := (blk_cell B3.out 0).trans rfl; have zoc := blk_frozen B3.out 0; have hpc : w6.cell? ⟨b6, 0, none⟩ = some (.int .u64 p0) := (blk_cell BP.out 0).trans rfl; have zpc := blk_frozen BP.out 0; have hqc : w6.cell? ⟨b6, 1, none⟩ = some (.int .u64 p1) := (blk_cell BP.out 1).trans rfl; have zqc := blk_frozen BP.out 1) | (go_at_call 30; (with_reducible refine (IH2.out.app _ (fun k => ok k ∧ k ≠ b6) (.slice A5 xs5.length c5) xs5 ⟨?q1, ?q2, ?q3, GF1.out, GG1.out, GO.out, ?q4, ?q5, ?q6⟩ ?q7).mono ?_); (case q1 => exact blk_far B1.out Nf6.out _); (case q2 => exact blk_far B2.out Ng6.out _); (case q3 => exact blk_far B3.out No6.out _); (case q4 => exact Kd.R_far (p := ⟨b6, 1, none⟩) HR.out (fun _ hk => hk.2) _); (case q5 => exact fun k hk => FR6.out k (by simpa [World.setCell] using hk)); (case q6 => exact HB.out.setCell (Nat.le_trans (below_size HBW.out) G6.out) _); (case q7 => rw [HX5.out, List.length_append]; have := HL.out; rw [List.length_append] at this; omega); rintro e w9 ⟨⟨u9, rfl⟩, hb9, hk9, v9, h9, hr9, ho9⟩; have HB9 := Aside0.mk hb9; have HK9 := Aside0.mk (KeepBut.trans (keep_far HK.out (p := ⟨b6, 1, none⟩) G6.out _) hk9 (HO5.out.imp id (fun ⟨b, hb, hl⟩ => ⟨b, hb, Nat.le_trans HS4.out hl⟩))); have H9 := Aside0.mk h9; have HR9 := Aside0.mk hr9; have HS6 := Aside0.mk (keep_size HK.out); have HO9 := Aside0.mk (show v9.ownBlock = (.slice A5 xs5.length c5 : Value).ownBlock ∨ ∃ b, v9.ownBlock = some b ∧ w6.heap.size ≤ b from ho9.imp id (fun ⟨b, hb, hl⟩ => ⟨b, hb, by simpa [World.setCell] using hl⟩)); clear hb9 hk9 h9 hr9 ho9))
    first | refine bodyPost_ret (results_none rfl _ _ _) rfl ?_ | refine bodyPost_end (results_none rfl _ _ _) rfl ?_
    refine ⟨⟨_, rfl⟩, HB9.out, HK9.out, v9, H9.out, ?_, ?_⟩
    · rw [← List.append_assoc, ← HX5.out]; exact Kd.R_mono HR9.out (fun _ hk => hk.1)
    · rcases HO9.out with e | ⟨b, hb, hl⟩
      · rw [e]; exact HO5.out.imp id (fun ⟨b, hb, hl⟩ => ⟨b, hb, Nat.le_trans HS4.out hl⟩)
      · exact .inr ⟨b, hb, Nat.le_trans HS6.out hl⟩
theorem wrapu_nonneg (z : Int) : 0 ≤ IntKind.u64.wrap z := by
  simp only [IntKind.wrap]
  first | exact Int.emod_nonneg _ (by decide) | (simp; omega) | omega
theorem grow1_all (k : Nat) (w0 : World) (bf bg bo : Nat) (A0 : Option Addr) (c0 : Nat) (f : List (List Int)) (hr0 : Kd.C (Kd.slice 3 (Kd.int .i64)) w0 A0 f.length f) (hc0 : f.length ≤ c0) (hn : f.length ≤ 1000) : ∀ m, m ≤ f.length → ∀ p0 p1 L, grow1 k f m p0 p1 = some L → GrowC w0 bf bg bo A0 c0 f 1 ((f.length - m : Nat) : Int) p0 p1 L
  | 0, _, p0, p1, L, h => grow_end1 k w0 bf bg bo A0 c0 f hr0 hc0 p0 p1 L h
  | m + 1, hm, p0, p1, L, h => by
    unfold grow1 at h
    obtain ⟨La, hLa, h⟩ := Option.bind_eq_some_iff.mp h
    obtain ⟨b, hb, h⟩ := Option.bind_eq_some_iff.mp h
    have ew : wrap64 (((f.length - (m + 1) : Nat) : Int) + 1) = ((f.length - m : Nat) : Int) := by unfold wrap64; omega
    have i1 := grow1_all k w0 bf bg bo A0 c0 f hr0 hc0 hn m (by omega) p0 p1 La hLa
    rw [← ew] at i1
    cases b with
    | false =>
      rw [if_neg (by simp)] at h
      obtain rfl := Option.some.inj h
      have := grow_step1 k w0 bf bg bo A0 c0 f hr0 hc0 p0 p1 _ La [] false (by rw [beq_eq_false_iff_ne]; omega) (wrapu_nonneg _) hb i1 (by rw [if_neg (by simp)])
      rwa [List.append_nil] at this
    | true =>
      rw [if_pos rfl] at h
      obtain ⟨Lb, hLb, h⟩ := Option.bind_eq_some_iff.mp h
      obtain rfl := Option.some.inj h
      have i2 := grow1_all k w0 bf bg bo A0 c0 f hr0 hc0 hn m (by omega) _ _ Lb hLb
      rw [← ew] at i2
      exact grow_step1 k w0 bf bg bo A0 c0 f hr0 hc0 p0 p1 _ La Lb true (by rw [beq_eq_false_iff_ne]; omega) (wrapu_nonneg _) hb i1 (by rw [if_pos rfl]; exact i2)
theorem grow0_all (k : Nat) (w0 : World) (bf bg bo : Nat) (A0 : Option Addr) (c0 : Nat) (f : List (List Int)) (hr0 : Kd.C (Kd.slice 3 (Kd.int .i64)) w0 A0 f.length f) (hc0 : f.length ≤ c0) (hn : f.length ≤ 1000) : ∀ m, m ≤ f.length → ∀ p0 p1 L, grow0 k f m p0 p1 = some L → GrowC w0 bf bg bo A0 c0 f 0 ((f.length - m : Nat) : Int) p0 p1 L
  | 0, _, p0, p1, L, h => by
    refine grow_end0 k w0 bf bg bo A0 c0 f hr0 hc0 p0 p1 L ?_
    unfold grow0 at h
    by_cases h0 : p0 = 0
    · rw [if_pos h0] at h ⊢; exact (Option.some.inj h).symm
    · rw [if_neg h0] at h ⊢
      have := grow1_all k w0 bf bg bo A0 c0 f hr0 hc0 hn f.length (Nat.le_refl _) p0 p1 L h
      rwa [Nat.sub_self] at this
  | m + 1, hm, p0, p1, L, h => by
    unfold grow0 at h
    obtain ⟨La, hLa, h⟩ := Option.bind_eq_some_iff.mp h
    obtain ⟨b, hb, h⟩ := Option.bind_eq_some_iff.mp h
    have ew : wrap64 (((f.length - (m + 1) : Nat) : Int) + 1) = ((f.length - m : Nat) : Int) := by unfold wrap64; omega
    have i1 := grow0_all k w0 bf bg bo A0 c0 f hr0 hc0 hn m (by omega) p0 p1 La hLa
    rw [← ew] at i1
    cases b with
    | false =>
      rw [if_neg (by simp)] at h
      obtain rfl := Option.some.inj h
      have := grow_step0 k w0 bf bg bo A0 c0 f hr0 hc0 p0 p1 _ La [] false (by rw [beq_eq_false_iff_ne]; omega) (wrapu_nonneg _) hb i1 (by rw [if_neg (by simp)])
      rwa [List.append_nil] at this
    | true =>
      rw [if_pos rfl] at h
      obtain ⟨Lb, hLb, h⟩ := Option.bind_eq_some_iff.mp h
      obtain rfl := Option.some.inj h
      have i2 := grow0_all k w0 bf bg bo A0 c0 f hr0 hc0 hn m (by omega) _ _ Lb hLb
      rw [← ew] at i2
      exact grow_step0 k w0 bf bg bo A0 c0 f hr0 hc0 p0 p1 _ La Lb true (by rw [beq_eq_false_iff_ne]; omega) (wrapu_nonneg _) hb i1 (by rw [if_pos rfl]; exact i2)
set_option maxHeartbeats 16000000 in
set_option maxRecDepth 100000 in
theorem discover_pairs.calls (k : Nat) (A0 : Option Addr) (c0 : Nat) (l0 : List (List Int)) (r : List S41) (w : World) (hr0 : Kd.C (Kd.slice 3 (Kd.int .i64)) w A0 l0.length l0) (hc0 : l0.length ≤ c0) (h : discover_pairs.f k l0 = some r) :
    Calls Try.prog 17 #[.slice A0 l0.length c0] w fun e w' => ∃ v0_ : Value, e = .returned (v0_) ∧ Kd.R k41 41 w' w.heap.size (fun _ => True) v0_ r ∧ Below w.heap.size w w' := by
  unfold discover_pairs.f at h
  by_cases hn : l0.length ≤ 1000
  case neg => rw [if_neg hn] at h; cases h
  rw [if_pos hn] at h
  obtain ⟨L, hL, h⟩ := Option.bind_eq_some_iff.mp h
  try dsimp only at h
  by_cases hl : L.length ≤ 100000
  case neg => rw [if_neg hl] at h; cases h
  rw [if_pos hl] at h
  obtain rfl := Option.some.inj h
  have IH : ∀ bf bg bo, Aside0 (GrowC w bf bg bo A0 c0 l0 0 0 0 0 L) := fun bf bg bo => ⟨by
    have := grow0_all k w bf bg bo A0 c0 l0 hr0 hc0 hn l0.length (Nat.le_refl _) 0 0 L hL
    rwa [Nat.sub_self] at this⟩
  have HL := Aside0.mk (show ([] : List S41).length + L.length ≤ 100000 by simpa using hl)
  have hmf : ∀ (fn : Fn) (first cap : Array Value) (w : World), (Instr.makeFunc fn first cap).run Try.prog w = .ok (.func fn first cap) w := fun _ _ _ _ => rfl
  clear h hL hr0 hc0 hl hn
  have HB := Aside0.mk (Below.refl w.heap.size w)
  go_enter Try.func17, Try.ntmps17
  go_wp2_with (first | ((with_reducible refine gate_dst (N := 1) rfl ?_); (try (refine gate_guard (by rfl) ?_; dsimp only)); refine box_event ?hg (N := 1) ?hd (cs := #[.slice A0 l0.length c0]) (t := 30) ?hr ?_; (case hd => rfl); (case hg => rfl); (case hr => first | (go_simp; done) | (go_simp; rfl)); intro bf hg w1 hbox hb; have B1 := Aside0.mk (show w1.heap[bf]? = some (.cells #[.slice A0 l0.length c0] 30 (0, 0)) from hbox); have GF := Aside0.mk (show w.heap.size ≤ bf by rw [hg]; exact below_size (by repeat (first | exact HB.out | apply below_alloc))); have NB := Aside0.mk (below_step (by repeat (first | exact HB.out | apply below_alloc)) hb); clear hb hbox hg HB; have HB := NB; clear NB) | ((with_reducible refine gate_dst (N := 3) rfl ?_); (try (refine gate_guard (by rfl) ?_; dsimp only)); refine box_event ?hg (N := 3) ?hd (cs := #[.slice none 0 0]) (t := 39) ?hr ?_; (case hd => rfl); (case hg => rfl); (case hr => first | (go_simp; done) | (go_simp; rfl)); intro bo hg w2 hbox hb; have B3 := Aside0.mk (show w2.heap[bo]? = some (.cells #[.slice none 0 0] 39 (0, 0)) from hbox); have N1 := Aside0.mk (blk_below B1.out hb); have GO := Aside0.mk (show w.heap.size ≤ bo by rw [hg]; exact below_size HB.out); have NB := Aside0.mk (below_step HB.out hb); clear hb hbox hg HB B1; have HB := NB; have B1 := N1; clear NB N1) | ((with_reducible refine gate_dst (N := 4) rfl ?_); (try (refine gate_guard (by rfl) ?_; dsimp only)); refine box_event ?hg (N := 4) ?hd (cs := #[.nilFunc]) (t := 54) ?hr ?_; (case hd => rfl); (case hg => rfl); (case hr => first | (go_simp; done) | (go_simp; rfl)); intro bg hg w3 hbox hb; have B2 := Aside0.mk (show w3.heap[bg]? = some (.cells #[.nilFunc] 54 (0, 0)) from hbox); have N1 := Aside0.mk (blk_below B1.out hb); have N3 := Aside0.mk (blk_below B3.out hb); have GG := Aside0.mk (show w.heap.size ≤ bg by rw [hg]; exact below_size HB.out); have NB := Aside0.mk (below_step HB.out hb); clear hb hbox hg HB B1 B3; have HB := NB; have B1 := N1; have B3 := N3; clear NB N1 N3; have m1 := blk_ne B1.out B2.out (by decide); have m2 := blk_ne B3.out B2.out (by decide); have m3 := m1.symm; have m4 := m2.symm; have hg3 : w3.cell? ⟨bg, 0, none⟩ = some (.nilFunc) := (blk_cell B2.out 0).trans rfl; have zg3 := blk_frozen B2.out 0; have ho3 : w3.cell? ⟨bo, 0, none⟩ = some (.slice none 0 0) := (blk_cell B3.out 0).trans rfl) | (go_at_call 30; (with_reducible refine ((IH bf bg bo).out.app _ (fun _ => True) (.slice none 0 0) [] ⟨?q1, ?q2, ?q3, GF.out, GG.out, GO.out, ?q4, ?q5, ?q6⟩ HL.out).mono ?_); (case q1 => exact blk_far B1.out (by assumption) _); (case q2 => exact blk_put (cs := #[.nilFunc]) B2.out 0 _ rfl); (case q3 => exact blk_far B3.out (by assumption) _); (case q4 => exact Kd.R_nil _ _ _ _ _); (case q5 => exact fun _ _ => trivial); (case q6 => exact HB.out.setCell GG.out _); rintro e w5 ⟨⟨u5, rfl⟩, hb5, hk5, v5, h5, hr5, ho5⟩; have HB5 := Aside0.mk hb5; have HR5 := Aside0.mk hr5; have hv5 : w5.cell? ⟨bo, 0, none⟩ = some v5 := (blk_cell h5 0).trans rfl; clear hb5 hk5 h5 hr5 ho5; obtain ⟨A5, c5, ev5⟩ := Kd.R_slice HR5.out; subst ev5))
  go_ret
  exact ⟨_, rfl, HR5.out, HB5.out⟩


end



/-! ### discover_before: function 18 -/
def discover_before.f (a0_0 : Int) (a0_1 : Int) (a1_0 : Int) (a1_1 : Int) : Option (Bool) := if a0_0 < a1_0 then (some true) else (if a0_0 = a1_0 then (some (decide (a0_1 < a1_1))) else (some false))
set_option maxHeartbeats 8000000 in
set_option maxRecDepth 100000 in
theorem discover_before.calls (a0_0 : Int) (a0_1 : Int) (a1_0 : Int) (a1_1 : Int) (r : Bool) (w : World) (h : discover_before.f a0_0 a0_1 a1_0 a1_1 = some r) :
  Calls Try.prog 18 #[.agg #[.int .u64 a0_0, .int .u64 a0_1], .agg #[.int .u64 a1_0, .int .u64 a1_1]] w fun e w' => e = .returned (.bool r) ∧ Below w.heap.size w w' := by
 have hu41 := Try.underlying41
 have hu37 := Try.underlying37
 have HB := Aside0.mk (Below.refl w.heap.size w)
 have H : (if a0_0 < a1_0 then (some true) else (if a0_0 = a1_0 then (some (decide (a0_1 < a1_1))) else (some false))) = some r := h
 clear h
 by_cases c3 : a0_0 < a1_0
 ·
  rw [if_pos c3] at H
  have c3b0 : decide (a0_0 < a1_0) = true := decide_eq_true c3
  clear c3
  obtain rfl := Option.some.inj H
  go_enter Try.func18, Try.ntmps18
  go_wp2_with (first | ((with_reducible refine gate_dst (N := 2) rfl ?_); refine box_event ?hg (N := 2) ?hd (cs := #[.int .u64 a0_0, .int .u64 a0_1]) (t := 41) ?hr ?_; (case hd => rfl); (case hg => rfl); (case hr => first | (go_simp; done) | (go_simp; rfl)); intro gb168 hg w4 hbox hb; have n0_ := Aside0.mk (below_step (by repeat (first | (with_reducible first | exact HB.out | apply below_alloc | apply pw_below_drewN | apply below_drew1) | exact HB.out)) hb); have n1_ := Aside0.mk (hbox); have n2_ := Aside0.mk ((by rw [hg]; exact (below_size (by repeat (first | (with_reducible first | exact HB.out | apply below_alloc | apply pw_below_drewN | apply below_drew1) | exact HB.out))) : w.heap.size ≤ gb168)); have n3_ := Aside0.mk ((by rw [hg]; exact (below_size (by repeat (first | (with_reducible first | exact HB.out | apply below_alloc | apply pw_below_drewN | apply below_drew1) | exact HB.out))) : w.heap.size ≤ gb168)); clear HB; have HB := n0_; have BK168 := n1_; have GW168 := n2_; have GE168 := n3_; clear n0_ n1_ n2_ n3_; clear hb hbox hg) | ((with_reducible refine gate_dst (N := 3) rfl ?_); refine box_event ?hg (N := 3) ?hd (cs := #[.int .u64 a1_0, .int .u64 a1_1]) (t := 41) ?hr ?_; (case hd => rfl); (case hg => rfl); (case hr => first | (go_simp; done) | (go_simp; rfl)); intro gb169 hg w5 hbox hb; have n0_ := Aside0.mk (blk_below (g := gb168) (o := .cells #[.int .u64 a0_0, .int .u64 a0_1] 41 (0, 0)) (by (with_reducible repeat (first | refine blk_drewN ?_ _ | refine blk_drew ?_ | refine blk_alloc ?_ _)); exact BK168.out) hb); have n1_ := Aside0.mk (below_step (by repeat (first | (with_reducible first | exact HB.out | apply below_alloc | apply pw_below_drewN | apply below_drew1 | refine below_set ?_ GE168.out) | exact HB.out)) hb); have n2_ := Aside0.mk (hbox); have n3_ := Aside0.mk ((by rw [hg]; exact (below_size (by repeat (first | (with_reducible first | exact HB.out | apply below_alloc | apply pw_below_drewN | apply below_drew1 | refine below_set ?_ GE168.out) | exact HB.out))) : w.heap.size ≤ gb169)); have n4_ := Aside0.mk ((by rw [hg]; exact (below_size (by repeat (first | (with_reducible first | exact HB.out | apply below_alloc | apply pw_below_drewN | apply below_drew1 | refine below_set ?_ GE168.out) | exact HB.out))) : w.heap.size ≤ gb169)); have n5_ := Aside0.mk ((by rw [hg]; exact Nat.ne_of_lt (blk_lt (g := gb168) (o := .cells #[.int .u64 a0_0, .int .u64 a0_1] 41 (0, 0)) (by (with_reducible repeat (first | refine blk_drewN ?_ _ | refine blk_drew ?_ | refine blk_alloc ?_ _)); exact BK168.out)) : gb168 ≠ gb169)); have n6_ := Aside0.mk ((by rw [hg]; exact Nat.ne_of_gt (blk_lt (g := gb168) (o := .cells #[.int .u64 a0_0, .int .u64 a0_1] 41 (0, 0)) (by (with_reducible repeat (first | refine blk_drewN ?_ _ | refine blk_drew ?_ | refine blk_alloc ?_ _)); exact BK168.out)) : gb169 ≠ gb168)); clear BK168; clear HB; have BK168 := n0_; have HB := n1_; have BK169 := n2_; have GW169 := n3_; have GE169 := n4_; have NB168_169 := n5_; have NB169_168 := n6_; clear n0_ n1_ n2_ n3_ n4_ n5_ n6_; clear hb hbox hg; have hnb6 := NB168_169.out; have hnc6 := NB169_168.out; have hcz7_0 : w5.cell? ⟨gb168, 0, none⟩ = some (.int .u64 a0_0) := (blk_cell BK168.out 0).trans rfl; have hcz7_1 : w5.cell? ⟨gb168, 1, none⟩ = some (.int .u64 a0_1) := (blk_cell BK168.out 1).trans rfl; have hfz7_0 := blk_frozen BK168.out 0; have hfz7_1 := blk_frozen BK168.out 1; have hcz8_0 : w5.cell? ⟨gb169, 0, none⟩ = some (.int .u64 a1_0) := (blk_cell BK169.out 0).trans rfl; have hcz8_1 : w5.cell? ⟨gb169, 1, none⟩ = some (.int .u64 a1_1) := (blk_cell BK169.out 1).trans rfl; have hfz8_0 := blk_frozen BK169.out 0; have hfz8_1 := blk_frozen BK169.out 1))
  go_ret
  exact ⟨by first | rfl | (simp [errW_none, errW_some] <;> rfl) | (simp [*, errW_none, errW_some] <;> rfl), by repeat (first | (with_reducible first | exact HB.out | apply below_alloc | apply pw_below_drewN | apply below_drew1 | refine below_set ?_ GE168.out | refine below_set ?_ GE169.out) | exact HB.out)⟩
 ·
  rw [if_neg c3] at H
  have c3b0 : decide (a0_0 < a1_0) = false := decide_eq_false c3
  clear c3
  by_cases c9 : a0_0 = a1_0
  ·
   rw [if_pos c9] at H
   have c9b0 : (a0_0 == a1_0) = true := beq_iff_eq.mpr c9
   have c9b1 : (a0_0 != a1_0) = false := bne_eq_false_iff_eq.mpr c9
   clear c9
   obtain rfl := Option.some.inj H
   go_enter Try.func18, Try.ntmps18
   go_wp2_with (first | ((with_reducible refine gate_dst (N := 2) rfl ?_); refine box_event ?hg (N := 2) ?hd (cs := #[.int .u64 a0_0, .int .u64 a0_1]) (t := 41) ?hr ?_; (case hd => rfl); (case hg => rfl); (case hr => first | (go_simp; done) | (go_simp; rfl)); intro gb168 hg w10 hbox hb; have n0_ := Aside0.mk (below_step (by repeat (first | (with_reducible first | exact HB.out | apply below_alloc | apply pw_below_drewN | apply below_drew1) | exact HB.out)) hb); have n1_ := Aside0.mk (hbox); have n2_ := Aside0.mk ((by rw [hg]; exact (below_size (by repeat (first | (with_reducible first | exact HB.out | apply below_alloc | apply pw_below_drewN | apply below_drew1) | exact HB.out))) : w.heap.size ≤ gb168)); have n3_ := Aside0.mk ((by rw [hg]; exact (below_size (by repeat (first | (with_reducible first | exact HB.out | apply below_alloc | apply pw_below_drewN | apply below_drew1) | exact HB.out))) : w.heap.size ≤ gb168)); clear HB; have HB := n0_; have BK168 := n1_; have GW168 := n2_; have GE168 := n3_; clear n0_ n1_ n2_ n3_; clear hb hbox hg) | ((with_reducible refine gate_dst (N := 3) rfl ?_); refine box_event ?hg (N := 3) ?hd (cs := #[.int .u64 a1_0, .int .u64 a1_1]) (t := 41) ?hr ?_; (case hd => rfl); (case hg => rfl); (case hr => first | (go_simp; done) | (go_simp; rfl)); intro gb169 hg w11 hbox hb; have n0_ := Aside0.mk (blk_below (g := gb168) (o := .cells #[.int .u64 a0_0, .int .u64 a0_1] 41 (0, 0)) (by (with_reducible repeat (first | refine blk_drewN ?_ _ | refine blk_drew ?_ | refine blk_alloc ?_ _)); exact BK168.out) hb); have n1_ := Aside0.mk (below_step (by repeat (first | (with_reducible first | exact HB.out | apply below_alloc | apply pw_below_drewN | apply below_drew1 | refine below_set ?_ GE168.out) | exact HB.out)) hb); have n2_ := Aside0.mk (hbox); have n3_ := Aside0.mk ((by rw [hg]; exact (below_size (by repeat (first | (with_reducible first | exact HB.out | apply below_alloc | apply pw_below_drewN | apply below_drew1 | refine below_set ?_ GE168.out) | exact HB.out))) : w.heap.size ≤ gb169)); have n4_ := Aside0.mk ((by rw [hg]; exact (below_size (by repeat (first | (with_reducible first | exact HB.out | apply below_alloc | apply pw_below_drewN | apply below_drew1 | refine below_set ?_ GE168.out) | exact HB.out))) : w.heap.size ≤ gb169)); have n5_ := Aside0.mk ((by rw [hg]; exact Nat.ne_of_lt (blk_lt (g := gb168) (o := .cells #[.int .u64 a0_0, .int .u64 a0_1] 41 (0, 0)) (by (with_reducible repeat (first | refine blk_drewN ?_ _ | refine blk_drew ?_ | refine blk_alloc ?_ _)); exact BK168.out)) : gb168 ≠ gb169)); have n6_ := Aside0.mk ((by rw [hg]; exact Nat.ne_of_gt (blk_lt (g := gb168) (o := .cells #[.int .u64 a0_0, .int .u64 a0_1] 41 (0, 0)) (by (with_reducible repeat (first | refine blk_drewN ?_ _ | refine blk_drew ?_ | refine blk_alloc ?_ _)); exact BK168.out)) : gb169 ≠ gb168)); clear BK168; clear HB; have BK168 := n0_; have HB := n1_; have BK169 := n2_; have GW169 := n3_; have GE169 := n4_; have NB168_169 := n5_; have NB169_168 := n6_; clear n0_ n1_ n2_ n3_ n4_ n5_ n6_; clear hb hbox hg; have hnb12 := NB168_169.out; have hnc12 := NB169_168.out; have hcz13_0 : w11.cell? ⟨gb168, 0, none⟩ = some (.int .u64 a0_0) := (blk_cell BK168.out 0).trans rfl; have hcz13_1 : w11.cell? ⟨gb168, 1, none⟩ = some (.int .u64 a0_1) := (blk_cell BK168.out 1).trans rfl; have hfz13_0 := blk_frozen BK168.out 0; have hfz13_1 := blk_frozen BK168.out 1; have hcz14_0 : w11.cell? ⟨gb169, 0, none⟩ = some (.int .u64 a1_0) := (blk_cell BK169.out 0).trans rfl; have hcz14_1 : w11.cell? ⟨gb169, 1, none⟩ = some (.int .u64 a1_1) := (blk_cell BK169.out 1).trans rfl; have hfz14_0 := blk_frozen BK169.out 0; have hfz14_1 := blk_frozen BK169.out 1))
   go_ret
   exact ⟨by first | rfl | (simp [errW_none, errW_some] <;> rfl) | (simp [*, errW_none, errW_some] <;> rfl), by repeat (first | (with_reducible first | exact HB.out | apply below_alloc | apply pw_below_drewN | apply below_drew1 | refine below_set ?_ GE168.out | refine below_set ?_ GE169.out) | exact HB.out)⟩
  ·
   rw [if_neg c9] at H
   have c9b0 : (a0_0 == a1_0) = false := beq_eq_false_iff_ne.mpr c9
   have c9b1 : (a0_0 != a1_0) = true := bne_iff_ne.mpr c9
   obtain rfl := Option.some.inj H
   go_enter Try.func18, Try.ntmps18
   go_wp2_with (first | ((with_reducible refine gate_dst (N := 2) rfl ?_); refine box_event ?hg (N := 2) ?hd (cs := #[.int .u64 a0_0, .int .u64 a0_1]) (t := 41) ?hr ?_; (case hd => rfl); (case hg => rfl); (case hr => first | (go_simp; done) | (go_simp; rfl)); intro gb168 hg w15 hbox hb; have n0_ := Aside0.mk (below_step (by repeat (first | (with_reducible first | exact HB.out | apply below_alloc | apply pw_below_drewN | apply below_drew1) | exact HB.out)) hb); have n1_ := Aside0.mk (hbox); have n2_ := Aside0.mk ((by rw [hg]; exact (below_size (by repeat (first | (with_reducible first | exact HB.out | apply below_alloc | apply pw_below_drewN | apply below_drew1) | exact HB.out))) : w.heap.size ≤ gb168)); have n3_ := Aside0.mk ((by rw [hg]; exact (below_size (by repeat (first | (with_reducible first | exact HB.out | apply below_alloc | apply pw_below_drewN | apply below_drew1) | exact HB.out))) : w.heap.size ≤ gb168)); clear HB; have HB := n0_; have BK168 := n1_; have GW168 := n2_; have GE168 := n3_; clear n0_ n1_ n2_ n3_; clear hb hbox hg) | ((with_reducible refine gate_dst (N := 3) rfl ?_); refine box_event ?hg (N := 3) ?hd (cs := #[.int .u64 a1_0, .int .u64 a1_1]) (t := 41) ?hr ?_; (case hd => rfl); (case hg => rfl); (case hr => first | (go_simp; done) | (go_simp; rfl)); intro gb169 hg w16 hbox hb; have n0_ := Aside0.mk (blk_below (g := gb168) (o := .cells #[.int .u64 a0_0, .int .u64 a0_1] 41 (0, 0)) (by (with_reducible repeat (first | refine blk_drewN ?_ _ | refine blk_drew ?_ | refine blk_alloc ?_ _)); exact BK168.out) hb); have n1_ := Aside0.mk (below_step (by repeat (first | (with_reducible first | exact HB.out | apply below_alloc | apply pw_below_drewN | apply below_drew1 | refine below_set ?_ GE168.out) | exact HB.out)) hb); have n2_ := Aside0.mk (hbox); have n3_ := Aside0.mk ((by rw [hg]; exact (below_size (by repeat (first | (with_reducible first | exact HB.out | apply below_alloc | apply pw_below_drewN | apply below_drew1 | refine below_set ?_ GE168.out) | exact HB.out))) : w.heap.size ≤ gb169)); have n4_ := Aside0.mk ((by rw [hg]; exact (below_size (by repeat (first | (with_reducible first | exact HB.out | apply below_alloc | apply pw_below_drewN | apply below_drew1 | refine below_set ?_ GE168.out) | exact HB.out))) : w.heap.size ≤ gb169)); have n5_ := Aside0.mk ((by rw [hg]; exact Nat.ne_of_lt (blk_lt (g := gb168) (o := .cells #[.int .u64 a0_0, .int .u64 a0_1] 41 (0, 0)) (by (with_reducible repeat (first | refine blk_drewN ?_ _ | refine blk_drew ?_ | refine blk_alloc ?_ _)); exact BK168.out)) : gb168 ≠ gb169)); have n6_ := Aside0.mk ((by rw [hg]; exact Nat.ne_of_gt (blk_lt (g := gb168) (o := .cells #[.int .u64 a0_0, .int .u64 a0_1] 41 (0, 0)) (by (with_reducible repeat (first | refine blk_drewN ?_ _ | refine blk_drew ?_ | refine blk_alloc ?_ _)); exact BK168.out)) : gb169 ≠ gb168)); clear BK168; clear HB; have BK168 := n0_; have HB := n1_; have BK169 := n2_; have GW169 := n3_; have GE169 := n4_; have NB168_169 := n5_; have NB169_168 := n6_; clear n0_ n1_ n2_ n3_ n4_ n5_ n6_; clear hb hbox hg; have hnb17 := NB168_169.out; have hnc17 := NB169_168.out; have hcz18_0 : w16.cell? ⟨gb168, 0, none⟩ = some (.int .u64 a0_0) := (blk_cell BK168.out 0).trans rfl; have hcz18_1 : w16.cell? ⟨gb168, 1, none⟩ = some (.int .u64 a0_1) := (blk_cell BK168.out 1).trans rfl; have hfz18_0 := blk_frozen BK168.out 0; have hfz18_1 := blk_frozen BK168.out 1; have hcz19_0 : w16.cell? ⟨gb169, 0, none⟩ = some (.int .u64 a1_0) := (blk_cell BK169.out 0).trans rfl; have hcz19_1 : w16.cell? ⟨gb169, 1, none⟩ = some (.int .u64 a1_1) := (blk_cell BK169.out 1).trans rfl; have hfz19_0 := blk_frozen BK169.out 0; have hfz19_1 := blk_frozen BK169.out 1))
   go_ret
   exact ⟨by first | rfl | (simp [errW_none, errW_some] <;> rfl) | (simp [*, errW_none, errW_some] <;> rfl), by repeat (first | (with_reducible first | exact HB.out | apply below_alloc | apply pw_below_drewN | apply below_drew1 | refine below_set ?_ GE168.out | refine below_set ?_ GE169.out) | exact HB.out)⟩




end Go.Proofs.Ytejchnmhlcbfcaa.Pr
