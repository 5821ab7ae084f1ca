/- Functions that the statement reaches: what each answers, and that the program answers it (written by a program of this work). -/
import Derived.Test.YtapkjfnfkalibaaProg
import Derived.Below
import Derived.Deep.Draws
import Derived.Deep.AppendLies
import Derived.Maps.AppendAt
import Derived.OwnWalk
import Derived.Laws.BytesArg
import Derived.Laws.MakeOwn
import Derived.Laws.OwnMore
import Derived.Deep.OwnRows
import Derived.Tactics
import Derived.Lib.ConvBytes
import Derived.Laws.Slices
import Derived.WalkKit
import Derived.KernelRfl
import Derived.RowKit3
import Derived.Deep.LoopGhost
import Derived.Deep.QuietTactic
import Derived.BigQuiet
import Derived.WideLaws
import Derived.Deep.DeepCutAuto
import Derived.Deep.CutBlock
import Derived.Deep.RegionHeld3
import Derived.Laws.Rows
import Derived.Lib.AppendStr
import Derived.ArgAppend
import Derived.Laws.IdiomCopy
import Derived.OrdersHeld
import Derived.Laws.BitsLemmas
import Derived.RowKit
import Derived.WalkMore
import Derived.Test.YtapkjfnfkalibaaVBindingLists
import Derived.Test.YtapkjfnfkalibaaBBindingLists
import Derived.Test.YtapkjfnfkalibaaQBindingLists0
import Derived.Test.YtapkjfnfkalibaaQBindingLists2
import Derived.Test.YtapkjfnfkalibaaQBindingLists3
namespace Go.Proofs.Ytapkjfnfkalibaa.Pr
open Go.RowKit Go.Proofs.YtapkjfnfkalibaaW.PrintWords Go.Proofs.YtapkjfnfkalibaaW.PrintLast Go.Proofs.YtapkjfnfkalibaaW.PrintMore
attribute [local go_sem] Instr.field asAgg
attribute [local go_sem] max2_int min2_int max_two min_two max_three min_three max_four min_four   -- for this text's walks alone
set_option linter.unusedVariables false
set_option linter.unusedSimpArgs false
/-! ### r40_Eval: function 16 -/
mutual
def r40_Eval.l0 : Nat → List (S51) → Int → List (S54) → List Int → List Int → Int → Option (List Int × Int)
 | 0, _, _, _, _, _, _ => none
 | k + 1, x0, x2, x3, x4, x13, x14 => if x14 < (x3.length : Int) then (if 0 ≤ x2 then (if x2 < (x0.length : Int) then (if 0 ≤ x14 then ((r40_color.f k ((rd_T51 x0 x2).f0) ((rd_T51 x0 x2).f1) ((rd_T54 x3 x14).f0) ((rd_T54 x3 x14).f1) ((rd_T54 x3 x14).f2) x4).bind fun t313 => (r40_Eval.l1 k x0 x2 x3 x4 x13 x14 t313 0)) else (none)) else (none)) else (none)) else (some (x13, 0))
def r40_Eval.l1 : Nat → List (S51) → Int → List (S54) → List Int → List Int → Int → Int → Int → Option (List Int × Int)
 | 0, _, _, _, _, _, _, _, _ => none
 | k + 1, x0, x2, x3, x4, x13, x14, x15, x16 => if x16 < (x13.length : Int) then (if x15 = (-1) then (r40_Eval.j2 k x0 x2 x3 x4 x13 x14 x15 x16 true) else (r40_Eval.j2 k x0 x2 x3 x4 x13 x14 x15 x16 (x15 == x16))) else (r40_Eval.l0 k x0 x2 x3 x4 x13 (wrap64 (x14 + 1)))
def r40_Eval.j2 : Nat → List (S51) → Int → List (S54) → List Int → List Int → Int → Int → Int → Bool → Option (List Int × Int)
 | 0, _, _, _, _, _, _, _, _, _ => none
 | k + 1, x0, x2, x3, x4, x13, x14, x15, x16, x65 => if x65 = true then (if 0 ≤ x16 then (if x16 < (x13.length : Int) then (if 0 ≤ x14 then (if x14 < (x3.length : Int) then (if (wrap64 ((rd x13 x16) + ((rd_T54 x3 x14).f0))) > 1048576 then (some (([] : List Int), 3)) else (r40_Eval.l1 k x0 x2 x3 x4 (x13.set (x16 : Int).toNat (wrap64 ((rd x13 x16) + ((rd_T54 x3 x14).f0)))) x14 x15 (wrap64 (x16 + 1)))) else (none)) else (none)) else (none)) else (none)) else (if 0 ≤ x16 then (if x16 < (x13.length : Int) then (if (rd x13 x16) > 1048576 then (some (([] : List Int), 3)) else (r40_Eval.l1 k x0 x2 x3 x4 x13 x14 x15 (wrap64 (x16 + 1)))) else (none)) else (none))
end
def r40_Eval.f (k : Nat) (l0 : List (S51)) (a1_0 : ByteArray) (l1_1 : List (S48)) (l1_2 : List (S62)) (l1_3 : List (S111)) (l1_4 : List (S111)) (a2 : Int) (l3 : List (S54)) (l4 : List Int) : Option (List Int × Int) := (r40_CheckTerms.f k l0 a1_0 l1_1 l1_2 l1_3 l1_4 a2 l3).bind fun t305 => (if t305 = 0 then ((r40_Bound.f k l0 a1_0 l1_1 l1_2 l1_3 l1_4 l4).bind fun t306 => (if t306 = true then (if 0 ≤ a2 then (if a2 < (l0.length : Int) then (if 0 ≤ (((rd_T51 l0 a2).f1).length : Int) then (if ((((rd_T51 l0 a2).f1).length : Int) : Int).toNat ≤ 35184372088832 then (r40_Eval.l0 k l0 a2 l3 l4 (List.replicate ((((rd_T51 l0 a2).f1).length : Int) : Int).toNat 0) 0) else (none)) else (none)) else (none)) else (none)) else (some (([] : List Int), 15)))) else (some (([] : List Int), t305)))
theorem r40_Eval.mono_l : ∀ k, (∀ y0 y1 y2 y3 y4 y5, LeO (r40_Eval.l0 k y0 y1 y2 y3 y4 y5) (r40_Eval.l0 (k + 1) y0 y1 y2 y3 y4 y5)) ∧ (∀ y0 y1 y2 y3 y4 y5 y6 y7, LeO (r40_Eval.l1 k y0 y1 y2 y3 y4 y5 y6 y7) (r40_Eval.l1 (k + 1) y0 y1 y2 y3 y4 y5 y6 y7)) ∧ (∀ y0 y1 y2 y3 y4 y5 y6 y7 y8, LeO (r40_Eval.j2 k y0 y1 y2 y3 y4 y5 y6 y7 y8) (r40_Eval.j2 (k + 1) y0 y1 y2 y3 y4 y5 y6 y7 y8))
 | 0 => ⟨fun _ _ _ _ _ _ r h => by simp [r40_Eval.l0] at h, fun _ _ _ _ _ _ _ _ r h => by simp [r40_Eval.l1] at h, fun _ _ _ _ _ _ _ _ _ r h => by simp [r40_Eval.j2] at h⟩
 | k + 1 => by
  obtain ⟨ih0, ih1, ih2⟩ := r40_Eval.mono_l k
  refine ⟨?_, ?_, ?_⟩
  ·intro y0 y1 y2 y3 y4 y5
   unfold r40_Eval.l0
   repeat' first
   | (with_reducible first | exact ih0 _ _ _ _ _ _ | exact ih1 _ _ _ _ _ _ _ _ | exact ih2 _ _ _ _ _ _ _ _ _ | exact r40_Bound.mono _ _ _ _ _ _ _ _ | exact r40_CheckTerms.mono _ _ _ _ _ _ _ _ _ | exact r40_color.mono _ _ _ _ _ _ _ | exact LeO.refl _ | exact LeO.none _ | refine LeO.ite ?_ ?_ | refine LeO.bind ?_ (fun _ => ?_))
   | exact LeO.none _
   | refine LeO.ite ?_ ?_
   | refine LeO.bind ?_ (fun _ => ?_)
  ·intro y0 y1 y2 y3 y4 y5 y6 y7
   unfold r40_Eval.l1
   repeat' first
   | (with_reducible first | exact ih0 _ _ _ _ _ _ | exact ih1 _ _ _ _ _ _ _ _ | exact ih2 _ _ _ _ _ _ _ _ _ | exact r40_Bound.mono _ _ _ _ _ _ _ _ | exact r40_CheckTerms.mono _ _ _ _ _ _ _ _ _ | exact r40_color.mono _ _ _ _ _ _ _ | exact LeO.refl _ | exact LeO.none _ | refine LeO.ite ?_ ?_ | refine LeO.bind ?_ (fun _ => ?_))
   | exact LeO.none _
   | refine LeO.ite ?_ ?_
   | refine LeO.bind ?_ (fun _ => ?_)
  ·intro y0 y1 y2 y3 y4 y5 y6 y7 y8
   unfold r40_Eval.j2
   repeat' first
   | (with_reducible first | exact ih0 _ _ _ _ _ _ | exact ih1 _ _ _ _ _ _ _ _ | exact ih2 _ _ _ _ _ _ _ _ _ | exact r40_Bound.mono _ _ _ _ _ _ _ _ | exact r40_CheckTerms.mono _ _ _ _ _ _ _ _ _ | exact r40_color.mono _ _ _ _ _ _ _ | exact LeO.refl _ | exact LeO.none _ | refine LeO.ite ?_ ?_ | refine LeO.bind ?_ (fun _ => ?_))
   | exact LeO.none _
   | refine LeO.ite ?_ ?_
   | refine LeO.bind ?_ (fun _ => ?_)
theorem r40_Eval.mono : ∀ a0 a1 a2 a3 a4 a5 a6 a7 a8 k, LeO (r40_Eval.f k a0 a1 a2 a3 a4 a5 a6 a7 a8) (r40_Eval.f (k + 1) a0 a1 a2 a3 a4 a5 a6 a7 a8) := by
 intro a0 a1 a2 a3 a4 a5 a6 a7 a8 k
 obtain ⟨ih0, ih1, ih2⟩ := r40_Eval.mono_l k
 unfold r40_Eval.f
 repeat' first
   | (with_reducible first | exact ih0 _ _ _ _ _ _ | exact ih1 _ _ _ _ _ _ _ _ | exact ih2 _ _ _ _ _ _ _ _ _ | exact r40_Bound.mono _ _ _ _ _ _ _ _ | exact r40_CheckTerms.mono _ _ _ _ _ _ _ _ _ | exact r40_color.mono _ _ _ _ _ _ _ | exact LeO.refl _ | exact LeO.none _ | refine LeO.ite ?_ ?_ | refine LeO.bind ?_ (fun _ => ?_))
   | exact LeO.none _
   | refine LeO.ite ?_ ?_
   | refine LeO.bind ?_ (fun _ => ?_)



/-! ### r04_Same: function 17 -/
def r04_Same.l0 : Nat → List Int → List Int → Int → Option (Bool)
 | 0, _, _, _ => none
 | k + 1, x0, x1, x5 => if x5 < (x0.length : Int) then (if 0 ≤ x5 then (if x5 < (x1.length : Int) then (if (rd x0 x5) = (rd x1 x5) then (r04_Same.l0 k x0 x1 (wrap64 (x5 + 1))) else (some false)) else (none)) else (none)) else (some true)
def r04_Same.f (k : Nat) (l0 : List Int) (l1 : List Int) : Option (Bool) := if (l0.length : Int) = (l1.length : Int) then (r04_Same.l0 k l0 l1 0) else (some false)
theorem r04_Same.mono_l : ∀ k, (∀ y0 y1 y2, LeO (r04_Same.l0 k y0 y1 y2) (r04_Same.l0 (k + 1) y0 y1 y2))
 | 0 => fun _ _ _ r h => by simp [r04_Same.l0] at h
 | k + 1 => by
  have ih0 := r04_Same.mono_l k
  ·intro y0 y1 y2
   unfold r04_Same.l0
   repeat' first
   | (with_reducible first | exact ih0 _ _ _ | exact LeO.refl _ | exact LeO.none _ | refine LeO.ite ?_ ?_ | refine LeO.bind ?_ (fun _ => ?_))
   | exact LeO.none _
   | refine LeO.ite ?_ ?_
   | refine LeO.bind ?_ (fun _ => ?_)
theorem r04_Same.mono : ∀ a0 a1 k, LeO (r04_Same.f k a0 a1) (r04_Same.f (k + 1) a0 a1) := by
 intro a0 a1 k
 have ih0 := r04_Same.mono_l k
 unfold r04_Same.f
 repeat' first
   | (with_reducible first | exact ih0 _ _ _ | exact LeO.refl _ | exact LeO.none _ | refine LeO.ite ?_ ?_ | refine LeO.bind ?_ (fun _ => ?_))
   | exact LeO.none _
   | refine LeO.ite ?_ ?_
   | refine LeO.bind ?_ (fun _ => ?_)
set_option maxHeartbeats 8000000 in
set_option maxRecDepth 100000 in
theorem r04_Same.calls (k : Nat) (A0 : Option Addr) (c0 : Nat) (l0 : List Int) (A1 : Option Addr) (c1 : Nat) (l1 : List Int) (r : Bool) (w : World) (hr0 : Kd.C (Kd.int .i64) w A0 l0.length l0) (hc0 : l0.length ≤ c0) (hr1 : Kd.C (Kd.int .i64) w A1 l1.length l1) (hc1 : l1.length ≤ c1) (h : r04_Same.f k l0 l1 = some r) :
  Calls Try.prog 17 #[.slice A0 l0.length c0, .slice A1 l1.length c1] w fun e w' => e = .returned (.bool r) ∧ Drawn0 w w' := by
 have HR0 := aM hr0; have HC0 := aM hc0; clear hr0 hc0; have HR1 := aM hr1; have HC1 := aM hc1; clear hr1 hc1; have H : (if (l0.length : Int) = (l1.length : Int) then (r04_Same.l0 k l0 l1 0) else (some false)) = some r := h; clear h
 by_cases c3 : (l0.length : Int) = (l1.length : Int)
 ·rw [if_pos c3] at H
  have c3b0 : ((l0.length : Int) == (l1.length : Int)) = true := beq_iff_eq.mpr c3; have c3b1 : ((l0.length : Int) != (l1.length : Int)) = false := bne_eq_false_iff_eq.mpr c3
  have c3b2 : (l0.length == l1.length) = true := by first | simpa using c3 | (simp at c3 ⊢; omega)
  clear c3
  have H' := aM H
  clear H
  go_enter Try.func17, Try.ntmps17
  go_wp2
  repeat (go_quiet (fail); try go_wp2)
  go_loopg [5] k (fun kq v5 w' => ∃ (x5_1 : Int), v5 = .int .i64 x5_1 ∧ Aside0 (r04_Same.l0 kq l0 l1 x5_1 = some r) ∧ Aside0 (kq ≤ k) ∧ Drawn0 w w')
  case atStart => exact ⟨(0), eT, H', ⟨Nat.le_refl _⟩, by repeat (first | exact Drawn0.refl _ | apply Drawn0.step)⟩
  case round =>
   clear H'
   obtain ⟨x5_1, rfl, HA, HK1, ⟨m1, rfl⟩⟩ := hrel
   cases gk with
   | zero => exact absurd HA.out (by simp [r04_Same.l0])
   | succ k1 =>
    have H := HA.out; clear HA
    simp only [r04_Same.l0] at H
    by_cases c4 : x5_1 < (l0.length : Int)
    ·rw [if_pos c4] at H
     have c4b0 : decide (x5_1 < (l0.length : Int)) = true := decide_eq_true c4; clear c4
     by_cases c5 : 0 ≤ x5_1
     ·rw [if_pos c5] at H
      have c5b0 : decide (0 ≤ x5_1) = true := decide_eq_true c5; clear c5
      by_cases c6 : x5_1 < (l1.length : Int)
      ·rw [if_pos c6] at H
       have c6b0 : decide (x5_1 < (l1.length : Int)) = true := decide_eq_true c6; clear c6
       by_cases c7 : (rd l0 x5_1) = (rd l1 x5_1)
       ·rw [if_pos c7] at H
        have c7b0 : ((rd l0 x5_1) == (rd l1 x5_1)) = true := beq_iff_eq.mpr c7; have c7b1 : ((rd l0 x5_1) != (rd l1 x5_1)) = false := bne_eq_false_iff_eq.mpr c7; clear c7
        have H' := aM H
        clear H; have p319 : 0 ≤ (x5_1 : Int) := dT; have q319 : x5_1 < (l0.length : Int) := dT; obtain ⟨ad319, e319, hx319_0⟩ := Kd.at_int HR0.out x5_1 p319 q319; cases e319; replace p319 := eq_true p319; replace q319 := eq_true q319; have p320 : 0 ≤ (x5_1 : Int) := dT; have q320 : x5_1 < (l1.length : Int) := dT; obtain ⟨ad320, e320, hx320_0⟩ := Kd.at_int HR1.out x5_1 p320 q320; cases e320; replace p320 := eq_true p320; replace q320 := eq_true q320
        go_wp2
        repeat (go_quiet (fail); try go_wp2)
        go_roundg k1
        case measure => have := HK1.out; omega
        case rel => exact ⟨(wrap64 (x5_1 + 1)), eT, H', ⟨by have := HK1.out; omega⟩, by repeat (first | exact Drawn0.refl _ | apply Drawn0.step)⟩
       ·rw [if_neg c7] at H
        have c7b0 : ((rd l0 x5_1) == (rd l1 x5_1)) = false := beq_eq_false_iff_ne.mpr c7; have c7b1 : ((rd l0 x5_1) != (rd l1 x5_1)) = true := bne_iff_ne.mpr c7
        obtain rfl := Option.some.inj H
        have p319 : 0 ≤ (x5_1 : Int) := dT; have q319 : x5_1 < (l0.length : Int) := dT; obtain ⟨ad319, e319, hx319_0⟩ := Kd.at_int HR0.out x5_1 p319 q319; cases e319; replace p319 := eq_true p319; replace q319 := eq_true q319; have p320 : 0 ≤ (x5_1 : Int) := dT; have q320 : x5_1 < (l1.length : Int) := dT; obtain ⟨ad320, e320, hx320_0⟩ := Kd.at_int HR1.out x5_1 p320 q320; cases e320; replace p320 := eq_true p320; replace q320 := eq_true q320
        go_wp2
        repeat (go_quiet (fail); try go_wp2)
        go_ret
        exact ⟨by first | rfl | (simp; done) | (simp [*]; done), by repeat (first | exact Drawn0.refl _ | apply Drawn0.step)⟩
      ·rw [if_neg c6] at H
       exact absurd H (by simp)
     ·rw [if_neg c5] at H
      exact absurd H (by simp)
    ·rw [if_neg c4] at H
     have c4b0 : decide (x5_1 < (l0.length : Int)) = false := decide_eq_false c4; clear c4
     obtain rfl := Option.some.inj H
     go_wp2
     repeat (go_quiet (fail); try go_wp2)
     go_ret
     exact ⟨by first | rfl | (simp; done) | (simp [*]; done), by repeat (first | exact Drawn0.refl _ | apply Drawn0.step)⟩
 ·rw [if_neg c3] at H
  have c3b0 : ((l0.length : Int) == (l1.length : Int)) = false := beq_eq_false_iff_ne.mpr c3; have c3b1 : ((l0.length : Int) != (l1.length : Int)) = true := bne_iff_ne.mpr c3
  have c3b2 : (l0.length == l1.length) = false := by first | simpa using c3 | (simp at c3 ⊢; omega)
  obtain rfl := Option.some.inj H
  go_enter Try.func17, Try.ntmps17
  go_wp2
  repeat (go_quiet (fail); try go_wp2)
  go_ret
  exact ⟨by first | rfl | (simp; done) | (simp [*]; done), by repeat (first | exact Drawn0.refl _ | apply Drawn0.step)⟩




section
-- STUBBED 19
/-! ### r40_Holds: function 19: by hand -/
open Go.Proofs.Ytapkjfnfkalibaa.Iter

def r40_Holds.f (k : Nat) (x : List S51) (a1 : ByteArray) (b1 : List S48) (c1 : List S62) (d1 : List S111) (e1 : List S111) (l2 : List Int) : Option Bool := (r40_Check.f k x a1 b1 c1 d1 e1).bind fun e => if e = 0 then (r40_Bound.f k x a1 b1 c1 d1 e1 l2).bind fun b => if b = true then (if c1.length ≤ 1000 then holdsGo l2 c1 else none) else some false else some false
theorem r40_Holds.mono (x : List S51) (a1 : ByteArray) (b1 : List S48) (c1 : List S62) (d1 : List S111) (e1 : List S111) (l2 : List Int) (k : Nat) : LeO (r40_Holds.f k x a1 b1 c1 d1 e1 l2) (r40_Holds.f (k + 1) x a1 b1 c1 d1 e1 l2) := by
 unfold r40_Holds.f
 exact LeO.bind (r40_Check.mono _ _ _ _ _ _ _) fun e => LeO.ite (LeO.bind (r40_Bound.mono _ _ _ _ _ _ _ _) fun b => LeO.refl _) (LeO.refl _)
theorem rh5 {W : World} {g : Nat} {t : TypeId} {x y z u v : Value} (h : Blk W g t [x, y, z, u, v]) : W.cell? ⟨g, 1, none⟩ = some y ∧ W.cell? ⟨g, 2, none⟩ = some z := by
 refine ⟨?_, ?_⟩ <;> simp [World.cell?, show W.heap[g]? = _ from h]
theorem rh5all {W : World} {g : Nat} {t : TypeId} {x y z u v : Value} (h : Blk W g t [x, y, z, u, v]) : W.cell? ⟨g, 0, none⟩ = some x ∧ W.cell? ⟨g, 1, none⟩ = some y ∧ W.cell? ⟨g, 2, none⟩ = some z ∧ W.cell? ⟨g, 3, none⟩ = some u ∧ W.cell? ⟨g, 4, none⟩ = some v := by
 refine ⟨?_, ?_, ?_, ?_, ?_⟩ <;> simp [World.cell?, show W.heap[g]? = _ from h]
set_option maxHeartbeats 16000000 in
set_option maxRecDepth 100000 in
theorem r40_Holds.calls (k : Nat) (A0 : Option Addr) (c0 : Nat) (l0 : List S51) (a1_0 : ByteArray) (A1_1 : Option Addr) (c1_1 : Nat) (l1_1 : List S48) (A1_2 : Option Addr) (c1_2 : Nat) (l1_2 : List S62) (A1_3 : Option Addr) (c1_3 : Nat) (l1_3 : List S111) (A1_4 : Option Addr) (c1_4 : Nat) (l1_4 : List S111) (A2 : Option Addr) (c2 : Nat) (l2 : List Int) (r : Bool) (w : World) (hr0 : Kd.C k51 w A0 l0.length l0) (hc0 : l0.length ≤ c0) (hr1_1 : Kd.C k48 w A1_1 l1_1.length l1_1) (hc1_1 : l1_1.length ≤ c1_1) (hr1_2 : Kd.C k62 w A1_2 l1_2.length l1_2) (hc1_2 : l1_2.length ≤ c1_2) (hr1_3 : Kd.C k111 w A1_3 l1_3.length l1_3) (hc1_3 : l1_3.length ≤ c1_3) (hr1_4 : Kd.C k111 w A1_4 l1_4.length l1_4) (hc1_4 : l1_4.length ≤ c1_4) (hr2 : Kd.C (Kd.int .i64) w A2 l2.length l2) (hc2 : l2.length ≤ c2) (h : r40_Holds.f k l0 a1_0 l1_1 l1_2 l1_3 l1_4 l2 = some r) :
  Calls Try.prog 19 #[.slice A0 l0.length c0, .agg #[.string a1_0, .slice A1_1 l1_1.length c1_1, .slice A1_2 l1_2.length c1_2, .slice A1_3 l1_3.length c1_3, .slice A1_4 l1_4.length c1_4], .slice A2 l2.length c2] w fun e w' => e = .returned (.bool r) ∧ Below w.heap.size w w' := by
 unfold r40_Holds.f at h
 have K0 := Aside0.mk hr0
 have K0c := Aside0.mk hc0
 have K1 := Aside0.mk hr1_1
 have K1c := Aside0.mk hc1_1
 have HRG := Aside0.mk hr1_2
 have K2c := Aside0.mk hc1_2
 have K3 := Aside0.mk hr1_3
 have K3c := Aside0.mk hc1_3
 have K4 := Aside0.mk hr1_4
 have K4c := Aside0.mk hc1_4
 have HRB := Aside0.mk hr2
 have K5c := Aside0.mk hc2
 clear hr0 hc0 hr1_1 hc1_1 hr1_2 hc1_2 hr1_3 hc1_3 hr1_4 hc1_4 hr2 hc2
 obtain ⟨er, hk, h⟩ := Option.bind_eq_some_iff.mp h
 have HK := Aside0.mk hk
 clear hk
 by_cases her : er = 0
 ·subst her
  rw [if_pos rfl] at h
  obtain ⟨v, hv, h⟩ := Option.bind_eq_some_iff.mp h
  have HV := Aside0.mk hv
  clear hv
  cases v with
  | false =>
   rw [if_neg (by simp), Option.some.injEq] at h
   subst h
   go_enter Try.func19, Try.ntmps19
   go_wp2_with (first | (go_at_call 12; (with_reducible refine (r40_Check.calls k A0 c0 l0 _ A1_1 c1_1 l1_1 A1_2 c1_2 l1_2 A1_3 c1_3 l1_3 A1_4 c1_4 l1_4 0 _ (Kd.C_alloc K0.out _) K0c.out (Kd.C_alloc K1.out _) K1c.out (Kd.C_alloc HRG.out _) K2c.out (Kd.C_alloc K3.out _) K3c.out (Kd.C_alloc K4.out _) K4c.out HK.out).mono ?_); rintro e w1 ⟨rfl, hb1⟩; have HS1 := Aside0.mk (show Blk w1 w.heap.size 27 [.string a1_0, .slice A1_1 l1_1.length c1_1, .slice A1_2 l1_2.length c1_2, .slice A1_3 l1_3.length c1_3, .slice A1_4 l1_4.length c1_4] from blk_later (World.alloc_heap_new w (.cells #[.string a1_0, .slice A1_1 l1_1.length c1_1, .slice A1_2 l1_2.length c1_2, .slice A1_3 l1_3.length c1_3, .slice A1_4 l1_4.length c1_4] 27)) hb1); have HB1 := Aside0.mk (show Below w.heap.size w w1 from ((Below.refl _ w).alloc (Nat.le_refl _) _).trans (hb1.mono (by simp))); obtain ⟨z0, z1, z2, z3, z4⟩ := rh5all HS1.out; clear hb1) | (go_at_call 40; (with_reducible refine (r40_Bound.calls k A0 c0 l0 _ A1_1 c1_1 l1_1 A1_2 c1_2 l1_2 A1_3 c1_3 l1_3 A1_4 c1_4 l1_4 A2 c2 l2 false _ ?h0 K0c.out ?h1 K1c.out ?h2 K2c.out ?h3 K3c.out ?h4 K4c.out ?h5 K5c.out HV.out).mono ?_); (case h0 => exact Kd.C_below K0.out HB1.out); (case h1 => exact Kd.C_below K1.out HB1.out); (case h2 => exact Kd.C_below HRG.out HB1.out); (case h3 => exact Kd.C_below K3.out HB1.out); (case h4 => exact Kd.C_below K4.out HB1.out); (case h5 => exact Kd.C_below HRB.out HB1.out); rintro e w2 ⟨rfl, hb2⟩; have HS := Aside0.mk (blk_later HS1.out hb2); have HB := Aside0.mk (below_step HB1.out hb2); clear hb2))
   go_ret
   exact ⟨rfl, HB.out⟩
  | true =>
   rw [if_pos rfl] at h
   by_cases hle : l1_2.length ≤ 1000
   ·rw [if_pos hle] at h
    have HH := Aside0.mk (show holdsGo l2 (l1_2.drop 0) = some r by rw [List.drop_zero]; exact h)
    clear h
    go_enter Try.func19, Try.ntmps19
    go_wp2_with (first | (go_at_call 12; (with_reducible refine (r40_Check.calls k A0 c0 l0 _ A1_1 c1_1 l1_1 A1_2 c1_2 l1_2 A1_3 c1_3 l1_3 A1_4 c1_4 l1_4 0 _ (Kd.C_alloc K0.out _) K0c.out (Kd.C_alloc K1.out _) K1c.out (Kd.C_alloc HRG.out _) K2c.out (Kd.C_alloc K3.out _) K3c.out (Kd.C_alloc K4.out _) K4c.out HK.out).mono ?_); rintro e w1 ⟨rfl, hb1⟩; have HS1 := Aside0.mk (show Blk w1 w.heap.size 27 [.string a1_0, .slice A1_1 l1_1.length c1_1, .slice A1_2 l1_2.length c1_2, .slice A1_3 l1_3.length c1_3, .slice A1_4 l1_4.length c1_4] from blk_later (World.alloc_heap_new w (.cells #[.string a1_0, .slice A1_1 l1_1.length c1_1, .slice A1_2 l1_2.length c1_2, .slice A1_3 l1_3.length c1_3, .slice A1_4 l1_4.length c1_4] 27)) hb1); have HB1 := Aside0.mk (show Below w.heap.size w w1 from ((Below.refl _ w).alloc (Nat.le_refl _) _).trans (hb1.mono (by simp))); obtain ⟨z0, z1, z2, z3, z4⟩ := rh5all HS1.out; clear hb1) | (go_at_call 40; (with_reducible refine (r40_Bound.calls k A0 c0 l0 _ A1_1 c1_1 l1_1 A1_2 c1_2 l1_2 A1_3 c1_3 l1_3 A1_4 c1_4 l1_4 A2 c2 l2 true _ ?h0 K0c.out ?h1 K1c.out ?h2 K2c.out ?h3 K3c.out ?h4 K4c.out ?h5 K5c.out HV.out).mono ?_); (case h0 => exact Kd.C_below K0.out HB1.out); (case h1 => exact Kd.C_below K1.out HB1.out); (case h2 => exact Kd.C_below HRG.out HB1.out); (case h3 => exact Kd.C_below K3.out HB1.out); (case h4 => exact Kd.C_below K4.out HB1.out); (case h5 => exact Kd.C_below HRB.out HB1.out); rintro e w2 ⟨rfl, hb2⟩; have HS := Aside0.mk (blk_later HS1.out hb2); have HB := Aside0.mk (below_step HB1.out hb2); clear hb2))
    clear HS1 HB1 z0 z1 z2 z3 z4
    go_loopw [7] (fun v7 wr => ∃ j : Nat, v7 = .int .i64 (j : Int) ∧ j ≤ l1_2.length ∧ Aside0 (holdsGo l2 (l1_2.drop j) = some r) ∧ Aside0 (Blk wr w.heap.size 27 [.string a1_0, .slice A1_1 l1_1.length c1_1, .slice A1_2 l1_2.length c1_2, .slice A1_3 l1_3.length c1_3, .slice A1_4 l1_4.length c1_4]) ∧ Aside0 (Below w.heap.size w wr)) (fun v7 _ => l1_2.length + 1 - (intOf v7).toNat)
    case atStart => exact ⟨0, rfl, Nat.zero_le _, HH, HS, HB⟩
    case round =>
     clear HH HB HS
     obtain ⟨j, rfl, hj, HH, HS, HB⟩ := hrel
     by_cases hjl : j < l1_2.length
     ·have H := HH.out
      obtain ⟨adg, eg, hg0, hg1, hg2⟩ := at_T62 HRG.out (j : Int) (by omega) (by omega)
      obtain ⟨g, egg⟩ : ∃ g, g = l1_2[j] := ⟨_, rfl⟩
      rw [show rd_T62 l1_2 (j : Int) = g by rw [egg]; simp [rd_T62, hjl]] at hg0 hg1 hg2
      rw [Int.toNat_natCast] at hg0 hg1 hg2
      rw [List.drop_eq_getElem_cons hjl, holdsGo, ← egg] at H
      replace hg0 := (HB.out.cell (World.block_lt_of_cell? w _ hg0)).trans hg0
      replace hg1 := (HB.out.cell (World.block_lt_of_cell? w _ hg1)).trans hg1
      replace hg2 := (HB.out.cell (World.block_lt_of_cell? w _ hg2)).trans hg2
      cases eg
      clear egg
      have hv2 := (rh5 HS.out).2
      have hsr := HB.out.size
      have p1 : (0 ≤ (j : Int)) = True := eq_true (by omega)
      have qq1 : ((j : Int) < (l1_2.length : Int)) = True := eq_true (by omega)
      have qq3 : decide ((j : Int) < (l1_2.length : Int)) = true := decide_eq_true (by omega)
      by_cases hin : (0 ≤ g.f1 ∧ g.f1 < (l2.length : Int)) ∧ 0 ≤ g.f2 ∧ g.f2 < (l2.length : Int)
      ·rw [if_pos hin] at H
       obtain ⟨⟨b1, b2⟩, b3, b4⟩ := hin
       obtain ⟨adv, ev1, hy⟩ := Kd.at_int HRB.out g.f1 b1 b2
       obtain ⟨adw, ev2, hz⟩ := Kd.at_int HRB.out g.f2 b3 b4
       obtain rfl : adv = adw := by rw [ev1] at ev2; injection ev2
       obtain ⟨x, ex⟩ : ∃ x, rd l2 g.f1 = x := ⟨_, rfl⟩
       obtain ⟨y, ey⟩ : ∃ y, rd l2 g.f2 = y := ⟨_, rfl⟩
       rw [ex] at hy H
       rw [ey] at hz H
       have hY : ∀ o, (wr.alloc o).cell? _ = _ := fun o => ((below_alloc HB.out o).cell (World.block_lt_of_cell? w _ hy)).trans hy
       have hZ : ∀ o, (wr.alloc o).cell? _ = _ := fun o => ((below_alloc HB.out o).cell (World.block_lt_of_cell? w _ hz)).trans hz
       have r1 : (0 ≤ g.f1) = True := eq_true b1
       have r2 : (g.f1 < (l2.length : Int)) = True := eq_true b2
       have r3 : (0 ≤ g.f2) = True := eq_true b3
       have r4 : (g.f2 < (l2.length : Int)) = True := eq_true b4
       cases ev1
       clear ev2 hy hz b1 b2 b3 b4 ex ey
       have H2 := Aside0.mk H
       clear H
       obtain ⟨e1, q1⟩ : ∃ b, (g.f0 == 1) = b := ⟨_, rfl⟩
       obtain ⟨e2, q2⟩ : ∃ b, (g.f0 == 2) = b := ⟨_, rfl⟩
       obtain ⟨e3, q3⟩ : ∃ b, (g.f0 == 3) = b := ⟨_, rfl⟩
       obtain ⟨n1, s1⟩ : ∃ b, (x != y) = b := ⟨_, rfl⟩
       obtain ⟨n2, s2⟩ : ∃ b, (x == y) = b := ⟨_, rfl⟩
       obtain ⟨n3, s3⟩ : ∃ b, decide (y ≤ x) = b := ⟨_, rfl⟩
       have HBAD := Aside0.mk (show badG g.f0 x y = ((e1 && n1) || (e2 && n2) || (e3 && n3)) by unfold badG; rw [q1, q2, q3, s1, s2, s3])
       cases e1 with
       | true =>
        cases n1 with
        | true =>
         have H := H2.out
         rw [HBAD.out, show (_ || _ || _) = true from rfl, if_pos rfl, Option.some.injEq] at H
         subst H
         go_wp2
         go_region
         all_goals go_wp2
         all_goals go_ret
         all_goals exact ⟨rfl, by (with_reducible repeat (first | apply pw_below_drewN | apply below_drew1)); exact below_alloc HB.out _⟩
        | false =>
         cases e2 with
         | true =>
          cases n2 with
          | true =>
           have H := H2.out
           rw [HBAD.out, show (_ || _ || _) = true from rfl, if_pos rfl, Option.some.injEq] at H
           subst H
           go_wp2
           go_region
           all_goals go_wp2
           all_goals go_ret
           all_goals exact ⟨rfl, by (with_reducible repeat (first | apply pw_below_drewN | apply below_drew1)); exact below_alloc HB.out _⟩
          | false =>
           cases e3 with
           | true =>
            cases n3 with
            | true =>
             have H := H2.out
             rw [HBAD.out, show (_ || _ || _) = true from rfl, if_pos rfl, Option.some.injEq] at H
             subst H
             go_wp2
             go_region
             all_goals go_wp2
             all_goals go_ret
             all_goals exact ⟨rfl, by (with_reducible repeat (first | apply pw_below_drewN | apply below_drew1)); exact below_alloc HB.out _⟩
            | false =>
             have H := H2.out
             rw [HBAD.out, show (_ || _ || _) = false from rfl, if_neg (by simp)] at H
             have HH3 := Aside0.mk H
             clear H
             go_wp2
             go_region
             all_goals go_wp2
             go_roundw
             case rel => exact ⟨j + 1, rfl, by omega, HH3, ⟨by unfold Blk; (with_reducible repeat (first | refine blk_drewN ?_ _ | refine blk_drew ?_ | refine blk_alloc ?_ _)); exact HS.out⟩, ⟨by (with_reducible repeat (first | apply pw_below_drewN | apply below_drew1)); exact below_alloc HB.out _⟩⟩
             case measure => simp [intOf]; omega
           | false =>
            have H := H2.out
            rw [HBAD.out, show (_ || _ || _) = false from rfl, if_neg (by simp)] at H
            have HH3 := Aside0.mk H
            clear H
            go_wp2
            go_region
            all_goals go_wp2
            go_roundw
            case rel => exact ⟨j + 1, rfl, by omega, HH3, ⟨by unfold Blk; (with_reducible repeat (first | refine blk_drewN ?_ _ | refine blk_drew ?_ | refine blk_alloc ?_ _)); exact HS.out⟩, ⟨by (with_reducible repeat (first | apply pw_below_drewN | apply below_drew1)); exact below_alloc HB.out _⟩⟩
            case measure => simp [intOf]; omega
         | false =>
          cases e3 with
          | true =>
           cases n3 with
           | true =>
            have H := H2.out
            rw [HBAD.out, show (_ || _ || _) = true from rfl, if_pos rfl, Option.some.injEq] at H
            subst H
            go_wp2
            go_region
            all_goals go_wp2
            all_goals go_ret
            all_goals exact ⟨rfl, by (with_reducible repeat (first | apply pw_below_drewN | apply below_drew1)); exact below_alloc HB.out _⟩
           | false =>
            have H := H2.out
            rw [HBAD.out, show (_ || _ || _) = false from rfl, if_neg (by simp)] at H
            have HH3 := Aside0.mk H
            clear H
            go_wp2
            go_region
            all_goals go_wp2
            go_roundw
            case rel => exact ⟨j + 1, rfl, by omega, HH3, ⟨by unfold Blk; (with_reducible repeat (first | refine blk_drewN ?_ _ | refine blk_drew ?_ | refine blk_alloc ?_ _)); exact HS.out⟩, ⟨by (with_reducible repeat (first | apply pw_below_drewN | apply below_drew1)); exact below_alloc HB.out _⟩⟩
            case measure => simp [intOf]; omega
          | false =>
           have H := H2.out
           rw [HBAD.out, show (_ || _ || _) = false from rfl, if_neg (by simp)] at H
           have HH3 := Aside0.mk H
           clear H
           go_wp2
           go_region
           all_goals go_wp2
           go_roundw
           case rel => exact ⟨j + 1, rfl, by omega, HH3, ⟨by unfold Blk; (with_reducible repeat (first | refine blk_drewN ?_ _ | refine blk_drew ?_ | refine blk_alloc ?_ _)); exact HS.out⟩, ⟨by (with_reducible repeat (first | apply pw_below_drewN | apply below_drew1)); exact below_alloc HB.out _⟩⟩
           case measure => simp [intOf]; omega
       | false =>
        cases e2 with
        | true =>
         cases n2 with
         | true =>
          have H := H2.out
          rw [HBAD.out, show (_ || _ || _) = true from rfl, if_pos rfl, Option.some.injEq] at H
          subst H
          go_wp2
          go_region
          all_goals go_wp2
          all_goals go_ret
          all_goals exact ⟨rfl, by (with_reducible repeat (first | apply pw_below_drewN | apply below_drew1)); exact below_alloc HB.out _⟩
         | false =>
          cases e3 with
          | true =>
           cases n3 with
           | true =>
            have H := H2.out
            rw [HBAD.out, show (_ || _ || _) = true from rfl, if_pos rfl, Option.some.injEq] at H
            subst H
            go_wp2
            go_region
            all_goals go_wp2
            all_goals go_ret
            all_goals exact ⟨rfl, by (with_reducible repeat (first | apply pw_below_drewN | apply below_drew1)); exact below_alloc HB.out _⟩
           | false =>
            have H := H2.out
            rw [HBAD.out, show (_ || _ || _) = false from rfl, if_neg (by simp)] at H
            have HH3 := Aside0.mk H
            clear H
            go_wp2
            go_region
            all_goals go_wp2
            go_roundw
            case rel => exact ⟨j + 1, rfl, by omega, HH3, ⟨by unfold Blk; (with_reducible repeat (first | refine blk_drewN ?_ _ | refine blk_drew ?_ | refine blk_alloc ?_ _)); exact HS.out⟩, ⟨by (with_reducible repeat (first | apply pw_below_drewN | apply below_drew1)); exact below_alloc HB.out _⟩⟩
            case measure => simp [intOf]; omega
          | false =>
           have H := H2.out
           rw [HBAD.out, show (_ || _ || _) = false from rfl, if_neg (by simp)] at H
           have HH3 := Aside0.mk H
           clear H
           go_wp2
           go_region
           all_goals go_wp2
           go_roundw
           case rel => exact ⟨j + 1, rfl, by omega, HH3, ⟨by unfold Blk; (with_reducible repeat (first | refine blk_drewN ?_ _ | refine blk_drew ?_ | refine blk_alloc ?_ _)); exact HS.out⟩, ⟨by (with_reducible repeat (first | apply pw_below_drewN | apply below_drew1)); exact below_alloc HB.out _⟩⟩
           case measure => simp [intOf]; omega
        | false =>
         cases e3 with
         | true =>
          cases n3 with
          | true =>
           have H := H2.out
           rw [HBAD.out, show (_ || _ || _) = true from rfl, if_pos rfl, Option.some.injEq] at H
           subst H
           go_wp2
           go_region
           all_goals go_wp2
           all_goals go_ret
           all_goals exact ⟨rfl, by (with_reducible repeat (first | apply pw_below_drewN | apply below_drew1)); exact below_alloc HB.out _⟩
          | false =>
           have H := H2.out
           rw [HBAD.out, show (_ || _ || _) = false from rfl, if_neg (by simp)] at H
           have HH3 := Aside0.mk H
           clear H
           go_wp2
           go_region
           all_goals go_wp2
           go_roundw
           case rel => exact ⟨j + 1, rfl, by omega, HH3, ⟨by unfold Blk; (with_reducible repeat (first | refine blk_drewN ?_ _ | refine blk_drew ?_ | refine blk_alloc ?_ _)); exact HS.out⟩, ⟨by (with_reducible repeat (first | apply pw_below_drewN | apply below_drew1)); exact below_alloc HB.out _⟩⟩
           case measure => simp [intOf]; omega
         | false =>
          have H := H2.out
          rw [HBAD.out, show (_ || _ || _) = false from rfl, if_neg (by simp)] at H
          have HH3 := Aside0.mk H
          clear H
          go_wp2
          go_region
          all_goals go_wp2
          go_roundw
          case rel => exact ⟨j + 1, rfl, by omega, HH3, ⟨by unfold Blk; (with_reducible repeat (first | refine blk_drewN ?_ _ | refine blk_drew ?_ | refine blk_alloc ?_ _)); exact HS.out⟩, ⟨by (with_reducible repeat (first | apply pw_below_drewN | apply below_drew1)); exact below_alloc HB.out _⟩⟩
          case measure => simp [intOf]; omega
      ·rw [if_neg hin] at H
       cases H
     ·obtain rfl : j = l1_2.length := by omega
      have H := HH.out
      rw [List.drop_length, holdsGo, Option.some.injEq] at H
      subst H
      have hv2 := (rh5 HS.out).2
      have qq3 : decide ((l1_2.length : Int) < (l1_2.length : Int)) = false := decide_eq_false (by omega)
      clear HH
      go_wp2
      go_ret
      exact ⟨rfl, HB.out⟩
   ·rw [if_neg hle] at h
    cases h
 ·rw [if_neg her, Option.some.injEq] at h
  subst h
  have q1 : (er != 0) = true := bne_iff_ne.2 her
  clear her
  go_enter Try.func19, Try.ntmps19
  go_wp2_with (go_at_call 12; (with_reducible refine (r40_Check.calls k A0 c0 l0 _ A1_1 c1_1 l1_1 A1_2 c1_2 l1_2 A1_3 c1_3 l1_3 A1_4 c1_4 l1_4 er _ (Kd.C_alloc K0.out _) K0c.out (Kd.C_alloc K1.out _) K1c.out (Kd.C_alloc HRG.out _) K2c.out (Kd.C_alloc K3.out _) K3c.out (Kd.C_alloc K4.out _) K4c.out HK.out).mono ?_); rintro e w1 ⟨rfl, hb1⟩; have HS1 := Aside0.mk (show Blk w1 w.heap.size 27 [.string a1_0, .slice A1_1 l1_1.length c1_1, .slice A1_2 l1_2.length c1_2, .slice A1_3 l1_3.length c1_3, .slice A1_4 l1_4.length c1_4] from blk_later (World.alloc_heap_new w (.cells #[.string a1_0, .slice A1_1 l1_1.length c1_1, .slice A1_2 l1_2.length c1_2, .slice A1_3 l1_3.length c1_3, .slice A1_4 l1_4.length c1_4] 27)) hb1); have HB1 := Aside0.mk (show Below w.heap.size w w1 from ((Below.refl _ w).alloc (Nat.le_refl _) _).trans (hb1.mono (by simp))); obtain ⟨z0, z1, z2, z3, z4⟩ := rh5all HS1.out; clear hb1)
  go_ret
  exact ⟨rfl, HB1.out⟩


end







/-! ### r40_Colors: function 22 -/
def r40_Colors.l0 : Nat → List (S51) → Int → Int → ByteArray → List (S48) → List (S62) → List (S111) → List (S111) → Option (Int)
 | 0, _, _, _, _, _, _, _, _ => none
 | k + 1, x0, x5, x6, x353000, x353001, x353002, x353003, x353004 => if x6 < (x353001.length : Int) then (if 0 ≤ x6 then (if 0 ≤ ((rd_T48 x353001 x6).f1) then (if ((rd_T48 x353001 x6).f1) < (x0.length : Int) then (r40_Colors.l0 k x0 (wrap64 (x5 * (((rd_T51 x0 ((rd_T48 x353001 x6).f1)).f1).length : Int))) (wrap64 (x6 + 1)) x353000 x353001 x353002 x353003 x353004) else (none)) else (none)) else (none)) else (some x5)
def r40_Colors.f (k : Nat) (l0 : List (S51)) (a1_0 : ByteArray) (l1_1 : List (S48)) (l1_2 : List (S62)) (l1_3 : List (S111)) (l1_4 : List (S111)) : Option (Int) := r40_Colors.l0 k l0 1 0 a1_0 l1_1 l1_2 l1_3 l1_4
theorem r40_Colors.mono_l : ∀ k, (∀ y0 y1 y2 y3 y4 y5 y6 y7, LeO (r40_Colors.l0 k y0 y1 y2 y3 y4 y5 y6 y7) (r40_Colors.l0 (k + 1) y0 y1 y2 y3 y4 y5 y6 y7))
 | 0 => fun _ _ _ _ _ _ _ _ r h => by simp [r40_Colors.l0] at h
 | k + 1 => by
  have ih0 := r40_Colors.mono_l k
  ·intro y0 y1 y2 y3 y4 y5 y6 y7
   unfold r40_Colors.l0
   repeat' first
   | (with_reducible first | exact ih0 _ _ _ _ _ _ _ _ | exact LeO.refl _ | exact LeO.none _ | refine LeO.ite ?_ ?_ | refine LeO.bind ?_ (fun _ => ?_))
   | exact LeO.none _
   | refine LeO.ite ?_ ?_
   | refine LeO.bind ?_ (fun _ => ?_)
theorem r40_Colors.mono : ∀ a0 a1 a2 a3 a4 a5 k, LeO (r40_Colors.f k a0 a1 a2 a3 a4 a5) (r40_Colors.f (k + 1) a0 a1 a2 a3 a4 a5) := by
 intro a0 a1 a2 a3 a4 a5 k
 have ih0 := r40_Colors.mono_l k
 unfold r40_Colors.f
 repeat' first
   | (with_reducible first | exact ih0 _ _ _ _ _ _ _ _ | exact LeO.refl _ | exact LeO.none _ | refine LeO.ite ?_ ?_ | refine LeO.bind ?_ (fun _ => ?_))
   | exact LeO.none _
   | refine LeO.ite ?_ ?_
   | refine LeO.bind ?_ (fun _ => ?_)
set_option maxHeartbeats 8000000 in
set_option maxRecDepth 100000 in
theorem r40_Colors.calls (k : Nat) (A0 : Option Addr) (c0 : Nat) (l0 : List (S51)) (a1_0 : ByteArray) (A1_1 : Option Addr) (c1_1 : Nat) (l1_1 : List (S48)) (A1_2 : Option Addr) (c1_2 : Nat) (l1_2 : List (S62)) (A1_3 : Option Addr) (c1_3 : Nat) (l1_3 : List (S111)) (A1_4 : Option Addr) (c1_4 : Nat) (l1_4 : List (S111)) (r : Int) (w : World) (hr0 : Kd.C k51 w A0 l0.length l0) (hc0 : l0.length ≤ c0) (hr1_1 : Kd.C k48 w A1_1 l1_1.length l1_1) (hc1_1 : l1_1.length ≤ c1_1) (hr1_2 : Kd.C k62 w A1_2 l1_2.length l1_2) (hc1_2 : l1_2.length ≤ c1_2) (hr1_3 : Kd.C k111 w A1_3 l1_3.length l1_3) (hc1_3 : l1_3.length ≤ c1_3) (hr1_4 : Kd.C k111 w A1_4 l1_4.length l1_4) (hc1_4 : l1_4.length ≤ c1_4) (h : r40_Colors.f k l0 a1_0 l1_1 l1_2 l1_3 l1_4 = some r) :
  Calls Try.prog 22 #[.slice A0 l0.length c0, .agg #[.string a1_0, .slice A1_1 l1_1.length c1_1, .slice A1_2 l1_2.length c1_2, .slice A1_3 l1_3.length c1_3, .slice A1_4 l1_4.length c1_4]] w fun e w' => e = .returned (.int .i64 r) ∧ Below w.heap.size w w' := by
 have hu27 := Try.underlying27; have hu9 := Try.underlying9; have hu23 := Try.underlying23; have hu24 := Try.underlying24; have hu25 := Try.underlying25; have HR0 := aM hr0; have HC0 := aM hc0; clear hr0 hc0; have HR1_1 := aM hr1_1; have HC1_1 := aM hc1_1; clear hr1_1 hc1_1; have HR1_2 := aM hr1_2; have HC1_2 := aM hc1_2; clear hr1_2 hc1_2; have HR1_3 := aM hr1_3; have HC1_3 := aM hc1_3; clear hr1_3 hc1_3; have HR1_4 := aM hr1_4; have HC1_4 := aM hc1_4; clear hr1_4 hc1_4; have HB := aM (Below.refl w.heap.size w); have H : (r40_Colors.l0 k l0 1 0 a1_0 l1_1 l1_2 l1_3 l1_4) = some r := h; clear h
 have H' := aM H
 clear H
 go_enter Try.func22, Try.ntmps22
 go_wp2_with (first | ((with_reducible refine gate_dst (N := 3) rfl ?_); refine box_event ?hg (N := 3) ?hd (cs := #[.string a1_0, .slice A1_1 l1_1.length c1_1, .slice A1_2 l1_2.length c1_2, .slice A1_3 l1_3.length c1_3, .slice A1_4 l1_4.length c1_4]) (t := 27) ?hr ?_; (case hd => rfl); (case hg => rfl); (case hr => first | (go_simp; done) | (go_simp; rfl)); intro gb352 hg w3 hbox hb; have n0_ := aM (below_step (bB HB.out) hb); have n1_ := aM (hbox); have n2_ := aM ((by rw [hg]; exact (below_size (bB HB.out)) : w.heap.size ≤ gb352)); have n3_ := aM ((by rw [hg]; exact (below_size (bB HB.out)) : w.heap.size ≤ gb352)); clear HB; have HB := n0_; have BK352 := n1_; have GW352 := n2_; have GE352 := n3_; clear n0_ n1_ n2_ n3_; clear hb hbox hg))
 go_loopg [5, 6] k (fun kq v5 v6 w' => ∃ (x5_1 : Int) (x6_1 : Int), v5 = .int .i64 x5_1 ∧ v6 = .int .i64 x6_1 ∧ Aside0 (r40_Colors.l0 kq l0 x5_1 x6_1 a1_0 l1_1 l1_2 l1_3 l1_4 = some r) ∧ Aside0 (kq ≤ k) ∧ Aside0 (w'.heap[gb352]? = some (.cells #[.string a1_0, (.slice A1_1 l1_1.length c1_1), (.slice A1_2 l1_2.length c1_2), (.slice A1_3 l1_3.length c1_3), (.slice A1_4 l1_4.length c1_4)] 27 (0, 0))) ∧ Aside0 (Below w.heap.size w w'))
 case atStart => exact ⟨(1), (0), eT, eT, H', ⟨Nat.le_refl _⟩, ⟨kB BK352.out⟩, ⟨bB1 HB.out GE352.out⟩⟩
 case round =>
  clear H'; obtain ⟨x5_1, x6_1, rfl, rfl, HA, HK1, BK352, HB⟩ := hrel
  cases gk with
  | zero => exact absurd HA.out (by simp [r40_Colors.l0])
  | succ k1 =>
   have H := HA.out; clear HA
   simp only [r40_Colors.l0] at H
   by_cases c4 : x6_1 < (l1_1.length : Int)
   ·rw [if_pos c4] at H
    have c4b0 : decide (x6_1 < (l1_1.length : Int)) = true := decide_eq_true c4; clear c4
    by_cases c5 : 0 ≤ x6_1
    ·rw [if_pos c5] at H
     have c5b0 : decide (0 ≤ x6_1) = true := decide_eq_true c5; clear c5
     by_cases c6 : 0 ≤ ((rd_T48 l1_1 x6_1).f1)
     ·rw [if_pos c6] at H
      have c6b0 : decide (0 ≤ ((rd_T48 l1_1 x6_1).f1)) = true := decide_eq_true c6; clear c6
      by_cases c7 : ((rd_T48 l1_1 x6_1).f1) < (l0.length : Int)
      ·rw [if_pos c7] at H
       have c7b0 : decide (((rd_T48 l1_1 x6_1).f1) < (l0.length : Int)) = true := decide_eq_true c7; clear c7
       have H' := aM H
       clear H
       have hcz8_0 : wr.cell? ⟨gb352, 0, none⟩ = some (.string a1_0) := (blk_cell BK352.out 0).trans rfl
       have hcz8_1 : wr.cell? ⟨gb352, 1, none⟩ = some (.slice A1_1 l1_1.length c1_1) := (blk_cell BK352.out 1).trans rfl
       have hcz8_2 : wr.cell? ⟨gb352, 2, none⟩ = some (.slice A1_2 l1_2.length c1_2) := (blk_cell BK352.out 2).trans rfl
       have hcz8_3 : wr.cell? ⟨gb352, 3, none⟩ = some (.slice A1_3 l1_3.length c1_3) := (blk_cell BK352.out 3).trans rfl
       have hcz8_4 : wr.cell? ⟨gb352, 4, none⟩ = some (.slice A1_4 l1_4.length c1_4) := (blk_cell BK352.out 4).trans rfl
       have hfz8_0 := blk_frozen BK352.out 0; have hfz8_1 := blk_frozen BK352.out 1; have hfz8_2 := blk_frozen BK352.out 2; have hfz8_3 := blk_frozen BK352.out 3; have hfz8_4 := blk_frozen BK352.out 4; have p353 : 0 ≤ (x6_1 : Int) := dT; have q353 : x6_1 < (l1_1.length : Int) := dT; obtain ⟨ad353, e353, hx353_0, hx353_1⟩ := at_T48 HR1_1.out x6_1 p353 q353; cases e353; replace hx353_0 := (HB.out.cell (World.block_lt_of_cell? w _ hx353_0)).trans hx353_0; replace hx353_1 := (HB.out.cell (World.block_lt_of_cell? w _ hx353_1)).trans hx353_1; replace p353 := eq_true p353; replace q353 := eq_true q353; have p354 : 0 ≤ (((rd_T48 l1_1 x6_1).f1) : Int) := dT; have q354 : ((rd_T48 l1_1 x6_1).f1) < (l0.length : Int) := dT; obtain ⟨ad354, A354_1, c354_1, e354, hx354_0, hx354_1, hl354_1, hi354_1⟩ := at_T51 HR0.out ((rd_T48 l1_1 x6_1).f1) p354 q354; cases e354; replace hx354_0 := (HB.out.cell (World.block_lt_of_cell? w _ hx354_0)).trans hx354_0; replace hx354_1 := (HB.out.cell (World.block_lt_of_cell? w _ hx354_1)).trans hx354_1; have HR354_1 := aM hi354_1; have HC354_1 := aM hl354_1; clear hi354_1 hl354_1; replace p354 := eq_true p354; replace q354 := eq_true q354
       go_wp2
       go_roundg k1
       case measure => have := HK1.out; omega
       case rel => exact ⟨(wrap64 (x5_1 * (((rd_T51 l0 ((rd_T48 l1_1 x6_1).f1)).f1).length : Int))), (wrap64 (x6_1 + 1)), eT, eT, H', ⟨by have := HK1.out; omega⟩, ⟨kB BK352.out⟩, ⟨bB1 HB.out GE352.out⟩⟩
      ·rw [if_neg c7] at H
       exact absurd H (by simp)
     ·rw [if_neg c6] at H
      exact absurd H (by simp)
    ·rw [if_neg c5] at H
     exact absurd H (by simp)
   ·rw [if_neg c4] at H
    have c4b0 : decide (x6_1 < (l1_1.length : Int)) = false := decide_eq_false c4; clear c4
    obtain rfl := Option.some.inj H
    have hcz9_0 : wr.cell? ⟨gb352, 0, none⟩ = some (.string a1_0) := (blk_cell BK352.out 0).trans rfl
    have hcz9_1 : wr.cell? ⟨gb352, 1, none⟩ = some (.slice A1_1 l1_1.length c1_1) := (blk_cell BK352.out 1).trans rfl
    have hcz9_2 : wr.cell? ⟨gb352, 2, none⟩ = some (.slice A1_2 l1_2.length c1_2) := (blk_cell BK352.out 2).trans rfl
    have hcz9_3 : wr.cell? ⟨gb352, 3, none⟩ = some (.slice A1_3 l1_3.length c1_3) := (blk_cell BK352.out 3).trans rfl
    have hcz9_4 : wr.cell? ⟨gb352, 4, none⟩ = some (.slice A1_4 l1_4.length c1_4) := (blk_cell BK352.out 4).trans rfl
    have hfz9_0 := blk_frozen BK352.out 0; have hfz9_1 := blk_frozen BK352.out 1; have hfz9_2 := blk_frozen BK352.out 2; have hfz9_3 := blk_frozen BK352.out 3; have hfz9_4 := blk_frozen BK352.out 4
    go_wp2
    go_ret
    exact ⟨rT, bB1 HB.out GE352.out⟩


/-! ### r04_Lists: function 23 -/
def r04_Lists.l0 : Nat → List (List Int) → List (List Int) → Int → Option (Bool)
 | 0, _, _, _ => none
 | k + 1, x0, x1, x5 => if x5 < (x0.length : Int) then (if 0 ≤ x5 then (if x5 < (x1.length : Int) then ((r04_Same.f k (rd_L15 x0 x5) (rd_L15 x1 x5)).bind fun t357 => (if t357 = true then (r04_Lists.l0 k x0 x1 (wrap64 (x5 + 1))) else (some false))) else (none)) else (none)) else (some true)
def r04_Lists.f (k : Nat) (l0 : List (List Int)) (l1 : List (List Int)) : Option (Bool) := if (l0.length : Int) = (l1.length : Int) then (r04_Lists.l0 k l0 l1 0) else (some false)
theorem r04_Lists.mono_l : ∀ k, (∀ y0 y1 y2, LeO (r04_Lists.l0 k y0 y1 y2) (r04_Lists.l0 (k + 1) y0 y1 y2))
 | 0 => fun _ _ _ r h => by simp [r04_Lists.l0] at h
 | k + 1 => by
  have ih0 := r04_Lists.mono_l k
  ·intro y0 y1 y2
   unfold r04_Lists.l0
   repeat' first
   | (with_reducible first | exact ih0 _ _ _ | exact r04_Same.mono _ _ _ | exact LeO.refl _ | exact LeO.none _ | refine LeO.ite ?_ ?_ | refine LeO.bind ?_ (fun _ => ?_))
   | exact LeO.none _
   | refine LeO.ite ?_ ?_
   | refine LeO.bind ?_ (fun _ => ?_)
theorem r04_Lists.mono : ∀ a0 a1 k, LeO (r04_Lists.f k a0 a1) (r04_Lists.f (k + 1) a0 a1) := by
 intro a0 a1 k
 have ih0 := r04_Lists.mono_l k
 unfold r04_Lists.f
 repeat' first
   | (with_reducible first | exact ih0 _ _ _ | exact r04_Same.mono _ _ _ | exact LeO.refl _ | exact LeO.none _ | refine LeO.ite ?_ ?_ | refine LeO.bind ?_ (fun _ => ?_))
   | exact LeO.none _
   | refine LeO.ite ?_ ?_
   | refine LeO.bind ?_ (fun _ => ?_)
set_option maxHeartbeats 8000000 in
set_option maxRecDepth 100000 in
theorem r04_Lists.calls (k : Nat) (A0 : Option Addr) (c0 : Nat) (l0 : List (List Int)) (A1 : Option Addr) (c1 : Nat) (l1 : List (List Int)) (r : Bool) (w : World) (hr0 : Kd.C (Kd.slice 3 (Kd.int .i64)) w A0 l0.length l0) (hc0 : l0.length ≤ c0) (hr1 : Kd.C (Kd.slice 3 (Kd.int .i64)) w A1 l1.length l1) (hc1 : l1.length ≤ c1) (h : r04_Lists.f k l0 l1 = some r) :
  Calls Try.prog 23 #[.slice A0 l0.length c0, .slice A1 l1.length c1] w fun e w' => e = .returned (.bool r) ∧ Drawn0 w w' := by
 have HR0 := aM hr0; have HC0 := aM hc0; clear hr0 hc0; have HR1 := aM hr1; have HC1 := aM hc1; clear hr1 hc1; have H : (if (l0.length : Int) = (l1.length : Int) then (r04_Lists.l0 k l0 l1 0) else (some false)) = some r := h; clear h
 by_cases c3 : (l0.length : Int) = (l1.length : Int)
 ·rw [if_pos c3] at H
  have c3b0 : ((l0.length : Int) == (l1.length : Int)) = true := beq_iff_eq.mpr c3; have c3b1 : ((l0.length : Int) != (l1.length : Int)) = false := bne_eq_false_iff_eq.mpr c3
  have c3b2 : (l0.length == l1.length) = true := by first | simpa using c3 | (simp at c3 ⊢; omega)
  clear c3
  have H' := aM H
  clear H
  go_enter Try.func23, Try.ntmps23
  go_wp2
  repeat (go_quiet (fail); try go_wp2)
  go_loopg [5] k (fun kq v5 w' => ∃ (x5_1 : Int), v5 = .int .i64 x5_1 ∧ Aside0 (r04_Lists.l0 kq l0 l1 x5_1 = some r) ∧ Aside0 (kq ≤ k) ∧ Drawn0 w w')
  case atStart => exact ⟨(0), eT, H', ⟨Nat.le_refl _⟩, by repeat (first | exact Drawn0.refl _ | apply Drawn0.step)⟩
  case round =>
   clear H'
   obtain ⟨x5_1, rfl, HA, HK1, ⟨m1, rfl⟩⟩ := hrel
   cases gk with
   | zero => exact absurd HA.out (by simp [r04_Lists.l0])
   | succ k1 =>
    have H := HA.out; clear HA
    simp only [r04_Lists.l0] at H
    by_cases c4 : x5_1 < (l0.length : Int)
    ·rw [if_pos c4] at H
     have c4b0 : decide (x5_1 < (l0.length : Int)) = true := decide_eq_true c4; clear c4
     by_cases c5 : 0 ≤ x5_1
     ·rw [if_pos c5] at H
      have c5b0 : decide (0 ≤ x5_1) = true := decide_eq_true c5; clear c5
      by_cases c6 : x5_1 < (l1.length : Int)
      ·rw [if_pos c6] at H
       have c6b0 : decide (x5_1 < (l1.length : Int)) = true := decide_eq_true c6; clear c6; replace H := Option.bind_eq_some_iff.mp H; obtain ⟨t357, A70, H⟩ := H
       replace H : (if t357 = true then (r04_Lists.l0 k1 l0 l1 (wrap64 (x5_1 + 1))) else (some false)) = some r := H
       have A7 := aM A70; clear A70
       by_cases c8 : t357 = true
       ·subst c8
        have H1 : (r04_Lists.l0 k1 l0 l1 (wrap64 (x5_1 + 1))) = some r := by rw [if_pos rfl] at H; exact H
        clear H; have H := H1; clear H1
        have H' := aM H
        clear H; have p355 : 0 ≤ (x5_1 : Int) := dT; have q355 : x5_1 < (l0.length : Int) := dT; obtain ⟨ad355, A355_0, c355_0, e355, hx355_0, hl355_0, hi355_0⟩ := at_L15 HR0.out x5_1 p355 q355; cases e355; have HR355_0 := aM hi355_0; have HC355_0 := aM hl355_0; clear hi355_0 hl355_0; replace p355 := eq_true p355; replace q355 := eq_true q355; have p356 : 0 ≤ (x5_1 : Int) := dT; have q356 : x5_1 < (l1.length : Int) := dT; obtain ⟨ad356, A356_0, c356_0, e356, hx356_0, hl356_0, hi356_0⟩ := at_L15 HR1.out x5_1 p356 q356; cases e356; have HR356_0 := aM hi356_0; have HC356_0 := aM hl356_0; clear hi356_0 hl356_0; replace p356 := eq_true p356; replace q356 := eq_true q356
        go_wp2_with (first | (go_at_call 17; (with_reducible refine (r04_Same.calls k1 _ _ (rd_L15 l0 x5_1) _ _ (rd_L15 l1 x5_1) true _ ?side1 ?side2 ?side3 ?side4 A7.out).mono ?_); (case side1 => repeat (first | exact HR355_0.out | (with_reducible refine Kd.C_alloc ?_ _) | (with_reducible refine Kd.C_drewN ?_ _) | (with_reducible refine Kd.C_drew ?_))); (case side2 => exact HC355_0.out); (case side3 => repeat (first | exact HR356_0.out | (with_reducible refine Kd.C_alloc ?_ _) | (with_reducible refine Kd.C_drewN ?_ _) | (with_reducible refine Kd.C_drew ?_))); (case side4 => exact HC356_0.out); rintro e w' ⟨rfl, ⟨nd, rfl⟩⟩; (try first | exact ⟨rfl, _, World.drewN_drewN _ _ _⟩ | exact ⟨rfl, _, Eq.trans (World.drewN_drewN _ _ _) (congrArg (World.drewN _) (Nat.add_assoc _ _ _))⟩)))
        repeat (go_quiet (first | (go_at_call 17; (with_reducible refine (r04_Same.calls k1 _ _ (rd_L15 l0 x5_1) _ _ (rd_L15 l1 x5_1) true _ ?side1 ?side2 ?side3 ?side4 A7.out).mono ?_); (case side1 => repeat (first | exact HR355_0.out | (with_reducible refine Kd.C_alloc ?_ _) | (with_reducible refine Kd.C_drewN ?_ _) | (with_reducible refine Kd.C_drew ?_))); (case side2 => exact HC355_0.out); (case side3 => repeat (first | exact HR356_0.out | (with_reducible refine Kd.C_alloc ?_ _) | (with_reducible refine Kd.C_drewN ?_ _) | (with_reducible refine Kd.C_drew ?_))); (case side4 => exact HC356_0.out); rintro e w' ⟨rfl, ⟨nd, rfl⟩⟩; (try first | exact ⟨rfl, _, World.drewN_drewN _ _ _⟩ | exact ⟨rfl, _, Eq.trans (World.drewN_drewN _ _ _) (congrArg (World.drewN _) (Nat.add_assoc _ _ _))⟩))); try go_wp2_with (first | (go_at_call 17; (with_reducible refine (r04_Same.calls k1 _ _ (rd_L15 l0 x5_1) _ _ (rd_L15 l1 x5_1) true _ ?side1 ?side2 ?side3 ?side4 A7.out).mono ?_); (case side1 => repeat (first | exact HR355_0.out | (with_reducible refine Kd.C_alloc ?_ _) | (with_reducible refine Kd.C_drewN ?_ _) | (with_reducible refine Kd.C_drew ?_))); (case side2 => exact HC355_0.out); (case side3 => repeat (first | exact HR356_0.out | (with_reducible refine Kd.C_alloc ?_ _) | (with_reducible refine Kd.C_drewN ?_ _) | (with_reducible refine Kd.C_drew ?_))); (case side4 => exact HC356_0.out); rintro e w' ⟨rfl, ⟨nd, rfl⟩⟩; (try first | exact ⟨rfl, _, World.drewN_drewN _ _ _⟩ | exact ⟨rfl, _, Eq.trans (World.drewN_drewN _ _ _) (congrArg (World.drewN _) (Nat.add_assoc _ _ _))⟩))))
        go_roundg k1
        case measure => have := HK1.out; omega
        case rel => exact ⟨(wrap64 (x5_1 + 1)), eT, H', ⟨by have := HK1.out; omega⟩, by repeat (first | exact Drawn0.refl _ | apply Drawn0.step)⟩
       ·replace c8 := Bool.eq_false_iff.mpr c8
        subst c8
        have H1 : (some false) = some r := by rw [if_neg (show ¬ (false = true) by decide)] at H; exact H
        clear H; have H := H1; clear H1
        obtain rfl := Option.some.inj H
        have p355 : 0 ≤ (x5_1 : Int) := dT; have q355 : x5_1 < (l0.length : Int) := dT; obtain ⟨ad355, A355_0, c355_0, e355, hx355_0, hl355_0, hi355_0⟩ := at_L15 HR0.out x5_1 p355 q355; cases e355; have HR355_0 := aM hi355_0; have HC355_0 := aM hl355_0; clear hi355_0 hl355_0; replace p355 := eq_true p355; replace q355 := eq_true q355; have p356 : 0 ≤ (x5_1 : Int) := dT; have q356 : x5_1 < (l1.length : Int) := dT; obtain ⟨ad356, A356_0, c356_0, e356, hx356_0, hl356_0, hi356_0⟩ := at_L15 HR1.out x5_1 p356 q356; cases e356; have HR356_0 := aM hi356_0; have HC356_0 := aM hl356_0; clear hi356_0 hl356_0; replace p356 := eq_true p356; replace q356 := eq_true q356
        go_wp2_with (first | (go_at_call 17; (with_reducible refine (r04_Same.calls k1 _ _ (rd_L15 l0 x5_1) _ _ (rd_L15 l1 x5_1) false _ ?side1 ?side2 ?side3 ?side4 A7.out).mono ?_); (case side1 => repeat (first | exact HR355_0.out | (with_reducible refine Kd.C_alloc ?_ _) | (with_reducible refine Kd.C_drewN ?_ _) | (with_reducible refine Kd.C_drew ?_))); (case side2 => exact HC355_0.out); (case side3 => repeat (first | exact HR356_0.out | (with_reducible refine Kd.C_alloc ?_ _) | (with_reducible refine Kd.C_drewN ?_ _) | (with_reducible refine Kd.C_drew ?_))); (case side4 => exact HC356_0.out); rintro e w' ⟨rfl, ⟨nd, rfl⟩⟩; (try first | exact ⟨rfl, _, World.drewN_drewN _ _ _⟩ | exact ⟨rfl, _, Eq.trans (World.drewN_drewN _ _ _) (congrArg (World.drewN _) (Nat.add_assoc _ _ _))⟩)))
        repeat (go_quiet (first | (go_at_call 17; (with_reducible refine (r04_Same.calls k1 _ _ (rd_L15 l0 x5_1) _ _ (rd_L15 l1 x5_1) false _ ?side1 ?side2 ?side3 ?side4 A7.out).mono ?_); (case side1 => repeat (first | exact HR355_0.out | (with_reducible refine Kd.C_alloc ?_ _) | (with_reducible refine Kd.C_drewN ?_ _) | (with_reducible refine Kd.C_drew ?_))); (case side2 => exact HC355_0.out); (case side3 => repeat (first | exact HR356_0.out | (with_reducible refine Kd.C_alloc ?_ _) | (with_reducible refine Kd.C_drewN ?_ _) | (with_reducible refine Kd.C_drew ?_))); (case side4 => exact HC356_0.out); rintro e w' ⟨rfl, ⟨nd, rfl⟩⟩; (try first | exact ⟨rfl, _, World.drewN_drewN _ _ _⟩ | exact ⟨rfl, _, Eq.trans (World.drewN_drewN _ _ _) (congrArg (World.drewN _) (Nat.add_assoc _ _ _))⟩))); try go_wp2_with (first | (go_at_call 17; (with_reducible refine (r04_Same.calls k1 _ _ (rd_L15 l0 x5_1) _ _ (rd_L15 l1 x5_1) false _ ?side1 ?side2 ?side3 ?side4 A7.out).mono ?_); (case side1 => repeat (first | exact HR355_0.out | (with_reducible refine Kd.C_alloc ?_ _) | (with_reducible refine Kd.C_drewN ?_ _) | (with_reducible refine Kd.C_drew ?_))); (case side2 => exact HC355_0.out); (case side3 => repeat (first | exact HR356_0.out | (with_reducible refine Kd.C_alloc ?_ _) | (with_reducible refine Kd.C_drewN ?_ _) | (with_reducible refine Kd.C_drew ?_))); (case side4 => exact HC356_0.out); rintro e w' ⟨rfl, ⟨nd, rfl⟩⟩; (try first | exact ⟨rfl, _, World.drewN_drewN _ _ _⟩ | exact ⟨rfl, _, Eq.trans (World.drewN_drewN _ _ _) (congrArg (World.drewN _) (Nat.add_assoc _ _ _))⟩))))
        go_ret
        exact ⟨by first | rfl | (simp; done) | (simp [*]; done), by repeat (first | exact Drawn0.refl _ | apply Drawn0.step)⟩
      ·rw [if_neg c6] at H
       exact absurd H (by simp)
     ·rw [if_neg c5] at H
      exact absurd H (by simp)
    ·rw [if_neg c4] at H
     have c4b0 : decide (x5_1 < (l0.length : Int)) = false := decide_eq_false c4; clear c4
     obtain rfl := Option.some.inj H
     go_wp2
     repeat (go_quiet (fail); try go_wp2)
     go_ret
     exact ⟨by first | rfl | (simp; done) | (simp [*]; done), by repeat (first | exact Drawn0.refl _ | apply Drawn0.step)⟩
 ·rw [if_neg c3] at H
  have c3b0 : ((l0.length : Int) == (l1.length : Int)) = false := beq_eq_false_iff_ne.mpr c3; have c3b1 : ((l0.length : Int) != (l1.length : Int)) = true := bne_iff_ne.mpr c3
  have c3b2 : (l0.length == l1.length) = false := by first | simpa using c3 | (simp at c3 ⊢; omega)
  obtain rfl := Option.some.inj H
  go_enter Try.func23, Try.ntmps23
  go_wp2
  repeat (go_quiet (fail); try go_wp2)
  go_ret
  exact ⟨by first | rfl | (simp; done) | (simp [*]; done), by repeat (first | exact Drawn0.refl _ | apply Drawn0.step)⟩




/-! ### r40_All: function 25 -/
mutual
def r40_All.l0 : Nat → List (S51) → List (List Int) → Int → ByteArray → List (S48) → List (S62) → List (S111) → List (S111) → Option ((List (List Int)))
 | 0, _, _, _, _, _, _, _, _ => none
 | k + 1, x0, x5, x6, x359000, x359001, x359002, x359003, x359004 => if x6 < (x359001.length : Int) then (r40_All.l1 k x0 x5 x6 ([] : List (List Int)) 0 x359000 x359001 x359002 x359003 x359004) else (r40_All.l3 k x0 x5 ([] : List (List Int)) 0 x359000 x359001 x359002 x359003 x359004)
def r40_All.l1 : Nat → List (S51) → List (List Int) → Int → List (List Int) → Int → ByteArray → List (S48) → List (S62) → List (S111) → List (S111) → Option ((List (List Int)))
 | 0, _, _, _, _, _, _, _, _, _, _ => none
 | k + 1, x0, x5, x6, x7, x8, x359000, x359001, x359002, x359003, x359004 => if x8 < (x5.length : Int) then (r40_All.l2 k x0 x5 x6 x7 x8 0 x359000 x359001 x359002 x359003 x359004) else (r40_All.l0 k x0 x7 (wrap64 (x6 + 1)) x359000 x359001 x359002 x359003 x359004)
def r40_All.l2 : Nat → List (S51) → List (List Int) → Int → List (List Int) → Int → Int → ByteArray → List (S48) → List (S62) → List (S111) → List (S111) → Option ((List (List Int)))
 | 0, _, _, _, _, _, _, _, _, _, _, _ => none
 | k + 1, x0, x5, x6, x7, x8, x9, x359000, x359001, x359002, x359003, x359004 => if 0 ≤ x6 then (if x6 < (x359001.length : Int) then (if 0 ≤ ((rd_T48 x359001 x6).f1) then (if ((rd_T48 x359001 x6).f1) < (x0.length : Int) then (if x9 < (((rd_T51 x0 ((rd_T48 x359001 x6).f1)).f1).length : Int) then (if 0 ≤ x8 then (if x8 < (x5.length : Int) then (if ([] : List Int).length + (rd_L15 x5 x8).length < 17592186044416 then ((some (([] : List Int) ++ (rd_L15 x5 x8) : List Int)).bind fun y369 => (if y369.length < 17592186044416 then (if x7.length < 5864062014805 then (r40_All.l2 k x0 x5 x6 (x7 ++ [(y369 ++ [x9])]) x8 (wrap64 (x9 + 1)) x359000 x359001 x359002 x359003 x359004) else (none)) else (none))) else (none)) else (none)) else (none)) else (r40_All.l1 k x0 x5 x6 x7 (wrap64 (x8 + 1)) x359000 x359001 x359002 x359003 x359004)) else (none)) else (none)) else (none)) else (none)
def r40_All.l3 : Nat → List (S51) → List (List Int) → List (List Int) → Int → ByteArray → List (S48) → List (S62) → List (S111) → List (S111) → Option ((List (List Int)))
 | 0, _, _, _, _, _, _, _, _, _ => none
 | k + 1, x0, x5, x11, x12, x359000, x359001, x359002, x359003, x359004 => if x12 < (x5.length : Int) then (if 0 ≤ x12 then ((r40_Holds.f k x0 x359000 x359001 x359002 x359003 x359004 (rd_L15 x5 x12)).bind fun t379 => (if t379 = true then (if x11.length < 5864062014805 then (r40_All.l3 k x0 x5 (x11 ++ [rd_L15 x5 x12]) (wrap64 (x12 + 1)) x359000 x359001 x359002 x359003 x359004) else (none)) else (r40_All.l3 k x0 x5 x11 (wrap64 (x12 + 1)) x359000 x359001 x359002 x359003 x359004))) else (none)) else (some x11)
end
def r40_All.f (k : Nat) (l0 : List (S51)) (a1_0 : ByteArray) (l1_1 : List (S48)) (l1_2 : List (S62)) (l1_3 : List (S111)) (l1_4 : List (S111)) : Option ((List (List Int))) := (r40_Check.f k l0 a1_0 l1_1 l1_2 l1_3 l1_4).bind fun t359 => (if t359 = 0 then (r40_All.l0 k l0 (([(([] : List Int))] : List (List Int))) 0 a1_0 l1_1 l1_2 l1_3 l1_4) else (some ([] : List (List Int))))
theorem r40_All.mono_l : ∀ k, (∀ y0 y1 y2 y3 y4 y5 y6 y7, LeO (r40_All.l0 k y0 y1 y2 y3 y4 y5 y6 y7) (r40_All.l0 (k + 1) y0 y1 y2 y3 y4 y5 y6 y7)) ∧ (∀ y0 y1 y2 y3 y4 y5 y6 y7 y8 y9, LeO (r40_All.l1 k y0 y1 y2 y3 y4 y5 y6 y7 y8 y9) (r40_All.l1 (k + 1) y0 y1 y2 y3 y4 y5 y6 y7 y8 y9)) ∧ (∀ y0 y1 y2 y3 y4 y5 y6 y7 y8 y9 y10, LeO (r40_All.l2 k y0 y1 y2 y3 y4 y5 y6 y7 y8 y9 y10) (r40_All.l2 (k + 1) y0 y1 y2 y3 y4 y5 y6 y7 y8 y9 y10)) ∧ (∀ y0 y1 y2 y3 y4 y5 y6 y7 y8, LeO (r40_All.l3 k y0 y1 y2 y3 y4 y5 y6 y7 y8) (r40_All.l3 (k + 1) y0 y1 y2 y3 y4 y5 y6 y7 y8))
 | 0 => ⟨fun _ _ _ _ _ _ _ _ r h => by simp [r40_All.l0] at h, fun _ _ _ _ _ _ _ _ _ _ r h => by simp [r40_All.l1] at h, fun _ _ _ _ _ _ _ _ _ _ _ r h => by simp [r40_All.l2] at h, fun _ _ _ _ _ _ _ _ _ r h => by simp [r40_All.l3] at h⟩
 | k + 1 => by
  obtain ⟨ih0, ih1, ih2, ih3⟩ := r40_All.mono_l k
  refine ⟨?_, ?_, ?_, ?_⟩
  ·intro y0 y1 y2 y3 y4 y5 y6 y7
   unfold r40_All.l0
   repeat' first
   | (with_reducible first | exact ih0 _ _ _ _ _ _ _ _ | exact ih1 _ _ _ _ _ _ _ _ _ _ | exact ih2 _ _ _ _ _ _ _ _ _ _ _ | exact ih3 _ _ _ _ _ _ _ _ _ | exact r40_Check.mono _ _ _ _ _ _ _ | exact r40_Holds.mono _ _ _ _ _ _ _ _ | exact LeO.refl _ | exact LeO.none _ | refine LeO.ite ?_ ?_ | refine LeO.bind ?_ (fun _ => ?_))
   | exact LeO.none _
   | refine LeO.ite ?_ ?_
   | refine LeO.bind ?_ (fun _ => ?_)
  ·intro y0 y1 y2 y3 y4 y5 y6 y7 y8 y9
   unfold r40_All.l1
   repeat' first
   | (with_reducible first | exact ih0 _ _ _ _ _ _ _ _ | exact ih1 _ _ _ _ _ _ _ _ _ _ | exact ih2 _ _ _ _ _ _ _ _ _ _ _ | exact ih3 _ _ _ _ _ _ _ _ _ | exact r40_Check.mono _ _ _ _ _ _ _ | exact r40_Holds.mono _ _ _ _ _ _ _ _ | exact LeO.refl _ | exact LeO.none _ | refine LeO.ite ?_ ?_ | refine LeO.bind ?_ (fun _ => ?_))
   | exact LeO.none _
   | refine LeO.ite ?_ ?_
   | refine LeO.bind ?_ (fun _ => ?_)
  ·intro y0 y1 y2 y3 y4 y5 y6 y7 y8 y9 y10
   unfold r40_All.l2
   repeat' first
   | (with_reducible first | exact ih0 _ _ _ _ _ _ _ _ | exact ih1 _ _ _ _ _ _ _ _ _ _ | exact ih2 _ _ _ _ _ _ _ _ _ _ _ | exact ih3 _ _ _ _ _ _ _ _ _ | exact r40_Check.mono _ _ _ _ _ _ _ | exact r40_Holds.mono _ _ _ _ _ _ _ _ | exact LeO.refl _ | exact LeO.none _ | refine LeO.ite ?_ ?_ | refine LeO.bind ?_ (fun _ => ?_))
   | exact LeO.none _
   | refine LeO.ite ?_ ?_
   | refine LeO.bind ?_ (fun _ => ?_)
  ·intro y0 y1 y2 y3 y4 y5 y6 y7 y8
   unfold r40_All.l3
   repeat' first
   | (with_reducible first | exact ih0 _ _ _ _ _ _ _ _ | exact ih1 _ _ _ _ _ _ _ _ _ _ | exact ih2 _ _ _ _ _ _ _ _ _ _ _ | exact ih3 _ _ _ _ _ _ _ _ _ | exact r40_Check.mono _ _ _ _ _ _ _ | exact r40_Holds.mono _ _ _ _ _ _ _ _ | exact LeO.refl _ | exact LeO.none _ | refine LeO.ite ?_ ?_ | refine LeO.bind ?_ (fun _ => ?_))
   | exact LeO.none _
   | refine LeO.ite ?_ ?_
   | refine LeO.bind ?_ (fun _ => ?_)
theorem r40_All.mono : ∀ a0 a1 a2 a3 a4 a5 k, LeO (r40_All.f k a0 a1 a2 a3 a4 a5) (r40_All.f (k + 1) a0 a1 a2 a3 a4 a5) := by
 intro a0 a1 a2 a3 a4 a5 k
 obtain ⟨ih0, ih1, ih2, ih3⟩ := r40_All.mono_l k
 unfold r40_All.f
 repeat' first
   | (with_reducible first | exact ih0 _ _ _ _ _ _ _ _ | exact ih1 _ _ _ _ _ _ _ _ _ _ | exact ih2 _ _ _ _ _ _ _ _ _ _ _ | exact ih3 _ _ _ _ _ _ _ _ _ | exact r40_Check.mono _ _ _ _ _ _ _ | exact r40_Holds.mono _ _ _ _ _ _ _ _ | exact LeO.refl _ | exact LeO.none _ | refine LeO.ite ?_ ?_ | refine LeO.bind ?_ (fun _ => ?_))
   | exact LeO.none _
   | refine LeO.ite ?_ ?_
   | refine LeO.bind ?_ (fun _ => ?_)
set_option maxHeartbeats 8000000 in
set_option maxRecDepth 100000 in
theorem r40_All.calls (k : Nat) (A0 : Option Addr) (c0 : Nat) (l0 : List (S51)) (a1_0 : ByteArray) (A1_1 : Option Addr) (c1_1 : Nat) (l1_1 : List (S48)) (A1_2 : Option Addr) (c1_2 : Nat) (l1_2 : List (S62)) (A1_3 : Option Addr) (c1_3 : Nat) (l1_3 : List (S111)) (A1_4 : Option Addr) (c1_4 : Nat) (l1_4 : List (S111)) (r : List (List Int)) (w : World) (hr0 : Kd.C k51 w A0 l0.length l0) (hc0 : l0.length ≤ c0) (hr1_1 : Kd.C k48 w A1_1 l1_1.length l1_1) (hc1_1 : l1_1.length ≤ c1_1) (hr1_2 : Kd.C k62 w A1_2 l1_2.length l1_2) (hc1_2 : l1_2.length ≤ c1_2) (hr1_3 : Kd.C k111 w A1_3 l1_3.length l1_3) (hc1_3 : l1_3.length ≤ c1_3) (hr1_4 : Kd.C k111 w A1_4 l1_4.length l1_4) (hc1_4 : l1_4.length ≤ c1_4) (h : r40_All.f k l0 a1_0 l1_1 l1_2 l1_3 l1_4 = some r) :
  Calls Try.prog 25 #[.slice A0 l0.length c0, .agg #[.string a1_0, .slice A1_1 l1_1.length c1_1, .slice A1_2 l1_2.length c1_2, .slice A1_3 l1_3.length c1_3, .slice A1_4 l1_4.length c1_4]] w fun e w' => ∃ v0_ : Value, e = .returned (v0_) ∧ Kd.N (Kd.slice 3 (Kd.int .i64)) 29 w' w.heap.size (fun k_ => (w.heap.size ≤ k_)) v0_ r ∧ Below w.heap.size w w' := by
 have hu27 := Try.underlying27; have hu9 := Try.underlying9; have hu23 := Try.underlying23; have hu24 := Try.underlying24; have hu25 := Try.underlying25; have HR0 := aM hr0; have HC0 := aM hc0; clear hr0 hc0; have HR1_1 := aM hr1_1; have HC1_1 := aM hc1_1; clear hr1_1 hc1_1; have HR1_2 := aM hr1_2; have HC1_2 := aM hc1_2; clear hr1_2 hc1_2; have HR1_3 := aM hr1_3; have HC1_3 := aM hc1_3; clear hr1_3 hc1_3; have HR1_4 := aM hr1_4; have HC1_4 := aM hc1_4; clear hr1_4 hc1_4; have HB := aM (Below.refl w.heap.size w)
 have H : ((r40_Check.f k l0 a1_0 l1_1 l1_2 l1_3 l1_4).bind fun t359 => (if t359 = 0 then (r40_All.l0 k l0 (([(([] : List Int))] : List (List Int))) 0 a1_0 l1_1 l1_2 l1_3 l1_4) else (some ([] : List (List Int))))) = some r := h
 clear h; replace H := Option.bind_eq_some_iff.mp H; obtain ⟨t359, A30, H⟩ := H
 replace H : (if t359 = 0 then (r40_All.l0 k l0 (([(([] : List Int))] : List (List Int))) 0 a1_0 l1_1 l1_2 l1_3 l1_4) else (some ([] : List (List Int)))) = some r := H
 have A3 := aM A30; clear A30
 by_cases c4 : t359 = 0
 ·rw [if_pos c4] at H
  have c4b0 : (t359 == 0) = true := beq_iff_eq.mpr c4; have c4b1 : (t359 != 0) = false := bne_eq_false_iff_eq.mpr c4; clear c4
  obtain ⟨y360, hy360⟩ : ∃ y_ : List Int, y_ = (([] : List Int)) := ⟨_, rfl⟩
  replace H : (r40_All.l0 k l0 (([y360] : List (List Int))) 0 a1_0 l1_1 l1_2 l1_3 l1_4) = some r := by first | (rw [hy360]; with_reducible exact H) | (have H2_ := (Option.bind_some _ _).symm.trans H; rw [hy360]; with_reducible exact H2_) | (have H2_ := (Option.bind_some _ _).symm.trans H; with_reducible exact H2_) | with_reducible exact H | (rw [hy360]; exact H) | exact H
  have Ny360 := aM hy360; clear hy360
  obtain ⟨y363, hy363⟩ : ∃ y_ : List (List Int), y_ = (([y360] : List (List Int))) := ⟨_, rfl⟩
  replace H : (r40_All.l0 k l0 y363 0 a1_0 l1_1 l1_2 l1_3 l1_4) = some r := by first | (rw [hy363]; with_reducible exact H) | (have H2_ := (Option.bind_some _ _).symm.trans H; rw [hy363]; with_reducible exact H2_) | (have H2_ := (Option.bind_some _ _).symm.trans H; with_reducible exact H2_) | with_reducible exact H | (rw [hy363]; exact H) | exact H
  have Ny363 := aM hy363; clear hy363
  have H' := aM H
  clear H
  go_enter Try.func25, Try.ntmps25
  go_wp2_with (first | ((with_reducible refine gate_dst (N := 3) rfl ?_); refine box_event ?hg (N := 3) ?hd (cs := #[.string a1_0, .slice A1_1 l1_1.length c1_1, .slice A1_2 l1_2.length c1_2, .slice A1_3 l1_3.length c1_3, .slice A1_4 l1_4.length c1_4]) (t := 27) ?hr ?_; (case hd => rfl); (case hg => rfl); (case hr => first | (go_simp; done) | (go_simp; rfl)); intro gb358 hg w5 hbox hb; have n0_ := aM (below_step (bB HB.out) hb); have n1_ := aM (hbox); have n2_ := aM ((by rw [hg]; exact (below_size (bB HB.out)) : w.heap.size ≤ gb358)); have n3_ := aM ((by rw [hg]; exact (below_size (bB HB.out)) : w.heap.size ≤ gb358)); clear HB; have HB := n0_; have BK358 := n1_; have GW358 := n2_; have GE358 := n3_; clear n0_ n1_ n2_ n3_; clear hb hbox hg; have hcz6_0 : w5.cell? ⟨gb358, 0, none⟩ = some (.string a1_0) := (blk_cell BK358.out 0).trans rfl; have hcz6_1 : w5.cell? ⟨gb358, 1, none⟩ = some (.slice A1_1 l1_1.length c1_1) := (blk_cell BK358.out 1).trans rfl; have hcz6_2 : w5.cell? ⟨gb358, 2, none⟩ = some (.slice A1_2 l1_2.length c1_2) := (blk_cell BK358.out 2).trans rfl; have hcz6_3 : w5.cell? ⟨gb358, 3, none⟩ = some (.slice A1_3 l1_3.length c1_3) := (blk_cell BK358.out 3).trans rfl; have hcz6_4 : w5.cell? ⟨gb358, 4, none⟩ = some (.slice A1_4 l1_4.length c1_4) := (blk_cell BK358.out 4).trans rfl; have hfz6_0 := blk_frozen BK358.out 0; have hfz6_1 := blk_frozen BK358.out 1; have hfz6_2 := blk_frozen BK358.out 2; have hfz6_3 := blk_frozen BK358.out 3; have hfz6_4 := blk_frozen BK358.out 4) | ((with_reducible refine gate_callee (f := 12) rfl ?_); refine goesL_ (some 15) rfl rfl Try.func12 (by kernel_rfl) rfl #[.slice A0 l0.length c0, .agg #[.string a1_0, .slice A1_1 l1_1.length c1_1, .slice A1_2 l1_2.length c1_2, .slice A1_3 l1_3.length c1_3, .slice A1_4 l1_4.length c1_4]] rfl mT ?_; (with_reducible refine (r40_Check.calls k _ _ l0 a1_0 _ _ l1_1 _ _ l1_2 _ _ l1_3 _ _ l1_4 t359 _ ?side1 ?side2 ?side3 ?side4 ?side5 ?side6 ?side7 ?side8 ?side9 ?side10 A3.out).mono ?_); (case side1 => exact cB HR0.out HB.out); (case side2 => exact HC0.out); (case side3 => exact cB HR1_1.out HB.out); (case side4 => exact HC1_1.out); (case side5 => exact cB HR1_2.out HB.out); (case side6 => exact HC1_2.out); (case side7 => exact cB HR1_3.out HB.out); (case side8 => exact HC1_3.out); (case side9 => exact cB HR1_4.out HB.out); (case side10 => exact HC1_4.out); rintro e w7 ⟨rfl, hb⟩; refine ⟨_, rfl, ?_⟩; have n0_ := aM (kW BK358.out hb); have n1_ := aM (below_step (bB1 HB.out GE358.out) hb); clear BK358; clear HB; have BK358 := n0_; have HB := n1_; clear n0_ n1_; (try clear hb); (try clear hb2); (try clear hk); (try clear hi)) | ((with_reducible refine gate_dst (N := 17) rfl ?_); refine Kd.R_lit (Kd.int .i64) _ 3 ?hg (N := 17) ?hd (xs := ([] : List Int)) (inner := []) (ok := fun _ => True) (okp := fun _ => True) ?hr ?hp (fun _ hk => hk) trivial (Below.refl _ _) (Nat.le_refl _) (by simp) ?_; (case hd => rfl); (case hg => rfl); (case hr => first | (go_simp; done) | (go_simp; rfl)); (case hp => exact (Reps.none _ _)); intro v361 w8 ho9 hb hg_ hnew_; clear hg_ hnew_; (first | rw [← Ny360.out] at ho9 | (simp only [Int.reduceToNat] at ho9; rw [← Ny360.out] at ho9)); have n0_ := aM (Kd.R_lower (Kd.R_newM (M := fun k_ => (w.heap.size ≤ k_)) ho9 (below_size (bB1 HB.out GE358.out)) (fun k_ h_ => h_)) (below_size (bB1 HB.out GE358.out))); have n1_ := aM (kW BK358.out hb); have n2_ := aM (below_step (bB1 HB.out GE358.out) hb); clear BK358; clear HB; have HO362 := n0_; have BK358 := n1_; have HB := n2_; clear n0_ n1_ n2_; clear hb ho9; obtain ⟨Ao10, co10, eo10⟩ := Kd.R_slice HO362.out; subst eo10) | ((with_reducible refine gate_dst (N := 18) rfl ?_); refine Kd.N_lit (Kd.slice 3 (Kd.int .i64)) _ 29 ?hg (N' := 18) ?hd (xs := ([y360] : List (List Int))) (inner := [.slice Ao10 y360.length co10]) (ok := (fun k_ => (w.heap.size ≤ k_) ∧ k_ ≠ gb358)) (okp := (fun k_ => (w.heap.size ≤ k_) ∧ k_ ≠ gb358)) ?hr ?hp (fun _ hk => hk) ((show ∀ k_, w8.heap.size ≤ k_ → (fun k_ => (w.heap.size ≤ k_) ∧ k_ ≠ gb358) k_ from fun k_ hk => ⟨(Nat.le_trans (below_size (bB1 HB.out GE358.out)) hk), Kd.freshB (g := gb358) (o := .cells #[.string a1_0, .slice A1_1 l1_1.length c1_1, .slice A1_2 l1_2.length c1_2, .slice A1_3 l1_3.length c1_3, .slice A1_4 l1_4.length c1_4] 27 (0, 0)) (kB BK358.out) k_ hk⟩) _ (Nat.le_refl _)) (Below.refl _ _) (Nat.le_refl _) (by simp) ?_; (case hd => rfl); (case hg => rfl); (case hr => first | (go_simp; done) | (go_simp; rfl)); (case hp => exact (Reps.one (show Kd.FK (Kd.slice 3 (Kd.int .i64)) _ _ y360 [.slice Ao10 y360.length co10] from (Kd.FK_slice_mk (Kd.R_reads' (Kd.R_mono (ok' := (fun k_ => (w.heap.size ≤ k_) ∧ k_ ≠ gb358)) (Kd.R_types (HO362.out) BK358.out (by decide)) (fun k_ hk => ⟨hk.1.1, hk.2⟩))).2.1 (Kd.R_F (Kd.R_mono (ok' := (fun k_ => (w.heap.size ≤ k_) ∧ k_ ≠ gb358)) (Kd.R_types (HO362.out) BK358.out (by decide)) (fun k_ hk => ⟨hk.1.1, hk.2⟩))))) (Reps.none _ _))); intro v364 w11 ho12 hb hg_ hnew_; clear hg_ hnew_; (first | rw [← Ny363.out] at ho12 | (simp only [Int.reduceToNat] at ho12; rw [← Ny363.out] at ho12)); have n0_ := aM (Kd.N_lower ho12 (below_size (bB1 HB.out GE358.out))); have n1_ := aM (kW BK358.out hb); have n2_ := aM (below_step (bB1 HB.out GE358.out) hb); clear BK358; clear HB; clear HO362; have HO365 := n0_; have BK358 := n1_; have HB := n2_; clear n0_ n1_ n2_; clear hb ho12))
  go_loopg [5, 6] k (fun kq v5 v6 w' => ∃ (x5_1 : List (List Int)) (x6_1 : Int), v6 = .int .i64 x6_1 ∧ Aside0 (r40_All.l0 kq l0 x5_1 x6_1 a1_0 l1_1 l1_2 l1_3 l1_4 = some r) ∧ Aside0 (kq ≤ k) ∧ Aside0 (Kd.N (Kd.slice 3 (Kd.int .i64)) 29 w' w.heap.size (fun k_ => (w.heap.size ≤ k_) ∧ k_ ≠ gb358) v5 x5_1) ∧ Aside0 (w'.heap[gb358]? = some (.cells #[.string a1_0, (.slice A1_1 l1_1.length c1_1), (.slice A1_2 l1_2.length c1_2), (.slice A1_3 l1_3.length c1_3), (.slice A1_4 l1_4.length c1_4)] 27 (0, 0))) ∧ Aside0 (Below w.heap.size w w'))
  case atStart => exact ⟨(y363), (0), eT, H', ⟨Nat.le_refl _⟩, ⟨by (with_reducible repeat (first | apply Kd.N_alloc | apply Kd.N_drewN | apply Kd.N_drew)); exact HO365.out⟩, ⟨kB BK358.out⟩, ⟨bB1 HB.out GE358.out⟩⟩
  case round =>
   clear H'; obtain ⟨x5_1, x6_1, rfl, HA, HK1, HO_5, BK358, HB⟩ := hrel
   cases gk with
   | zero => exact absurd HA.out (by simp [r40_All.l0])
   | succ k1 =>
    have H := HA.out; clear HA
    simp only [r40_All.l0] at H
    by_cases c13 : x6_1 < (l1_1.length : Int)
    ·rw [if_pos c13] at H
     have c13b0 : decide (x6_1 < (l1_1.length : Int)) = true := decide_eq_true c13; clear c13
     have H' := aM H
     clear H
     have hcz14_0 : wr.cell? ⟨gb358, 0, none⟩ = some (.string a1_0) := (blk_cell BK358.out 0).trans rfl
     have hcz14_1 : wr.cell? ⟨gb358, 1, none⟩ = some (.slice A1_1 l1_1.length c1_1) := (blk_cell BK358.out 1).trans rfl
     have hcz14_2 : wr.cell? ⟨gb358, 2, none⟩ = some (.slice A1_2 l1_2.length c1_2) := (blk_cell BK358.out 2).trans rfl
     have hcz14_3 : wr.cell? ⟨gb358, 3, none⟩ = some (.slice A1_3 l1_3.length c1_3) := (blk_cell BK358.out 3).trans rfl
     have hcz14_4 : wr.cell? ⟨gb358, 4, none⟩ = some (.slice A1_4 l1_4.length c1_4) := (blk_cell BK358.out 4).trans rfl
     have hfz14_0 := blk_frozen BK358.out 0; have hfz14_1 := blk_frozen BK358.out 1; have hfz14_2 := blk_frozen BK358.out 2; have hfz14_3 := blk_frozen BK358.out 3; have hfz14_4 := blk_frozen BK358.out 4
     go_wp2
     go_loopg [7, 8] k1 (fun kq v7 v8 w' => ∃ (x7_2 : List (List Int)) (x8_2 : Int), v8 = .int .i64 x8_2 ∧ Aside0 (r40_All.l1 kq l0 x5_1 x6_1 x7_2 x8_2 a1_0 l1_1 l1_2 l1_3 l1_4 = some r) ∧ Aside0 (kq ≤ k1) ∧ Aside0 (Kd.N (Kd.slice 3 (Kd.int .i64)) 29 w' w.heap.size (fun k_ => (w.heap.size ≤ k_) ∧ some k_ ≠ (v7 : Value).ownBlock ∧ k_ ≠ gb358) u5 x5_1) ∧ Aside0 (Kd.N (Kd.slice 3 (Kd.int .i64)) 29 w' w.heap.size (fun k_ => (w.heap.size ≤ k_) ∧ some k_ ≠ (u5 : Value).ownBlock ∧ k_ ≠ gb358) v7 x7_2) ∧ Aside0 (w'.heap[gb358]? = some (.cells #[.string a1_0, (.slice A1_1 l1_1.length c1_1), (.slice A1_2 l1_2.length c1_2), (.slice A1_3 l1_3.length c1_3), (.slice A1_4 l1_4.length c1_4)] 27 (0, 0))) ∧ Aside0 (Below w.heap.size w w'))
     case atStart => exact ⟨(([] : List (List Int))), (0), eT, H', ⟨Nat.le_refl _⟩, ⟨by (with_reducible repeat (first | apply Kd.N_alloc | apply Kd.N_drewN | apply Kd.N_drew)); exact Kd.N_mono HO_5.out (fun _ hk => ⟨hk.1, ⟨(by simp [Value.ownBlock]), hk.2⟩⟩)⟩, ⟨by first | exact Kd.S_nil _ _ _ _ _ | exact Kd.N_nil _ _ _ _ _ | exact Kd.V_nil _ _ _ _ _ | exact Kd.Q_nil _ _ _ _ _ | exact Kd.R_nil _ _ _ _ _⟩, ⟨kB BK358.out⟩, ⟨bB1 HB.out GE358.out⟩⟩
     case round =>
      clear H'; obtain ⟨x7_2, x8_2, rfl, HA, HK2, HO_5, HO_7, BK358, HB⟩ := hrel
      cases gk with
      | zero => exact absurd HA.out (by simp [r40_All.l1])
      | succ k2 =>
       have H := HA.out; clear HA
       simp only [r40_All.l1] at H
       by_cases c15 : x8_2 < (x5_1.length : Int)
       ·rw [if_pos c15] at H
        have c15b0 : decide (x8_2 < (x5_1.length : Int)) = true := decide_eq_true c15; clear c15
        have H' := aM H
        clear H; obtain ⟨Ao16, co16, eo16⟩ := Kd.N_slice HO_5.out; subst eo16
        go_wp2
        go_loopg [7, 9] k2 (fun kq v7 v9 w' => ∃ (x7_3 : List (List Int)) (x9_3 : Int), v9 = .int .i64 x9_3 ∧ Aside0 (r40_All.l2 kq l0 x5_1 x6_1 x7_3 x8_2 x9_3 a1_0 l1_1 l1_2 l1_3 l1_4 = some r) ∧ Aside0 (kq ≤ k2) ∧ Aside0 (Kd.N (Kd.slice 3 (Kd.int .i64)) 29 w' w.heap.size (fun k_ => (w.heap.size ≤ k_) ∧ some k_ ≠ (v7 : Value).ownBlock ∧ k_ ≠ gb358) (.slice Ao16 x5_1.length co16) x5_1) ∧ Aside0 (Kd.N (Kd.slice 3 (Kd.int .i64)) 29 w' w.heap.size (fun k_ => (w.heap.size ≤ k_) ∧ some k_ ≠ ((.slice Ao16 x5_1.length co16) : Value).ownBlock ∧ k_ ≠ gb358) v7 x7_3) ∧ Aside0 (w'.heap[gb358]? = some (.cells #[.string a1_0, (.slice A1_1 l1_1.length c1_1), (.slice A1_2 l1_2.length c1_2), (.slice A1_3 l1_3.length c1_3), (.slice A1_4 l1_4.length c1_4)] 27 (0, 0))) ∧ Aside0 (Below w.heap.size w w'))
        case atStart => exact ⟨(x7_2), (0), eT, H', ⟨Nat.le_refl _⟩, ⟨by (with_reducible repeat (first | apply Kd.N_alloc | apply Kd.N_drewN | apply Kd.N_drew)); exact HO_5.out⟩, ⟨by (with_reducible repeat (first | apply Kd.N_alloc | apply Kd.N_drewN | apply Kd.N_drew)); exact HO_7.out⟩, ⟨kB BK358.out⟩, ⟨bB1 HB.out GE358.out⟩⟩
        case round =>
         clear H'; obtain ⟨x7_3, x9_3, rfl, HA, HK3, HO_5, HO_7, BK358, HB⟩ := hrel
         cases gk with
         | zero => exact absurd HA.out (by simp [r40_All.l2])
         | succ k3 =>
          have H := HA.out; clear HA
          simp only [r40_All.l2] at H
          by_cases c17 : 0 ≤ x6_1
          ·rw [if_pos c17] at H
           have c17b0 : decide (0 ≤ x6_1) = true := decide_eq_true c17; clear c17
           by_cases c18 : x6_1 < (l1_1.length : Int)
           ·rw [if_pos c18] at H
            have c18b0 : decide (x6_1 < (l1_1.length : Int)) = true := decide_eq_true c18; clear c18
            by_cases c19 : 0 ≤ ((rd_T48 l1_1 x6_1).f1)
            ·rw [if_pos c19] at H
             have c19b0 : decide (0 ≤ ((rd_T48 l1_1 x6_1).f1)) = true := decide_eq_true c19; clear c19
             by_cases c20 : ((rd_T48 l1_1 x6_1).f1) < (l0.length : Int)
             ·rw [if_pos c20] at H
              have c20b0 : decide (((rd_T48 l1_1 x6_1).f1) < (l0.length : Int)) = true := decide_eq_true c20; clear c20
              by_cases c21 : x9_3 < (((rd_T51 l0 ((rd_T48 l1_1 x6_1).f1)).f1).length : Int)
              ·rw [if_pos c21] at H
               have c21b0 : decide (x9_3 < (((rd_T51 l0 ((rd_T48 l1_1 x6_1).f1)).f1).length : Int)) = true := decide_eq_true c21; clear c21
               by_cases c22 : 0 ≤ x8_2
               ·rw [if_pos c22] at H
                have c22b0 : decide (0 ≤ x8_2) = true := decide_eq_true c22; clear c22
                by_cases c23 : x8_2 < (x5_1.length : Int)
                ·rw [if_pos c23] at H
                 have c23b0 : decide (x8_2 < (x5_1.length : Int)) = true := decide_eq_true c23; clear c23
                 by_cases c24 : ([] : List Int).length + (rd_L15 x5_1 x8_2).length < 17592186044416
                 ·rw [if_pos c24] at H
                  have LMc24 := aM c24; clear c24
                  obtain ⟨y369, hy369⟩ : ∃ y_ : List Int, y_ = (([] : List Int) ++ (rd_L15 x5_1 x8_2)) := ⟨_, rfl⟩
                  replace H : (if y369.length < 17592186044416 then (if x7_3.length < 5864062014805 then (r40_All.l2 k3 l0 x5_1 x6_1 (x7_3 ++ [(y369 ++ [x9_3])]) x8_2 (wrap64 (x9_3 + 1)) a1_0 l1_1 l1_2 l1_3 l1_4) else (none)) else (none)) = some r := by first | (rw [hy369]; with_reducible exact H) | (have H2_ := (Option.bind_some _ _).symm.trans H; rw [hy369]; with_reducible exact H2_) | (have H2_ := (Option.bind_some _ _).symm.trans H; with_reducible exact H2_) | with_reducible exact H | (rw [hy369]; exact H) | exact H
                  have Ny369 := aM hy369; clear hy369
                  by_cases c25 : y369.length < 17592186044416
                  ·rw [if_pos c25] at H
                   have LMc25 := aM c25; clear c25
                   obtain ⟨y372, hy372⟩ : ∃ y_ : List Int, y_ = (y369 ++ [x9_3]) := ⟨_, rfl⟩
                   replace H : (if x7_3.length < 5864062014805 then (r40_All.l2 k3 l0 x5_1 x6_1 (x7_3 ++ [y372]) x8_2 (wrap64 (x9_3 + 1)) a1_0 l1_1 l1_2 l1_3 l1_4) else (none)) = some r := by first | (rw [hy372]; with_reducible exact H) | (have H2_ := (Option.bind_some _ _).symm.trans H; rw [hy372]; with_reducible exact H2_) | (have H2_ := (Option.bind_some _ _).symm.trans H; with_reducible exact H2_) | with_reducible exact H | (rw [hy372]; exact H) | exact H
                   have Ny372 := aM hy372; clear hy372
                   by_cases c26 : x7_3.length < 5864062014805
                   ·rw [if_pos c26] at H
                    have LMc26 := aM c26; clear c26
                    obtain ⟨y375, hy375⟩ : ∃ y_ : List (List Int), y_ = (x7_3 ++ [y372]) := ⟨_, rfl⟩
                    replace H : (r40_All.l2 k3 l0 x5_1 x6_1 y375 x8_2 (wrap64 (x9_3 + 1)) a1_0 l1_1 l1_2 l1_3 l1_4) = some r := by first | (rw [hy375]; with_reducible exact H) | (have H2_ := (Option.bind_some _ _).symm.trans H; rw [hy375]; with_reducible exact H2_) | (have H2_ := (Option.bind_some _ _).symm.trans H; with_reducible exact H2_) | with_reducible exact H | (rw [hy375]; exact H) | exact H
                    have Ny375 := aM hy375; clear hy375
                    have H' := aM H
                    clear H
                    have hcz27_0 : wr.cell? ⟨gb358, 0, none⟩ = some (.string a1_0) := (blk_cell BK358.out 0).trans rfl
                    have hcz27_1 : wr.cell? ⟨gb358, 1, none⟩ = some (.slice A1_1 l1_1.length c1_1) := (blk_cell BK358.out 1).trans rfl
                    have hcz27_2 : wr.cell? ⟨gb358, 2, none⟩ = some (.slice A1_2 l1_2.length c1_2) := (blk_cell BK358.out 2).trans rfl
                    have hcz27_3 : wr.cell? ⟨gb358, 3, none⟩ = some (.slice A1_3 l1_3.length c1_3) := (blk_cell BK358.out 3).trans rfl
                    have hcz27_4 : wr.cell? ⟨gb358, 4, none⟩ = some (.slice A1_4 l1_4.length c1_4) := (blk_cell BK358.out 4).trans rfl
                    have hfz27_0 := blk_frozen BK358.out 0; have hfz27_1 := blk_frozen BK358.out 1; have hfz27_2 := blk_frozen BK358.out 2; have hfz27_3 := blk_frozen BK358.out 3; have hfz27_4 := blk_frozen BK358.out 4; have p366 : 0 ≤ (x6_1 : Int) := dT; have q366 : x6_1 < (l1_1.length : Int) := dT; obtain ⟨ad366, e366, hx366_0, hx366_1⟩ := at_T48 HR1_1.out x6_1 p366 q366; cases e366; replace hx366_0 := (HB.out.cell (World.block_lt_of_cell? w _ hx366_0)).trans hx366_0; replace hx366_1 := (HB.out.cell (World.block_lt_of_cell? w _ hx366_1)).trans hx366_1; replace p366 := eq_true p366; replace q366 := eq_true q366; have p367 : 0 ≤ (((rd_T48 l1_1 x6_1).f1) : Int) := dT; have q367 : ((rd_T48 l1_1 x6_1).f1) < (l0.length : Int) := dT; obtain ⟨ad367, A367_1, c367_1, e367, hx367_0, hx367_1, hl367_1, hi367_1⟩ := at_T51 HR0.out ((rd_T48 l1_1 x6_1).f1) p367 q367; cases e367; replace hx367_0 := (HB.out.cell (World.block_lt_of_cell? w _ hx367_0)).trans hx367_0; replace hx367_1 := (HB.out.cell (World.block_lt_of_cell? w _ hx367_1)).trans hx367_1; have HR367_1 := aM hi367_1; have HC367_1 := aM hl367_1; clear hi367_1 hl367_1; replace p367 := eq_true p367; replace q367 := eq_true q367; have p368 : 0 ≤ (x8_2 : Int) := dT; have q368 : x8_2 < (x5_1.length : Int) := dT; obtain ⟨ad368, A368_0, c368_0, e368, hx368_0, hl368_0, hi368_0⟩ := at_L15 (Kd.N_reads' HO_5.out).2.2 x8_2 p368 q368; cases e368; obtain ⟨ce368, hce368, hMe368, hcc368⟩ := Kd.N_get HO_5.out [] x8_2 p368 (by first | exact q368 | exact dT | (have e_ := (Kd.N_reads' HO_5.out).1; omega)); obtain ⟨ua368_0, uc368_0, rfl, ul368_0, ge368_0⟩ := Kd.FK_slice_open hMe368; have hv368_0 := hcc368 0 _ rfl; rw [Nat.add_zero, show ((Kd.slice 3 (Kd.int .i64))).sz = 1 from rfl, Nat.mul_one] at hv368_0; replace hv368_0 := Option.some.inj (hv368_0.symm.trans hx368_0); injection hv368_0 with hva_ hvn_ hvc_; rw [hva_] at ge368_0; rw [hvc_] at ul368_0; have HL368_0 := aM (show Kd.V (Kd.int .i64) 3 _ w.heap.size _ _ (rd_L15 x5_1 x8_2) from Kd.V_mk ul368_0 ge368_0); clear hva_ hvn_ hvc_ ge368_0 ul368_0; clear hcc368 hce368; have HR368_0 := aM hi368_0; have HC368_0 := aM hl368_0; clear hi368_0 hl368_0; replace p368 := eq_true p368; replace q368 := eq_true q368
                    go_wp2_with (first | ((with_reducible refine gate_builtin (b := .append) (xs := #[.tmp 47, .tmp 51]) rfl ?_); at_builtin; refine Kd.R_append_rows (Kd.int .i64) (w0 := w) w.heap.size rfl (.tmp 47) (.tmp 51) 29 3 (.int .i64 0) 8 rfl Try.underlying29 info3 rfl (by decide) (by omega) (.slice none 0 0) ([] : List Int) (rd_L15 x5_1 x8_2) _ _ _ (fun k_ => (w.heap.size ≤ k_)) (fun _ => False) rfl rfl ?aO ?aR (fun _ _ h => h) (fun _ h => h.elim) ?aF ?aB ?aS ?aL ?_; (case aR => repeat (first | exact (by repeat (first | (with_reducible exact HR368_0.out) | (with_reducible refine Kd.C_alloc ?_ _) | (with_reducible refine Kd.C_drewN ?_ _) | (with_reducible refine Kd.C_drew ?_) | exact HR368_0.out)) | (with_reducible refine Kd.C_alloc ?_ _) | (with_reducible refine Kd.C_drewN ?_ _) | (with_reducible refine Kd.C_drew ?_))); (case aB => exact (bB1 HB.out GE358.out)); (case aF => exact (fun k_ hk => (Nat.le_trans (below_size (bB1 HB.out GE358.out)) hk))); (case aO => exact ((Kd.R_nil _ _ _ _ (fun k_ => (w.heap.size ≤ k_))))); (case aS => exact (below_size (bB1 HB.out GE358.out))); (case aL => have := LMc24.out; omega); intro v370 w28 ho hb hg hat; rw [← Ny369.out] at ho; have n0_ := aM (Kd.N_afterv (Kd.N_apart_nil (by (with_reducible repeat (first | apply Kd.N_alloc | apply Kd.N_drewN | apply Kd.N_drew)); exact HO_5.out)) hg hat); have n1_ := aM (Kd.N_afterv (Kd.N_apart_nil (by (with_reducible repeat (first | apply Kd.N_alloc | apply Kd.N_drewN | apply Kd.N_drew)); exact HO_7.out)) hg hat); have n2_ := aM (blk_grown (g := gb358) (o := .cells #[.string a1_0, .slice (some ad366) l1_1.length c1_1, .slice A1_2 l1_2.length c1_2, .slice A1_3 l1_3.length c1_3, .slice A1_4 l1_4.length c1_4] 27 (0, 0)) (kB BK358.out) hg (by simp [Value.ownBlock])); have n3_ := aM (Kd.V_afterv (Kd.V_apart_nil (by (with_reducible repeat (first | apply Kd.V_alloc | apply Kd.V_drewN | apply Kd.V_drew)); exact HL368_0.out)) hg hat); have n4_ := aM (hb); have n5_ := aM (ho); clear HO_5; clear HO_7; clear BK358; clear HL368_0; clear HB; have HO_5 := n0_; have HO_7 := n1_; have BK358 := n2_; have HL368_0 := n3_; have HB := n4_; have HO371 := n5_; clear n0_ n1_ n2_ n3_ n4_ n5_; clear ho hb hg hat) | ((with_reducible refine gate_builtin (b := .append) (xs := #[.tmp 53, .tmp 55]) rfl ?_); at_builtin; refine Kd.R_append (Kd.int .i64) (w0 := w) w.heap.size rfl (.tmp 53) (.tmp 55) 29 3 (.int .i64 0) 8 rfl Try.underlying29 info3 rfl (by decide) (by omega) v370 y369 x9_3 [.int .i64 x9_3] (fun k_ => (w.heap.size ≤ k_)) (fun _ => False) rfl rfl ?aP (fun _ hk => hk.elim) ?aF ?aO ?aB ?aS ?aL ?_; (case aP => exact rfl); (case aB => exact (bB1 HB.out GE358.out)); (case aF => exact (fun k_ hk => (Nat.le_trans (below_size (bB1 HB.out GE358.out)) hk))); (case aO => exact (by (with_reducible repeat (first | apply Kd.R_alloc | apply Kd.R_drewN | apply Kd.R_drew)); exact HO371.out)); (case aS => exact (below_size (bB1 HB.out GE358.out))); (case aL => have := LMc25.out; omega); intro v373 w29 ho hb hg hat; rw [← Ny372.out] at ho; have n0_ := aM (Kd.N_afterv (ok := (fun k_ => (w.heap.size ≤ k_) ∧ some k_ ≠ (u7 : Value).ownBlock ∧ k_ ≠ gb358)) (by (with_reducible repeat (first | apply Kd.N_alloc | apply Kd.N_drewN | apply Kd.N_drew)); exact HO_5.out) hg hat); have n1_ := aM (Kd.N_afterv (ok := (fun k_ => (w.heap.size ≤ k_) ∧ some k_ ≠ (.slice (some ad368) x5_1.length co16 : Value).ownBlock ∧ k_ ≠ gb358)) (by (with_reducible repeat (first | apply Kd.N_alloc | apply Kd.N_drewN | apply Kd.N_drew)); exact HO_7.out) hg hat); have n2_ := aM (blk_grown (g := gb358) (o := .cells #[.string a1_0, .slice (some ad366) l1_1.length c1_1, .slice A1_2 l1_2.length c1_2, .slice A1_3 l1_3.length c1_3, .slice A1_4 l1_4.length c1_4] 27 (0, 0)) (kB BK358.out) hg (Kd.R_ne HO371.out BK358.out (by decide))); have n3_ := aM (Kd.V_afterv (ok := (fun k_ => (w.heap.size ≤ k_) ∧ some k_ ≠ (.slice (some ad368) x5_1.length co16 : Value).ownBlock ∧ some k_ ≠ (u7 : Value).ownBlock ∧ k_ ≠ gb358)) (by (with_reducible repeat (first | apply Kd.V_alloc | apply Kd.V_drewN | apply Kd.V_drew)); exact Kd.V_mono HL368_0.out (fun _ hk => ⟨⟨hk.1.1.1, ⟨hk.1.2, ⟨hk.1.1.2.1, hk.1.1.2.2⟩⟩⟩, hk.2⟩)) hg hat); have n4_ := aM (hb); have n5_ := aM (ho); clear HO_5; clear HO_7; clear BK358; clear HL368_0; clear HB; clear HO371; have HO_5 := n0_; have HO_7 := n1_; have BK358 := n2_; have HL368_0 := n3_; have HB := n4_; have HO374 := n5_; clear n0_ n1_ n2_ n3_ n4_ n5_; clear ho hb hg hat; obtain ⟨Ao31, co31, eo31⟩ := Kd.R_slice HO374.out; subst eo31) | ((with_reducible refine gate_builtin (b := .append) (xs := #[.tmp 57, .tmp 59]) rfl ?_); at_builtin; refine Kd.N_append (Kd.slice 3 (Kd.int .i64)) (w0 := w) w.heap.size rfl (.tmp 57) (.tmp 59) 45 29 (.slice none 0 0) 24 rfl Try.underlying45 info29 rfl (by decide) (by omega) u7 x7_3 y372 [.slice Ao31 y372.length co31] (fun k_ => (w.heap.size ≤ k_) ∧ some k_ ≠ (.slice (some ad368) x5_1.length co16 : Value).ownBlock ∧ k_ ≠ gb358) (fun k_ => ((fun k_ => (w.heap.size ≤ k_) ∧ some k_ ≠ (.slice (some ad368) x5_1.length co16 : Value).ownBlock ∧ k_ ≠ gb358)) k_ ∧ some k_ ≠ (u7 : Value).ownBlock) rfl rfl ?aP (fun _ hk => hk) ?aF ?aO ?aB ?aS ?aL ?_; (case aP => exact (Kd.FK_slice_mk (Kd.R_reads' (Kd.R_mono (ok' := (fun k_ => ((fun k_ => (w.heap.size ≤ k_) ∧ some k_ ≠ (.slice (some ad368) x5_1.length co16 : Value).ownBlock ∧ k_ ≠ gb358)) k_ ∧ some k_ ≠ (u7 : Value).ownBlock)) (Kd.R_types (Kd.R_apart' (Kd.R_apart' (HO374.out) (Kd.N_typed HO_5.out) (by decide)) (Kd.N_typed HO_7.out) (by decide)) BK358.out (by decide)) (fun k_ hk => ⟨⟨hk.1.1.1, ⟨hk.1.1.2, hk.2⟩⟩, hk.1.2⟩))).2.1 (Kd.R_F (Kd.R_mono (ok' := (fun k_ => ((fun k_ => (w.heap.size ≤ k_) ∧ some k_ ≠ (.slice (some ad368) x5_1.length co16 : Value).ownBlock ∧ k_ ≠ gb358)) k_ ∧ some k_ ≠ (u7 : Value).ownBlock)) (Kd.R_types (Kd.R_apart' (Kd.R_apart' (HO374.out) (Kd.N_typed HO_5.out) (by decide)) (Kd.N_typed HO_7.out) (by decide)) BK358.out (by decide)) (fun k_ hk => ⟨⟨hk.1.1.1, ⟨hk.1.1.2, hk.2⟩⟩, hk.1.2⟩))))); (case aB => exact (bB1 HB.out GE358.out)); (case aF => exact (fun k_ hk => ⟨(Nat.le_trans (below_size (bB1 HB.out GE358.out)) hk), Kd.fresh' (Kd.N_lt (by (with_reducible repeat (first | apply Kd.N_alloc | apply Kd.N_drewN | apply Kd.N_drew)); exact HO_5.out)) k_ hk, Kd.freshB (g := gb358) (o := .cells #[.string a1_0, .slice (some ad366) l1_1.length c1_1, .slice A1_2 l1_2.length c1_2, .slice A1_3 l1_3.length c1_3, .slice A1_4 l1_4.length c1_4] 27 (0, 0)) (kB BK358.out) k_ hk⟩)); (case aO => exact (by (with_reducible repeat (first | apply Kd.N_alloc | apply Kd.N_drewN | apply Kd.N_drew)); exact Kd.N_mono HO_7.out (fun _ hk => ⟨hk.1.1, ⟨hk.1.2.1, hk.1.2.2⟩⟩))); (case aS => exact (below_size (bB1 HB.out GE358.out))); (case aL => have := LMc26.out; omega); intro v376 w30 ho hb hg hat; rw [← Ny375.out] at ho; have n0_ := aM (Kd.N_afterv (ok := (fun k_ => (w.heap.size ≤ k_) ∧ some k_ ≠ (.slice Ao31 y372.length co31 : Value).ownBlock ∧ k_ ≠ gb358)) (by (with_reducible repeat (first | apply Kd.N_alloc | apply Kd.N_drewN | apply Kd.N_drew)); exact Kd.N_mono HO_5.out (fun _ hk => ⟨⟨hk.1.1, ⟨hk.2, hk.1.2.2⟩⟩, hk.1.2.1⟩)) hg hat); have n1_ := aM (blk_grown (g := gb358) (o := .cells #[.string a1_0, .slice (some ad366) l1_1.length c1_1, .slice A1_2 l1_2.length c1_2, .slice A1_3 l1_3.length c1_3, .slice A1_4 l1_4.length c1_4] 27 (0, 0)) (kB BK358.out) hg (Kd.N_ne HO_7.out BK358.out (by decide))); have n2_ := aM (Kd.V_afterv (ok := (fun k_ => (w.heap.size ≤ k_) ∧ some k_ ≠ (.slice (some ad368) x5_1.length co16 : Value).ownBlock ∧ some k_ ≠ (.slice Ao31 y372.length co31 : Value).ownBlock ∧ k_ ≠ gb358)) (by (with_reducible repeat (first | apply Kd.V_alloc | apply Kd.V_drewN | apply Kd.V_drew)); exact Kd.V_mono HL368_0.out (fun _ hk => ⟨⟨hk.1.1, ⟨hk.1.2.1, ⟨hk.2, hk.1.2.2.2⟩⟩⟩, hk.1.2.2.1⟩)) hg hat); have n3_ := aM (hb); have n4_ := aM (ho); clear HO_5; clear BK358; clear HL368_0; clear HB; clear HO_7; clear HO374; have HO_5 := n0_; have BK358 := n1_; have HL368_0 := n2_; have HB := n3_; have HO377 := n4_; clear n0_ n1_ n2_ n3_ n4_; clear ho hb hg hat))
                    go_roundg k3
                    case measure => have := HK1.out; have := HK2.out; have := HK3.out; omega
                    case rel => exact ⟨(y375), (wrap64 (x9_3 + 1)), eT, H', ⟨by have := HK1.out; have := HK2.out; have := HK3.out; omega⟩, ⟨by (with_reducible repeat (first | apply Kd.N_alloc | apply Kd.N_drewN | apply Kd.N_drew)); exact Kd.N_mono HO_5.out (fun _ hk => ⟨hk.1.1, ⟨hk.2, hk.1.2.2⟩⟩)⟩, ⟨by (with_reducible repeat (first | apply Kd.N_alloc | apply Kd.N_drewN | apply Kd.N_drew)); exact HO377.out⟩, ⟨kB BK358.out⟩, ⟨bB1 HB.out GE358.out⟩⟩
                   ·rw [if_neg c26] at H
                    exact absurd H (by simp)
                  ·rw [if_neg c25] at H
                   exact absurd H (by simp)
                 ·rw [if_neg c24] at H
                  exact absurd H (by simp)
                ·rw [if_neg c23] at H
                 exact absurd H (by simp)
               ·rw [if_neg c22] at H
                exact absurd H (by simp)
              ·rw [if_neg c21] at H
               have c21b0 : decide (x9_3 < (((rd_T51 l0 ((rd_T48 l1_1 x6_1).f1)).f1).length : Int)) = false := decide_eq_false c21; clear c21
               have H' := aM H
               clear H
               have hcz32_0 : wr.cell? ⟨gb358, 0, none⟩ = some (.string a1_0) := (blk_cell BK358.out 0).trans rfl
               have hcz32_1 : wr.cell? ⟨gb358, 1, none⟩ = some (.slice A1_1 l1_1.length c1_1) := (blk_cell BK358.out 1).trans rfl
               have hcz32_2 : wr.cell? ⟨gb358, 2, none⟩ = some (.slice A1_2 l1_2.length c1_2) := (blk_cell BK358.out 2).trans rfl
               have hcz32_3 : wr.cell? ⟨gb358, 3, none⟩ = some (.slice A1_3 l1_3.length c1_3) := (blk_cell BK358.out 3).trans rfl
               have hcz32_4 : wr.cell? ⟨gb358, 4, none⟩ = some (.slice A1_4 l1_4.length c1_4) := (blk_cell BK358.out 4).trans rfl
               have hfz32_0 := blk_frozen BK358.out 0; have hfz32_1 := blk_frozen BK358.out 1; have hfz32_2 := blk_frozen BK358.out 2; have hfz32_3 := blk_frozen BK358.out 3; have hfz32_4 := blk_frozen BK358.out 4; have p366 : 0 ≤ (x6_1 : Int) := dT; have q366 : x6_1 < (l1_1.length : Int) := dT; obtain ⟨ad366, e366, hx366_0, hx366_1⟩ := at_T48 HR1_1.out x6_1 p366 q366; cases e366; replace hx366_0 := (HB.out.cell (World.block_lt_of_cell? w _ hx366_0)).trans hx366_0; replace hx366_1 := (HB.out.cell (World.block_lt_of_cell? w _ hx366_1)).trans hx366_1; replace p366 := eq_true p366; replace q366 := eq_true q366; have p367 : 0 ≤ (((rd_T48 l1_1 x6_1).f1) : Int) := dT; have q367 : ((rd_T48 l1_1 x6_1).f1) < (l0.length : Int) := dT; obtain ⟨ad367, A367_1, c367_1, e367, hx367_0, hx367_1, hl367_1, hi367_1⟩ := at_T51 HR0.out ((rd_T48 l1_1 x6_1).f1) p367 q367; cases e367; replace hx367_0 := (HB.out.cell (World.block_lt_of_cell? w _ hx367_0)).trans hx367_0; replace hx367_1 := (HB.out.cell (World.block_lt_of_cell? w _ hx367_1)).trans hx367_1; have HR367_1 := aM hi367_1; have HC367_1 := aM hl367_1; clear hi367_1 hl367_1; replace p367 := eq_true p367; replace q367 := eq_true q367
               go_wp2
               go_roundg k3
               case measure => have := HK1.out; have := HK2.out; have := HK3.out; omega
               case rel => exact ⟨(x7_3), (wrap64 (x8_2 + 1)), eT, H', ⟨by have := HK1.out; have := HK2.out; have := HK3.out; omega⟩, ⟨by (with_reducible repeat (first | apply Kd.N_alloc | apply Kd.N_drewN | apply Kd.N_drew)); exact HO_5.out⟩, ⟨by (with_reducible repeat (first | apply Kd.N_alloc | apply Kd.N_drewN | apply Kd.N_drew)); exact HO_7.out⟩, ⟨kB BK358.out⟩, ⟨bB1 HB.out GE358.out⟩⟩
             ·rw [if_neg c20] at H
              exact absurd H (by simp)
            ·rw [if_neg c19] at H
             exact absurd H (by simp)
           ·rw [if_neg c18] at H
            exact absurd H (by simp)
          ·rw [if_neg c17] at H
           exact absurd H (by simp)
       ·rw [if_neg c15] at H
        have c15b0 : decide (x8_2 < (x5_1.length : Int)) = false := decide_eq_false c15; clear c15
        have H' := aM H
        clear H; obtain ⟨Ao33, co33, eo33⟩ := Kd.N_slice HO_5.out; subst eo33
        go_wp2
        go_roundg k2
        case measure => have := HK1.out; have := HK2.out; omega
        case rel => exact ⟨(x7_2), (wrap64 (x6_1 + 1)), eT, H', ⟨by have := HK1.out; have := HK2.out; omega⟩, ⟨by (with_reducible repeat (first | apply Kd.N_alloc | apply Kd.N_drewN | apply Kd.N_drew)); exact Kd.N_mono HO_7.out (fun _ hk => ⟨hk.1, hk.2.2⟩)⟩, ⟨kB BK358.out⟩, ⟨bB1 HB.out GE358.out⟩⟩
    ·rw [if_neg c13] at H
     have c13b0 : decide (x6_1 < (l1_1.length : Int)) = false := decide_eq_false c13; clear c13
     have H' := aM H
     clear H
     have hcz34_0 : wr.cell? ⟨gb358, 0, none⟩ = some (.string a1_0) := (blk_cell BK358.out 0).trans rfl
     have hcz34_1 : wr.cell? ⟨gb358, 1, none⟩ = some (.slice A1_1 l1_1.length c1_1) := (blk_cell BK358.out 1).trans rfl
     have hcz34_2 : wr.cell? ⟨gb358, 2, none⟩ = some (.slice A1_2 l1_2.length c1_2) := (blk_cell BK358.out 2).trans rfl
     have hcz34_3 : wr.cell? ⟨gb358, 3, none⟩ = some (.slice A1_3 l1_3.length c1_3) := (blk_cell BK358.out 3).trans rfl
     have hcz34_4 : wr.cell? ⟨gb358, 4, none⟩ = some (.slice A1_4 l1_4.length c1_4) := (blk_cell BK358.out 4).trans rfl
     have hfz34_0 := blk_frozen BK358.out 0; have hfz34_1 := blk_frozen BK358.out 1; have hfz34_2 := blk_frozen BK358.out 2; have hfz34_3 := blk_frozen BK358.out 3; have hfz34_4 := blk_frozen BK358.out 4
     go_wp2
     go_loopg [11, 12] k1 (fun kq v11 v12 w' => ∃ (x11_2 : List (List Int)) (x12_2 : Int), v12 = .int .i64 x12_2 ∧ Aside0 (r40_All.l3 kq l0 x5_1 x11_2 x12_2 a1_0 l1_1 l1_2 l1_3 l1_4 = some r) ∧ Aside0 (kq ≤ k1) ∧ Aside0 (Kd.N (Kd.slice 3 (Kd.int .i64)) 29 w' w.heap.size (fun k_ => (w.heap.size ≤ k_) ∧ some k_ ≠ (v11 : Value).ownBlock ∧ k_ ≠ gb358) u5 x5_1) ∧ Aside0 (Kd.N (Kd.slice 3 (Kd.int .i64)) 29 w' w.heap.size (fun k_ => (w.heap.size ≤ k_) ∧ some k_ ≠ (u5 : Value).ownBlock ∧ k_ ≠ gb358) v11 x11_2) ∧ Aside0 (w'.heap[gb358]? = some (.cells #[.string a1_0, (.slice A1_1 l1_1.length c1_1), (.slice A1_2 l1_2.length c1_2), (.slice A1_3 l1_3.length c1_3), (.slice A1_4 l1_4.length c1_4)] 27 (0, 0))) ∧ Aside0 (Below w.heap.size w w'))
     case atStart => exact ⟨(([] : List (List Int))), (0), eT, H', ⟨Nat.le_refl _⟩, ⟨by (with_reducible repeat (first | apply Kd.N_alloc | apply Kd.N_drewN | apply Kd.N_drew)); exact Kd.N_mono HO_5.out (fun _ hk => ⟨hk.1, ⟨(by simp [Value.ownBlock]), hk.2⟩⟩)⟩, ⟨by first | exact Kd.S_nil _ _ _ _ _ | exact Kd.N_nil _ _ _ _ _ | exact Kd.V_nil _ _ _ _ _ | exact Kd.Q_nil _ _ _ _ _ | exact Kd.R_nil _ _ _ _ _⟩, ⟨kB BK358.out⟩, ⟨bB1 HB.out GE358.out⟩⟩
     case round =>
      clear H'
      try clear hx3
      try clear hx366_0
      try clear hx366_1
      try clear hx367_0
      try clear hx367_1
      try clear hx368_0
      obtain ⟨x11_2, x12_2, rfl, HA, HK2, HO_5, HO_11, BK358, HB⟩ := hrel
      cases gk with
      | zero => exact absurd HA.out (by simp [r40_All.l3])
      | succ k2 =>
       have H := HA.out; clear HA
       simp only [r40_All.l3] at H
       by_cases c35 : x12_2 < (x5_1.length : Int)
       ·rw [if_pos c35] at H
        have c35b0 : decide (x12_2 < (x5_1.length : Int)) = true := decide_eq_true c35; clear c35
        by_cases c36 : 0 ≤ x12_2
        ·rw [if_pos c36] at H
         have c36b0 : decide (0 ≤ x12_2) = true := decide_eq_true c36; clear c36; replace H := Option.bind_eq_some_iff.mp H; obtain ⟨t379, A370, H⟩ := H
         replace H : (if t379 = true then (if x11_2.length < 5864062014805 then (r40_All.l3 k2 l0 x5_1 (x11_2 ++ [rd_L15 x5_1 x12_2]) (wrap64 (x12_2 + 1)) a1_0 l1_1 l1_2 l1_3 l1_4) else (none)) else (r40_All.l3 k2 l0 x5_1 x11_2 (wrap64 (x12_2 + 1)) a1_0 l1_1 l1_2 l1_3 l1_4)) = some r := H
         have A37 := aM A370; clear A370
         by_cases c38 : t379 = true
         ·subst c38
          have H1 : (if x11_2.length < 5864062014805 then (r40_All.l3 k2 l0 x5_1 (x11_2 ++ [rd_L15 x5_1 x12_2]) (wrap64 (x12_2 + 1)) a1_0 l1_1 l1_2 l1_3 l1_4) else (none)) = some r := by rw [if_pos rfl] at H; exact H
          clear H; have H := H1; clear H1
          by_cases c39 : x11_2.length < 5864062014805
          ·rw [if_pos c39] at H
           have LMc39 := aM c39; clear c39
           obtain ⟨y381, hy381⟩ : ∃ y_ : List (List Int), y_ = (x11_2 ++ [rd_L15 x5_1 x12_2]) := ⟨_, rfl⟩
           replace H : (r40_All.l3 k2 l0 x5_1 y381 (wrap64 (x12_2 + 1)) a1_0 l1_1 l1_2 l1_3 l1_4) = some r := by first | (rw [hy381]; with_reducible exact H) | (have H2_ := (Option.bind_some _ _).symm.trans H; rw [hy381]; with_reducible exact H2_) | (have H2_ := (Option.bind_some _ _).symm.trans H; with_reducible exact H2_) | with_reducible exact H | (rw [hy381]; exact H) | exact H
           have Ny381 := aM hy381; clear hy381
           have H' := aM H
           clear H; obtain ⟨Ao40, co40, eo40⟩ := Kd.N_slice HO_5.out; subst eo40
           try go_wp2
           have n0_ := aM (Kd.N_drew HO_5.out); have n1_ := aM (Kd.N_drew HO_11.out); have n2_ := aM (blk_drew BK358.out); have n3_ := aM (below_drew1 HB.out); clear HO_5; clear HO_11; clear BK358; clear HB; have HO_5 := n0_; have HO_11 := n1_; have BK358 := n2_; have HB := n3_; clear n0_ n1_ n2_ n3_; have p378 : 0 ≤ (x12_2 : Int) := dT; have q378 : x12_2 < (x5_1.length : Int) := dT; obtain ⟨ad378, A378_0, c378_0, e378, hx378_0, hl378_0, hi378_0⟩ := at_L15 (Kd.N_reads' HO_5.out).2.2 x12_2 p378 q378; cases e378; obtain ⟨ce378, hce378, hMe378, hcc378⟩ := Kd.N_get HO_5.out [] x12_2 p378 (by first | exact q378 | exact dT | (have e_ := (Kd.N_reads' HO_5.out).1; omega)); obtain ⟨ua378_0, uc378_0, rfl, ul378_0, ge378_0⟩ := Kd.FK_slice_open hMe378; have hv378_0 := hcc378 0 _ rfl; rw [Nat.add_zero, show ((Kd.slice 3 (Kd.int .i64))).sz = 1 from rfl, Nat.mul_one] at hv378_0; replace hv378_0 := Option.some.inj (hv378_0.symm.trans hx378_0); injection hv378_0 with hva_ hvn_ hvc_; rw [hva_] at ge378_0; rw [hvc_] at ul378_0; have HL378_0 := aM (show Kd.V (Kd.int .i64) 3 _ w.heap.size _ _ (rd_L15 x5_1 x12_2) from Kd.V_mk ul378_0 ge378_0); clear hva_ hvn_ hvc_ ge378_0 ul378_0; clear hcc378 hce378; have HR378_0 := aM hi378_0; have HC378_0 := aM hl378_0; clear hi378_0 hl378_0; replace p378 := eq_true p378; replace q378 := eq_true q378
           refine start_ (n := 7) (S := fun w' => w'.cell? ⟨gb358, 0, none⟩ = some (.string a1_0) ∧ w'.cell? ⟨gb358, 1, none⟩ = some (.slice A1_1 l1_1.length c1_1) ∧ w'.cell? ⟨gb358, 2, none⟩ = some (.slice A1_2 l1_2.length c1_2) ∧ w'.cell? ⟨gb358, 3, none⟩ = some (.slice A1_3 l1_3.length c1_3) ∧ w'.cell? ⟨gb358, 4, none⟩ = some (.slice A1_4 l1_4.length c1_4) ∧ w'.cell? (ad378.add (x12_2).toNat) = some (.slice A378_0 (rd_L15 x5_1 x12_2).length c378_0)) (ds := []) #[false, false, false, false, false, false, false] (by kernel_rfl) rfl rfl ⟨(blk_cell BK358.out 0).trans rfl, (blk_cell BK358.out 1).trans rfl, (blk_cell BK358.out 2).trans rfl, (blk_cell BK358.out 3).trans rfl, (blk_cell BK358.out 4).trans rfl, hx378_0⟩ (fun hHeld => ?_)
           generalize wr.drew = w41 at HO_5 HO_11 BK358 HB HL378_0 HR378_0 hx378_0 hHeld ⊢
           refine pure_ (i := 0) (N := some 68) (v := ?_) (a' := ?_) #[true, false, false, false, false, false, false] rfl rfl (by kernel_rfl) (fun _ _ _ h => h) (Or.inl ⟨by rfl, ?_⟩) ?_ ?_; rotate_left; exact qT; rotate_left; exact pT
           refine pure_ (i := 2) (N := some 70) (v := ?_) (a' := ?_) #[true, false, true, false, false, false, false] rfl rfl (by kernel_rfl) (fun _ _ _ h => h) (Or.inl ⟨by rfl, ?_⟩) ?_ ?_; rotate_left; exact qT; rotate_left; exact pT
           refine pure_ (i := 3) (N := some 71) (v := ?_) (a' := ?_) #[true, false, true, true, false, false, false] rfl rfl (by kernel_rfl) (fun _ _ _ h => h) (Or.inl ⟨by rfl, ?_⟩) ?_ ?_; rotate_left; exact qT; rotate_left; exact pT
           refine pure_ (i := 4) (N := some 72) (v := ?_) (a' := ?_) #[true, false, true, true, true, false, false] rfl rfl (by kernel_rfl) (fun _ _ _ h => h) (Or.inl ⟨by rfl, ?_⟩) ?_ ?_; rotate_left; exact qT; rotate_left; exact pT
           refine take_ (i := 1) (N := some 69) (v := ?_) (a' := ?_) #[true, true, true, true, true, false, false] rfl rfl (by kernel_rfl) (fun _ _ _ h => h) (Or.inl ⟨by rfl, ?_⟩) hHeld ?_ ?_; rotate_left; rintro w' ⟨s0, s1, s2, s3, s4, s5⟩; go_simp; with_reducible rfl; rotate_left; exact pT
           refine take_ (i := 5) (N := some 73) (v := ?_) (a' := ?_) #[true, true, true, true, true, true, false] rfl rfl (by kernel_rfl) (fun _ _ _ h => h) (Or.inl ⟨by rfl, ?_⟩) hHeld ?_ ?_; rotate_left; rintro w' ⟨s0, s1, s2, s3, s4, s5⟩; go_simp; with_reducible rfl; rotate_left; exact pT
           refine one_ (i := 6) (N := some 74) #[true, true, true, true, true, true, true] rfl rfl (by kernel_rfl) (by decide) (fun K hK => ?_)
           refine goes_ Try.func19 (by kernel_rfl) rfl #[.slice A0 l0.length c0, .agg #[.string a1_0, .slice A1_1 l1_1.length c1_1, .slice A1_2 l1_2.length c1_2, .slice A1_3 l1_3.length c1_3, .slice A1_4 l1_4.length c1_4], .slice A378_0 (rd_L15 x5_1 x12_2).length c378_0] (by rfl) rfl rfl mT ?_
           with_reducible refine (r40_Holds.calls k2 _ _ l0 a1_0 _ _ l1_1 _ _ l1_2 _ _ l1_3 _ _ l1_4 _ _ (rd_L15 x5_1 x12_2) true _ ?side1 ?side2 ?side3 ?side4 ?side5 ?side6 ?side7 ?side8 ?side9 ?side10 ?side11 ?side12 A37.out).mono ?_
           (case side1 => exact cB HR0.out HB.out)
           (case side2 => exact HC0.out)
           (case side3 => exact cB HR1_1.out HB.out)
           (case side4 => exact HC1_1.out)
           (case side5 => exact cB HR1_2.out HB.out)
           (case side6 => exact HC1_2.out)
           (case side7 => exact cB HR1_3.out HB.out)
           (case side8 => exact HC1_3.out)
           (case side9 => exact cB HR1_4.out HB.out)
           (case side10 => exact HC1_4.out)
           (case side11 => repeat (first | exact (by repeat (first | (with_reducible exact HR378_0.out) | (with_reducible refine Kd.C_alloc ?_ _) | (with_reducible refine Kd.C_drewN ?_ _) | (with_reducible refine Kd.C_drew ?_) | exact HR378_0.out)) | (with_reducible refine Kd.C_alloc ?_ _) | (with_reducible refine Kd.C_drewN ?_ _) | (with_reducible refine Kd.C_drew ?_)))
           (case side12 => exact HC378_0.out)
           rintro e w42 ⟨rfl, hb⟩
           have HS5_ := (hb.cell (World.block_lt_of_cell? _ _ (hHeld.2.2.2.2.2))).trans (hHeld.2.2.2.2.2)
           refine ⟨_, rfl, ?_⟩
           have n0_ := aM (Kd.N_below (by (with_reducible repeat (first | apply Kd.N_alloc | apply Kd.N_drewN | apply Kd.N_drew)); exact HO_5.out) hb); have n1_ := aM (Kd.N_below (by (with_reducible repeat (first | apply Kd.N_alloc | apply Kd.N_drewN | apply Kd.N_drew)); exact HO_11.out) hb); have n2_ := aM (Kd.V_below (by (with_reducible repeat (first | apply Kd.V_alloc | apply Kd.V_drewN | apply Kd.V_drew)); exact HL378_0.out) hb); have n3_ := aM (kW BK358.out hb); have n4_ := aM (Kd.C_below (by repeat (first | (with_reducible exact HR378_0.out) | (with_reducible refine Kd.C_alloc ?_ _) | (with_reducible refine Kd.C_drewN ?_ _) | (with_reducible refine Kd.C_drew ?_) | exact HR378_0.out)) hb); have n5_ := aM (below_step (bB1 HB.out GE358.out) hb); clear HO_5; clear HO_11; clear HL378_0; clear BK358; clear HR378_0; clear HB; have HO_5 := n0_; have HO_11 := n1_; have HL378_0 := n2_; have BK358 := n3_; have HR378_0 := n4_; have HB := n5_; clear n0_ n1_ n2_ n3_ n4_ n5_
           (try clear hb)
           (try clear hb2)
           (try clear hk)
           (try clear hi)
           refine hK.out _ _ ⟨(blk_cell BK358.out 0).trans rfl, (blk_cell BK358.out 1).trans rfl, (blk_cell BK358.out 2).trans rfl, (blk_cell BK358.out 3).trans rfl, (blk_cell BK358.out 4).trans rfl, HS5_⟩ (fun hHeld => ?_)
           clear hK K
           refine norm_ (a' := ?_) ?_ ?_
           rotate_left
           ·show Act.put _ (some 74) _ = _
            simp only [Act.put, List.setIfInBounds_toArray, List.set_cons_zero, List.set_cons_succ, i64_w, i32_w]
            rfl
           refine done_ (by kernel_rfl) ?_
           have p380 : 0 ≤ (x12_2 : Int) := dT; have q380 : x12_2 < (x5_1.length : Int) := dT; obtain ⟨ad380, A380_0, c380_0, e380, hx380_0, hl380_0, hi380_0⟩ := at_L15 (Kd.N_reads' HO_5.out).2.2 x12_2 p380 q380; obtain rfl : ad378 = ad380 := (by injection e380)
           try (have hq_ := HS5_.symm.trans hx380_0; injection hq_ with hq_; injection hq_ with h1_ h2_ h3_; rw [h1_, h3_] at HS5_; (try clear hq_ h1_ h2_ h3_))
           try (first | (have hq_ := (hHeld.1).symm.trans hx380_0; injection hq_ with hq_; injection hq_ with h1_ h2_ h3_; rw [h1_, h3_] at hHeld; (try clear hq_ h1_ h2_ h3_)) | (have hq_ := (hHeld).symm.trans hx380_0; injection hq_ with hq_; injection hq_ with h1_ h2_ h3_; rw [h1_, h3_] at hHeld; (try clear hq_ h1_ h2_ h3_)) | (have hq_ := (hHeld.2.1).symm.trans hx380_0; injection hq_ with hq_; injection hq_ with h1_ h2_ h3_; rw [h1_, h3_] at hHeld; (try clear hq_ h1_ h2_ h3_)) | (have hq_ := (hHeld.2).symm.trans hx380_0; injection hq_ with hq_; injection hq_ with h1_ h2_ h3_; rw [h1_, h3_] at hHeld; (try clear hq_ h1_ h2_ h3_)) | (have hq_ := (hHeld.2.2.1).symm.trans hx380_0; injection hq_ with hq_; injection hq_ with h1_ h2_ h3_; rw [h1_, h3_] at hHeld; (try clear hq_ h1_ h2_ h3_)) | (have hq_ := (hHeld.2.2).symm.trans hx380_0; injection hq_ with hq_; injection hq_ with h1_ h2_ h3_; rw [h1_, h3_] at hHeld; (try clear hq_ h1_ h2_ h3_)) | (have hq_ := (hHeld.2.2.2.1).symm.trans hx380_0; injection hq_ with hq_; injection hq_ with h1_ h2_ h3_; rw [h1_, h3_] at hHeld; (try clear hq_ h1_ h2_ h3_)) | (have hq_ := (hHeld.2.2.2).symm.trans hx380_0; injection hq_ with hq_; injection hq_ with h1_ h2_ h3_; rw [h1_, h3_] at hHeld; (try clear hq_ h1_ h2_ h3_)) | (have hq_ := (hHeld.2.2.2.2.1).symm.trans hx380_0; injection hq_ with hq_; injection hq_ with h1_ h2_ h3_; rw [h1_, h3_] at hHeld; (try clear hq_ h1_ h2_ h3_)) | (have hq_ := (hHeld.2.2.2.2).symm.trans hx380_0; injection hq_ with hq_; injection hq_ with h1_ h2_ h3_; rw [h1_, h3_] at hHeld; (try clear hq_ h1_ h2_ h3_)) | (have hq_ := (hHeld.2.2.2.2.2.1).symm.trans hx380_0; injection hq_ with hq_; injection hq_ with h1_ h2_ h3_; rw [h1_, h3_] at hHeld; (try clear hq_ h1_ h2_ h3_)) | (have hq_ := (hHeld.2.2.2.2.2).symm.trans hx380_0; injection hq_ with hq_; injection hq_ with h1_ h2_ h3_; rw [h1_, h3_] at hHeld; (try clear hq_ h1_ h2_ h3_)) | (have hq_ := (hHeld.2.2.2.2.2.2.1).symm.trans hx380_0; injection hq_ with hq_; injection hq_ with h1_ h2_ h3_; rw [h1_, h3_] at hHeld; (try clear hq_ h1_ h2_ h3_)) | (have hq_ := (hHeld.2.2.2.2.2.2).symm.trans hx380_0; injection hq_ with hq_; injection hq_ with h1_ h2_ h3_; rw [h1_, h3_] at hHeld; (try clear hq_ h1_ h2_ h3_)) | (have hq_ := (hHeld.2.2.2.2.2.2.2.1).symm.trans hx380_0; injection hq_ with hq_; injection hq_ with h1_ h2_ h3_; rw [h1_, h3_] at hHeld; (try clear hq_ h1_ h2_ h3_)) | (have hq_ := (hHeld.2.2.2.2.2.2.2).symm.trans hx380_0; injection hq_ with hq_; injection hq_ with h1_ h2_ h3_; rw [h1_, h3_] at hHeld; (try clear hq_ h1_ h2_ h3_)))
           obtain ⟨ce380, hce380, hMe380, hcc380⟩ := Kd.N_get HO_5.out [] x12_2 p380 (by first | exact q380 | exact dT | (have e_ := (Kd.N_reads' HO_5.out).1; omega)); obtain ⟨ua380_0, uc380_0, rfl, ul380_0, ge380_0⟩ := Kd.FK_slice_open hMe380; have hv380_0 := hcc380 0 _ rfl; rw [Nat.add_zero, show ((Kd.slice 3 (Kd.int .i64))).sz = 1 from rfl, Nat.mul_one] at hv380_0; replace hv380_0 := Option.some.inj (hv380_0.symm.trans hx380_0); injection hv380_0 with hva_ hvn_ hvc_; rw [hva_] at ge380_0; rw [hvc_] at ul380_0; have HL380_0 := aM (show Kd.V (Kd.int .i64) 3 _ w.heap.size _ _ (rd_L15 x5_1 x12_2) from Kd.V_mk ul380_0 ge380_0); clear hva_ hvn_ hvc_ ge380_0 ul380_0; clear hcc380 hce380; have HR380_0 := aM hi380_0; have HC380_0 := aM hl380_0; clear hi380_0 hl380_0; replace p380 := eq_true p380; replace q380 := eq_true q380
           try go_wp2_with (first | ((with_reducible refine gate_builtin (b := .append) (xs := #[.tmp 75, .tmp 80]) rfl ?_); at_builtin; refine Kd.N_append (Kd.slice 3 (Kd.int .i64)) (w0 := w) w.heap.size rfl (.tmp 75) (.tmp 80) 45 29 (.slice none 0 0) 24 rfl Try.underlying45 info29 rfl (by decide) (by omega) u11 x11_2 (rd_L15 x5_1 x12_2) [.slice A380_0 (rd_L15 x5_1 x12_2).length c380_0] (fun k_ => (w.heap.size ≤ k_) ∧ some k_ ≠ (.slice (some ad378) x5_1.length co40 : Value).ownBlock ∧ k_ ≠ gb358) (fun k_ => ((fun k_ => (w.heap.size ≤ k_) ∧ some k_ ≠ (.slice (some ad378) x5_1.length co40 : Value).ownBlock ∧ k_ ≠ gb358)) k_ ∧ some k_ ≠ (u11 : Value).ownBlock) rfl rfl ?aP (fun _ hk => hk) ?aF ?aO ?aB ?aS ?aL ?_; (case aP => exact (Kd.FK_slice_mk (Kd.V_reads' (Kd.V_mono (ok' := (fun k_ => ((fun k_ => (w.heap.size ≤ k_) ∧ some k_ ≠ (.slice (some ad378) x5_1.length co40 : Value).ownBlock ∧ k_ ≠ gb358)) k_ ∧ some k_ ≠ (u11 : Value).ownBlock)) (HL380_0.out) (fun k_ hk => ⟨⟨hk.1.1, ⟨hk.2, hk.1.2.2⟩⟩, hk.1.2.1⟩))).2.1 (Kd.V_F (by (with_reducible repeat (first | apply Kd.V_alloc | apply Kd.V_drewN | apply Kd.V_drew)); exact (Kd.V_mono (ok' := (fun k_ => ((fun k_ => (w.heap.size ≤ k_) ∧ some k_ ≠ (.slice (some ad378) x5_1.length co40 : Value).ownBlock ∧ k_ ≠ gb358)) k_ ∧ some k_ ≠ (u11 : Value).ownBlock)) (HL380_0.out) (fun k_ hk => ⟨⟨hk.1.1, ⟨hk.2, hk.1.2.2⟩⟩, hk.1.2.1⟩)))))); (case aB => exact (bB1 HB.out GE358.out)); (case aF => exact (fun k_ hk => ⟨(Nat.le_trans (below_size (bB1 HB.out GE358.out)) hk), Kd.fresh' (Kd.N_lt (by (with_reducible repeat (first | apply Kd.N_alloc | apply Kd.N_drewN | apply Kd.N_drew)); exact HO_5.out)) k_ hk, Kd.freshB (g := gb358) (o := .cells #[.string a1_0, .slice A1_1 l1_1.length c1_1, .slice A1_2 l1_2.length c1_2, .slice A1_3 l1_3.length c1_3, .slice A1_4 l1_4.length c1_4] 27 (0, 0)) (kB BK358.out) k_ hk⟩)); (case aO => exact (by (with_reducible repeat (first | apply Kd.N_alloc | apply Kd.N_drewN | apply Kd.N_drew)); exact HO_11.out)); (case aS => exact (below_size (bB1 HB.out GE358.out))); (case aL => have := LMc39.out; omega); intro v382 w43 ho hb hg hat; rw [← Ny381.out] at ho; have n0_ := aM (Kd.N_afterv (ok := (fun k_ => (w.heap.size ≤ k_) ∧ k_ ≠ gb358)) (by (with_reducible repeat (first | apply Kd.N_alloc | apply Kd.N_drewN | apply Kd.N_drew)); exact Kd.N_mono HO_5.out (fun _ hk => ⟨⟨hk.1, hk.2.2⟩, hk.2.1⟩)) hg hat); have n1_ := aM (blk_grown (g := gb358) (o := .cells #[.string a1_0, .slice A1_1 l1_1.length c1_1, .slice A1_2 l1_2.length c1_2, .slice A1_3 l1_3.length c1_3, .slice A1_4 l1_4.length c1_4] 27 (0, 0)) (kB BK358.out) hg (Kd.N_ne HO_11.out BK358.out (by decide))); have n2_ := aM (Kd.V_afterv (ok := (fun k_ => (w.heap.size ≤ k_) ∧ some k_ ≠ (.slice (some ad378) x5_1.length co40 : Value).ownBlock ∧ k_ ≠ gb358)) (by (with_reducible repeat (first | apply Kd.V_alloc | apply Kd.V_drewN | apply Kd.V_drew)); exact Kd.V_mono HL378_0.out (fun _ hk => ⟨⟨hk.1.1, ⟨hk.2, hk.1.2.2⟩⟩, hk.1.2.1⟩)) hg hat); have n3_ := aM (Kd.V_afterv (ok := (fun k_ => (w.heap.size ≤ k_) ∧ some k_ ≠ (.slice (some ad378) x5_1.length co40 : Value).ownBlock ∧ k_ ≠ gb358)) (by (with_reducible repeat (first | apply Kd.V_alloc | apply Kd.V_drewN | apply Kd.V_drew)); exact Kd.V_mono HL380_0.out (fun _ hk => ⟨⟨hk.1.1, ⟨hk.2, hk.1.2.2⟩⟩, hk.1.2.1⟩)) hg hat); have n4_ := aM (hb); have n5_ := aM (ho); clear HO_5; clear BK358; clear HL378_0; clear HL380_0; clear HB; clear HO_11; have HO_5 := n0_; have BK358 := n1_; have HL378_0 := n2_; have HL380_0 := n3_; have HB := n4_; have HO383 := n5_; clear n0_ n1_ n2_ n3_ n4_ n5_; clear ho hb hg hat))
           go_roundg k2
           case measure => have := HK1.out; have := HK2.out; omega
           case rel => exact ⟨(y381), (wrap64 (x12_2 + 1)), eT, H', ⟨by have := HK1.out; have := HK2.out; omega⟩, ⟨by (with_reducible repeat (first | apply Kd.N_alloc | apply Kd.N_drewN | apply Kd.N_drew)); exact Kd.N_mono HO_5.out (fun _ hk => ⟨hk.1.1, ⟨hk.2, hk.1.2⟩⟩)⟩, ⟨by (with_reducible repeat (first | apply Kd.N_alloc | apply Kd.N_drewN | apply Kd.N_drew)); exact HO383.out⟩, ⟨kB BK358.out⟩, ⟨bB1 HB.out GE358.out⟩⟩
          ·rw [if_neg c39] at H
           exact absurd H (by simp)
         ·replace c38 := Bool.eq_false_iff.mpr c38
          subst c38
          have H1 : (r40_All.l3 k2 l0 x5_1 x11_2 (wrap64 (x12_2 + 1)) a1_0 l1_1 l1_2 l1_3 l1_4) = some r := by rw [if_neg (show ¬ (false = true) by decide)] at H; exact H
          clear H; have H := H1; clear H1
          have H' := aM H
          clear H; obtain ⟨Ao44, co44, eo44⟩ := Kd.N_slice HO_5.out; subst eo44
          try go_wp2
          have n0_ := aM (Kd.N_drew HO_5.out); have n1_ := aM (Kd.N_drew HO_11.out); have n2_ := aM (blk_drew BK358.out); have n3_ := aM (below_drew1 HB.out); clear HO_5; clear HO_11; clear BK358; clear HB; have HO_5 := n0_; have HO_11 := n1_; have BK358 := n2_; have HB := n3_; clear n0_ n1_ n2_ n3_; have p378 : 0 ≤ (x12_2 : Int) := dT; have q378 : x12_2 < (x5_1.length : Int) := dT; obtain ⟨ad378, A378_0, c378_0, e378, hx378_0, hl378_0, hi378_0⟩ := at_L15 (Kd.N_reads' HO_5.out).2.2 x12_2 p378 q378; cases e378; obtain ⟨ce378, hce378, hMe378, hcc378⟩ := Kd.N_get HO_5.out [] x12_2 p378 (by first | exact q378 | exact dT | (have e_ := (Kd.N_reads' HO_5.out).1; omega)); obtain ⟨ua378_0, uc378_0, rfl, ul378_0, ge378_0⟩ := Kd.FK_slice_open hMe378; have hv378_0 := hcc378 0 _ rfl; rw [Nat.add_zero, show ((Kd.slice 3 (Kd.int .i64))).sz = 1 from rfl, Nat.mul_one] at hv378_0; replace hv378_0 := Option.some.inj (hv378_0.symm.trans hx378_0); injection hv378_0 with hva_ hvn_ hvc_; rw [hva_] at ge378_0; rw [hvc_] at ul378_0; have HL378_0 := aM (show Kd.V (Kd.int .i64) 3 _ w.heap.size _ _ (rd_L15 x5_1 x12_2) from Kd.V_mk ul378_0 ge378_0); clear hva_ hvn_ hvc_ ge378_0 ul378_0; clear hcc378 hce378; have HR378_0 := aM hi378_0; have HC378_0 := aM hl378_0; clear hi378_0 hl378_0; replace p378 := eq_true p378; replace q378 := eq_true q378
          refine start_ (n := 7) (S := fun w' => w'.cell? ⟨gb358, 0, none⟩ = some (.string a1_0) ∧ w'.cell? ⟨gb358, 1, none⟩ = some (.slice A1_1 l1_1.length c1_1) ∧ w'.cell? ⟨gb358, 2, none⟩ = some (.slice A1_2 l1_2.length c1_2) ∧ w'.cell? ⟨gb358, 3, none⟩ = some (.slice A1_3 l1_3.length c1_3) ∧ w'.cell? ⟨gb358, 4, none⟩ = some (.slice A1_4 l1_4.length c1_4) ∧ w'.cell? (ad378.add (x12_2).toNat) = some (.slice A378_0 (rd_L15 x5_1 x12_2).length c378_0)) (ds := []) #[false, false, false, false, false, false, false] (by kernel_rfl) rfl rfl ⟨(blk_cell BK358.out 0).trans rfl, (blk_cell BK358.out 1).trans rfl, (blk_cell BK358.out 2).trans rfl, (blk_cell BK358.out 3).trans rfl, (blk_cell BK358.out 4).trans rfl, hx378_0⟩ (fun hHeld => ?_)
          generalize wr.drew = w45 at HO_5 HO_11 BK358 HB HL378_0 HR378_0 hx378_0 hHeld ⊢
          refine pure_ (i := 0) (N := some 68) (v := ?_) (a' := ?_) #[true, false, false, false, false, false, false] rfl rfl (by kernel_rfl) (fun _ _ _ h => h) (Or.inl ⟨by rfl, ?_⟩) ?_ ?_; rotate_left; exact qT; rotate_left; exact pT
          refine pure_ (i := 2) (N := some 70) (v := ?_) (a' := ?_) #[true, false, true, false, false, false, false] rfl rfl (by kernel_rfl) (fun _ _ _ h => h) (Or.inl ⟨by rfl, ?_⟩) ?_ ?_; rotate_left; exact qT; rotate_left; exact pT
          refine pure_ (i := 3) (N := some 71) (v := ?_) (a' := ?_) #[true, false, true, true, false, false, false] rfl rfl (by kernel_rfl) (fun _ _ _ h => h) (Or.inl ⟨by rfl, ?_⟩) ?_ ?_; rotate_left; exact qT; rotate_left; exact pT
          refine pure_ (i := 4) (N := some 72) (v := ?_) (a' := ?_) #[true, false, true, true, true, false, false] rfl rfl (by kernel_rfl) (fun _ _ _ h => h) (Or.inl ⟨by rfl, ?_⟩) ?_ ?_; rotate_left; exact qT; rotate_left; exact pT
          refine take_ (i := 1) (N := some 69) (v := ?_) (a' := ?_) #[true, true, true, true, true, false, false] rfl rfl (by kernel_rfl) (fun _ _ _ h => h) (Or.inl ⟨by rfl, ?_⟩) hHeld ?_ ?_; rotate_left; rintro w' ⟨s0, s1, s2, s3, s4, s5⟩; go_simp; with_reducible rfl; rotate_left; exact pT
          refine take_ (i := 5) (N := some 73) (v := ?_) (a' := ?_) #[true, true, true, true, true, true, false] rfl rfl (by kernel_rfl) (fun _ _ _ h => h) (Or.inl ⟨by rfl, ?_⟩) hHeld ?_ ?_; rotate_left; rintro w' ⟨s0, s1, s2, s3, s4, s5⟩; go_simp; with_reducible rfl; rotate_left; exact pT
          refine one_ (i := 6) (N := some 74) #[true, true, true, true, true, true, true] rfl rfl (by kernel_rfl) (by decide) (fun K hK => ?_)
          refine goes_ Try.func19 (by kernel_rfl) rfl #[.slice A0 l0.length c0, .agg #[.string a1_0, .slice A1_1 l1_1.length c1_1, .slice A1_2 l1_2.length c1_2, .slice A1_3 l1_3.length c1_3, .slice A1_4 l1_4.length c1_4], .slice A378_0 (rd_L15 x5_1 x12_2).length c378_0] (by rfl) rfl rfl mT ?_
          with_reducible refine (r40_Holds.calls k2 _ _ l0 a1_0 _ _ l1_1 _ _ l1_2 _ _ l1_3 _ _ l1_4 _ _ (rd_L15 x5_1 x12_2) false _ ?side1 ?side2 ?side3 ?side4 ?side5 ?side6 ?side7 ?side8 ?side9 ?side10 ?side11 ?side12 A37.out).mono ?_
          (case side1 => exact cB HR0.out HB.out)
          (case side2 => exact HC0.out)
          (case side3 => exact cB HR1_1.out HB.out)
          (case side4 => exact HC1_1.out)
          (case side5 => exact cB HR1_2.out HB.out)
          (case side6 => exact HC1_2.out)
          (case side7 => exact cB HR1_3.out HB.out)
          (case side8 => exact HC1_3.out)
          (case side9 => exact cB HR1_4.out HB.out)
          (case side10 => exact HC1_4.out)
          (case side11 => repeat (first | exact (by repeat (first | (with_reducible exact HR378_0.out) | (with_reducible refine Kd.C_alloc ?_ _) | (with_reducible refine Kd.C_drewN ?_ _) | (with_reducible refine Kd.C_drew ?_) | exact HR378_0.out)) | (with_reducible refine Kd.C_alloc ?_ _) | (with_reducible refine Kd.C_drewN ?_ _) | (with_reducible refine Kd.C_drew ?_)))
          (case side12 => exact HC378_0.out)
          rintro e w46 ⟨rfl, hb⟩
          have HS5_ := (hb.cell (World.block_lt_of_cell? _ _ (hHeld.2.2.2.2.2))).trans (hHeld.2.2.2.2.2)
          refine ⟨_, rfl, ?_⟩
          have n0_ := aM (Kd.N_below (by (with_reducible repeat (first | apply Kd.N_alloc | apply Kd.N_drewN | apply Kd.N_drew)); exact HO_5.out) hb); have n1_ := aM (Kd.N_below (by (with_reducible repeat (first | apply Kd.N_alloc | apply Kd.N_drewN | apply Kd.N_drew)); exact HO_11.out) hb); have n2_ := aM (Kd.V_below (by (with_reducible repeat (first | apply Kd.V_alloc | apply Kd.V_drewN | apply Kd.V_drew)); exact HL378_0.out) hb); have n3_ := aM (kW BK358.out hb); have n4_ := aM (Kd.C_below (by repeat (first | (with_reducible exact HR378_0.out) | (with_reducible refine Kd.C_alloc ?_ _) | (with_reducible refine Kd.C_drewN ?_ _) | (with_reducible refine Kd.C_drew ?_) | exact HR378_0.out)) hb); have n5_ := aM (below_step (bB1 HB.out GE358.out) hb); clear HO_5; clear HO_11; clear HL378_0; clear BK358; clear HR378_0; clear HB; have HO_5 := n0_; have HO_11 := n1_; have HL378_0 := n2_; have BK358 := n3_; have HR378_0 := n4_; have HB := n5_; clear n0_ n1_ n2_ n3_ n4_ n5_
          (try clear hb)
          (try clear hb2)
          (try clear hk)
          (try clear hi)
          refine hK.out _ _ ⟨(blk_cell BK358.out 0).trans rfl, (blk_cell BK358.out 1).trans rfl, (blk_cell BK358.out 2).trans rfl, (blk_cell BK358.out 3).trans rfl, (blk_cell BK358.out 4).trans rfl, HS5_⟩ (fun hHeld => ?_)
          clear hK K
          refine norm_ (a' := ?_) ?_ ?_
          rotate_left
          ·show Act.put _ (some 74) _ = _
           simp only [Act.put, List.setIfInBounds_toArray, List.set_cons_zero, List.set_cons_succ, i64_w, i32_w]
           rfl
          refine done_ (by kernel_rfl) ?_
          try go_wp2
          go_roundg k2
          case measure => have := HK1.out; have := HK2.out; omega
          case rel => exact ⟨(x11_2), (wrap64 (x12_2 + 1)), eT, H', ⟨by have := HK1.out; have := HK2.out; omega⟩, ⟨by (with_reducible repeat (first | apply Kd.N_alloc | apply Kd.N_drewN | apply Kd.N_drew)); exact HO_5.out⟩, ⟨by (with_reducible repeat (first | apply Kd.N_alloc | apply Kd.N_drewN | apply Kd.N_drew)); exact HO_11.out⟩, ⟨kB BK358.out⟩, ⟨bB1 HB.out GE358.out⟩⟩
        ·rw [if_neg c36] at H
         exact absurd H (by simp)
       ·rw [if_neg c35] at H
        have c35b0 : decide (x12_2 < (x5_1.length : Int)) = false := decide_eq_false c35; clear c35
        obtain rfl := Option.some.inj H
        obtain ⟨Ao47, co47, eo47⟩ := Kd.N_slice HO_5.out; subst eo47
        go_wp2
        go_ret
        exact ⟨_, rT, by (with_reducible repeat (first | apply Kd.N_alloc | apply Kd.N_drewN | apply Kd.N_drew)); exact Kd.N_mono HO_11.out (fun _ hk => hk.1), bB1 HB.out GE358.out⟩
 ·rw [if_neg c4] at H
  have c4b0 : (t359 == 0) = false := beq_eq_false_iff_ne.mpr c4; have c4b1 : (t359 != 0) = true := bne_iff_ne.mpr c4
  obtain rfl := Option.some.inj H
  go_enter Try.func25, Try.ntmps25
  go_wp2_with (first | ((with_reducible refine gate_dst (N := 3) rfl ?_); refine box_event ?hg (N := 3) ?hd (cs := #[.string a1_0, .slice A1_1 l1_1.length c1_1, .slice A1_2 l1_2.length c1_2, .slice A1_3 l1_3.length c1_3, .slice A1_4 l1_4.length c1_4]) (t := 27) ?hr ?_; (case hd => rfl); (case hg => rfl); (case hr => first | (go_simp; done) | (go_simp; rfl)); intro gb358 hg w48 hbox hb; have n0_ := aM (below_step (bB HB.out) hb); have n1_ := aM (hbox); have n2_ := aM ((by rw [hg]; exact (below_size (bB HB.out)) : w.heap.size ≤ gb358)); have n3_ := aM ((by rw [hg]; exact (below_size (bB HB.out)) : w.heap.size ≤ gb358)); clear HB; have HB := n0_; have BK358 := n1_; have GW358 := n2_; have GE358 := n3_; clear n0_ n1_ n2_ n3_; clear hb hbox hg; have hcz49_0 : w48.cell? ⟨gb358, 0, none⟩ = some (.string a1_0) := (blk_cell BK358.out 0).trans rfl; have hcz49_1 : w48.cell? ⟨gb358, 1, none⟩ = some (.slice A1_1 l1_1.length c1_1) := (blk_cell BK358.out 1).trans rfl; have hcz49_2 : w48.cell? ⟨gb358, 2, none⟩ = some (.slice A1_2 l1_2.length c1_2) := (blk_cell BK358.out 2).trans rfl; have hcz49_3 : w48.cell? ⟨gb358, 3, none⟩ = some (.slice A1_3 l1_3.length c1_3) := (blk_cell BK358.out 3).trans rfl; have hcz49_4 : w48.cell? ⟨gb358, 4, none⟩ = some (.slice A1_4 l1_4.length c1_4) := (blk_cell BK358.out 4).trans rfl; have hfz49_0 := blk_frozen BK358.out 0; have hfz49_1 := blk_frozen BK358.out 1; have hfz49_2 := blk_frozen BK358.out 2; have hfz49_3 := blk_frozen BK358.out 3; have hfz49_4 := blk_frozen BK358.out 4) | ((with_reducible refine gate_callee (f := 12) rfl ?_); refine goesL_ (some 15) rfl rfl Try.func12 (by kernel_rfl) rfl #[.slice A0 l0.length c0, .agg #[.string a1_0, .slice A1_1 l1_1.length c1_1, .slice A1_2 l1_2.length c1_2, .slice A1_3 l1_3.length c1_3, .slice A1_4 l1_4.length c1_4]] rfl mT ?_; (with_reducible refine (r40_Check.calls k _ _ l0 a1_0 _ _ l1_1 _ _ l1_2 _ _ l1_3 _ _ l1_4 t359 _ ?side1 ?side2 ?side3 ?side4 ?side5 ?side6 ?side7 ?side8 ?side9 ?side10 A3.out).mono ?_); (case side1 => exact cB HR0.out HB.out); (case side2 => exact HC0.out); (case side3 => exact cB HR1_1.out HB.out); (case side4 => exact HC1_1.out); (case side5 => exact cB HR1_2.out HB.out); (case side6 => exact HC1_2.out); (case side7 => exact cB HR1_3.out HB.out); (case side8 => exact HC1_3.out); (case side9 => exact cB HR1_4.out HB.out); (case side10 => exact HC1_4.out); rintro e w50 ⟨rfl, hb⟩; refine ⟨_, rfl, ?_⟩; have n0_ := aM (kW BK358.out hb); have n1_ := aM (below_step (bB1 HB.out GE358.out) hb); clear BK358; clear HB; have BK358 := n0_; have HB := n1_; clear n0_ n1_; (try clear hb); (try clear hb2); (try clear hk); (try clear hi)))
  go_ret
  exact ⟨_, rT, by first | exact Kd.S_nil _ _ _ _ _ | exact Kd.N_nil _ _ _ _ _ | exact Kd.V_nil _ _ _ _ _ | exact Kd.Q_nil _ _ _ _ _ | exact Kd.R_nil _ _ _ _ _, bB1 HB.out GE358.out⟩




/-! ### l40_BindingLists: function 5 -/
def l40_BindingLists.j0 : Nat → List (S51) → Bool → ByteArray → List (S48) → List (S62) → List (S111) → List (S111) → Option (Bool)
 | 0, _, _, _, _, _, _, _ => none
 | k + 1, x0, x20, x385000, x385001, x385002, x385003, x385004 => if x20 = true then ((l40_lives.f k).bind fun t388 => (some t388)) else ((binding_All.f x0 x385000 x385001 x385002 x385003 x385004).bind fun t389 => ((r40_All.f k x0 x385000 x385001 x385002 x385003 x385004).bind fun t392 => ((r04_Lists.f k t389 t392).bind fun t395 => (if t395 = true then ((l40_lives.f k).bind fun t396 => (some t396)) else (some false)))))
def l40_BindingLists.f (k : Nat) (l0 : List (S51)) (a1_0 : ByteArray) (l1_1 : List (S48)) (l1_2 : List (S62)) (l1_3 : List (S111)) (l1_4 : List (S111)) : Option (Bool) := (r40_Few.f k l0 a1_0 l1_1 l1_2 l1_3 l1_4).bind fun t385 => (if t385 = true then ((r40_Check.f k l0 a1_0 l1_1 l1_2 l1_3 l1_4).bind fun t386 => (if t386 = 0 then ((r40_Colors.f k l0 a1_0 l1_1 l1_2 l1_3 l1_4).bind fun t387 => (l40_BindingLists.j0 k l0 (decide (t387 > 300)) a1_0 l1_1 l1_2 l1_3 l1_4)) else (l40_BindingLists.j0 k l0 false a1_0 l1_1 l1_2 l1_3 l1_4))) else (l40_BindingLists.j0 k l0 true a1_0 l1_1 l1_2 l1_3 l1_4))
theorem l40_BindingLists.mono_l : ∀ k, (∀ y0 y1 y2 y3 y4 y5 y6, LeO (l40_BindingLists.j0 k y0 y1 y2 y3 y4 y5 y6) (l40_BindingLists.j0 (k + 1) y0 y1 y2 y3 y4 y5 y6))
 | 0 => fun _ _ _ _ _ _ _ r h => by simp [l40_BindingLists.j0] at h
 | k + 1 => by
  have ih0 := l40_BindingLists.mono_l k
  ·intro y0 y1 y2 y3 y4 y5 y6
   unfold l40_BindingLists.j0
   repeat' first
   | (with_reducible first | exact ih0 _ _ _ _ _ _ _ | exact l40_lives.mono _ | exact r04_Lists.mono _ _ _ | exact r40_All.mono _ _ _ _ _ _ _ | exact r40_Check.mono _ _ _ _ _ _ _ | exact r40_Colors.mono _ _ _ _ _ _ _ | exact r40_Few.mono _ _ _ _ _ _ _ | exact LeO.refl _ | exact LeO.none _ | refine LeO.ite ?_ ?_ | refine LeO.bind ?_ (fun _ => ?_))
   | exact LeO.none _
   | refine LeO.ite ?_ ?_
   | refine LeO.bind ?_ (fun _ => ?_)
theorem l40_BindingLists.mono : ∀ a0 a1 a2 a3 a4 a5 k, LeO (l40_BindingLists.f k a0 a1 a2 a3 a4 a5) (l40_BindingLists.f (k + 1) a0 a1 a2 a3 a4 a5) := by
 intro a0 a1 a2 a3 a4 a5 k
 have ih0 := l40_BindingLists.mono_l k
 unfold l40_BindingLists.f
 repeat' first
   | (with_reducible first | exact ih0 _ _ _ _ _ _ _ | exact l40_lives.mono _ | exact r04_Lists.mono _ _ _ | exact r40_All.mono _ _ _ _ _ _ _ | exact r40_Check.mono _ _ _ _ _ _ _ | exact r40_Colors.mono _ _ _ _ _ _ _ | exact r40_Few.mono _ _ _ _ _ _ _ | exact LeO.refl _ | exact LeO.none _ | refine LeO.ite ?_ ?_ | refine LeO.bind ?_ (fun _ => ?_))
   | exact LeO.none _
   | refine LeO.ite ?_ ?_
   | refine LeO.bind ?_ (fun _ => ?_)
def l40_BindingLists.T3 : Bool × List (List Nat × List Nat) := (true, [([], []), ([], []), ([0, 1], [0, 1]), ([], []), ([], []), ([3, 4, 2], [3, 4]), ([2, 5, 5], [2, 5]), ([6, 6], [6]), ([7, 7], [7]), ([7, 8], [7, 8]), ([9, 8, 0, 1, 2, 3, 4, 5, 6, 7, 8, 9], [9])])
def l40_BindingLists.B3 : List Nat := [0, 0, 3, 0, 0, 31, 63, 127, 255, 511, 1023]
theorem l40_BindingLists.tab3 : rtab .any (opsOf Try.f5 3) = l40_BindingLists.T3 := by kernel_rfl
theorem l40_BindingLists.bits3 : waitsOk l40_BindingLists.T3.2 l40_BindingLists.B3 = true := by kernel_rfl
set_option maxHeartbeats 8000000 in
set_option maxRecDepth 100000 in
theorem l40_BindingLists.calls (k : Nat) (A0 : Option Addr) (c0 : Nat) (l0 : List (S51)) (a1_0 : ByteArray) (A1_1 : Option Addr) (c1_1 : Nat) (l1_1 : List (S48)) (A1_2 : Option Addr) (c1_2 : Nat) (l1_2 : List (S62)) (A1_3 : Option Addr) (c1_3 : Nat) (l1_3 : List (S111)) (A1_4 : Option Addr) (c1_4 : Nat) (l1_4 : List (S111)) (r : Bool) (w : World) (hr0 : Kd.C k51 w A0 l0.length l0) (hc0 : l0.length ≤ c0) (hr1_1 : Kd.C k48 w A1_1 l1_1.length l1_1) (hc1_1 : l1_1.length ≤ c1_1) (hr1_2 : Kd.C k62 w A1_2 l1_2.length l1_2) (hc1_2 : l1_2.length ≤ c1_2) (hr1_3 : Kd.C k111 w A1_3 l1_3.length l1_3) (hc1_3 : l1_3.length ≤ c1_3) (hr1_4 : Kd.C k111 w A1_4 l1_4.length l1_4) (hc1_4 : l1_4.length ≤ c1_4) (h : l40_BindingLists.f k l0 a1_0 l1_1 l1_2 l1_3 l1_4 = some r) (hrT_ : Aside0 (r = true)) :
  Calls Try.prog 5 #[.slice A0 l0.length c0, .agg #[.string a1_0, .slice A1_1 l1_1.length c1_1, .slice A1_2 l1_2.length c1_2, .slice A1_3 l1_3.length c1_3, .slice A1_4 l1_4.length c1_4]] w fun e w' => e = .returned (.bool r) ∧ Below w.heap.size w w' := by
 have hu27 := Try.underlying27; have hu9 := Try.underlying9; have hu23 := Try.underlying23; have hu24 := Try.underlying24; have hu25 := Try.underlying25; have HR0 := aM hr0; have HC0 := aM hc0; clear hr0 hc0; have HR1_1 := aM hr1_1; have HC1_1 := aM hc1_1; clear hr1_1 hc1_1; have HR1_2 := aM hr1_2; have HC1_2 := aM hc1_2; clear hr1_2 hc1_2; have HR1_3 := aM hr1_3; have HC1_3 := aM hc1_3; clear hr1_3 hc1_3; have HR1_4 := aM hr1_4; have HC1_4 := aM hc1_4; clear hr1_4 hc1_4; have HB := aM (Below.refl w.heap.size w)
 have H : ((r40_Few.f k l0 a1_0 l1_1 l1_2 l1_3 l1_4).bind fun t385 => (if t385 = true then ((r40_Check.f k l0 a1_0 l1_1 l1_2 l1_3 l1_4).bind fun t386 => (if t386 = 0 then ((r40_Colors.f k l0 a1_0 l1_1 l1_2 l1_3 l1_4).bind fun t387 => (l40_BindingLists.j0 k l0 (decide (t387 > 300)) a1_0 l1_1 l1_2 l1_3 l1_4)) else (l40_BindingLists.j0 k l0 false a1_0 l1_1 l1_2 l1_3 l1_4))) else (l40_BindingLists.j0 k l0 true a1_0 l1_1 l1_2 l1_3 l1_4))) = some r := h
 clear h; have HC3 := aM H; clear H
 go_enter Try.func5, Try.ntmps5
 go_upto_region 1 with (first | ((with_reducible refine gate_dst (N := 3) rfl ?_); refine box_event ?hg (N := 3) ?hd (cs := #[.string a1_0, .slice A1_1 l1_1.length c1_1, .slice A1_2 l1_2.length c1_2, .slice A1_3 l1_3.length c1_3, .slice A1_4 l1_4.length c1_4]) (t := 27) ?hr ?_; (case hd => rfl); (case hg => rfl); (case hr => first | (go_simp; done) | (go_simp; rfl)); intro gb384 hg w4 hbox hb; have n0_ := aM (below_step (bB HB.out) hb); have n1_ := aM (hbox); have n2_ := aM ((by rw [hg]; exact (below_size (bB HB.out)) : w.heap.size ≤ gb384)); have n3_ := aM ((by rw [hg]; exact (below_size (bB HB.out)) : w.heap.size ≤ gb384)); clear HB; have HB := n0_; have BK384 := n1_; have GW384 := n2_; have GE384 := n3_; clear n0_ n1_ n2_ n3_; clear hb hbox hg))
 (try simp only [Act.put, List.setIfInBounds_toArray, List.set_cons_zero, List.set_cons_succ])
 go_cut [20] (fun v20 wc => ∃ (kq : Nat) (x20_2 : Bool), v20 = .bool x20_2 ∧ Aside0 (l40_BindingLists.j0 kq l0 x20_2 a1_0 l1_1 l1_2 l1_3 l1_4 = some r) ∧ Aside0 (kq ≤ k) ∧ Aside0 (wc.heap[gb384]? = some (.cells #[.string a1_0, (.slice A1_1 l1_1.length c1_1), (.slice A1_2 l1_2.length c1_2), (.slice A1_3 l1_3.length c1_3), (.slice A1_4 l1_4.length c1_4)] 27 (0, 0))) ∧ Aside0 (Below w.heap.size w wc))
 case first =>
  have H := HC3.out; clear HC3; replace H := Option.bind_eq_some_iff.mp H; obtain ⟨t385, A50, H⟩ := H
  replace H : (if t385 = true then ((r40_Check.f k l0 a1_0 l1_1 l1_2 l1_3 l1_4).bind fun t386 => (if t386 = 0 then ((r40_Colors.f k l0 a1_0 l1_1 l1_2 l1_3 l1_4).bind fun t387 => (l40_BindingLists.j0 k l0 (decide (t387 > 300)) a1_0 l1_1 l1_2 l1_3 l1_4)) else (l40_BindingLists.j0 k l0 false a1_0 l1_1 l1_2 l1_3 l1_4))) else (l40_BindingLists.j0 k l0 true a1_0 l1_1 l1_2 l1_3 l1_4)) = some r := H
  have A5 := aM A50; clear A50
  by_cases c6 : t385 = true
  ·subst c6
   have H1 : ((r40_Check.f k l0 a1_0 l1_1 l1_2 l1_3 l1_4).bind fun t386 => (if t386 = 0 then ((r40_Colors.f k l0 a1_0 l1_1 l1_2 l1_3 l1_4).bind fun t387 => (l40_BindingLists.j0 k l0 (decide (t387 > 300)) a1_0 l1_1 l1_2 l1_3 l1_4)) else (l40_BindingLists.j0 k l0 false a1_0 l1_1 l1_2 l1_3 l1_4))) = some r := by rw [if_pos rfl] at H; exact H
   clear H; have H := H1; clear H1; replace H := Option.bind_eq_some_iff.mp H; obtain ⟨t386, A70, H⟩ := H
   replace H : (if t386 = 0 then ((r40_Colors.f k l0 a1_0 l1_1 l1_2 l1_3 l1_4).bind fun t387 => (l40_BindingLists.j0 k l0 (decide (t387 > 300)) a1_0 l1_1 l1_2 l1_3 l1_4)) else (l40_BindingLists.j0 k l0 false a1_0 l1_1 l1_2 l1_3 l1_4)) = some r := H
   have A7 := aM A70; clear A70
   by_cases c8 : t386 = 0
   ·rw [if_pos c8] at H
    have c8b0 : (t386 == 0) = true := beq_iff_eq.mpr c8; have c8b1 : (t386 != 0) = false := bne_eq_false_iff_eq.mpr c8; clear c8
    (first | rw [c8b0] | (simp only [i64_w, i32_w]; rw [c8b0]) | skip)
    replace H := Option.bind_eq_some_iff.mp H; obtain ⟨t387, A90, H⟩ := H
    replace H : (l40_BindingLists.j0 k l0 (decide (t387 > 300)) a1_0 l1_1 l1_2 l1_3 l1_4) = some r := H
    have A9 := aM A90; clear A90
    have H' := aM H
    clear H
    have hcz10_0 : w4.cell? ⟨gb384, 0, none⟩ = some (.string a1_0) := (blk_cell BK384.out 0).trans rfl
    have hcz10_1 : w4.cell? ⟨gb384, 1, none⟩ = some (.slice A1_1 l1_1.length c1_1) := (blk_cell BK384.out 1).trans rfl
    have hcz10_2 : w4.cell? ⟨gb384, 2, none⟩ = some (.slice A1_2 l1_2.length c1_2) := (blk_cell BK384.out 2).trans rfl
    have hcz10_3 : w4.cell? ⟨gb384, 3, none⟩ = some (.slice A1_3 l1_3.length c1_3) := (blk_cell BK384.out 3).trans rfl
    have hcz10_4 : w4.cell? ⟨gb384, 4, none⟩ = some (.slice A1_4 l1_4.length c1_4) := (blk_cell BK384.out 4).trans rfl
    have hfz10_0 := blk_frozen BK384.out 0; have hfz10_1 := blk_frozen BK384.out 1; have hfz10_2 := blk_frozen BK384.out 2; have hfz10_3 := blk_frozen BK384.out 3; have hfz10_4 := blk_frozen BK384.out 4
    go_wp2_with (first | ((with_reducible refine gate_callee (f := 9) rfl ?_); refine goesL_ (some 7) rfl rfl Try.func9 (by kernel_rfl) rfl #[.slice A0 l0.length c0, .agg #[.string a1_0, .slice A1_1 l1_1.length c1_1, .slice A1_2 l1_2.length c1_2, .slice A1_3 l1_3.length c1_3, .slice A1_4 l1_4.length c1_4]] rfl mT ?_; (with_reducible refine (r40_Few.calls k _ _ l0 a1_0 _ _ l1_1 _ _ l1_2 _ _ l1_3 _ _ l1_4 true _ ?side1 ?side2 ?side3 ?side4 ?side5 ?side6 ?side7 ?side8 ?side9 ?side10 A5.out).mono ?_); (case side1 => exact cB HR0.out HB.out); (case side2 => exact HC0.out); (case side3 => exact cB HR1_1.out HB.out); (case side4 => exact HC1_1.out); (case side5 => exact cB HR1_2.out HB.out); (case side6 => exact HC1_2.out); (case side7 => exact cB HR1_3.out HB.out); (case side8 => exact HC1_3.out); (case side9 => exact cB HR1_4.out HB.out); (case side10 => exact HC1_4.out); rintro e w11 ⟨rfl, hb⟩; refine ⟨_, rfl, ?_⟩; have n0_ := aM (kW BK384.out hb); have n1_ := aM (below_step (bB1 HB.out GE384.out) hb); clear BK384; clear HB; have BK384 := n0_; have HB := n1_; clear n0_ n1_; (try clear hb); (try clear hb2); (try clear hk); (try clear hi); have hcz12_0 : w11.cell? ⟨gb384, 0, none⟩ = some (.string a1_0) := (blk_cell BK384.out 0).trans rfl; have hcz12_1 : w11.cell? ⟨gb384, 1, none⟩ = some (.slice A1_1 l1_1.length c1_1) := (blk_cell BK384.out 1).trans rfl; have hcz12_2 : w11.cell? ⟨gb384, 2, none⟩ = some (.slice A1_2 l1_2.length c1_2) := (blk_cell BK384.out 2).trans rfl; have hcz12_3 : w11.cell? ⟨gb384, 3, none⟩ = some (.slice A1_3 l1_3.length c1_3) := (blk_cell BK384.out 3).trans rfl; have hcz12_4 : w11.cell? ⟨gb384, 4, none⟩ = some (.slice A1_4 l1_4.length c1_4) := (blk_cell BK384.out 4).trans rfl; have hfz12_0 := blk_frozen BK384.out 0; have hfz12_1 := blk_frozen BK384.out 1; have hfz12_2 := blk_frozen BK384.out 2; have hfz12_3 := blk_frozen BK384.out 3; have hfz12_4 := blk_frozen BK384.out 4) | (go_at_call 12; (with_reducible refine (r40_Check.calls k _ _ l0 a1_0 _ _ l1_1 _ _ l1_2 _ _ l1_3 _ _ l1_4 t386 _ ?side1 ?side2 ?side3 ?side4 ?side5 ?side6 ?side7 ?side8 ?side9 ?side10 A7.out).mono ?_); (case side1 => exact cB HR0.out HB.out); (case side2 => exact HC0.out); (case side3 => exact cB HR1_1.out HB.out); (case side4 => exact HC1_1.out); (case side5 => exact cB HR1_2.out HB.out); (case side6 => exact HC1_2.out); (case side7 => exact cB HR1_3.out HB.out); (case side8 => exact HC1_3.out); (case side9 => exact cB HR1_4.out HB.out); (case side10 => exact HC1_4.out); rintro e w13 ⟨rfl, hb⟩; have n0_ := aM (kW BK384.out hb); have n1_ := aM (below_step (bB1 HB.out GE384.out) hb); clear BK384; clear HB; have BK384 := n0_; have HB := n1_; clear n0_ n1_; (try clear hb); (try clear hb2); (try clear hk); (try clear hi); have hcz14_0 : w13.cell? ⟨gb384, 0, none⟩ = some (.string a1_0) := (blk_cell BK384.out 0).trans rfl; have hcz14_1 : w13.cell? ⟨gb384, 1, none⟩ = some (.slice A1_1 l1_1.length c1_1) := (blk_cell BK384.out 1).trans rfl; have hcz14_2 : w13.cell? ⟨gb384, 2, none⟩ = some (.slice A1_2 l1_2.length c1_2) := (blk_cell BK384.out 2).trans rfl; have hcz14_3 : w13.cell? ⟨gb384, 3, none⟩ = some (.slice A1_3 l1_3.length c1_3) := (blk_cell BK384.out 3).trans rfl; have hcz14_4 : w13.cell? ⟨gb384, 4, none⟩ = some (.slice A1_4 l1_4.length c1_4) := (blk_cell BK384.out 4).trans rfl; have hfz14_0 := blk_frozen BK384.out 0; have hfz14_1 := blk_frozen BK384.out 1; have hfz14_2 := blk_frozen BK384.out 2; have hfz14_3 := blk_frozen BK384.out 3; have hfz14_4 := blk_frozen BK384.out 4) | (go_at_call 22; (with_reducible refine (r40_Colors.calls k _ _ l0 a1_0 _ _ l1_1 _ _ l1_2 _ _ l1_3 _ _ l1_4 t387 _ ?side1 ?side2 ?side3 ?side4 ?side5 ?side6 ?side7 ?side8 ?side9 ?side10 A9.out).mono ?_); (case side1 => exact cB HR0.out HB.out); (case side2 => exact HC0.out); (case side3 => exact cB HR1_1.out HB.out); (case side4 => exact HC1_1.out); (case side5 => exact cB HR1_2.out HB.out); (case side6 => exact HC1_2.out); (case side7 => exact cB HR1_3.out HB.out); (case side8 => exact HC1_3.out); (case side9 => exact cB HR1_4.out HB.out); (case side10 => exact HC1_4.out); rintro e w15 ⟨rfl, hb⟩; have n0_ := aM (kW BK384.out hb); have n1_ := aM (below_step (bB1 HB.out GE384.out) hb); clear BK384; clear HB; have BK384 := n0_; have HB := n1_; clear n0_ n1_; (try clear hb); (try clear hb2); (try clear hk); (try clear hi)))
    go_meet
    case rel => exact ⟨_, (decide (t387 > 300)), eT, H', ⟨by first | omega | exact Nat.le_refl _⟩, ⟨kB BK384.out⟩, ⟨bB1 HB.out GE384.out⟩⟩
   ·rw [if_neg c8] at H
    have c8b0 : (t386 == 0) = false := beq_eq_false_iff_ne.mpr c8; have c8b1 : (t386 != 0) = true := bne_iff_ne.mpr c8
    (first | rw [c8b0] | (simp only [i64_w, i32_w]; rw [c8b0]) | skip)
    have H' := aM H
    clear H
    have hcz16_0 : w4.cell? ⟨gb384, 0, none⟩ = some (.string a1_0) := (blk_cell BK384.out 0).trans rfl
    have hcz16_1 : w4.cell? ⟨gb384, 1, none⟩ = some (.slice A1_1 l1_1.length c1_1) := (blk_cell BK384.out 1).trans rfl
    have hcz16_2 : w4.cell? ⟨gb384, 2, none⟩ = some (.slice A1_2 l1_2.length c1_2) := (blk_cell BK384.out 2).trans rfl
    have hcz16_3 : w4.cell? ⟨gb384, 3, none⟩ = some (.slice A1_3 l1_3.length c1_3) := (blk_cell BK384.out 3).trans rfl
    have hcz16_4 : w4.cell? ⟨gb384, 4, none⟩ = some (.slice A1_4 l1_4.length c1_4) := (blk_cell BK384.out 4).trans rfl
    have hfz16_0 := blk_frozen BK384.out 0; have hfz16_1 := blk_frozen BK384.out 1; have hfz16_2 := blk_frozen BK384.out 2; have hfz16_3 := blk_frozen BK384.out 3; have hfz16_4 := blk_frozen BK384.out 4
    go_wp2_with (first | ((with_reducible refine gate_callee (f := 9) rfl ?_); refine goesL_ (some 7) rfl rfl Try.func9 (by kernel_rfl) rfl #[.slice A0 l0.length c0, .agg #[.string a1_0, .slice A1_1 l1_1.length c1_1, .slice A1_2 l1_2.length c1_2, .slice A1_3 l1_3.length c1_3, .slice A1_4 l1_4.length c1_4]] rfl mT ?_; (with_reducible refine (r40_Few.calls k _ _ l0 a1_0 _ _ l1_1 _ _ l1_2 _ _ l1_3 _ _ l1_4 true _ ?side1 ?side2 ?side3 ?side4 ?side5 ?side6 ?side7 ?side8 ?side9 ?side10 A5.out).mono ?_); (case side1 => exact cB HR0.out HB.out); (case side2 => exact HC0.out); (case side3 => exact cB HR1_1.out HB.out); (case side4 => exact HC1_1.out); (case side5 => exact cB HR1_2.out HB.out); (case side6 => exact HC1_2.out); (case side7 => exact cB HR1_3.out HB.out); (case side8 => exact HC1_3.out); (case side9 => exact cB HR1_4.out HB.out); (case side10 => exact HC1_4.out); rintro e w17 ⟨rfl, hb⟩; refine ⟨_, rfl, ?_⟩; have n0_ := aM (kW BK384.out hb); have n1_ := aM (below_step (bB1 HB.out GE384.out) hb); clear BK384; clear HB; have BK384 := n0_; have HB := n1_; clear n0_ n1_; (try clear hb); (try clear hb2); (try clear hk); (try clear hi); have hcz18_0 : w17.cell? ⟨gb384, 0, none⟩ = some (.string a1_0) := (blk_cell BK384.out 0).trans rfl; have hcz18_1 : w17.cell? ⟨gb384, 1, none⟩ = some (.slice A1_1 l1_1.length c1_1) := (blk_cell BK384.out 1).trans rfl; have hcz18_2 : w17.cell? ⟨gb384, 2, none⟩ = some (.slice A1_2 l1_2.length c1_2) := (blk_cell BK384.out 2).trans rfl; have hcz18_3 : w17.cell? ⟨gb384, 3, none⟩ = some (.slice A1_3 l1_3.length c1_3) := (blk_cell BK384.out 3).trans rfl; have hcz18_4 : w17.cell? ⟨gb384, 4, none⟩ = some (.slice A1_4 l1_4.length c1_4) := (blk_cell BK384.out 4).trans rfl; have hfz18_0 := blk_frozen BK384.out 0; have hfz18_1 := blk_frozen BK384.out 1; have hfz18_2 := blk_frozen BK384.out 2; have hfz18_3 := blk_frozen BK384.out 3; have hfz18_4 := blk_frozen BK384.out 4) | (go_at_call 12; (with_reducible refine (r40_Check.calls k _ _ l0 a1_0 _ _ l1_1 _ _ l1_2 _ _ l1_3 _ _ l1_4 t386 _ ?side1 ?side2 ?side3 ?side4 ?side5 ?side6 ?side7 ?side8 ?side9 ?side10 A7.out).mono ?_); (case side1 => exact cB HR0.out HB.out); (case side2 => exact HC0.out); (case side3 => exact cB HR1_1.out HB.out); (case side4 => exact HC1_1.out); (case side5 => exact cB HR1_2.out HB.out); (case side6 => exact HC1_2.out); (case side7 => exact cB HR1_3.out HB.out); (case side8 => exact HC1_3.out); (case side9 => exact cB HR1_4.out HB.out); (case side10 => exact HC1_4.out); rintro e w19 ⟨rfl, hb⟩; have n0_ := aM (kW BK384.out hb); have n1_ := aM (below_step (bB1 HB.out GE384.out) hb); clear BK384; clear HB; have BK384 := n0_; have HB := n1_; clear n0_ n1_; (try clear hb); (try clear hb2); (try clear hk); (try clear hi)))
    go_meet
    case rel => exact ⟨_, (false), eT, H', ⟨by first | omega | exact Nat.le_refl _⟩, ⟨kB BK384.out⟩, ⟨bB1 HB.out GE384.out⟩⟩
  ·replace c6 := Bool.eq_false_iff.mpr c6
   subst c6
   have H1 : (l40_BindingLists.j0 k l0 true a1_0 l1_1 l1_2 l1_3 l1_4) = some r := by rw [if_neg (show ¬ (false = true) by decide)] at H; exact H
   clear H; have H := H1; clear H1
   have H' := aM H
   clear H
   have hcz20_0 : w4.cell? ⟨gb384, 0, none⟩ = some (.string a1_0) := (blk_cell BK384.out 0).trans rfl
   have hcz20_1 : w4.cell? ⟨gb384, 1, none⟩ = some (.slice A1_1 l1_1.length c1_1) := (blk_cell BK384.out 1).trans rfl
   have hcz20_2 : w4.cell? ⟨gb384, 2, none⟩ = some (.slice A1_2 l1_2.length c1_2) := (blk_cell BK384.out 2).trans rfl
   have hcz20_3 : w4.cell? ⟨gb384, 3, none⟩ = some (.slice A1_3 l1_3.length c1_3) := (blk_cell BK384.out 3).trans rfl
   have hcz20_4 : w4.cell? ⟨gb384, 4, none⟩ = some (.slice A1_4 l1_4.length c1_4) := (blk_cell BK384.out 4).trans rfl
   have hfz20_0 := blk_frozen BK384.out 0; have hfz20_1 := blk_frozen BK384.out 1; have hfz20_2 := blk_frozen BK384.out 2; have hfz20_3 := blk_frozen BK384.out 3; have hfz20_4 := blk_frozen BK384.out 4
   go_wp2_with (first | ((with_reducible refine gate_callee (f := 9) rfl ?_); refine goesL_ (some 7) rfl rfl Try.func9 (by kernel_rfl) rfl #[.slice A0 l0.length c0, .agg #[.string a1_0, .slice A1_1 l1_1.length c1_1, .slice A1_2 l1_2.length c1_2, .slice A1_3 l1_3.length c1_3, .slice A1_4 l1_4.length c1_4]] rfl mT ?_; (with_reducible refine (r40_Few.calls k _ _ l0 a1_0 _ _ l1_1 _ _ l1_2 _ _ l1_3 _ _ l1_4 false _ ?side1 ?side2 ?side3 ?side4 ?side5 ?side6 ?side7 ?side8 ?side9 ?side10 A5.out).mono ?_); (case side1 => exact cB HR0.out HB.out); (case side2 => exact HC0.out); (case side3 => exact cB HR1_1.out HB.out); (case side4 => exact HC1_1.out); (case side5 => exact cB HR1_2.out HB.out); (case side6 => exact HC1_2.out); (case side7 => exact cB HR1_3.out HB.out); (case side8 => exact HC1_3.out); (case side9 => exact cB HR1_4.out HB.out); (case side10 => exact HC1_4.out); rintro e w21 ⟨rfl, hb⟩; refine ⟨_, rfl, ?_⟩; have n0_ := aM (kW BK384.out hb); have n1_ := aM (below_step (bB1 HB.out GE384.out) hb); clear BK384; clear HB; have BK384 := n0_; have HB := n1_; clear n0_ n1_; (try clear hb); (try clear hb2); (try clear hk); (try clear hi)))
   go_meet
   case rel => exact ⟨_, (true), eT, H', ⟨by first | omega | exact Nat.le_refl _⟩, ⟨kB BK384.out⟩, ⟨bB1 HB.out GE384.out⟩⟩
 case rest =>
  clear HC3; obtain ⟨kq, x20_2, rfl, HA, HJ2, BK384, HB⟩ := hcut
  cases kq with
  | zero => exact absurd HA.out (by simp [l40_BindingLists.j0])
  | succ kj2 =>
   have H := HA.out; clear HA
   simp only [l40_BindingLists.j0] at H
   by_cases c22 : x20_2 = true
   ·subst c22
    have H1 : ((l40_lives.f kj2).bind fun t388 => (some t388)) = some r := by rw [if_pos rfl] at H; exact H
    clear H; have H := H1; clear H1; replace H := Option.bind_eq_some_iff.mp H; obtain ⟨t388, A230, H⟩ := H
    replace H : (some t388) = some r := H
    have A23 := aM A230; clear A230
    obtain rfl := Option.some.inj H
    go_wp2_with (first | ((with_reducible refine gate_callee (f := 10) rfl ?_); refine goesL_ (some 21) rfl rfl Try.func10 (by kernel_rfl) rfl #[] rfl mT ?_; (with_reducible refine (l40_lives.calls kj2  t388 _ A23.out (by first | exact hrT_ | exact ⟨rfl⟩)).mono ?_); rintro e w24 ⟨rfl, hb⟩; refine ⟨_, rfl, ?_⟩; have n0_ := aM (kW BK384.out hb); have n1_ := aM (below_step (bB1 HB.out GE384.out) hb); clear BK384; clear HB; have BK384 := n0_; have HB := n1_; clear n0_ n1_; (try clear hb); (try clear hb2); (try clear hk); (try clear hi)))
    go_ret
    exact ⟨rT, bB1 HB.out GE384.out⟩
   ·replace c22 := Bool.eq_false_iff.mpr c22
    subst c22
    have H1 : ((binding_All.f l0 a1_0 l1_1 l1_2 l1_3 l1_4).bind fun t389 => ((r40_All.f kj2 l0 a1_0 l1_1 l1_2 l1_3 l1_4).bind fun t392 => ((r04_Lists.f kj2 t389 t392).bind fun t395 => (if t395 = true then ((l40_lives.f kj2).bind fun t396 => (some t396)) else (some false))))) = some r := by rw [if_neg (show ¬ (false = true) by decide)] at H; exact H
    clear H; have H := H1; clear H1; replace H := Option.bind_eq_some_iff.mp H; obtain ⟨t389, A250, H⟩ := H
    replace H : ((r40_All.f kj2 l0 a1_0 l1_1 l1_2 l1_3 l1_4).bind fun t392 => ((r04_Lists.f kj2 t389 t392).bind fun t395 => (if t395 = true then ((l40_lives.f kj2).bind fun t396 => (some t396)) else (some false)))) = some r := H
    have A25 := aM A250; clear A250; replace H := Option.bind_eq_some_iff.mp H; obtain ⟨t392, A260, H⟩ := H
    replace H : ((r04_Lists.f kj2 t389 t392).bind fun t395 => (if t395 = true then ((l40_lives.f kj2).bind fun t396 => (some t396)) else (some false))) = some r := H
    have A26 := aM A260; clear A260; replace H := Option.bind_eq_some_iff.mp H; obtain ⟨t395, A270, H⟩ := H
    replace H : (if t395 = true then ((l40_lives.f kj2).bind fun t396 => (some t396)) else (some false)) = some r := H
    have A27 := aM A270; clear A270
    by_cases c28 : t395 = true
    ·subst c28
     have H1 : ((l40_lives.f kj2).bind fun t396 => (some t396)) = some r := by rw [if_pos rfl] at H; exact H
     clear H; have H := H1; clear H1; replace H := Option.bind_eq_some_iff.mp H; obtain ⟨t396, A290, H⟩ := H
     replace H : (some t396) = some r := H
     have A29 := aM A290; clear A290
     obtain rfl := Option.some.inj H
     try go_wp2
     have n0_ := aM (blk_drew BK384.out); have n1_ := aM (below_drew1 HB.out); clear BK384; clear HB; have BK384 := n0_; have HB := n1_; clear n0_ n1_
     refine start_ (n := 11) (S := fun w' => w'.cell? ⟨gb384, 0, none⟩ = some (.string a1_0) ∧ w'.cell? ⟨gb384, 1, none⟩ = some (.slice A1_1 l1_1.length c1_1) ∧ w'.cell? ⟨gb384, 2, none⟩ = some (.slice A1_2 l1_2.length c1_2) ∧ w'.cell? ⟨gb384, 3, none⟩ = some (.slice A1_3 l1_3.length c1_3) ∧ w'.cell? ⟨gb384, 4, none⟩ = some (.slice A1_4 l1_4.length c1_4)) (ds := []) #[false, false, false, false, false, false, false, false, false, false, false] (by kernel_rfl) rfl rfl ⟨(blk_cell BK384.out 0).trans rfl, (blk_cell BK384.out 1).trans rfl, (blk_cell BK384.out 2).trans rfl, (blk_cell BK384.out 3).trans rfl, (blk_cell BK384.out 4).trans rfl⟩ (fun hHeld => ?_); refine with_tabW l40_BindingLists.tab3 l40_BindingLists.bits3 (fun HT_ HW_ => ?_)
     generalize wc.drew = w30 at BK384 HB hHeld ⊢
     refine pure_ (i := 0) (N := some 22) (v := ?_) (a' := ?_) #[true, false, false, false, false, false, false, false, false, false, false] rfl rfl (any_of HT_.out (by kernel_rfl)) (fun _ _ _ h => h) (Or.inl ⟨by rfl, ?_⟩) ?_ ?_; rotate_left; exact qT; rotate_left; exact pT
     refine pure_ (i := 3) (N := some 25) (v := ?_) (a' := ?_) #[true, false, false, true, false, false, false, false, false, false, false] rfl rfl (any_of HT_.out (by kernel_rfl)) (fun _ _ _ h => h) (Or.inl ⟨by rfl, ?_⟩) ?_ ?_; rotate_left; exact qT; rotate_left; exact pT
     refine take_ (i := 1) (N := some 23) (v := ?_) (a' := ?_) #[true, true, false, true, false, false, false, false, false, false, false] rfl rfl (take_ofW HT_.out HW_.out (by kernel_rfl)) (fun _ _ _ h => h) (Or.inl ⟨by rfl, ?_⟩) hHeld ?_ ?_; rotate_left; rintro w' ⟨s0, s1, s2, s3, s4⟩; go_simp; with_reducible rfl; rotate_left; exact pT
     refine take_ (i := 4) (N := some 26) (v := ?_) (a' := ?_) #[true, true, false, true, true, false, false, false, false, false, false] rfl rfl (take_ofW HT_.out HW_.out (by kernel_rfl)) (fun _ _ _ h => h) (Or.inl ⟨by rfl, ?_⟩) hHeld ?_ ?_; rotate_left; rintro w' ⟨s0, s1, s2, s3, s4⟩; go_simp; with_reducible rfl; rotate_left; exact pT
     refine one_ (i := 2) (N := some 24) #[true, true, true, true, true, false, false, false, false, false, false] rfl rfl (one_of HT_.out (by kernel_rfl)) (by decide) (fun K hK => ?_)
     refine goes_ Try.func24 (by kernel_rfl) rfl #[.slice A0 l0.length c0, .agg #[.string a1_0, .slice A1_1 l1_1.length c1_1, .slice A1_2 l1_2.length c1_2, .slice A1_3 l1_3.length c1_3, .slice A1_4 l1_4.length c1_4]] (by rfl) rfl rfl mT ?_
     with_reducible refine (binding_All.calls _ _ l0 a1_0 _ _ l1_1 _ _ l1_2 _ _ l1_3 _ _ l1_4 t389 _ ?side1 ?side2 ?side3 ?side4 ?side5 ?side6 ?side7 ?side8 ?side9 ?side10 A25.out).mono ?_
     (case side1 => exact cB HR0.out HB.out)
     (case side2 => exact HC0.out)
     (case side3 => exact cB HR1_1.out HB.out)
     (case side4 => exact HC1_1.out)
     (case side5 => exact cB HR1_2.out HB.out)
     (case side6 => exact HC1_2.out)
     (case side7 => exact cB HR1_3.out HB.out)
     (case side8 => exact HC1_3.out)
     (case side9 => exact cB HR1_4.out HB.out)
     (case side10 => exact HC1_4.out)
     rintro e w31 ⟨v390, rfl, ho0, hb⟩
     refine ⟨_, rfl, ?_⟩
     have n0_ := aM (Kd.N_lower (Kd.N_mono (ok' := fun k_ => k_ ≠ gb384) (Kd.S_N (Kd.S_bound ho0)) (fun k_ hk_ => (Kd.freshB (g := gb384) (o := .cells #[.string a1_0, .slice A1_1 l1_1.length c1_1, .slice A1_2 l1_2.length c1_2, .slice A1_3 l1_3.length c1_3, .slice A1_4 l1_4.length c1_4] 27 (0, 0)) (kB BK384.out) k_ hk_.2.1))) (below_size (bB1 HB.out GE384.out))); have n1_ := aM (kW BK384.out hb); have n2_ := aM (below_step (bB1 HB.out GE384.out) hb); clear BK384; clear HB; have HO391 := n0_; have BK384 := n1_; have HB := n2_; clear n0_ n1_ n2_
     (try clear hb)
     (try clear hb2)
     (try clear hk)
     (try clear hi)
     (try clear ho0)
     refine hK.out _ _ ⟨(blk_cell BK384.out 0).trans rfl, (blk_cell BK384.out 1).trans rfl, (blk_cell BK384.out 2).trans rfl, (blk_cell BK384.out 3).trans rfl, (blk_cell BK384.out 4).trans rfl⟩ (fun hHeld => ?_)
     clear hK K
     refine norm_ (a' := ?_) ?_ ?_
     rotate_left
     ·show Act.put _ (some 24) _ = _
      simp only [Act.put, List.setIfInBounds_toArray, List.set_cons_zero, List.set_cons_succ, i64_w, i32_w]
      rfl
     refine one_ (i := 5) (N := some 27) #[true, true, true, true, true, true, false, false, false, false, false] rfl rfl (one_of HT_.out (by kernel_rfl)) (by decide) (fun K hK => ?_)
     refine goes_ Try.func25 (by kernel_rfl) rfl #[.slice A0 l0.length c0, .agg #[.string a1_0, .slice A1_1 l1_1.length c1_1, .slice A1_2 l1_2.length c1_2, .slice A1_3 l1_3.length c1_3, .slice A1_4 l1_4.length c1_4]] (by rfl) rfl rfl mT ?_
     with_reducible refine (r40_All.calls kj2 _ _ l0 a1_0 _ _ l1_1 _ _ l1_2 _ _ l1_3 _ _ l1_4 t392 _ ?side1 ?side2 ?side3 ?side4 ?side5 ?side6 ?side7 ?side8 ?side9 ?side10 A26.out).mono ?_
     (case side1 => exact cB HR0.out HB.out)
     (case side2 => exact HC0.out)
     (case side3 => exact cB HR1_1.out HB.out)
     (case side4 => exact HC1_1.out)
     (case side5 => exact cB HR1_2.out HB.out)
     (case side6 => exact HC1_2.out)
     (case side7 => exact cB HR1_3.out HB.out)
     (case side8 => exact HC1_3.out)
     (case side9 => exact cB HR1_4.out HB.out)
     (case side10 => exact HC1_4.out)
     rintro e w32 ⟨v393, rfl, ho0, hb⟩
     refine ⟨_, rfl, ?_⟩
     have n0_ := aM (Kd.N_elder' (by (with_reducible repeat (first | apply Kd.N_alloc | apply Kd.N_drewN | apply Kd.N_drew)); exact HO391.out) (by first | exact Kd.N_base ho0 | exact Kd.S_base ho0) hb)
     have n1_ := aM (Kd.N_lower (Kd.N_mono (ok' := fun k_ => some k_ ≠ (v390 : Value).ownBlock ∧ k_ ≠ gb384) ho0 (fun k_ hk_ => ⟨(Kd.fresh' (Kd.N_lt (by (with_reducible repeat (first | apply Kd.N_alloc | apply Kd.N_drewN | apply Kd.N_drew)); exact HO391.out)) k_ hk_), (Kd.freshB (g := gb384) (o := .cells #[.string a1_0, .slice A1_1 l1_1.length c1_1, .slice A1_2 l1_2.length c1_2, .slice A1_3 l1_3.length c1_3, .slice A1_4 l1_4.length c1_4] 27 (0, 0)) (kB BK384.out) k_ hk_)⟩)) (below_size (bB1 HB.out GE384.out)))
     have n2_ := aM (kW BK384.out hb); have n3_ := aM (below_step (bB1 HB.out GE384.out) hb); clear HO391; clear BK384; clear HB; have HO391 := n0_; have HO394 := n1_; have BK384 := n2_; have HB := n3_; clear n0_ n1_ n2_ n3_
     (try clear hb)
     (try clear hb2)
     (try clear hk)
     (try clear hi)
     (try clear ho0)
     obtain ⟨Ao33, co33, eo33⟩ := Kd.N_slice HO391.out
     (first | subst eo33 | (injection eo33 with f1_ f2_ f3_; have f4_ := f1_.symm; have f5_ := f3_.symm; clear f1_ f2_ f3_; subst f4_; subst f5_))
     obtain ⟨Ao34, co34, eo34⟩ := Kd.N_slice HO394.out
     (first | subst eo34 | (injection eo34 with f1_ f2_ f3_; have f4_ := f1_.symm; have f5_ := f3_.symm; clear f1_ f2_ f3_; subst f4_; subst f5_))
     refine hK.out _ _ ⟨(blk_cell BK384.out 0).trans rfl, (blk_cell BK384.out 1).trans rfl, (blk_cell BK384.out 2).trans rfl, (blk_cell BK384.out 3).trans rfl, (blk_cell BK384.out 4).trans rfl⟩ (fun hHeld => ?_)
     clear hK K
     refine norm_ (a' := ?_) ?_ ?_
     rotate_left
     ·show Act.put _ (some 27) _ = _
      simp only [Act.put, List.setIfInBounds_toArray, List.set_cons_zero, List.set_cons_succ, i64_w, i32_w]
      rfl
     refine one_ (i := 6) (N := some 28) #[true, true, true, true, true, true, true, false, false, false, false] rfl rfl (one_of HT_.out (by kernel_rfl)) (by decide) (fun K hK => ?_)
     refine goes_ Try.func23 (by kernel_rfl) rfl #[.slice Ao33 t389.length co33, .slice Ao34 t392.length co34] (by rfl) rfl rfl mT ?_
     with_reducible refine (r04_Lists.calls kj2 _ _ t389 _ _ t392 true _ ?side1 ?side2 ?side3 ?side4 A27.out).mono ?_
     (case side1 => repeat (first | exact (Kd.N_reads' HO391.out).2.2 | (with_reducible refine Kd.C_alloc ?_ _) | (with_reducible refine Kd.C_drewN ?_ _) | (with_reducible refine Kd.C_drew ?_)))
     (case side2 => exact (Kd.N_reads' HO391.out).2.1)
     (case side3 => repeat (first | exact (Kd.N_reads' HO394.out).2.2 | (with_reducible refine Kd.C_alloc ?_ _) | (with_reducible refine Kd.C_drewN ?_ _) | (with_reducible refine Kd.C_drew ?_)))
     (case side4 => exact (Kd.N_reads' HO394.out).2.1)
     rintro e w' ⟨rfl, ⟨nd, rfl⟩⟩
     refine ⟨_, rfl, ?_⟩
     refine hK.out _ _ ⟨(blk_cell BK384.out 0).trans rfl, (blk_cell BK384.out 1).trans rfl, (blk_cell BK384.out 2).trans rfl, (blk_cell BK384.out 3).trans rfl, (blk_cell BK384.out 4).trans rfl⟩ (fun hHeld => ?_)
     clear hK K
     refine norm_ (a' := ?_) ?_ ?_
     rotate_left
     ·show Act.put _ (some 28) _ = _
      simp only [Act.put, List.setIfInBounds_toArray, List.set_cons_zero, List.set_cons_succ, i64_w, i32_w]
      rfl
     refine pure_ (i := 7) (N := some 29) (v := ?_) (a' := ?_) #[true, true, true, true, true, true, true, true, false, false, false] rfl rfl (any_of HT_.out (by kernel_rfl)) (fun _ _ _ h => h) (Or.inl ⟨by rfl, ?_⟩) ?_ ?_; rotate_left; exact qT; rotate_left; exact pT
     refine one_ (i := 8) (N := some 30) #[true, true, true, true, true, true, true, true, true, false, false] rfl rfl (one_of HT_.out (by kernel_rfl)) (by decide) (fun K hK => ?_)
     refine goes_ Try.func10 (by kernel_rfl) rfl #[] (by rfl) rfl rfl mT ?_
     with_reducible refine (l40_lives.calls kj2  t396 _ A29.out (by first | exact hrT_ | exact ⟨rfl⟩)).mono ?_
     rintro e w35 ⟨rfl, hb⟩
     refine ⟨_, rfl, ?_⟩
     have n0_ := aM (Kd.N_below (by (with_reducible repeat (first | apply Kd.N_alloc | apply Kd.N_drewN | apply Kd.N_drew)); exact HO391.out) hb); have n1_ := aM (Kd.N_below (by (with_reducible repeat (first | apply Kd.N_alloc | apply Kd.N_drewN | apply Kd.N_drew)); exact HO394.out) hb); have n2_ := aM (kW BK384.out hb); have n3_ := aM (below_step (bB1 HB.out GE384.out) hb); clear HO391; clear HO394; clear BK384; clear HB; have HO391 := n0_; have HO394 := n1_; have BK384 := n2_; have HB := n3_; clear n0_ n1_ n2_ n3_
     (try clear hb)
     (try clear hb2)
     (try clear hk)
     (try clear hi)
     refine hK.out _ _ ⟨(blk_cell BK384.out 0).trans rfl, (blk_cell BK384.out 1).trans rfl, (blk_cell BK384.out 2).trans rfl, (blk_cell BK384.out 3).trans rfl, (blk_cell BK384.out 4).trans rfl⟩ (fun hHeld => ?_)
     clear hK K
     refine norm_ (a' := ?_) ?_ ?_
     rotate_left
     ·show Act.put _ (some 30) _ = _
      simp only [Act.put, List.setIfInBounds_toArray, List.set_cons_zero, List.set_cons_succ, i64_w, i32_w]
      rfl
     refine pure_ (i := 9) (N := some 31) (v := ?_) (a' := ?_) #[true, true, true, true, true, true, true, true, true, true, false] rfl rfl (any_of HT_.out (by kernel_rfl)) (fun _ _ _ h => h) (Or.inl ⟨by rfl, ?_⟩) ?_ ?_; rotate_left; exact qT; rotate_left; exact pT
     refine pure_ (i := 10) (N := some 4) (v := ?_) (a' := ?_) #[true, true, true, true, true, true, true, true, true, true, true] rfl rfl (any_of HT_.out (by kernel_rfl)) (fun _ _ _ h => h) (Or.inl ⟨by rfl, ?_⟩) ?_ ?_; rotate_left; exact qT; rotate_left; exact pT
     refine done_ (done_of HT_.out (by kernel_rfl)) ?_
     try go_wp2
     go_ret
     exact ⟨rT, bB1 HB.out GE384.out⟩
    ·replace c28 := Bool.eq_false_iff.mpr c28
     subst c28
     have H1 : (some false) = some r := by rw [if_neg (show ¬ (false = true) by decide)] at H; exact H
     clear H; have H := H1; clear H1
     exact absurd ((Option.some.inj H).trans hrT_.out) Bool.false_ne_true


/-! ### r04_Compare: function 26 -/
mutual
def r04_Compare.l0 : Nat → List Int → List Int → Int → Option (Int)
 | 0, _, _, _ => none
 | k + 1, x0, x1, x5 => if x5 < (x0.length : Int) then (r04_Compare.j1 k x0 x1 x5 (decide (x5 < (x1.length : Int)))) else (r04_Compare.j1 k x0 x1 x5 false)
def r04_Compare.j1 : Nat → List Int → List Int → Int → Bool → Option (Int)
 | 0, _, _, _, _ => none
 | k + 1, x0, x1, x5, x15 => if x15 = true then (if 0 ≤ x5 then (if x5 < (x0.length : Int) then (if x5 < (x1.length : Int) then (if (rd x0 x5) < (rd x1 x5) then (some (-1)) else (if (rd x0 x5) > (rd x1 x5) then (some 1) else (r04_Compare.l0 k x0 x1 (wrap64 (x5 + 1))))) else (none)) else (none)) else (none)) else (if (x0.length : Int) < (x1.length : Int) then (some (-1)) else (if (x0.length : Int) > (x1.length : Int) then (some 1) else (some 0)))
end
def r04_Compare.f (k : Nat) (l0 : List Int) (l1 : List Int) : Option (Int) := r04_Compare.l0 k l0 l1 0
theorem r04_Compare.mono_l : ∀ k, (∀ y0 y1 y2, LeO (r04_Compare.l0 k y0 y1 y2) (r04_Compare.l0 (k + 1) y0 y1 y2)) ∧ (∀ y0 y1 y2 y3, LeO (r04_Compare.j1 k y0 y1 y2 y3) (r04_Compare.j1 (k + 1) y0 y1 y2 y3))
 | 0 => ⟨fun _ _ _ r h => by simp [r04_Compare.l0] at h, fun _ _ _ _ r h => by simp [r04_Compare.j1] at h⟩
 | k + 1 => by
  obtain ⟨ih0, ih1⟩ := r04_Compare.mono_l k
  refine ⟨?_, ?_⟩
  ·intro y0 y1 y2
   unfold r04_Compare.l0
   repeat' first
   | (with_reducible first | exact ih0 _ _ _ | exact ih1 _ _ _ _ | exact LeO.refl _ | exact LeO.none _ | refine LeO.ite ?_ ?_ | refine LeO.bind ?_ (fun _ => ?_))
   | exact LeO.none _
   | refine LeO.ite ?_ ?_
   | refine LeO.bind ?_ (fun _ => ?_)
  ·intro y0 y1 y2 y3
   unfold r04_Compare.j1
   repeat' first
   | (with_reducible first | exact ih0 _ _ _ | exact ih1 _ _ _ _ | exact LeO.refl _ | exact LeO.none _ | refine LeO.ite ?_ ?_ | refine LeO.bind ?_ (fun _ => ?_))
   | exact LeO.none _
   | refine LeO.ite ?_ ?_
   | refine LeO.bind ?_ (fun _ => ?_)
theorem r04_Compare.mono : ∀ a0 a1 k, LeO (r04_Compare.f k a0 a1) (r04_Compare.f (k + 1) a0 a1) := by
 intro a0 a1 k
 obtain ⟨ih0, ih1⟩ := r04_Compare.mono_l k
 unfold r04_Compare.f
 repeat' first
   | (with_reducible first | exact ih0 _ _ _ | exact ih1 _ _ _ _ | exact LeO.refl _ | exact LeO.none _ | refine LeO.ite ?_ ?_ | refine LeO.bind ?_ (fun _ => ?_))
   | exact LeO.none _
   | refine LeO.ite ?_ ?_
   | refine LeO.bind ?_ (fun _ => ?_)







end Go.Proofs.Ytapkjfnfkalibaa.Pr
