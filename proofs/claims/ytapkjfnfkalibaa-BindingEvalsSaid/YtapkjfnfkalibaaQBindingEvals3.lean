/- Functions that the statement reaches: what each answers, and that the program answers it (written by a program of this work). -/
import Derived.Test.YtapkjfnfkalibaaProg
import Derived.Below
import Derived.Deep.Draws
import Derived.Deep.AppendLies
import Derived.Maps.AppendAt
import Derived.OwnWalk
import Derived.Laws.BytesArg
import Derived.Laws.MakeOwn
import Derived.Laws.OwnMore
import Derived.Deep.OwnRows
import Derived.Tactics
import Derived.Lib.ConvBytes
import Derived.Laws.Slices
import Derived.WalkKit
import Derived.KernelRfl
import Derived.RowKit3
import Derived.Deep.LoopGhost
import Derived.Deep.QuietTactic
import Derived.BigQuiet
import Derived.WideLaws
import Derived.Deep.DeepCutAuto
import Derived.Deep.CutBlock
import Derived.Deep.RegionHeld3
import Derived.Laws.Rows
import Derived.Lib.AppendStr
import Derived.ArgAppend
import Derived.Laws.IdiomCopy
import Derived.OrdersHeld
import Derived.Laws.BitsLemmas
import Derived.RowKit
import Derived.WalkMore
import Derived.Test.YtapkjfnfkalibaaVBindingEvals
import Derived.Test.YtapkjfnfkalibaaQBindingEvals0
namespace Go.Proofs.Ytapkjfnfkalibaa.Pr
open Go.RowKit Go.Proofs.YtapkjfnfkalibaaW.PrintWords Go.Proofs.YtapkjfnfkalibaaW.PrintLast Go.Proofs.YtapkjfnfkalibaaW.PrintMore
attribute [local go_sem] Instr.field asAgg
attribute [local go_sem] max2_int min2_int max_two min_two max_three min_three max_four min_four   -- for this text's walks alone
set_option linter.unusedVariables false
set_option linter.unusedSimpArgs false
/-! ### r39_Name: function 49 -/
mutual
def r39_Name.j0 : Nat → ByteArray → Bool → Option (Bool)
 | 0, _, _ => none
 | k + 1, x0, x13 => if x13 = true then (some false) else (r39_Name.l0 k x0 0)
def r39_Name.l0 : Nat → ByteArray → Int → Option (Bool)
 | 0, _, _ => none
 | k + 1, x0, x3 => if x3 < (x0.size : Int) then (if 0 ≤ x3 then (if (bt x0 x3) ≥ 97 then (if (bt x0 x3) ≤ 122 then (if (bt x0 x3) ≥ 48 then (if (bt x0 x3) ≤ 57 then (r39_Name.l0 k x0 (wrap64 (x3 + 1))) else (r39_Name.l0 k x0 (wrap64 (x3 + 1)))) else (r39_Name.l0 k x0 (wrap64 (x3 + 1)))) else (if (bt x0 x3) ≥ 48 then (if (bt x0 x3) ≤ 57 then (if ((bt x0 x3) = 95) then (r39_Name.l0 k x0 (wrap64 (x3 + 1))) else (if x3 = 0 then (some false) else (r39_Name.l0 k x0 (wrap64 (x3 + 1))))) else (if ((bt x0 x3) = 95) then (r39_Name.l0 k x0 (wrap64 (x3 + 1))) else (if x3 = 0 then (some false) else (if ((bt x0 x3) = 46) then (r39_Name.l0 k x0 (wrap64 (x3 + 1))) else (some false))))) else (if ((bt x0 x3) = 95) then (r39_Name.l0 k x0 (wrap64 (x3 + 1))) else (if x3 = 0 then (some false) else (if ((bt x0 x3) = 46) then (r39_Name.l0 k x0 (wrap64 (x3 + 1))) else (some false)))))) else (if (bt x0 x3) ≥ 48 then (if (bt x0 x3) ≤ 57 then (if ((bt x0 x3) = 95) then (r39_Name.l0 k x0 (wrap64 (x3 + 1))) else (if x3 = 0 then (some false) else (r39_Name.l0 k x0 (wrap64 (x3 + 1))))) else (if ((bt x0 x3) = 95) then (r39_Name.l0 k x0 (wrap64 (x3 + 1))) else (if x3 = 0 then (some false) else (if ((bt x0 x3) = 46) then (r39_Name.l0 k x0 (wrap64 (x3 + 1))) else (some false))))) else (if ((bt x0 x3) = 95) then (r39_Name.l0 k x0 (wrap64 (x3 + 1))) else (if x3 = 0 then (some false) else (if ((bt x0 x3) = 46) then (r39_Name.l0 k x0 (wrap64 (x3 + 1))) else (some false)))))) else (none)) else (some true)
end
def r39_Name.f (k : Nat) (a0 : ByteArray) : Option (Bool) := if (a0.size : Int) < 1 then (r39_Name.j0 k a0 true) else (r39_Name.j0 k a0 (decide ((a0.size : Int) > 16)))
theorem r39_Name.mono_l : ∀ k, (∀ y0 y1, LeO (r39_Name.j0 k y0 y1) (r39_Name.j0 (k + 1) y0 y1)) ∧ (∀ y0 y1, LeO (r39_Name.l0 k y0 y1) (r39_Name.l0 (k + 1) y0 y1))
 | 0 => ⟨fun _ _ r h => by simp [r39_Name.j0] at h, fun _ _ r h => by simp [r39_Name.l0] at h⟩
 | k + 1 => by
  obtain ⟨ih0, ih1⟩ := r39_Name.mono_l k
  refine ⟨?_, ?_⟩
  ·intro y0 y1
   unfold r39_Name.j0
   repeat' first
   | (with_reducible first | exact ih0 _ _ | exact ih1 _ _ | exact LeO.refl _ | exact LeO.none _ | refine LeO.ite ?_ ?_ | refine LeO.bind ?_ (fun _ => ?_))
   | exact LeO.none _
   | refine LeO.ite ?_ ?_
   | refine LeO.bind ?_ (fun _ => ?_)
  ·intro y0 y1
   unfold r39_Name.l0
   repeat' first
   | (with_reducible first | exact ih0 _ _ | exact ih1 _ _ | exact LeO.refl _ | exact LeO.none _ | refine LeO.ite ?_ ?_ | refine LeO.bind ?_ (fun _ => ?_))
   | exact LeO.none _
   | refine LeO.ite ?_ ?_
   | refine LeO.bind ?_ (fun _ => ?_)
theorem r39_Name.mono : ∀ a0 k, LeO (r39_Name.f k a0) (r39_Name.f (k + 1) a0) := by
 intro a0 k
 obtain ⟨ih0, ih1⟩ := r39_Name.mono_l k
 unfold r39_Name.f
 repeat' first
   | (with_reducible first | exact ih0 _ _ | exact ih1 _ _ | exact LeO.refl _ | exact LeO.none _ | refine LeO.ite ?_ ?_ | refine LeO.bind ?_ (fun _ => ?_))
   | exact LeO.none _
   | refine LeO.ite ?_ ?_
   | refine LeO.bind ?_ (fun _ => ?_)
set_option maxHeartbeats 8000000 in
set_option maxRecDepth 100000 in
theorem r39_Name.calls (k : Nat) (a0 : ByteArray) (r : Bool) (w : World) (h : r39_Name.f k a0 = some r) :
  Calls Try.prog 49 #[.string a0] w fun e w' => e = .returned (.bool r) ∧ Drawn0 w w' := by
 have H : (if (a0.size : Int) < 1 then (r39_Name.j0 k a0 true) else (r39_Name.j0 k a0 (decide ((a0.size : Int) > 16)))) = some r := h; clear h; have HC2 := aM H; clear H
 go_enter Try.func49, Try.ntmps49
 go_upto_region 1 with (fail)
 go_cut [13] (fun v13 wc => ∃ (kq : Nat) (x13_1 : Bool), v13 = .bool x13_1 ∧ Aside0 (r39_Name.j0 kq a0 x13_1 = some r) ∧ Aside0 (kq ≤ k) ∧ Drawn0 w wc)
 case first =>
  have H := HC2.out; clear HC2
  by_cases c3 : (a0.size : Int) < 1
  ·rw [if_pos c3] at H
   have c3b0 : decide ((a0.size : Int) < 1) = true := decide_eq_true c3; have c3b1 : decide (a0.size < 1) = true := decide_eq_true (by omega); clear c3
   (first | rw [c3b0] | (simp only [i64_w, i32_w]; rw [c3b0]) | skip)
   have H' := aM H
   clear H
   go_wp2
   go_meet
   case rel => exact ⟨_, (true), eT, H', ⟨by first | omega | exact Nat.le_refl _⟩, by repeat (first | exact Drawn0.refl _ | apply Drawn0.step)⟩
  ·rw [if_neg c3] at H
   have c3b0 : decide ((a0.size : Int) < 1) = false := decide_eq_false c3; have c3b1 : decide (a0.size < 1) = false := decide_eq_false (by omega); clear c3
   (first | rw [c3b0] | (simp only [i64_w, i32_w]; rw [c3b0]) | skip)
   have H' := aM H
   clear H
   go_wp2
   go_meet
   case rel => exact ⟨_, (decide ((a0.size : Int) > 16)), eT, H', ⟨by first | omega | exact Nat.le_refl _⟩, by repeat (first | exact Drawn0.refl _ | apply Drawn0.step)⟩
 case rest =>
  clear HC2
  obtain ⟨kq, x13_1, rfl, HA, HJ1, ⟨mc1, rfl⟩⟩ := hcut
  cases kq with
  | zero => exact absurd HA.out (by simp [r39_Name.j0])
  | succ kj1 =>
   have H := HA.out; clear HA
   simp only [r39_Name.j0] at H
   by_cases c4 : x13_1 = true
   ·subst c4
    have H1 : (some false) = some r := by rw [if_pos rfl] at H; exact H
    clear H; have H := H1; clear H1
    obtain rfl := Option.some.inj H
    go_wp2
    go_ret
    exact ⟨by first | rfl | (simp; done) | (simp [*]; done), by repeat (first | exact Drawn0.refl _ | apply Drawn0.step)⟩
   ·replace c4 := Bool.eq_false_iff.mpr c4
    subst c4
    have H1 : (r39_Name.l0 kj1 a0 0) = some r := by rw [if_neg (show ¬ (false = true) by decide)] at H; exact H
    clear H; have H := H1; clear H1
    have H' := aM H
    clear H
    go_wp2
    go_loopg [3] kj1 (fun kq v3 w' => ∃ (x3_2 : Int), v3 = .int .i64 x3_2 ∧ Aside0 (r39_Name.l0 kq a0 x3_2 = some r) ∧ Aside0 (kq ≤ kj1) ∧ Drawn0 w w')
    case atStart => exact ⟨(0), eT, H', ⟨Nat.le_refl _⟩, by repeat (first | exact Drawn0.refl _ | apply Drawn0.step)⟩
    case round =>
     clear H'
     obtain ⟨x3_2, rfl, HA, HK2, ⟨m2, rfl⟩⟩ := hrel
     cases gk with
     | zero => exact absurd HA.out (by simp [r39_Name.l0])
     | succ k2 =>
      have H := HA.out; clear HA
      simp only [r39_Name.l0] at H
      by_cases c5 : x3_2 < (a0.size : Int)
      ·rw [if_pos c5] at H
       have c5b0 : decide (x3_2 < (a0.size : Int)) = true := decide_eq_true c5; clear c5
       by_cases c6 : 0 ≤ x3_2
       ·rw [if_pos c6] at H
        have c6b0 : decide (0 ≤ x3_2) = true := decide_eq_true c6; clear c6
        by_cases c8 : (bt a0 x3_2) ≥ 97
        ·rw [if_pos c8] at H
         have c8b0 : decide (97 ≤ (bt a0 x3_2)) = true := decide_eq_true c8; clear c8
         by_cases c10 : (bt a0 x3_2) ≤ 122
         ·rw [if_pos c10] at H
          have c10b0 : decide ((bt a0 x3_2) ≤ 122) = true := decide_eq_true c10; clear c10
          by_cases c12 : (bt a0 x3_2) ≥ 48
          ·rw [if_pos c12] at H
           have c12b0 : decide (48 ≤ (bt a0 x3_2)) = true := decide_eq_true c12; clear c12
           by_cases c14 : (bt a0 x3_2) ≤ 57
           ·rw [if_pos c14] at H
            have c14b0 : decide ((bt a0 x3_2) ≤ 57) = true := decide_eq_true c14; clear c14
            have H' := aM H
            clear H; have p7 : 0 ≤ (x3_2 : Int) := dT; have q7 : x3_2 < (a0.size : Int) := dT; have hx7 := bt_at a0 x3_2; replace p7 := eq_true p7; replace q7 := eq_true q7; have p9 : 0 ≤ (x3_2 : Int) := dT; have q9 : x3_2 < (a0.size : Int) := dT; have hx9 := bt_at a0 x3_2; replace p9 := eq_true p9; replace q9 := eq_true q9; have p11 : 0 ≤ (x3_2 : Int) := dT; have q11 : x3_2 < (a0.size : Int) := dT; have hx11 := bt_at a0 x3_2; replace p11 := eq_true p11; replace q11 := eq_true q11; have p13 : 0 ≤ (x3_2 : Int) := dT; have q13 : x3_2 < (a0.size : Int) := dT; have hx13 := bt_at a0 x3_2; replace p13 := eq_true p13; replace q13 := eq_true q13
            go_wp2
            go_roundg k2
            case measure => have := HJ1.out; have := HK2.out; omega
            case rel => exact ⟨(wrap64 (x3_2 + 1)), eT, H', ⟨by have := HJ1.out; have := HK2.out; omega⟩, by repeat (first | exact Drawn0.refl _ | apply Drawn0.step)⟩
           ·rw [if_neg c14] at H
            have c14b0 : decide ((bt a0 x3_2) ≤ 57) = false := decide_eq_false c14; clear c14
            have H' := aM H
            clear H; have p7 : 0 ≤ (x3_2 : Int) := dT; have q7 : x3_2 < (a0.size : Int) := dT; have hx7 := bt_at a0 x3_2; replace p7 := eq_true p7; replace q7 := eq_true q7; have p9 : 0 ≤ (x3_2 : Int) := dT; have q9 : x3_2 < (a0.size : Int) := dT; have hx9 := bt_at a0 x3_2; replace p9 := eq_true p9; replace q9 := eq_true q9; have p11 : 0 ≤ (x3_2 : Int) := dT; have q11 : x3_2 < (a0.size : Int) := dT; have hx11 := bt_at a0 x3_2; replace p11 := eq_true p11; replace q11 := eq_true q11; have p13 : 0 ≤ (x3_2 : Int) := dT; have q13 : x3_2 < (a0.size : Int) := dT; have hx13 := bt_at a0 x3_2; replace p13 := eq_true p13; replace q13 := eq_true q13; have p15 : 0 ≤ (x3_2 : Int) := dT; have q15 : x3_2 < (a0.size : Int) := dT; have hx15 := bt_at a0 x3_2; replace p15 := eq_true p15; replace q15 := eq_true q15
            go_wp2
            go_roundg k2
            case measure => have := HJ1.out; have := HK2.out; omega
            case rel => exact ⟨(wrap64 (x3_2 + 1)), eT, H', ⟨by have := HJ1.out; have := HK2.out; omega⟩, by repeat (first | exact Drawn0.refl _ | apply Drawn0.step)⟩
          ·rw [if_neg c12] at H
           have c12b0 : decide (48 ≤ (bt a0 x3_2)) = false := decide_eq_false c12; clear c12
           have H' := aM H
           clear H; have p7 : 0 ≤ (x3_2 : Int) := dT; have q7 : x3_2 < (a0.size : Int) := dT; have hx7 := bt_at a0 x3_2; replace p7 := eq_true p7; replace q7 := eq_true q7; have p9 : 0 ≤ (x3_2 : Int) := dT; have q9 : x3_2 < (a0.size : Int) := dT; have hx9 := bt_at a0 x3_2; replace p9 := eq_true p9; replace q9 := eq_true q9; have p11 : 0 ≤ (x3_2 : Int) := dT; have q11 : x3_2 < (a0.size : Int) := dT; have hx11 := bt_at a0 x3_2; replace p11 := eq_true p11; replace q11 := eq_true q11; have p16 : 0 ≤ (x3_2 : Int) := dT; have q16 : x3_2 < (a0.size : Int) := dT; have hx16 := bt_at a0 x3_2; replace p16 := eq_true p16; replace q16 := eq_true q16
           go_wp2
           go_roundg k2
           case measure => have := HJ1.out; have := HK2.out; omega
           case rel => exact ⟨(wrap64 (x3_2 + 1)), eT, H', ⟨by have := HJ1.out; have := HK2.out; omega⟩, by repeat (first | exact Drawn0.refl _ | apply Drawn0.step)⟩
         ·rw [if_neg c10] at H
          have c10b0 : decide ((bt a0 x3_2) ≤ 122) = false := decide_eq_false c10; clear c10
          by_cases c19 : (bt a0 x3_2) ≥ 48
          ·rw [if_pos c19] at H
           have c19b0 : decide (48 ≤ (bt a0 x3_2)) = true := decide_eq_true c19; clear c19
           by_cases c21 : (bt a0 x3_2) ≤ 57
           ·rw [if_pos c21] at H
            have c21b0 : decide ((bt a0 x3_2) ≤ 57) = true := decide_eq_true c21; clear c21
            by_cases c22 : ((bt a0 x3_2) = 95)
            ·rw [if_pos c22] at H
             have c22b0 : ((bt a0 x3_2) == 95) = true := beq_iff_eq.mpr c22; have c22b1 : ((bt a0 x3_2) != 95) = false := bne_eq_false_iff_eq.mpr c22; clear c22
             have H' := aM H
             clear H; have p7 : 0 ≤ (x3_2 : Int) := dT; have q7 : x3_2 < (a0.size : Int) := dT; have hx7 := bt_at a0 x3_2; replace p7 := eq_true p7; replace q7 := eq_true q7; have p9 : 0 ≤ (x3_2 : Int) := dT; have q9 : x3_2 < (a0.size : Int) := dT; have hx9 := bt_at a0 x3_2; replace p9 := eq_true p9; replace q9 := eq_true q9; have p17 : 0 ≤ (x3_2 : Int) := dT; have q17 : x3_2 < (a0.size : Int) := dT; have hx17 := bt_at a0 x3_2; replace p17 := eq_true p17; replace q17 := eq_true q17; have p18 : 0 ≤ (x3_2 : Int) := dT; have q18 : x3_2 < (a0.size : Int) := dT; have hx18 := bt_at a0 x3_2; replace p18 := eq_true p18; replace q18 := eq_true q18; have p20 : 0 ≤ (x3_2 : Int) := dT; have q20 : x3_2 < (a0.size : Int) := dT; have hx20 := bt_at a0 x3_2; replace p20 := eq_true p20; replace q20 := eq_true q20
             go_wp2
             go_roundg k2
             case measure => have := HJ1.out; have := HK2.out; omega
             case rel => exact ⟨(wrap64 (x3_2 + 1)), eT, H', ⟨by have := HJ1.out; have := HK2.out; omega⟩, by repeat (first | exact Drawn0.refl _ | apply Drawn0.step)⟩
            ·rw [if_neg c22] at H
             have c22b0 : ((bt a0 x3_2) == 95) = false := beq_eq_false_iff_ne.mpr c22; have c22b1 : ((bt a0 x3_2) != 95) = true := bne_iff_ne.mpr c22
             by_cases c23 : x3_2 = 0
             ·rw [if_pos c23] at H
              have c23b0 : (x3_2 == 0) = true := beq_iff_eq.mpr c23; have c23b1 : (x3_2 != 0) = false := bne_eq_false_iff_eq.mpr c23; clear c23
              obtain rfl := Option.some.inj H
              have p7 : 0 ≤ (x3_2 : Int) := dT; have q7 : x3_2 < (a0.size : Int) := dT; have hx7 := bt_at a0 x3_2; replace p7 := eq_true p7; replace q7 := eq_true q7; have p9 : 0 ≤ (x3_2 : Int) := dT; have q9 : x3_2 < (a0.size : Int) := dT; have hx9 := bt_at a0 x3_2; replace p9 := eq_true p9; replace q9 := eq_true q9; have p17 : 0 ≤ (x3_2 : Int) := dT; have q17 : x3_2 < (a0.size : Int) := dT; have hx17 := bt_at a0 x3_2; replace p17 := eq_true p17; replace q17 := eq_true q17; have p18 : 0 ≤ (x3_2 : Int) := dT; have q18 : x3_2 < (a0.size : Int) := dT; have hx18 := bt_at a0 x3_2; replace p18 := eq_true p18; replace q18 := eq_true q18; have p20 : 0 ≤ (x3_2 : Int) := dT; have q20 : x3_2 < (a0.size : Int) := dT; have hx20 := bt_at a0 x3_2; replace p20 := eq_true p20; replace q20 := eq_true q20
              go_wp2
              go_ret
              exact ⟨by first | rfl | (simp; done) | (simp [*]; done), by repeat (first | exact Drawn0.refl _ | apply Drawn0.step)⟩
             ·rw [if_neg c23] at H
              have c23b0 : (x3_2 == 0) = false := beq_eq_false_iff_ne.mpr c23; have c23b1 : (x3_2 != 0) = true := bne_iff_ne.mpr c23
              have H' := aM H
              clear H; have p7 : 0 ≤ (x3_2 : Int) := dT; have q7 : x3_2 < (a0.size : Int) := dT; have hx7 := bt_at a0 x3_2; replace p7 := eq_true p7; replace q7 := eq_true q7; have p9 : 0 ≤ (x3_2 : Int) := dT; have q9 : x3_2 < (a0.size : Int) := dT; have hx9 := bt_at a0 x3_2; replace p9 := eq_true p9; replace q9 := eq_true q9; have p17 : 0 ≤ (x3_2 : Int) := dT; have q17 : x3_2 < (a0.size : Int) := dT; have hx17 := bt_at a0 x3_2; replace p17 := eq_true p17; replace q17 := eq_true q17; have p18 : 0 ≤ (x3_2 : Int) := dT; have q18 : x3_2 < (a0.size : Int) := dT; have hx18 := bt_at a0 x3_2; replace p18 := eq_true p18; replace q18 := eq_true q18; have p20 : 0 ≤ (x3_2 : Int) := dT; have q20 : x3_2 < (a0.size : Int) := dT; have hx20 := bt_at a0 x3_2; replace p20 := eq_true p20; replace q20 := eq_true q20
              go_wp2
              go_roundg k2
              case measure => have := HJ1.out; have := HK2.out; omega
              case rel => exact ⟨(wrap64 (x3_2 + 1)), eT, H', ⟨by have := HJ1.out; have := HK2.out; omega⟩, by repeat (first | exact Drawn0.refl _ | apply Drawn0.step)⟩
           ·rw [if_neg c21] at H
            have c21b0 : decide ((bt a0 x3_2) ≤ 57) = false := decide_eq_false c21; clear c21
            by_cases c25 : ((bt a0 x3_2) = 95)
            ·rw [if_pos c25] at H
             have c25b0 : ((bt a0 x3_2) == 95) = true := beq_iff_eq.mpr c25; have c25b1 : ((bt a0 x3_2) != 95) = false := bne_eq_false_iff_eq.mpr c25; clear c25
             have H' := aM H
             clear H; have p7 : 0 ≤ (x3_2 : Int) := dT; have q7 : x3_2 < (a0.size : Int) := dT; have hx7 := bt_at a0 x3_2; replace p7 := eq_true p7; replace q7 := eq_true q7; have p9 : 0 ≤ (x3_2 : Int) := dT; have q9 : x3_2 < (a0.size : Int) := dT; have hx9 := bt_at a0 x3_2; replace p9 := eq_true p9; replace q9 := eq_true q9; have p17 : 0 ≤ (x3_2 : Int) := dT; have q17 : x3_2 < (a0.size : Int) := dT; have hx17 := bt_at a0 x3_2; replace p17 := eq_true p17; replace q17 := eq_true q17; have p18 : 0 ≤ (x3_2 : Int) := dT; have q18 : x3_2 < (a0.size : Int) := dT; have hx18 := bt_at a0 x3_2; replace p18 := eq_true p18; replace q18 := eq_true q18; have p20 : 0 ≤ (x3_2 : Int) := dT; have q20 : x3_2 < (a0.size : Int) := dT; have hx20 := bt_at a0 x3_2; replace p20 := eq_true p20; replace q20 := eq_true q20; have p24 : 0 ≤ (x3_2 : Int) := dT; have q24 : x3_2 < (a0.size : Int) := dT; have hx24 := bt_at a0 x3_2; replace p24 := eq_true p24; replace q24 := eq_true q24
             go_wp2
             go_roundg k2
             case measure => have := HJ1.out; have := HK2.out; omega
             case rel => exact ⟨(wrap64 (x3_2 + 1)), eT, H', ⟨by have := HJ1.out; have := HK2.out; omega⟩, by repeat (first | exact Drawn0.refl _ | apply Drawn0.step)⟩
            ·rw [if_neg c25] at H
             have c25b0 : ((bt a0 x3_2) == 95) = false := beq_eq_false_iff_ne.mpr c25; have c25b1 : ((bt a0 x3_2) != 95) = true := bne_iff_ne.mpr c25
             by_cases c26 : x3_2 = 0
             ·rw [if_pos c26] at H
              have c26b0 : (x3_2 == 0) = true := beq_iff_eq.mpr c26; have c26b1 : (x3_2 != 0) = false := bne_eq_false_iff_eq.mpr c26; clear c26
              obtain rfl := Option.some.inj H
              have p7 : 0 ≤ (x3_2 : Int) := dT; have q7 : x3_2 < (a0.size : Int) := dT; have hx7 := bt_at a0 x3_2; replace p7 := eq_true p7; replace q7 := eq_true q7; have p9 : 0 ≤ (x3_2 : Int) := dT; have q9 : x3_2 < (a0.size : Int) := dT; have hx9 := bt_at a0 x3_2; replace p9 := eq_true p9; replace q9 := eq_true q9; have p17 : 0 ≤ (x3_2 : Int) := dT; have q17 : x3_2 < (a0.size : Int) := dT; have hx17 := bt_at a0 x3_2; replace p17 := eq_true p17; replace q17 := eq_true q17; have p18 : 0 ≤ (x3_2 : Int) := dT; have q18 : x3_2 < (a0.size : Int) := dT; have hx18 := bt_at a0 x3_2; replace p18 := eq_true p18; replace q18 := eq_true q18; have p20 : 0 ≤ (x3_2 : Int) := dT; have q20 : x3_2 < (a0.size : Int) := dT; have hx20 := bt_at a0 x3_2; replace p20 := eq_true p20; replace q20 := eq_true q20; have p24 : 0 ≤ (x3_2 : Int) := dT; have q24 : x3_2 < (a0.size : Int) := dT; have hx24 := bt_at a0 x3_2; replace p24 := eq_true p24; replace q24 := eq_true q24
              go_wp2
              go_ret
              exact ⟨by first | rfl | (simp; done) | (simp [*]; done), by repeat (first | exact Drawn0.refl _ | apply Drawn0.step)⟩
             ·rw [if_neg c26] at H
              have c26b0 : (x3_2 == 0) = false := beq_eq_false_iff_ne.mpr c26; have c26b1 : (x3_2 != 0) = true := bne_iff_ne.mpr c26
              by_cases c27 : ((bt a0 x3_2) = 46)
              ·rw [if_pos c27] at H
               have c27b0 : ((bt a0 x3_2) == 46) = true := beq_iff_eq.mpr c27; have c27b1 : ((bt a0 x3_2) != 46) = false := bne_eq_false_iff_eq.mpr c27; clear c27
               have H' := aM H
               clear H; have p7 : 0 ≤ (x3_2 : Int) := dT; have q7 : x3_2 < (a0.size : Int) := dT; have hx7 := bt_at a0 x3_2; replace p7 := eq_true p7; replace q7 := eq_true q7; have p9 : 0 ≤ (x3_2 : Int) := dT; have q9 : x3_2 < (a0.size : Int) := dT; have hx9 := bt_at a0 x3_2; replace p9 := eq_true p9; replace q9 := eq_true q9; have p17 : 0 ≤ (x3_2 : Int) := dT; have q17 : x3_2 < (a0.size : Int) := dT; have hx17 := bt_at a0 x3_2; replace p17 := eq_true p17; replace q17 := eq_true q17; have p18 : 0 ≤ (x3_2 : Int) := dT; have q18 : x3_2 < (a0.size : Int) := dT; have hx18 := bt_at a0 x3_2; replace p18 := eq_true p18; replace q18 := eq_true q18; have p20 : 0 ≤ (x3_2 : Int) := dT; have q20 : x3_2 < (a0.size : Int) := dT; have hx20 := bt_at a0 x3_2; replace p20 := eq_true p20; replace q20 := eq_true q20; have p24 : 0 ≤ (x3_2 : Int) := dT; have q24 : x3_2 < (a0.size : Int) := dT; have hx24 := bt_at a0 x3_2; replace p24 := eq_true p24; replace q24 := eq_true q24
               go_wp2
               go_roundg k2
               case measure => have := HJ1.out; have := HK2.out; omega
               case rel => exact ⟨(wrap64 (x3_2 + 1)), eT, H', ⟨by have := HJ1.out; have := HK2.out; omega⟩, by repeat (first | exact Drawn0.refl _ | apply Drawn0.step)⟩
              ·rw [if_neg c27] at H
               have c27b0 : ((bt a0 x3_2) == 46) = false := beq_eq_false_iff_ne.mpr c27; have c27b1 : ((bt a0 x3_2) != 46) = true := bne_iff_ne.mpr c27
               obtain rfl := Option.some.inj H
               have p7 : 0 ≤ (x3_2 : Int) := dT; have q7 : x3_2 < (a0.size : Int) := dT; have hx7 := bt_at a0 x3_2; replace p7 := eq_true p7; replace q7 := eq_true q7; have p9 : 0 ≤ (x3_2 : Int) := dT; have q9 : x3_2 < (a0.size : Int) := dT; have hx9 := bt_at a0 x3_2; replace p9 := eq_true p9; replace q9 := eq_true q9; have p17 : 0 ≤ (x3_2 : Int) := dT; have q17 : x3_2 < (a0.size : Int) := dT; have hx17 := bt_at a0 x3_2; replace p17 := eq_true p17; replace q17 := eq_true q17; have p18 : 0 ≤ (x3_2 : Int) := dT; have q18 : x3_2 < (a0.size : Int) := dT; have hx18 := bt_at a0 x3_2; replace p18 := eq_true p18; replace q18 := eq_true q18; have p20 : 0 ≤ (x3_2 : Int) := dT; have q20 : x3_2 < (a0.size : Int) := dT; have hx20 := bt_at a0 x3_2; replace p20 := eq_true p20; replace q20 := eq_true q20; have p24 : 0 ≤ (x3_2 : Int) := dT; have q24 : x3_2 < (a0.size : Int) := dT; have hx24 := bt_at a0 x3_2; replace p24 := eq_true p24; replace q24 := eq_true q24
               go_wp2
               go_ret
               exact ⟨by first | rfl | (simp; done) | (simp [*]; done), by repeat (first | exact Drawn0.refl _ | apply Drawn0.step)⟩
          ·rw [if_neg c19] at H
           have c19b0 : decide (48 ≤ (bt a0 x3_2)) = false := decide_eq_false c19; clear c19
           by_cases c29 : ((bt a0 x3_2) = 95)
           ·rw [if_pos c29] at H
            have c29b0 : ((bt a0 x3_2) == 95) = true := beq_iff_eq.mpr c29; have c29b1 : ((bt a0 x3_2) != 95) = false := bne_eq_false_iff_eq.mpr c29; clear c29
            have H' := aM H
            clear H; have p7 : 0 ≤ (x3_2 : Int) := dT; have q7 : x3_2 < (a0.size : Int) := dT; have hx7 := bt_at a0 x3_2; replace p7 := eq_true p7; replace q7 := eq_true q7; have p9 : 0 ≤ (x3_2 : Int) := dT; have q9 : x3_2 < (a0.size : Int) := dT; have hx9 := bt_at a0 x3_2; replace p9 := eq_true p9; replace q9 := eq_true q9; have p17 : 0 ≤ (x3_2 : Int) := dT; have q17 : x3_2 < (a0.size : Int) := dT; have hx17 := bt_at a0 x3_2; replace p17 := eq_true p17; replace q17 := eq_true q17; have p18 : 0 ≤ (x3_2 : Int) := dT; have q18 : x3_2 < (a0.size : Int) := dT; have hx18 := bt_at a0 x3_2; replace p18 := eq_true p18; replace q18 := eq_true q18; have p28 : 0 ≤ (x3_2 : Int) := dT; have q28 : x3_2 < (a0.size : Int) := dT; have hx28 := bt_at a0 x3_2; replace p28 := eq_true p28; replace q28 := eq_true q28
            go_wp2
            go_roundg k2
            case measure => have := HJ1.out; have := HK2.out; omega
            case rel => exact ⟨(wrap64 (x3_2 + 1)), eT, H', ⟨by have := HJ1.out; have := HK2.out; omega⟩, by repeat (first | exact Drawn0.refl _ | apply Drawn0.step)⟩
           ·rw [if_neg c29] at H
            have c29b0 : ((bt a0 x3_2) == 95) = false := beq_eq_false_iff_ne.mpr c29; have c29b1 : ((bt a0 x3_2) != 95) = true := bne_iff_ne.mpr c29
            by_cases c30 : x3_2 = 0
            ·rw [if_pos c30] at H
             have c30b0 : (x3_2 == 0) = true := beq_iff_eq.mpr c30; have c30b1 : (x3_2 != 0) = false := bne_eq_false_iff_eq.mpr c30; clear c30
             obtain rfl := Option.some.inj H
             have p7 : 0 ≤ (x3_2 : Int) := dT; have q7 : x3_2 < (a0.size : Int) := dT; have hx7 := bt_at a0 x3_2; replace p7 := eq_true p7; replace q7 := eq_true q7; have p9 : 0 ≤ (x3_2 : Int) := dT; have q9 : x3_2 < (a0.size : Int) := dT; have hx9 := bt_at a0 x3_2; replace p9 := eq_true p9; replace q9 := eq_true q9; have p17 : 0 ≤ (x3_2 : Int) := dT; have q17 : x3_2 < (a0.size : Int) := dT; have hx17 := bt_at a0 x3_2; replace p17 := eq_true p17; replace q17 := eq_true q17; have p18 : 0 ≤ (x3_2 : Int) := dT; have q18 : x3_2 < (a0.size : Int) := dT; have hx18 := bt_at a0 x3_2; replace p18 := eq_true p18; replace q18 := eq_true q18; have p28 : 0 ≤ (x3_2 : Int) := dT; have q28 : x3_2 < (a0.size : Int) := dT; have hx28 := bt_at a0 x3_2; replace p28 := eq_true p28; replace q28 := eq_true q28
             go_wp2
             go_ret
             exact ⟨by first | rfl | (simp; done) | (simp [*]; done), by repeat (first | exact Drawn0.refl _ | apply Drawn0.step)⟩
            ·rw [if_neg c30] at H
             have c30b0 : (x3_2 == 0) = false := beq_eq_false_iff_ne.mpr c30; have c30b1 : (x3_2 != 0) = true := bne_iff_ne.mpr c30
             by_cases c31 : ((bt a0 x3_2) = 46)
             ·rw [if_pos c31] at H
              have c31b0 : ((bt a0 x3_2) == 46) = true := beq_iff_eq.mpr c31; have c31b1 : ((bt a0 x3_2) != 46) = false := bne_eq_false_iff_eq.mpr c31; clear c31
              have H' := aM H
              clear H; have p7 : 0 ≤ (x3_2 : Int) := dT; have q7 : x3_2 < (a0.size : Int) := dT; have hx7 := bt_at a0 x3_2; replace p7 := eq_true p7; replace q7 := eq_true q7; have p9 : 0 ≤ (x3_2 : Int) := dT; have q9 : x3_2 < (a0.size : Int) := dT; have hx9 := bt_at a0 x3_2; replace p9 := eq_true p9; replace q9 := eq_true q9; have p17 : 0 ≤ (x3_2 : Int) := dT; have q17 : x3_2 < (a0.size : Int) := dT; have hx17 := bt_at a0 x3_2; replace p17 := eq_true p17; replace q17 := eq_true q17; have p18 : 0 ≤ (x3_2 : Int) := dT; have q18 : x3_2 < (a0.size : Int) := dT; have hx18 := bt_at a0 x3_2; replace p18 := eq_true p18; replace q18 := eq_true q18; have p28 : 0 ≤ (x3_2 : Int) := dT; have q28 : x3_2 < (a0.size : Int) := dT; have hx28 := bt_at a0 x3_2; replace p28 := eq_true p28; replace q28 := eq_true q28
              go_wp2
              go_roundg k2
              case measure => have := HJ1.out; have := HK2.out; omega
              case rel => exact ⟨(wrap64 (x3_2 + 1)), eT, H', ⟨by have := HJ1.out; have := HK2.out; omega⟩, by repeat (first | exact Drawn0.refl _ | apply Drawn0.step)⟩
             ·rw [if_neg c31] at H
              have c31b0 : ((bt a0 x3_2) == 46) = false := beq_eq_false_iff_ne.mpr c31; have c31b1 : ((bt a0 x3_2) != 46) = true := bne_iff_ne.mpr c31
              obtain rfl := Option.some.inj H
              have p7 : 0 ≤ (x3_2 : Int) := dT; have q7 : x3_2 < (a0.size : Int) := dT; have hx7 := bt_at a0 x3_2; replace p7 := eq_true p7; replace q7 := eq_true q7; have p9 : 0 ≤ (x3_2 : Int) := dT; have q9 : x3_2 < (a0.size : Int) := dT; have hx9 := bt_at a0 x3_2; replace p9 := eq_true p9; replace q9 := eq_true q9; have p17 : 0 ≤ (x3_2 : Int) := dT; have q17 : x3_2 < (a0.size : Int) := dT; have hx17 := bt_at a0 x3_2; replace p17 := eq_true p17; replace q17 := eq_true q17; have p18 : 0 ≤ (x3_2 : Int) := dT; have q18 : x3_2 < (a0.size : Int) := dT; have hx18 := bt_at a0 x3_2; replace p18 := eq_true p18; replace q18 := eq_true q18; have p28 : 0 ≤ (x3_2 : Int) := dT; have q28 : x3_2 < (a0.size : Int) := dT; have hx28 := bt_at a0 x3_2; replace p28 := eq_true p28; replace q28 := eq_true q28
              go_wp2
              go_ret
              exact ⟨by first | rfl | (simp; done) | (simp [*]; done), by repeat (first | exact Drawn0.refl _ | apply Drawn0.step)⟩
        ·rw [if_neg c8] at H
         have c8b0 : decide (97 ≤ (bt a0 x3_2)) = false := decide_eq_false c8; clear c8
         by_cases c34 : (bt a0 x3_2) ≥ 48
         ·rw [if_pos c34] at H
          have c34b0 : decide (48 ≤ (bt a0 x3_2)) = true := decide_eq_true c34; clear c34
          by_cases c36 : (bt a0 x3_2) ≤ 57
          ·rw [if_pos c36] at H
           have c36b0 : decide ((bt a0 x3_2) ≤ 57) = true := decide_eq_true c36; clear c36
           by_cases c37 : ((bt a0 x3_2) = 95)
           ·rw [if_pos c37] at H
            have c37b0 : ((bt a0 x3_2) == 95) = true := beq_iff_eq.mpr c37; have c37b1 : ((bt a0 x3_2) != 95) = false := bne_eq_false_iff_eq.mpr c37; clear c37
            have H' := aM H
            clear H; have p7 : 0 ≤ (x3_2 : Int) := dT; have q7 : x3_2 < (a0.size : Int) := dT; have hx7 := bt_at a0 x3_2; replace p7 := eq_true p7; replace q7 := eq_true q7; have p32 : 0 ≤ (x3_2 : Int) := dT; have q32 : x3_2 < (a0.size : Int) := dT; have hx32 := bt_at a0 x3_2; replace p32 := eq_true p32; replace q32 := eq_true q32; have p33 : 0 ≤ (x3_2 : Int) := dT; have q33 : x3_2 < (a0.size : Int) := dT; have hx33 := bt_at a0 x3_2; replace p33 := eq_true p33; replace q33 := eq_true q33; have p35 : 0 ≤ (x3_2 : Int) := dT; have q35 : x3_2 < (a0.size : Int) := dT; have hx35 := bt_at a0 x3_2; replace p35 := eq_true p35; replace q35 := eq_true q35
            go_wp2
            go_roundg k2
            case measure => have := HJ1.out; have := HK2.out; omega
            case rel => exact ⟨(wrap64 (x3_2 + 1)), eT, H', ⟨by have := HJ1.out; have := HK2.out; omega⟩, by repeat (first | exact Drawn0.refl _ | apply Drawn0.step)⟩
           ·rw [if_neg c37] at H
            have c37b0 : ((bt a0 x3_2) == 95) = false := beq_eq_false_iff_ne.mpr c37; have c37b1 : ((bt a0 x3_2) != 95) = true := bne_iff_ne.mpr c37
            by_cases c38 : x3_2 = 0
            ·rw [if_pos c38] at H
             have c38b0 : (x3_2 == 0) = true := beq_iff_eq.mpr c38; have c38b1 : (x3_2 != 0) = false := bne_eq_false_iff_eq.mpr c38; clear c38
             obtain rfl := Option.some.inj H
             have p7 : 0 ≤ (x3_2 : Int) := dT; have q7 : x3_2 < (a0.size : Int) := dT; have hx7 := bt_at a0 x3_2; replace p7 := eq_true p7; replace q7 := eq_true q7; have p32 : 0 ≤ (x3_2 : Int) := dT; have q32 : x3_2 < (a0.size : Int) := dT; have hx32 := bt_at a0 x3_2; replace p32 := eq_true p32; replace q32 := eq_true q32; have p33 : 0 ≤ (x3_2 : Int) := dT; have q33 : x3_2 < (a0.size : Int) := dT; have hx33 := bt_at a0 x3_2; replace p33 := eq_true p33; replace q33 := eq_true q33; have p35 : 0 ≤ (x3_2 : Int) := dT; have q35 : x3_2 < (a0.size : Int) := dT; have hx35 := bt_at a0 x3_2; replace p35 := eq_true p35; replace q35 := eq_true q35
             go_wp2
             go_ret
             exact ⟨by first | rfl | (simp; done) | (simp [*]; done), by repeat (first | exact Drawn0.refl _ | apply Drawn0.step)⟩
            ·rw [if_neg c38] at H
             have c38b0 : (x3_2 == 0) = false := beq_eq_false_iff_ne.mpr c38; have c38b1 : (x3_2 != 0) = true := bne_iff_ne.mpr c38
             have H' := aM H
             clear H; have p7 : 0 ≤ (x3_2 : Int) := dT; have q7 : x3_2 < (a0.size : Int) := dT; have hx7 := bt_at a0 x3_2; replace p7 := eq_true p7; replace q7 := eq_true q7; have p32 : 0 ≤ (x3_2 : Int) := dT; have q32 : x3_2 < (a0.size : Int) := dT; have hx32 := bt_at a0 x3_2; replace p32 := eq_true p32; replace q32 := eq_true q32; have p33 : 0 ≤ (x3_2 : Int) := dT; have q33 : x3_2 < (a0.size : Int) := dT; have hx33 := bt_at a0 x3_2; replace p33 := eq_true p33; replace q33 := eq_true q33; have p35 : 0 ≤ (x3_2 : Int) := dT; have q35 : x3_2 < (a0.size : Int) := dT; have hx35 := bt_at a0 x3_2; replace p35 := eq_true p35; replace q35 := eq_true q35
             go_wp2
             go_roundg k2
             case measure => have := HJ1.out; have := HK2.out; omega
             case rel => exact ⟨(wrap64 (x3_2 + 1)), eT, H', ⟨by have := HJ1.out; have := HK2.out; omega⟩, by repeat (first | exact Drawn0.refl _ | apply Drawn0.step)⟩
          ·rw [if_neg c36] at H
           have c36b0 : decide ((bt a0 x3_2) ≤ 57) = false := decide_eq_false c36; clear c36
           by_cases c40 : ((bt a0 x3_2) = 95)
           ·rw [if_pos c40] at H
            have c40b0 : ((bt a0 x3_2) == 95) = true := beq_iff_eq.mpr c40; have c40b1 : ((bt a0 x3_2) != 95) = false := bne_eq_false_iff_eq.mpr c40; clear c40
            have H' := aM H
            clear H; have p7 : 0 ≤ (x3_2 : Int) := dT; have q7 : x3_2 < (a0.size : Int) := dT; have hx7 := bt_at a0 x3_2; replace p7 := eq_true p7; replace q7 := eq_true q7; have p32 : 0 ≤ (x3_2 : Int) := dT; have q32 : x3_2 < (a0.size : Int) := dT; have hx32 := bt_at a0 x3_2; replace p32 := eq_true p32; replace q32 := eq_true q32; have p33 : 0 ≤ (x3_2 : Int) := dT; have q33 : x3_2 < (a0.size : Int) := dT; have hx33 := bt_at a0 x3_2; replace p33 := eq_true p33; replace q33 := eq_true q33; have p35 : 0 ≤ (x3_2 : Int) := dT; have q35 : x3_2 < (a0.size : Int) := dT; have hx35 := bt_at a0 x3_2; replace p35 := eq_true p35; replace q35 := eq_true q35; have p39 : 0 ≤ (x3_2 : Int) := dT; have q39 : x3_2 < (a0.size : Int) := dT; have hx39 := bt_at a0 x3_2; replace p39 := eq_true p39; replace q39 := eq_true q39
            go_wp2
            go_roundg k2
            case measure => have := HJ1.out; have := HK2.out; omega
            case rel => exact ⟨(wrap64 (x3_2 + 1)), eT, H', ⟨by have := HJ1.out; have := HK2.out; omega⟩, by repeat (first | exact Drawn0.refl _ | apply Drawn0.step)⟩
           ·rw [if_neg c40] at H
            have c40b0 : ((bt a0 x3_2) == 95) = false := beq_eq_false_iff_ne.mpr c40; have c40b1 : ((bt a0 x3_2) != 95) = true := bne_iff_ne.mpr c40
            by_cases c41 : x3_2 = 0
            ·rw [if_pos c41] at H
             have c41b0 : (x3_2 == 0) = true := beq_iff_eq.mpr c41; have c41b1 : (x3_2 != 0) = false := bne_eq_false_iff_eq.mpr c41; clear c41
             obtain rfl := Option.some.inj H
             have p7 : 0 ≤ (x3_2 : Int) := dT; have q7 : x3_2 < (a0.size : Int) := dT; have hx7 := bt_at a0 x3_2; replace p7 := eq_true p7; replace q7 := eq_true q7; have p32 : 0 ≤ (x3_2 : Int) := dT; have q32 : x3_2 < (a0.size : Int) := dT; have hx32 := bt_at a0 x3_2; replace p32 := eq_true p32; replace q32 := eq_true q32; have p33 : 0 ≤ (x3_2 : Int) := dT; have q33 : x3_2 < (a0.size : Int) := dT; have hx33 := bt_at a0 x3_2; replace p33 := eq_true p33; replace q33 := eq_true q33; have p35 : 0 ≤ (x3_2 : Int) := dT; have q35 : x3_2 < (a0.size : Int) := dT; have hx35 := bt_at a0 x3_2; replace p35 := eq_true p35; replace q35 := eq_true q35; have p39 : 0 ≤ (x3_2 : Int) := dT; have q39 : x3_2 < (a0.size : Int) := dT; have hx39 := bt_at a0 x3_2; replace p39 := eq_true p39; replace q39 := eq_true q39
             go_wp2
             go_ret
             exact ⟨by first | rfl | (simp; done) | (simp [*]; done), by repeat (first | exact Drawn0.refl _ | apply Drawn0.step)⟩
            ·rw [if_neg c41] at H
             have c41b0 : (x3_2 == 0) = false := beq_eq_false_iff_ne.mpr c41; have c41b1 : (x3_2 != 0) = true := bne_iff_ne.mpr c41
             by_cases c42 : ((bt a0 x3_2) = 46)
             ·rw [if_pos c42] at H
              have c42b0 : ((bt a0 x3_2) == 46) = true := beq_iff_eq.mpr c42; have c42b1 : ((bt a0 x3_2) != 46) = false := bne_eq_false_iff_eq.mpr c42; clear c42
              have H' := aM H
              clear H; have p7 : 0 ≤ (x3_2 : Int) := dT; have q7 : x3_2 < (a0.size : Int) := dT; have hx7 := bt_at a0 x3_2; replace p7 := eq_true p7; replace q7 := eq_true q7; have p32 : 0 ≤ (x3_2 : Int) := dT; have q32 : x3_2 < (a0.size : Int) := dT; have hx32 := bt_at a0 x3_2; replace p32 := eq_true p32; replace q32 := eq_true q32; have p33 : 0 ≤ (x3_2 : Int) := dT; have q33 : x3_2 < (a0.size : Int) := dT; have hx33 := bt_at a0 x3_2; replace p33 := eq_true p33; replace q33 := eq_true q33; have p35 : 0 ≤ (x3_2 : Int) := dT; have q35 : x3_2 < (a0.size : Int) := dT; have hx35 := bt_at a0 x3_2; replace p35 := eq_true p35; replace q35 := eq_true q35; have p39 : 0 ≤ (x3_2 : Int) := dT; have q39 : x3_2 < (a0.size : Int) := dT; have hx39 := bt_at a0 x3_2; replace p39 := eq_true p39; replace q39 := eq_true q39
              go_wp2
              go_roundg k2
              case measure => have := HJ1.out; have := HK2.out; omega
              case rel => exact ⟨(wrap64 (x3_2 + 1)), eT, H', ⟨by have := HJ1.out; have := HK2.out; omega⟩, by repeat (first | exact Drawn0.refl _ | apply Drawn0.step)⟩
             ·rw [if_neg c42] at H
              have c42b0 : ((bt a0 x3_2) == 46) = false := beq_eq_false_iff_ne.mpr c42; have c42b1 : ((bt a0 x3_2) != 46) = true := bne_iff_ne.mpr c42
              obtain rfl := Option.some.inj H
              have p7 : 0 ≤ (x3_2 : Int) := dT; have q7 : x3_2 < (a0.size : Int) := dT; have hx7 := bt_at a0 x3_2; replace p7 := eq_true p7; replace q7 := eq_true q7; have p32 : 0 ≤ (x3_2 : Int) := dT; have q32 : x3_2 < (a0.size : Int) := dT; have hx32 := bt_at a0 x3_2; replace p32 := eq_true p32; replace q32 := eq_true q32; have p33 : 0 ≤ (x3_2 : Int) := dT; have q33 : x3_2 < (a0.size : Int) := dT; have hx33 := bt_at a0 x3_2; replace p33 := eq_true p33; replace q33 := eq_true q33; have p35 : 0 ≤ (x3_2 : Int) := dT; have q35 : x3_2 < (a0.size : Int) := dT; have hx35 := bt_at a0 x3_2; replace p35 := eq_true p35; replace q35 := eq_true q35; have p39 : 0 ≤ (x3_2 : Int) := dT; have q39 : x3_2 < (a0.size : Int) := dT; have hx39 := bt_at a0 x3_2; replace p39 := eq_true p39; replace q39 := eq_true q39
              go_wp2
              go_ret
              exact ⟨by first | rfl | (simp; done) | (simp [*]; done), by repeat (first | exact Drawn0.refl _ | apply Drawn0.step)⟩
         ·rw [if_neg c34] at H
          have c34b0 : decide (48 ≤ (bt a0 x3_2)) = false := decide_eq_false c34; clear c34
          by_cases c44 : ((bt a0 x3_2) = 95)
          ·rw [if_pos c44] at H
           have c44b0 : ((bt a0 x3_2) == 95) = true := beq_iff_eq.mpr c44; have c44b1 : ((bt a0 x3_2) != 95) = false := bne_eq_false_iff_eq.mpr c44; clear c44
           have H' := aM H
           clear H; have p7 : 0 ≤ (x3_2 : Int) := dT; have q7 : x3_2 < (a0.size : Int) := dT; have hx7 := bt_at a0 x3_2; replace p7 := eq_true p7; replace q7 := eq_true q7; have p32 : 0 ≤ (x3_2 : Int) := dT; have q32 : x3_2 < (a0.size : Int) := dT; have hx32 := bt_at a0 x3_2; replace p32 := eq_true p32; replace q32 := eq_true q32; have p33 : 0 ≤ (x3_2 : Int) := dT; have q33 : x3_2 < (a0.size : Int) := dT; have hx33 := bt_at a0 x3_2; replace p33 := eq_true p33; replace q33 := eq_true q33; have p43 : 0 ≤ (x3_2 : Int) := dT; have q43 : x3_2 < (a0.size : Int) := dT; have hx43 := bt_at a0 x3_2; replace p43 := eq_true p43; replace q43 := eq_true q43
           go_wp2
           go_roundg k2
           case measure => have := HJ1.out; have := HK2.out; omega
           case rel => exact ⟨(wrap64 (x3_2 + 1)), eT, H', ⟨by have := HJ1.out; have := HK2.out; omega⟩, by repeat (first | exact Drawn0.refl _ | apply Drawn0.step)⟩
          ·rw [if_neg c44] at H
           have c44b0 : ((bt a0 x3_2) == 95) = false := beq_eq_false_iff_ne.mpr c44; have c44b1 : ((bt a0 x3_2) != 95) = true := bne_iff_ne.mpr c44
           by_cases c45 : x3_2 = 0
           ·rw [if_pos c45] at H
            have c45b0 : (x3_2 == 0) = true := beq_iff_eq.mpr c45; have c45b1 : (x3_2 != 0) = false := bne_eq_false_iff_eq.mpr c45; clear c45
            obtain rfl := Option.some.inj H
            have p7 : 0 ≤ (x3_2 : Int) := dT; have q7 : x3_2 < (a0.size : Int) := dT; have hx7 := bt_at a0 x3_2; replace p7 := eq_true p7; replace q7 := eq_true q7; have p32 : 0 ≤ (x3_2 : Int) := dT; have q32 : x3_2 < (a0.size : Int) := dT; have hx32 := bt_at a0 x3_2; replace p32 := eq_true p32; replace q32 := eq_true q32; have p33 : 0 ≤ (x3_2 : Int) := dT; have q33 : x3_2 < (a0.size : Int) := dT; have hx33 := bt_at a0 x3_2; replace p33 := eq_true p33; replace q33 := eq_true q33; have p43 : 0 ≤ (x3_2 : Int) := dT; have q43 : x3_2 < (a0.size : Int) := dT; have hx43 := bt_at a0 x3_2; replace p43 := eq_true p43; replace q43 := eq_true q43
            go_wp2
            go_ret
            exact ⟨by first | rfl | (simp; done) | (simp [*]; done), by repeat (first | exact Drawn0.refl _ | apply Drawn0.step)⟩
           ·rw [if_neg c45] at H
            have c45b0 : (x3_2 == 0) = false := beq_eq_false_iff_ne.mpr c45; have c45b1 : (x3_2 != 0) = true := bne_iff_ne.mpr c45
            by_cases c46 : ((bt a0 x3_2) = 46)
            ·rw [if_pos c46] at H
             have c46b0 : ((bt a0 x3_2) == 46) = true := beq_iff_eq.mpr c46; have c46b1 : ((bt a0 x3_2) != 46) = false := bne_eq_false_iff_eq.mpr c46; clear c46
             have H' := aM H
             clear H; have p7 : 0 ≤ (x3_2 : Int) := dT; have q7 : x3_2 < (a0.size : Int) := dT; have hx7 := bt_at a0 x3_2; replace p7 := eq_true p7; replace q7 := eq_true q7; have p32 : 0 ≤ (x3_2 : Int) := dT; have q32 : x3_2 < (a0.size : Int) := dT; have hx32 := bt_at a0 x3_2; replace p32 := eq_true p32; replace q32 := eq_true q32; have p33 : 0 ≤ (x3_2 : Int) := dT; have q33 : x3_2 < (a0.size : Int) := dT; have hx33 := bt_at a0 x3_2; replace p33 := eq_true p33; replace q33 := eq_true q33; have p43 : 0 ≤ (x3_2 : Int) := dT; have q43 : x3_2 < (a0.size : Int) := dT; have hx43 := bt_at a0 x3_2; replace p43 := eq_true p43; replace q43 := eq_true q43
             go_wp2
             go_roundg k2
             case measure => have := HJ1.out; have := HK2.out; omega
             case rel => exact ⟨(wrap64 (x3_2 + 1)), eT, H', ⟨by have := HJ1.out; have := HK2.out; omega⟩, by repeat (first | exact Drawn0.refl _ | apply Drawn0.step)⟩
            ·rw [if_neg c46] at H
             have c46b0 : ((bt a0 x3_2) == 46) = false := beq_eq_false_iff_ne.mpr c46; have c46b1 : ((bt a0 x3_2) != 46) = true := bne_iff_ne.mpr c46
             obtain rfl := Option.some.inj H
             have p7 : 0 ≤ (x3_2 : Int) := dT; have q7 : x3_2 < (a0.size : Int) := dT; have hx7 := bt_at a0 x3_2; replace p7 := eq_true p7; replace q7 := eq_true q7; have p32 : 0 ≤ (x3_2 : Int) := dT; have q32 : x3_2 < (a0.size : Int) := dT; have hx32 := bt_at a0 x3_2; replace p32 := eq_true p32; replace q32 := eq_true q32; have p33 : 0 ≤ (x3_2 : Int) := dT; have q33 : x3_2 < (a0.size : Int) := dT; have hx33 := bt_at a0 x3_2; replace p33 := eq_true p33; replace q33 := eq_true q33; have p43 : 0 ≤ (x3_2 : Int) := dT; have q43 : x3_2 < (a0.size : Int) := dT; have hx43 := bt_at a0 x3_2; replace p43 := eq_true p43; replace q43 := eq_true q43
             go_wp2
             go_ret
             exact ⟨by first | rfl | (simp; done) | (simp [*]; done), by repeat (first | exact Drawn0.refl _ | apply Drawn0.step)⟩
       ·rw [if_neg c6] at H
        exact absurd H (by simp)
      ·rw [if_neg c5] at H
       have c5b0 : decide (x3_2 < (a0.size : Int)) = false := decide_eq_false c5; clear c5
       obtain rfl := Option.some.inj H
       go_wp2
       go_ret
       exact ⟨by first | rfl | (simp; done) | (simp [*]; done), by repeat (first | exact Drawn0.refl _ | apply Drawn0.step)⟩




/-! ### r39_Find: function 50 -/
def r39_Find.l0 : Nat → ByteArray → Int → ByteArray → List ByteArray → Option (Int)
 | 0, _, _, _, _ => none
 | k + 1, x1, x5, x252000, x252001 => if x5 < (x252001.length : Int) then (if 0 ≤ x5 then (if (rdOf ByteArray.empty x252001 x5).toList = x1.toList then (some x5) else (r39_Find.l0 k x1 (wrap64 (x5 + 1)) x252000 x252001)) else (none)) else (some (-1))
def r39_Find.f (k : Nat) (a0_0 : ByteArray) (l0_1 : List ByteArray) (a1 : ByteArray) : Option (Int) := r39_Find.l0 k a1 0 a0_0 l0_1
theorem r39_Find.mono_l : ∀ k, (∀ y0 y1 y2 y3, LeO (r39_Find.l0 k y0 y1 y2 y3) (r39_Find.l0 (k + 1) y0 y1 y2 y3))
 | 0 => fun _ _ _ _ r h => by simp [r39_Find.l0] at h
 | k + 1 => by
  have ih0 := r39_Find.mono_l k
  ·intro y0 y1 y2 y3
   unfold r39_Find.l0
   repeat' first
   | (with_reducible first | exact ih0 _ _ _ _ | exact LeO.refl _ | exact LeO.none _ | refine LeO.ite ?_ ?_ | refine LeO.bind ?_ (fun _ => ?_))
   | exact LeO.none _
   | refine LeO.ite ?_ ?_
   | refine LeO.bind ?_ (fun _ => ?_)
theorem r39_Find.mono : ∀ a0 a1 a2 k, LeO (r39_Find.f k a0 a1 a2) (r39_Find.f (k + 1) a0 a1 a2) := by
 intro a0 a1 a2 k
 have ih0 := r39_Find.mono_l k
 unfold r39_Find.f
 repeat' first
   | (with_reducible first | exact ih0 _ _ _ _ | exact LeO.refl _ | exact LeO.none _ | refine LeO.ite ?_ ?_ | refine LeO.bind ?_ (fun _ => ?_))
   | exact LeO.none _
   | refine LeO.ite ?_ ?_
   | refine LeO.bind ?_ (fun _ => ?_)
set_option maxHeartbeats 8000000 in
set_option maxRecDepth 100000 in
theorem r39_Find.calls (k : Nat) (a0_0 : ByteArray) (A0_1 : Option Addr) (c0_1 : Nat) (l0_1 : List ByteArray) (a1 : ByteArray) (r : Int) (w : World) (hr0_1 : Kd.C Kd.string w A0_1 l0_1.length l0_1) (hc0_1 : l0_1.length ≤ c0_1) (h : r39_Find.f k a0_0 l0_1 a1 = some r) :
  Calls Try.prog 50 #[.agg #[.string a0_0, .slice A0_1 l0_1.length c0_1], .string a1] w fun e w' => e = .returned (.int .i64 r) ∧ Below w.heap.size w w' := by
 have hu51 := Try.underlying51; have hu9 := Try.underlying9; have hu49 := Try.underlying49; have HR0_1 := aM hr0_1; have HC0_1 := aM hc0_1; clear hr0_1 hc0_1; have HB := aM (Below.refl w.heap.size w); have H : (r39_Find.l0 k a1 0 a0_0 l0_1) = some r := h; clear h
 have H' := aM H
 clear H
 go_enter Try.func50, Try.ntmps50
 go_wp2_with (first | ((with_reducible refine gate_dst (N := 2) rfl ?_); refine box_event ?hg (N := 2) ?hd (cs := #[.string a0_0, .slice A0_1 l0_1.length c0_1]) (t := 51) ?hr ?_; (case hd => rfl); (case hg => rfl); (case hr => first | (go_simp; done) | (go_simp; rfl)); intro gb251 hg w3 hbox hb; have n0_ := aM (below_step (bB HB.out) hb); have n1_ := aM (hbox); have n2_ := aM ((by rw [hg]; exact (below_size (bB HB.out)) : w.heap.size ≤ gb251)); have n3_ := aM ((by rw [hg]; exact (below_size (bB HB.out)) : w.heap.size ≤ gb251)); clear HB; have HB := n0_; have BK251 := n1_; have GW251 := n2_; have GE251 := n3_; clear n0_ n1_ n2_ n3_; clear hb hbox hg))
 go_loopg [5] k (fun kq v5 w' => ∃ (x5_1 : Int), v5 = .int .i64 x5_1 ∧ Aside0 (r39_Find.l0 kq a1 x5_1 a0_0 l0_1 = some r) ∧ Aside0 (kq ≤ k) ∧ Aside0 (w'.heap[gb251]? = some (.cells #[.string a0_0, (.slice A0_1 l0_1.length c0_1)] 51 (0, 0))) ∧ Aside0 (Below w.heap.size w w'))
 case atStart => exact ⟨(0), eT, H', ⟨Nat.le_refl _⟩, ⟨kB BK251.out⟩, ⟨bB1 HB.out GE251.out⟩⟩
 case round =>
  clear H'; obtain ⟨x5_1, rfl, HA, HK1, BK251, HB⟩ := hrel
  cases gk with
  | zero => exact absurd HA.out (by simp [r39_Find.l0])
  | succ k1 =>
   have H := HA.out; clear HA
   simp only [r39_Find.l0] at H
   by_cases c4 : x5_1 < (l0_1.length : Int)
   ·rw [if_pos c4] at H
    have c4b0 : decide (x5_1 < (l0_1.length : Int)) = true := decide_eq_true c4; clear c4
    by_cases c5 : 0 ≤ x5_1
    ·rw [if_pos c5] at H
     have c5b0 : decide (0 ≤ x5_1) = true := decide_eq_true c5; clear c5
     by_cases c6 : (rdOf ByteArray.empty l0_1 x5_1).toList = a1.toList
     ·rw [if_pos c6] at H
      have c6b0 : ((rdOf ByteArray.empty l0_1 x5_1).toList == a1.toList) = true := beq_iff_eq.mpr c6; have c6b1 : ((rdOf ByteArray.empty l0_1 x5_1).toList != a1.toList) = false := bne_eq_false_iff_eq.mpr c6; clear c6
      obtain rfl := Option.some.inj H
      have hcz7_0 : wr.cell? ⟨gb251, 0, none⟩ = some (.string a0_0) := (blk_cell BK251.out 0).trans rfl
      have hcz7_1 : wr.cell? ⟨gb251, 1, none⟩ = some (.slice A0_1 l0_1.length c0_1) := (blk_cell BK251.out 1).trans rfl
      have hfz7_0 := blk_frozen BK251.out 0; have hfz7_1 := blk_frozen BK251.out 1; have p252 : 0 ≤ (x5_1 : Int) := dT; have q252 : x5_1 < (l0_1.length : Int) := dT; obtain ⟨ad252, e252, hx252_0⟩ := Kd.at_string HR0_1.out x5_1 p252 q252; cases e252; replace hx252_0 := (HB.out.cell (World.block_lt_of_cell? w _ hx252_0)).trans hx252_0; replace p252 := eq_true p252; replace q252 := eq_true q252
      go_wp2
      go_ret
      exact ⟨rT, bB1 HB.out GE251.out⟩
     ·rw [if_neg c6] at H
      have c6b0 : ((rdOf ByteArray.empty l0_1 x5_1).toList == a1.toList) = false := beq_eq_false_iff_ne.mpr c6; have c6b1 : ((rdOf ByteArray.empty l0_1 x5_1).toList != a1.toList) = true := bne_iff_ne.mpr c6
      have H' := aM H
      clear H
      have hcz8_0 : wr.cell? ⟨gb251, 0, none⟩ = some (.string a0_0) := (blk_cell BK251.out 0).trans rfl
      have hcz8_1 : wr.cell? ⟨gb251, 1, none⟩ = some (.slice A0_1 l0_1.length c0_1) := (blk_cell BK251.out 1).trans rfl
      have hfz8_0 := blk_frozen BK251.out 0; have hfz8_1 := blk_frozen BK251.out 1; have p252 : 0 ≤ (x5_1 : Int) := dT; have q252 : x5_1 < (l0_1.length : Int) := dT; obtain ⟨ad252, e252, hx252_0⟩ := Kd.at_string HR0_1.out x5_1 p252 q252; cases e252; replace hx252_0 := (HB.out.cell (World.block_lt_of_cell? w _ hx252_0)).trans hx252_0; replace p252 := eq_true p252; replace q252 := eq_true q252
      go_wp2
      go_roundg k1
      case measure => have := HK1.out; omega
      case rel => exact ⟨(wrap64 (x5_1 + 1)), eT, H', ⟨by have := HK1.out; omega⟩, ⟨kB BK251.out⟩, ⟨bB1 HB.out GE251.out⟩⟩
    ·rw [if_neg c5] at H
     exact absurd H (by simp)
   ·rw [if_neg c4] at H
    have c4b0 : decide (x5_1 < (l0_1.length : Int)) = false := decide_eq_false c4; clear c4
    obtain rfl := Option.some.inj H
    have hcz9_0 : wr.cell? ⟨gb251, 0, none⟩ = some (.string a0_0) := (blk_cell BK251.out 0).trans rfl
    have hcz9_1 : wr.cell? ⟨gb251, 1, none⟩ = some (.slice A0_1 l0_1.length c0_1) := (blk_cell BK251.out 1).trans rfl
    have hfz9_0 := blk_frozen BK251.out 0; have hfz9_1 := blk_frozen BK251.out 1
    go_wp2
    go_ret
    exact ⟨rT, bB1 HB.out GE251.out⟩


/-! ### r39_Check: function 32 -/
mutual
def r39_Check.j0 : Nat → Bool → ByteArray → List ByteArray → Option (Int)
 | 0, _, _, _ => none
 | k + 1, x17, x254000, x254001 => if x17 = true then (some 2) else (r39_Check.l0 k 0 x254000 x254001)
def r39_Check.l0 : Nat → Int → ByteArray → List ByteArray → Option (Int)
 | 0, _, _, _ => none
 | k + 1, x3, x254000, x254001 => if x3 < (x254001.length : Int) then (if 0 ≤ x3 then ((r39_Name.f k (rdOf ByteArray.empty x254001 x3)).bind fun t256 => (if t256 = true then ((r39_Find.f k x254000 x254001 (rdOf ByteArray.empty x254001 x3)).bind fun t258 => (if t258 < x3 then (some 6) else (r39_Check.l0 k (wrap64 (x3 + 1)) x254000 x254001))) else (some 5))) else (none)) else (some 0)
end
def r39_Check.f (k : Nat) (a0_0 : ByteArray) (l0_1 : List ByteArray) : Option (Int) := (r39_Name.f k a0_0).bind fun t254 => (if t254 = true then (if (l0_1.length : Int) < 1 then (r39_Check.j0 k true a0_0 l0_1) else (r39_Check.j0 k (decide ((l0_1.length : Int) > 12)) a0_0 l0_1)) else (some 5))
theorem r39_Check.mono_l : ∀ k, (∀ y0 y1 y2, LeO (r39_Check.j0 k y0 y1 y2) (r39_Check.j0 (k + 1) y0 y1 y2)) ∧ (∀ y0 y1 y2, LeO (r39_Check.l0 k y0 y1 y2) (r39_Check.l0 (k + 1) y0 y1 y2))
 | 0 => ⟨fun _ _ _ r h => by simp [r39_Check.j0] at h, fun _ _ _ r h => by simp [r39_Check.l0] at h⟩
 | k + 1 => by
  obtain ⟨ih0, ih1⟩ := r39_Check.mono_l k
  refine ⟨?_, ?_⟩
  ·intro y0 y1 y2
   unfold r39_Check.j0
   repeat' first
   | (with_reducible first | exact ih0 _ _ _ | exact ih1 _ _ _ | exact r39_Find.mono _ _ _ _ | exact r39_Name.mono _ _ | exact LeO.refl _ | exact LeO.none _ | refine LeO.ite ?_ ?_ | refine LeO.bind ?_ (fun _ => ?_))
   | exact LeO.none _
   | refine LeO.ite ?_ ?_
   | refine LeO.bind ?_ (fun _ => ?_)
  ·intro y0 y1 y2
   unfold r39_Check.l0
   repeat' first
   | (with_reducible first | exact ih0 _ _ _ | exact ih1 _ _ _ | exact r39_Find.mono _ _ _ _ | exact r39_Name.mono _ _ | exact LeO.refl _ | exact LeO.none _ | refine LeO.ite ?_ ?_ | refine LeO.bind ?_ (fun _ => ?_))
   | exact LeO.none _
   | refine LeO.ite ?_ ?_
   | refine LeO.bind ?_ (fun _ => ?_)
theorem r39_Check.mono : ∀ a0 a1 k, LeO (r39_Check.f k a0 a1) (r39_Check.f (k + 1) a0 a1) := by
 intro a0 a1 k
 obtain ⟨ih0, ih1⟩ := r39_Check.mono_l k
 unfold r39_Check.f
 repeat' first
   | (with_reducible first | exact ih0 _ _ _ | exact ih1 _ _ _ | exact r39_Find.mono _ _ _ _ | exact r39_Name.mono _ _ | exact LeO.refl _ | exact LeO.none _ | refine LeO.ite ?_ ?_ | refine LeO.bind ?_ (fun _ => ?_))
   | exact LeO.none _
   | refine LeO.ite ?_ ?_
   | refine LeO.bind ?_ (fun _ => ?_)
def r39_Check.T10 : Bool × List (List Nat × List Nat) := (true, [([], []), ([], []), ([1], [1]), ([], []), ([2, 3], [2, 3]), ([4], [4]), ([0, 5], [0, 5]), ([], []), ([6, 7], [6, 7])])
def r39_Check.B10 : List Nat := [0, 0, 2, 0, 14, 30, 63, 0, 255]
theorem r39_Check.tab10 : rtab .any (opsOf Try.f32 10) = r39_Check.T10 := by kernel_rfl
theorem r39_Check.bits10 : waitsOk r39_Check.T10.2 r39_Check.B10 = true := by kernel_rfl
set_option maxHeartbeats 8000000 in
set_option maxRecDepth 100000 in
theorem r39_Check.calls (k : Nat) (a0_0 : ByteArray) (A0_1 : Option Addr) (c0_1 : Nat) (l0_1 : List ByteArray) (r : Int) (w : World) (hr0_1 : Kd.C Kd.string w A0_1 l0_1.length l0_1) (hc0_1 : l0_1.length ≤ c0_1) (h : r39_Check.f k a0_0 l0_1 = some r) :
  Calls Try.prog 32 #[.agg #[.string a0_0, .slice A0_1 l0_1.length c0_1]] w fun e w' => e = .returned (.int .i64 r) ∧ Below w.heap.size w w' := by
 have hu51 := Try.underlying51; have hu9 := Try.underlying9; have hu49 := Try.underlying49; have HR0_1 := aM hr0_1; have HC0_1 := aM hc0_1; clear hr0_1 hc0_1; have HB := aM (Below.refl w.heap.size w)
 have H : ((r39_Name.f k a0_0).bind fun t254 => (if t254 = true then (if (l0_1.length : Int) < 1 then (r39_Check.j0 k true a0_0 l0_1) else (r39_Check.j0 k (decide ((l0_1.length : Int) > 12)) a0_0 l0_1)) else (some 5))) = some r := h
 clear h; replace H := Option.bind_eq_some_iff.mp H; obtain ⟨t254, A20, H⟩ := H
 replace H : (if t254 = true then (if (l0_1.length : Int) < 1 then (r39_Check.j0 k true a0_0 l0_1) else (r39_Check.j0 k (decide ((l0_1.length : Int) > 12)) a0_0 l0_1)) else (some 5)) = some r := H
 have A2 := aM A20; clear A20
 by_cases c3 : t254 = true
 ·subst c3
  have H1 : (if (l0_1.length : Int) < 1 then (r39_Check.j0 k true a0_0 l0_1) else (r39_Check.j0 k (decide ((l0_1.length : Int) > 12)) a0_0 l0_1)) = some r := by rw [if_pos rfl] at H; exact H
  clear H; have H := H1; clear H1; have HC4 := aM H; clear H
  go_enter Try.func32, Try.ntmps32
  go_upto_region 3 with (first | ((with_reducible refine gate_dst (N := 1) rfl ?_); (try (refine gate_guard (by rfl) ?_; dsimp only)); refine box_event ?hg (N := 1) ?hd (cs := #[.string a0_0, .slice A0_1 l0_1.length c0_1]) (t := 51) ?hr ?_; (case hd => rfl); (case hg => rfl); (case hr => first | (go_simp; done) | (go_simp; rfl)); intro gb253 hg w5 hbox hb; have n0_ := aM (below_step (bB HB.out) hb); have n1_ := aM (hbox); have n2_ := aM ((by rw [hg]; exact (below_size (bB HB.out)) : w.heap.size ≤ gb253)); have n3_ := aM ((by rw [hg]; exact (below_size (bB HB.out)) : w.heap.size ≤ gb253)); clear HB; have HB := n0_; have BK253 := n1_; have GW253 := n2_; have GE253 := n3_; clear n0_ n1_ n2_ n3_; clear hb hbox hg; have hcz6_0 : w5.cell? ⟨gb253, 0, none⟩ = some (.string a0_0) := (blk_cell BK253.out 0).trans rfl; have hcz6_1 : w5.cell? ⟨gb253, 1, none⟩ = some (.slice A0_1 l0_1.length c0_1) := (blk_cell BK253.out 1).trans rfl; have hfz6_0 := blk_frozen BK253.out 0; have hfz6_1 := blk_frozen BK253.out 1) | ((with_reducible refine gate_callee (f := 49) rfl ?_); refine goesL_ (some 6) rfl rfl Try.func49 (by kernel_rfl) rfl #[.string a0_0] rfl mT ?_; (with_reducible refine (r39_Name.calls k a0_0 true _ A2.out).mono ?_); rintro e w' ⟨rfl, ⟨nd, rfl⟩⟩; refine ⟨_, rfl, ?_⟩))
  (try simp only [Act.put, List.setIfInBounds_toArray, List.set_cons_zero, List.set_cons_succ])
  go_cut [17] (fun v17 wc => ∃ (kq : Nat) (x17_3 : Bool), v17 = .bool x17_3 ∧ Aside0 (r39_Check.j0 kq x17_3 a0_0 l0_1 = some r) ∧ Aside0 (kq ≤ k) ∧ Aside0 (wc.heap[gb253]? = some (.cells #[.string a0_0, (.slice A0_1 l0_1.length c0_1)] 51 (0, 0))) ∧ Aside0 (Below w.heap.size w wc))
  case first =>
   have H := HC4.out; clear HC4
   by_cases c7 : (l0_1.length : Int) < 1
   ·rw [if_pos c7] at H
    have c7b0 : decide ((l0_1.length : Int) < 1) = true := decide_eq_true c7; have c7b1 : decide (l0_1.length < 1) = true := decide_eq_true (by omega); clear c7
    (first | rw [c7b0] | (simp only [i64_w, i32_w]; rw [c7b0]) | skip)
    have H' := aM H
    clear H
    have hcz8_0 : w5.cell? ⟨gb253, 0, none⟩ = some (.string a0_0) := (blk_cell BK253.out 0).trans rfl
    have hcz8_1 : w5.cell? ⟨gb253, 1, none⟩ = some (.slice A0_1 l0_1.length c0_1) := (blk_cell BK253.out 1).trans rfl
    have hfz8_0 := blk_frozen BK253.out 0; have hfz8_1 := blk_frozen BK253.out 1
    go_wp2
    go_meet
    case rel => exact ⟨_, (true), eT, H', ⟨by first | omega | exact Nat.le_refl _⟩, ⟨kB BK253.out⟩, ⟨bB1 HB.out GE253.out⟩⟩
   ·rw [if_neg c7] at H
    have c7b0 : decide ((l0_1.length : Int) < 1) = false := decide_eq_false c7; have c7b1 : decide (l0_1.length < 1) = false := decide_eq_false (by omega); clear c7
    (first | rw [c7b0] | (simp only [i64_w, i32_w]; rw [c7b0]) | skip)
    have H' := aM H
    clear H
    have hcz9_0 : w5.cell? ⟨gb253, 0, none⟩ = some (.string a0_0) := (blk_cell BK253.out 0).trans rfl
    have hcz9_1 : w5.cell? ⟨gb253, 1, none⟩ = some (.slice A0_1 l0_1.length c0_1) := (blk_cell BK253.out 1).trans rfl
    have hfz9_0 := blk_frozen BK253.out 0; have hfz9_1 := blk_frozen BK253.out 1
    go_wp2
    go_meet
    case rel => exact ⟨_, (decide ((l0_1.length : Int) > 12)), eT, H', ⟨by first | omega | exact Nat.le_refl _⟩, ⟨kB BK253.out⟩, ⟨bB1 HB.out GE253.out⟩⟩
  case rest =>
   clear HC4; obtain ⟨kq, x17_3, rfl, HA, HJ3, BK253, HB⟩ := hcut
   cases kq with
   | zero => exact absurd HA.out (by simp [r39_Check.j0])
   | succ kj3 =>
    have H := HA.out; clear HA
    simp only [r39_Check.j0] at H
    by_cases c10 : x17_3 = true
    ·subst c10
     have H1 : (some 2) = some r := by rw [if_pos rfl] at H; exact H
     clear H; have H := H1; clear H1
     obtain rfl := Option.some.inj H
     go_wp2
     go_ret
     exact ⟨rT, bB1 HB.out GE253.out⟩
    ·replace c10 := Bool.eq_false_iff.mpr c10
     subst c10
     have H1 : (r39_Check.l0 kj3 0 a0_0 l0_1) = some r := by rw [if_neg (show ¬ (false = true) by decide)] at H; exact H
     clear H; have H := H1; clear H1
     have H' := aM H
     clear H
     go_wp2
     go_loopg [3] kj3 (fun kq v3 w' => ∃ (x3_2 : Int), v3 = .int .i64 x3_2 ∧ Aside0 (r39_Check.l0 kq x3_2 a0_0 l0_1 = some r) ∧ Aside0 (kq ≤ kj3) ∧ Aside0 (w'.heap[gb253]? = some (.cells #[.string a0_0, (.slice A0_1 l0_1.length c0_1)] 51 (0, 0))) ∧ Aside0 (Below w.heap.size w w'))
     case atStart => exact ⟨(0), eT, H', ⟨Nat.le_refl _⟩, ⟨kB BK253.out⟩, ⟨bB1 HB.out GE253.out⟩⟩
     case round =>
      clear H'; obtain ⟨x3_2, rfl, HA, HK2, BK253, HB⟩ := hrel
      cases gk with
      | zero => exact absurd HA.out (by simp [r39_Check.l0])
      | succ k2 =>
       have H := HA.out; clear HA
       simp only [r39_Check.l0] at H
       by_cases c11 : x3_2 < (l0_1.length : Int)
       ·rw [if_pos c11] at H
        have c11b0 : decide (x3_2 < (l0_1.length : Int)) = true := decide_eq_true c11; clear c11
        by_cases c12 : 0 ≤ x3_2
        ·rw [if_pos c12] at H
         have c12b0 : decide (0 ≤ x3_2) = true := decide_eq_true c12; clear c12; replace H := Option.bind_eq_some_iff.mp H; obtain ⟨t256, A130, H⟩ := H
         replace H : (if t256 = true then ((r39_Find.f k2 a0_0 l0_1 (rdOf ByteArray.empty l0_1 x3_2)).bind fun t258 => (if t258 < x3_2 then (some 6) else (r39_Check.l0 k2 (wrap64 (x3_2 + 1)) a0_0 l0_1))) else (some 5)) = some r := H
         have A13 := aM A130; clear A130
         by_cases c14 : t256 = true
         ·subst c14
          have H1 : ((r39_Find.f k2 a0_0 l0_1 (rdOf ByteArray.empty l0_1 x3_2)).bind fun t258 => (if t258 < x3_2 then (some 6) else (r39_Check.l0 k2 (wrap64 (x3_2 + 1)) a0_0 l0_1))) = some r := by rw [if_pos rfl] at H; exact H
          clear H; have H := H1; clear H1; replace H := Option.bind_eq_some_iff.mp H; obtain ⟨t258, A150, H⟩ := H
          replace H : (if t258 < x3_2 then (some 6) else (r39_Check.l0 k2 (wrap64 (x3_2 + 1)) a0_0 l0_1)) = some r := H
          have A15 := aM A150; clear A150
          by_cases c16 : t258 < x3_2
          ·rw [if_pos c16] at H
           have c16b0 : decide (t258 < x3_2) = true := decide_eq_true c16; clear c16
           obtain rfl := Option.some.inj H
           have hcz17_0 : wr.cell? ⟨gb253, 0, none⟩ = some (.string a0_0) := (blk_cell BK253.out 0).trans rfl
           have hcz17_1 : wr.cell? ⟨gb253, 1, none⟩ = some (.slice A0_1 l0_1.length c0_1) := (blk_cell BK253.out 1).trans rfl
           have hfz17_0 := blk_frozen BK253.out 0; have hfz17_1 := blk_frozen BK253.out 1; have p255 : 0 ≤ (x3_2 : Int) := dT; have q255 : x3_2 < (l0_1.length : Int) := dT; obtain ⟨ad255, e255, hx255_0⟩ := Kd.at_string HR0_1.out x3_2 p255 q255; cases e255; replace hx255_0 := (HB.out.cell (World.block_lt_of_cell? w _ hx255_0)).trans hx255_0; replace p255 := eq_true p255; replace q255 := eq_true q255
           try go_wp2_with (first | ((with_reducible refine gate_callee (f := 49) rfl ?_); refine goesL_ (some 30) rfl rfl Try.func49 (by kernel_rfl) rfl #[.string (rdOf ByteArray.empty l0_1 x3_2)] rfl mT ?_; (with_reducible refine (r39_Name.calls k2 (rdOf ByteArray.empty l0_1 x3_2) true _ A13.out).mono ?_); rintro e w' ⟨rfl, ⟨nd, rfl⟩⟩; refine ⟨_, rfl, ?_⟩))
           (try (rw [drewN_self wr]; generalize hq_ : World.drewN wr _ = wr; have n0_ : Aside0 (wr.heap[gb253]? = some (.cells #[.string a0_0, .slice (some ad255) l0_1.length c0_1] 51 (0, 0))) := ⟨by rw [← hq_]; exact (kB BK253.out)⟩; have n1_ : Aside0 (Below w.heap.size w wr) := ⟨by rw [← hq_]; exact (bB1 HB.out GE253.out)⟩; clear BK253 HB hq_; have BK253 := n0_; have HB := n1_; clear n0_ n1_))
           have n0_ := aM (blk_drew BK253.out); have n1_ := aM (below_drew1 HB.out); clear BK253; clear HB; have BK253 := n0_; have HB := n1_; clear n0_ n1_; have p257 : 0 ≤ (x3_2 : Int) := dT; have q257 : x3_2 < (l0_1.length : Int) := dT; obtain ⟨ad257, e257, hx257_0⟩ := Kd.at_string HR0_1.out x3_2 p257 q257; have hw257_0 := hx257_0; obtain rfl : ad255 = ad257 := (by injection e257); replace hx257_0 := (HB.out.cell (World.block_lt_of_cell? w _ hx257_0)).trans hx257_0; replace p257 := eq_true p257; replace q257 := eq_true q257
           refine start_ (n := 9) (S := fun w' => w'.cell? ⟨gb253, 0, none⟩ = some (.string a0_0) ∧ w'.cell? ⟨gb253, 1, none⟩ = some (.slice (some ad255) l0_1.length c0_1) ∧ w'.cell? (ad255.add (x3_2).toNat) = some (.string (rdOf ByteArray.empty l0_1 x3_2))) (ds := []) #[false, false, false, false, false, false, false, false, false] (by kernel_rfl) rfl rfl ⟨(blk_cell BK253.out 0).trans rfl, (blk_cell BK253.out 1).trans rfl, ((HB.out.cell (World.block_lt_of_cell? w _ hw257_0)).trans hw257_0)⟩ (fun hHeld => ?_); refine with_tabW r39_Check.tab10 r39_Check.bits10 (fun HT_ HW_ => ?_)
           generalize wr.drew = w18 at BK253 HB hx257_0 hHeld ⊢
           refine pure_ (i := 1) (N := some 33) (v := ?_) (a' := ?_) #[false, true, false, false, false, false, false, false, false] rfl rfl (any_of HT_.out (by kernel_rfl)) (fun _ _ _ h => h) (Or.inl ⟨by rfl, ?_⟩) ?_ ?_; rotate_left; exact qT; rotate_left; exact pT
           refine pure_ (i := 3) (N := some 35) (v := ?_) (a' := ?_) #[false, true, false, true, false, false, false, false, false] rfl rfl (any_of HT_.out (by kernel_rfl)) (fun _ _ _ h => h) (Or.inl ⟨by rfl, ?_⟩) ?_ ?_; rotate_left; exact qT; rotate_left; exact pT
           refine pure_ (i := 7) (N := some 39) (v := ?_) (a' := ?_) #[false, true, false, true, false, false, false, true, false] rfl rfl (any_of HT_.out (by kernel_rfl)) (fun _ _ _ h => h) (Or.inl ⟨by rfl, ?_⟩) ?_ ?_; rotate_left; exact qT; rotate_left; exact pT
           refine take_ (i := 0) (N := some 32) (v := ?_) (a' := ?_) #[true, true, false, true, false, false, false, true, false] rfl rfl (take_ofW HT_.out HW_.out (by kernel_rfl)) (fun _ _ _ h => h) (Or.inl ⟨by rfl, ?_⟩) hHeld ?_ ?_; rotate_left; rintro w' ⟨s0, s1, s2⟩; go_simp; with_reducible rfl; rotate_left; exact pT
           refine take_ (i := 2) (N := some 34) (v := ?_) (a' := ?_) #[true, true, true, true, false, false, false, true, false] rfl rfl (take_ofW HT_.out HW_.out (by kernel_rfl)) (fun _ _ _ h => h) (Or.inl ⟨by rfl, ?_⟩) hHeld ?_ ?_; rotate_left; rintro w' ⟨s0, s1, s2⟩; go_simp; with_reducible rfl; rotate_left; exact pT
           refine pure_ (i := 4) (N := some 36) (v := ?_) (a' := ?_) #[true, true, true, true, true, false, false, true, false] rfl rfl (any_of HT_.out (by kernel_rfl)) (fun _ _ _ h => h) (Or.inl ⟨by rfl, ?_⟩) ?_ ?_; rotate_left; exact qT; rotate_left; exact pT
           refine take_ (i := 5) (N := some 37) (v := ?_) (a' := ?_) #[true, true, true, true, true, true, false, true, false] rfl rfl (take_ofW HT_.out HW_.out (by kernel_rfl)) (fun _ _ _ h => h) (Or.inl ⟨by rfl, ?_⟩) hHeld ?_ ?_; rotate_left; rintro w' ⟨s0, s1, s2⟩; go_simp; with_reducible rfl; rotate_left; exact pT
           refine one_ (i := 6) (N := some 38) #[true, true, true, true, true, true, true, true, false] rfl rfl (one_of HT_.out (by kernel_rfl)) (by decide) (fun K hK => ?_)
           refine goes_ Try.func50 (by kernel_rfl) rfl #[.agg #[.string a0_0, .slice (some ad255) l0_1.length c0_1], .string (rdOf ByteArray.empty l0_1 x3_2)] (by rfl) rfl rfl mT ?_
           with_reducible refine (r39_Find.calls k2 a0_0 _ _ l0_1 (rdOf ByteArray.empty l0_1 x3_2) t258 _ ?side1 ?side2 A15.out).mono ?_
           (case side1 => exact cB HR0_1.out HB.out)
           (case side2 => exact HC0_1.out)
           rintro e w19 ⟨rfl, hb⟩
           refine ⟨_, rfl, ?_⟩
           have n0_ := aM (kW BK253.out hb); have n1_ := aM (below_step (bB1 HB.out GE253.out) hb); clear BK253; clear HB; have BK253 := n0_; have HB := n1_; clear n0_ n1_
           (try clear hb)
           (try clear hb2)
           (try clear hk)
           (try clear hi)
           refine hK.out _ _ ⟨(blk_cell BK253.out 0).trans rfl, (blk_cell BK253.out 1).trans rfl, ((HB.out.cell (World.block_lt_of_cell? w _ hw257_0)).trans hw257_0)⟩ (fun hHeld => ?_)
           clear hK K
           refine norm_ (a' := ?_) ?_ ?_
           rotate_left
           ·show Act.put _ (some 38) _ = _
            simp only [Act.put, List.setIfInBounds_toArray, List.set_cons_zero, List.set_cons_succ, i64_w, i32_w]
            rfl
           refine pure_ (i := 8) (N := some 40) (v := ?_) (a' := ?_) #[true, true, true, true, true, true, true, true, true] rfl rfl (any_of HT_.out (by kernel_rfl)) (fun _ _ _ h => h) (Or.inl ⟨by rfl, ?_⟩) ?_ ?_; rotate_left; exact qT; rotate_left; exact pT
           refine done_ (done_of HT_.out (by kernel_rfl)) ?_
           try go_wp2
           go_ret
           exact ⟨rT, bB1 HB.out GE253.out⟩
          ·rw [if_neg c16] at H
           have c16b0 : decide (t258 < x3_2) = false := decide_eq_false c16; clear c16
           have H' := aM H
           clear H
           have hcz20_0 : wr.cell? ⟨gb253, 0, none⟩ = some (.string a0_0) := (blk_cell BK253.out 0).trans rfl
           have hcz20_1 : wr.cell? ⟨gb253, 1, none⟩ = some (.slice A0_1 l0_1.length c0_1) := (blk_cell BK253.out 1).trans rfl
           have hfz20_0 := blk_frozen BK253.out 0; have hfz20_1 := blk_frozen BK253.out 1; have p255 : 0 ≤ (x3_2 : Int) := dT; have q255 : x3_2 < (l0_1.length : Int) := dT; obtain ⟨ad255, e255, hx255_0⟩ := Kd.at_string HR0_1.out x3_2 p255 q255; cases e255; replace hx255_0 := (HB.out.cell (World.block_lt_of_cell? w _ hx255_0)).trans hx255_0; replace p255 := eq_true p255; replace q255 := eq_true q255
           try go_wp2_with (first | ((with_reducible refine gate_callee (f := 49) rfl ?_); refine goesL_ (some 30) rfl rfl Try.func49 (by kernel_rfl) rfl #[.string (rdOf ByteArray.empty l0_1 x3_2)] rfl mT ?_; (with_reducible refine (r39_Name.calls k2 (rdOf ByteArray.empty l0_1 x3_2) true _ A13.out).mono ?_); rintro e w' ⟨rfl, ⟨nd, rfl⟩⟩; refine ⟨_, rfl, ?_⟩))
           (try (rw [drewN_self wr]; generalize hq_ : World.drewN wr _ = wr; have n0_ : Aside0 (wr.heap[gb253]? = some (.cells #[.string a0_0, .slice (some ad255) l0_1.length c0_1] 51 (0, 0))) := ⟨by rw [← hq_]; exact (kB BK253.out)⟩; have n1_ : Aside0 (Below w.heap.size w wr) := ⟨by rw [← hq_]; exact (bB1 HB.out GE253.out)⟩; clear BK253 HB hq_; have BK253 := n0_; have HB := n1_; clear n0_ n1_))
           have n0_ := aM (blk_drew BK253.out); have n1_ := aM (below_drew1 HB.out); clear BK253; clear HB; have BK253 := n0_; have HB := n1_; clear n0_ n1_; have p257 : 0 ≤ (x3_2 : Int) := dT; have q257 : x3_2 < (l0_1.length : Int) := dT; obtain ⟨ad257, e257, hx257_0⟩ := Kd.at_string HR0_1.out x3_2 p257 q257; have hw257_0 := hx257_0; obtain rfl : ad255 = ad257 := (by injection e257); replace hx257_0 := (HB.out.cell (World.block_lt_of_cell? w _ hx257_0)).trans hx257_0; replace p257 := eq_true p257; replace q257 := eq_true q257
           refine start_ (n := 9) (S := fun w' => w'.cell? ⟨gb253, 0, none⟩ = some (.string a0_0) ∧ w'.cell? ⟨gb253, 1, none⟩ = some (.slice (some ad255) l0_1.length c0_1) ∧ w'.cell? (ad255.add (x3_2).toNat) = some (.string (rdOf ByteArray.empty l0_1 x3_2))) (ds := []) #[false, false, false, false, false, false, false, false, false] (by kernel_rfl) rfl rfl ⟨(blk_cell BK253.out 0).trans rfl, (blk_cell BK253.out 1).trans rfl, ((HB.out.cell (World.block_lt_of_cell? w _ hw257_0)).trans hw257_0)⟩ (fun hHeld => ?_); refine with_tabW r39_Check.tab10 r39_Check.bits10 (fun HT_ HW_ => ?_)
           generalize wr.drew = w21 at BK253 HB hx257_0 hHeld ⊢
           refine pure_ (i := 1) (N := some 33) (v := ?_) (a' := ?_) #[false, true, false, false, false, false, false, false, false] rfl rfl (any_of HT_.out (by kernel_rfl)) (fun _ _ _ h => h) (Or.inl ⟨by rfl, ?_⟩) ?_ ?_; rotate_left; exact qT; rotate_left; exact pT
           refine pure_ (i := 3) (N := some 35) (v := ?_) (a' := ?_) #[false, true, false, true, false, false, false, false, false] rfl rfl (any_of HT_.out (by kernel_rfl)) (fun _ _ _ h => h) (Or.inl ⟨by rfl, ?_⟩) ?_ ?_; rotate_left; exact qT; rotate_left; exact pT
           refine pure_ (i := 7) (N := some 39) (v := ?_) (a' := ?_) #[false, true, false, true, false, false, false, true, false] rfl rfl (any_of HT_.out (by kernel_rfl)) (fun _ _ _ h => h) (Or.inl ⟨by rfl, ?_⟩) ?_ ?_; rotate_left; exact qT; rotate_left; exact pT
           refine take_ (i := 0) (N := some 32) (v := ?_) (a' := ?_) #[true, true, false, true, false, false, false, true, false] rfl rfl (take_ofW HT_.out HW_.out (by kernel_rfl)) (fun _ _ _ h => h) (Or.inl ⟨by rfl, ?_⟩) hHeld ?_ ?_; rotate_left; rintro w' ⟨s0, s1, s2⟩; go_simp; with_reducible rfl; rotate_left; exact pT
           refine take_ (i := 2) (N := some 34) (v := ?_) (a' := ?_) #[true, true, true, true, false, false, false, true, false] rfl rfl (take_ofW HT_.out HW_.out (by kernel_rfl)) (fun _ _ _ h => h) (Or.inl ⟨by rfl, ?_⟩) hHeld ?_ ?_; rotate_left; rintro w' ⟨s0, s1, s2⟩; go_simp; with_reducible rfl; rotate_left; exact pT
           refine pure_ (i := 4) (N := some 36) (v := ?_) (a' := ?_) #[true, true, true, true, true, false, false, true, false] rfl rfl (any_of HT_.out (by kernel_rfl)) (fun _ _ _ h => h) (Or.inl ⟨by rfl, ?_⟩) ?_ ?_; rotate_left; exact qT; rotate_left; exact pT
           refine take_ (i := 5) (N := some 37) (v := ?_) (a' := ?_) #[true, true, true, true, true, true, false, true, false] rfl rfl (take_ofW HT_.out HW_.out (by kernel_rfl)) (fun _ _ _ h => h) (Or.inl ⟨by rfl, ?_⟩) hHeld ?_ ?_; rotate_left; rintro w' ⟨s0, s1, s2⟩; go_simp; with_reducible rfl; rotate_left; exact pT
           refine one_ (i := 6) (N := some 38) #[true, true, true, true, true, true, true, true, false] rfl rfl (one_of HT_.out (by kernel_rfl)) (by decide) (fun K hK => ?_)
           refine goes_ Try.func50 (by kernel_rfl) rfl #[.agg #[.string a0_0, .slice (some ad255) l0_1.length c0_1], .string (rdOf ByteArray.empty l0_1 x3_2)] (by rfl) rfl rfl mT ?_
           with_reducible refine (r39_Find.calls k2 a0_0 _ _ l0_1 (rdOf ByteArray.empty l0_1 x3_2) t258 _ ?side1 ?side2 A15.out).mono ?_
           (case side1 => exact cB HR0_1.out HB.out)
           (case side2 => exact HC0_1.out)
           rintro e w22 ⟨rfl, hb⟩
           refine ⟨_, rfl, ?_⟩
           have n0_ := aM (kW BK253.out hb); have n1_ := aM (below_step (bB1 HB.out GE253.out) hb); clear BK253; clear HB; have BK253 := n0_; have HB := n1_; clear n0_ n1_
           (try clear hb)
           (try clear hb2)
           (try clear hk)
           (try clear hi)
           refine hK.out _ _ ⟨(blk_cell BK253.out 0).trans rfl, (blk_cell BK253.out 1).trans rfl, ((HB.out.cell (World.block_lt_of_cell? w _ hw257_0)).trans hw257_0)⟩ (fun hHeld => ?_)
           clear hK K
           refine norm_ (a' := ?_) ?_ ?_
           rotate_left
           ·show Act.put _ (some 38) _ = _
            simp only [Act.put, List.setIfInBounds_toArray, List.set_cons_zero, List.set_cons_succ, i64_w, i32_w]
            rfl
           refine pure_ (i := 8) (N := some 40) (v := ?_) (a' := ?_) #[true, true, true, true, true, true, true, true, true] rfl rfl (any_of HT_.out (by kernel_rfl)) (fun _ _ _ h => h) (Or.inl ⟨by rfl, ?_⟩) ?_ ?_; rotate_left; exact qT; rotate_left; exact pT
           refine done_ (done_of HT_.out (by kernel_rfl)) ?_
           try go_wp2
           go_roundg k2
           case measure => have := HJ3.out; have := HK2.out; omega
           case rel => exact ⟨(wrap64 (x3_2 + 1)), eT, H', ⟨by have := HJ3.out; have := HK2.out; omega⟩, ⟨kB BK253.out⟩, ⟨bB1 HB.out GE253.out⟩⟩
         ·replace c14 := Bool.eq_false_iff.mpr c14
          subst c14
          have H1 : (some 5) = some r := by rw [if_neg (show ¬ (false = true) by decide)] at H; exact H
          clear H; have H := H1; clear H1
          obtain rfl := Option.some.inj H
          have hcz23_0 : wr.cell? ⟨gb253, 0, none⟩ = some (.string a0_0) := (blk_cell BK253.out 0).trans rfl
          have hcz23_1 : wr.cell? ⟨gb253, 1, none⟩ = some (.slice A0_1 l0_1.length c0_1) := (blk_cell BK253.out 1).trans rfl
          have hfz23_0 := blk_frozen BK253.out 0; have hfz23_1 := blk_frozen BK253.out 1; have p255 : 0 ≤ (x3_2 : Int) := dT; have q255 : x3_2 < (l0_1.length : Int) := dT; obtain ⟨ad255, e255, hx255_0⟩ := Kd.at_string HR0_1.out x3_2 p255 q255; cases e255; replace hx255_0 := (HB.out.cell (World.block_lt_of_cell? w _ hx255_0)).trans hx255_0; replace p255 := eq_true p255; replace q255 := eq_true q255
          go_wp2_with (first | ((with_reducible refine gate_callee (f := 49) rfl ?_); refine goesL_ (some 30) rfl rfl Try.func49 (by kernel_rfl) rfl #[.string (rdOf ByteArray.empty l0_1 x3_2)] rfl mT ?_; (with_reducible refine (r39_Name.calls k2 (rdOf ByteArray.empty l0_1 x3_2) false _ A13.out).mono ?_); rintro e w' ⟨rfl, ⟨nd, rfl⟩⟩; refine ⟨_, rfl, ?_⟩))
          go_ret
          exact ⟨rT, bB1 HB.out GE253.out⟩
        ·rw [if_neg c12] at H
         exact absurd H (by simp)
       ·rw [if_neg c11] at H
        have c11b0 : decide (x3_2 < (l0_1.length : Int)) = false := decide_eq_false c11; clear c11
        obtain rfl := Option.some.inj H
        have hcz24_0 : wr.cell? ⟨gb253, 0, none⟩ = some (.string a0_0) := (blk_cell BK253.out 0).trans rfl
        have hcz24_1 : wr.cell? ⟨gb253, 1, none⟩ = some (.slice A0_1 l0_1.length c0_1) := (blk_cell BK253.out 1).trans rfl
        have hfz24_0 := blk_frozen BK253.out 0; have hfz24_1 := blk_frozen BK253.out 1
        go_wp2
        go_ret
        exact ⟨rT, bB1 HB.out GE253.out⟩
 ·replace c3 := Bool.eq_false_iff.mpr c3
  subst c3
  have H1 : (some 5) = some r := by rw [if_neg (show ¬ (false = true) by decide)] at H; exact H
  clear H; have H := H1; clear H1
  obtain rfl := Option.some.inj H
  go_enter Try.func32, Try.ntmps32
  go_wp2_with (first | ((with_reducible refine gate_dst (N := 1) rfl ?_); (try (refine gate_guard (by rfl) ?_; dsimp only)); refine box_event ?hg (N := 1) ?hd (cs := #[.string a0_0, .slice A0_1 l0_1.length c0_1]) (t := 51) ?hr ?_; (case hd => rfl); (case hg => rfl); (case hr => first | (go_simp; done) | (go_simp; rfl)); intro gb253 hg w25 hbox hb; have n0_ := aM (below_step (bB HB.out) hb); have n1_ := aM (hbox); have n2_ := aM ((by rw [hg]; exact (below_size (bB HB.out)) : w.heap.size ≤ gb253)); have n3_ := aM ((by rw [hg]; exact (below_size (bB HB.out)) : w.heap.size ≤ gb253)); clear HB; have HB := n0_; have BK253 := n1_; have GW253 := n2_; have GE253 := n3_; clear n0_ n1_ n2_ n3_; clear hb hbox hg; have hcz26_0 : w25.cell? ⟨gb253, 0, none⟩ = some (.string a0_0) := (blk_cell BK253.out 0).trans rfl; have hcz26_1 : w25.cell? ⟨gb253, 1, none⟩ = some (.slice A0_1 l0_1.length c0_1) := (blk_cell BK253.out 1).trans rfl; have hfz26_0 := blk_frozen BK253.out 0; have hfz26_1 := blk_frozen BK253.out 1) | ((with_reducible refine gate_callee (f := 49) rfl ?_); refine goesL_ (some 6) rfl rfl Try.func49 (by kernel_rfl) rfl #[.string a0_0] rfl mT ?_; (with_reducible refine (r39_Name.calls k a0_0 false _ A2.out).mono ?_); rintro e w' ⟨rfl, ⟨nd, rfl⟩⟩; refine ⟨_, rfl, ?_⟩))
  go_ret
  exact ⟨rT, bB1 HB.out GE253.out⟩




/-! ### r09_Name: function 51 -/
mutual
def r09_Name.j0 : Nat → ByteArray → Bool → Option (Bool)
 | 0, _, _ => none
 | k + 1, x0, x14 => if x14 = true then (some false) else (r09_Name.l0 k x0 0)
def r09_Name.l0 : Nat → ByteArray → Int → Option (Bool)
 | 0, _, _ => none
 | k + 1, x0, x3 => if x3 < (x0.size : Int) then (if 0 ≤ x3 then (if (bt x0 x3) ≥ 97 then (if (bt x0 x3) ≤ 122 then (if (bt x0 x3) ≥ 48 then (if (bt x0 x3) ≤ 57 then (r09_Name.l0 k x0 (wrap64 (x3 + 1))) else (r09_Name.l0 k x0 (wrap64 (x3 + 1)))) else (r09_Name.l0 k x0 (wrap64 (x3 + 1)))) else (if (bt x0 x3) ≥ 48 then (if (bt x0 x3) ≤ 57 then (if ((bt x0 x3) = 95) then (r09_Name.l0 k x0 (wrap64 (x3 + 1))) else (if x3 = 0 then (some false) else (r09_Name.l0 k x0 (wrap64 (x3 + 1))))) else (if ((bt x0 x3) = 95) then (r09_Name.l0 k x0 (wrap64 (x3 + 1))) else (if ((bt x0 x3) = 46) then (if x3 = 0 then (some false) else (r09_Name.l0 k x0 (wrap64 (x3 + 1)))) else (some false)))) else (if ((bt x0 x3) = 95) then (r09_Name.l0 k x0 (wrap64 (x3 + 1))) else (if ((bt x0 x3) = 46) then (if x3 = 0 then (some false) else (r09_Name.l0 k x0 (wrap64 (x3 + 1)))) else (some false))))) else (if (bt x0 x3) ≥ 48 then (if (bt x0 x3) ≤ 57 then (if ((bt x0 x3) = 95) then (r09_Name.l0 k x0 (wrap64 (x3 + 1))) else (if x3 = 0 then (some false) else (r09_Name.l0 k x0 (wrap64 (x3 + 1))))) else (if ((bt x0 x3) = 95) then (r09_Name.l0 k x0 (wrap64 (x3 + 1))) else (if ((bt x0 x3) = 46) then (if x3 = 0 then (some false) else (r09_Name.l0 k x0 (wrap64 (x3 + 1)))) else (some false)))) else (if ((bt x0 x3) = 95) then (r09_Name.l0 k x0 (wrap64 (x3 + 1))) else (if ((bt x0 x3) = 46) then (if x3 = 0 then (some false) else (r09_Name.l0 k x0 (wrap64 (x3 + 1)))) else (some false))))) else (none)) else (some true)
end
def r09_Name.f (k : Nat) (a0 : ByteArray) : Option (Bool) := if (a0.size : Int) < 1 then (r09_Name.j0 k a0 true) else (r09_Name.j0 k a0 (decide ((a0.size : Int) > 16)))
theorem r09_Name.mono_l : ∀ k, (∀ y0 y1, LeO (r09_Name.j0 k y0 y1) (r09_Name.j0 (k + 1) y0 y1)) ∧ (∀ y0 y1, LeO (r09_Name.l0 k y0 y1) (r09_Name.l0 (k + 1) y0 y1))
 | 0 => ⟨fun _ _ r h => by simp [r09_Name.j0] at h, fun _ _ r h => by simp [r09_Name.l0] at h⟩
 | k + 1 => by
  obtain ⟨ih0, ih1⟩ := r09_Name.mono_l k
  refine ⟨?_, ?_⟩
  ·intro y0 y1
   unfold r09_Name.j0
   repeat' first
   | (with_reducible first | exact ih0 _ _ | exact ih1 _ _ | exact LeO.refl _ | exact LeO.none _ | refine LeO.ite ?_ ?_ | refine LeO.bind ?_ (fun _ => ?_))
   | exact LeO.none _
   | refine LeO.ite ?_ ?_
   | refine LeO.bind ?_ (fun _ => ?_)
  ·intro y0 y1
   unfold r09_Name.l0
   repeat' first
   | (with_reducible first | exact ih0 _ _ | exact ih1 _ _ | exact LeO.refl _ | exact LeO.none _ | refine LeO.ite ?_ ?_ | refine LeO.bind ?_ (fun _ => ?_))
   | exact LeO.none _
   | refine LeO.ite ?_ ?_
   | refine LeO.bind ?_ (fun _ => ?_)
theorem r09_Name.mono : ∀ a0 k, LeO (r09_Name.f k a0) (r09_Name.f (k + 1) a0) := by
 intro a0 k
 obtain ⟨ih0, ih1⟩ := r09_Name.mono_l k
 unfold r09_Name.f
 repeat' first
   | (with_reducible first | exact ih0 _ _ | exact ih1 _ _ | exact LeO.refl _ | exact LeO.none _ | refine LeO.ite ?_ ?_ | refine LeO.bind ?_ (fun _ => ?_))
   | exact LeO.none _
   | refine LeO.ite ?_ ?_
   | refine LeO.bind ?_ (fun _ => ?_)
set_option maxHeartbeats 8000000 in
set_option maxRecDepth 100000 in
theorem r09_Name.calls (k : Nat) (a0 : ByteArray) (r : Bool) (w : World) (h : r09_Name.f k a0 = some r) :
  Calls Try.prog 51 #[.string a0] w fun e w' => e = .returned (.bool r) ∧ Drawn0 w w' := by
 have H : (if (a0.size : Int) < 1 then (r09_Name.j0 k a0 true) else (r09_Name.j0 k a0 (decide ((a0.size : Int) > 16)))) = some r := h; clear h; have HC2 := aM H; clear H
 go_enter Try.func51, Try.ntmps51
 go_upto_region 1 with (fail)
 go_cut [14] (fun v14 wc => ∃ (kq : Nat) (x14_1 : Bool), v14 = .bool x14_1 ∧ Aside0 (r09_Name.j0 kq a0 x14_1 = some r) ∧ Aside0 (kq ≤ k) ∧ Drawn0 w wc)
 case first =>
  have H := HC2.out; clear HC2
  by_cases c3 : (a0.size : Int) < 1
  ·rw [if_pos c3] at H
   have c3b0 : decide ((a0.size : Int) < 1) = true := decide_eq_true c3; have c3b1 : decide (a0.size < 1) = true := decide_eq_true (by omega); clear c3
   (first | rw [c3b0] | (simp only [i64_w, i32_w]; rw [c3b0]) | skip)
   have H' := aM H
   clear H
   go_wp2
   go_meet
   case rel => exact ⟨_, (true), eT, H', ⟨by first | omega | exact Nat.le_refl _⟩, by repeat (first | exact Drawn0.refl _ | apply Drawn0.step)⟩
  ·rw [if_neg c3] at H
   have c3b0 : decide ((a0.size : Int) < 1) = false := decide_eq_false c3; have c3b1 : decide (a0.size < 1) = false := decide_eq_false (by omega); clear c3
   (first | rw [c3b0] | (simp only [i64_w, i32_w]; rw [c3b0]) | skip)
   have H' := aM H
   clear H
   go_wp2
   go_meet
   case rel => exact ⟨_, (decide ((a0.size : Int) > 16)), eT, H', ⟨by first | omega | exact Nat.le_refl _⟩, by repeat (first | exact Drawn0.refl _ | apply Drawn0.step)⟩
 case rest =>
  clear HC2
  obtain ⟨kq, x14_1, rfl, HA, HJ1, ⟨mc1, rfl⟩⟩ := hcut
  cases kq with
  | zero => exact absurd HA.out (by simp [r09_Name.j0])
  | succ kj1 =>
   have H := HA.out; clear HA
   simp only [r09_Name.j0] at H
   by_cases c4 : x14_1 = true
   ·subst c4
    have H1 : (some false) = some r := by rw [if_pos rfl] at H; exact H
    clear H; have H := H1; clear H1
    obtain rfl := Option.some.inj H
    go_wp2
    go_ret
    exact ⟨by first | rfl | (simp; done) | (simp [*]; done), by repeat (first | exact Drawn0.refl _ | apply Drawn0.step)⟩
   ·replace c4 := Bool.eq_false_iff.mpr c4
    subst c4
    have H1 : (r09_Name.l0 kj1 a0 0) = some r := by rw [if_neg (show ¬ (false = true) by decide)] at H; exact H
    clear H; have H := H1; clear H1
    have H' := aM H
    clear H
    go_wp2
    go_loopg [3] kj1 (fun kq v3 w' => ∃ (x3_2 : Int), v3 = .int .i64 x3_2 ∧ Aside0 (r09_Name.l0 kq a0 x3_2 = some r) ∧ Aside0 (kq ≤ kj1) ∧ Drawn0 w w')
    case atStart => exact ⟨(0), eT, H', ⟨Nat.le_refl _⟩, by repeat (first | exact Drawn0.refl _ | apply Drawn0.step)⟩
    case round =>
     clear H'
     obtain ⟨x3_2, rfl, HA, HK2, ⟨m2, rfl⟩⟩ := hrel
     cases gk with
     | zero => exact absurd HA.out (by simp [r09_Name.l0])
     | succ k2 =>
      have H := HA.out; clear HA
      simp only [r09_Name.l0] at H
      by_cases c5 : x3_2 < (a0.size : Int)
      ·rw [if_pos c5] at H
       have c5b0 : decide (x3_2 < (a0.size : Int)) = true := decide_eq_true c5; clear c5
       by_cases c6 : 0 ≤ x3_2
       ·rw [if_pos c6] at H
        have c6b0 : decide (0 ≤ x3_2) = true := decide_eq_true c6; clear c6
        by_cases c8 : (bt a0 x3_2) ≥ 97
        ·rw [if_pos c8] at H
         have c8b0 : decide (97 ≤ (bt a0 x3_2)) = true := decide_eq_true c8; clear c8
         by_cases c9 : (bt a0 x3_2) ≤ 122
         ·rw [if_pos c9] at H
          have c9b0 : decide ((bt a0 x3_2) ≤ 122) = true := decide_eq_true c9; clear c9
          by_cases c10 : (bt a0 x3_2) ≥ 48
          ·rw [if_pos c10] at H
           have c10b0 : decide (48 ≤ (bt a0 x3_2)) = true := decide_eq_true c10; clear c10
           by_cases c11 : (bt a0 x3_2) ≤ 57
           ·rw [if_pos c11] at H
            have c11b0 : decide ((bt a0 x3_2) ≤ 57) = true := decide_eq_true c11; clear c11
            have H' := aM H
            clear H; have p7 : 0 ≤ (x3_2 : Int) := dT; have q7 : x3_2 < (a0.size : Int) := dT; have hx7 := bt_at a0 x3_2; replace p7 := eq_true p7; replace q7 := eq_true q7
            go_wp2
            go_roundg k2
            case measure => have := HJ1.out; have := HK2.out; omega
            case rel => exact ⟨(wrap64 (x3_2 + 1)), eT, H', ⟨by have := HJ1.out; have := HK2.out; omega⟩, by repeat (first | exact Drawn0.refl _ | apply Drawn0.step)⟩
           ·rw [if_neg c11] at H
            have c11b0 : decide ((bt a0 x3_2) ≤ 57) = false := decide_eq_false c11; clear c11
            have H' := aM H
            clear H; have p7 : 0 ≤ (x3_2 : Int) := dT; have q7 : x3_2 < (a0.size : Int) := dT; have hx7 := bt_at a0 x3_2; replace p7 := eq_true p7; replace q7 := eq_true q7
            go_wp2
            go_roundg k2
            case measure => have := HJ1.out; have := HK2.out; omega
            case rel => exact ⟨(wrap64 (x3_2 + 1)), eT, H', ⟨by have := HJ1.out; have := HK2.out; omega⟩, by repeat (first | exact Drawn0.refl _ | apply Drawn0.step)⟩
          ·rw [if_neg c10] at H
           have c10b0 : decide (48 ≤ (bt a0 x3_2)) = false := decide_eq_false c10; clear c10
           have H' := aM H
           clear H; have p7 : 0 ≤ (x3_2 : Int) := dT; have q7 : x3_2 < (a0.size : Int) := dT; have hx7 := bt_at a0 x3_2; replace p7 := eq_true p7; replace q7 := eq_true q7
           go_wp2
           go_roundg k2
           case measure => have := HJ1.out; have := HK2.out; omega
           case rel => exact ⟨(wrap64 (x3_2 + 1)), eT, H', ⟨by have := HJ1.out; have := HK2.out; omega⟩, by repeat (first | exact Drawn0.refl _ | apply Drawn0.step)⟩
         ·rw [if_neg c9] at H
          have c9b0 : decide ((bt a0 x3_2) ≤ 122) = false := decide_eq_false c9; clear c9
          by_cases c12 : (bt a0 x3_2) ≥ 48
          ·rw [if_pos c12] at H
           have c12b0 : decide (48 ≤ (bt a0 x3_2)) = true := decide_eq_true c12; clear c12
           by_cases c13 : (bt a0 x3_2) ≤ 57
           ·rw [if_pos c13] at H
            have c13b0 : decide ((bt a0 x3_2) ≤ 57) = true := decide_eq_true c13; clear c13
            by_cases c14 : ((bt a0 x3_2) = 95)
            ·rw [if_pos c14] at H
             have c14b0 : ((bt a0 x3_2) == 95) = true := beq_iff_eq.mpr c14; have c14b1 : ((bt a0 x3_2) != 95) = false := bne_eq_false_iff_eq.mpr c14; clear c14
             have H' := aM H
             clear H; have p7 : 0 ≤ (x3_2 : Int) := dT; have q7 : x3_2 < (a0.size : Int) := dT; have hx7 := bt_at a0 x3_2; replace p7 := eq_true p7; replace q7 := eq_true q7
             go_wp2
             go_roundg k2
             case measure => have := HJ1.out; have := HK2.out; omega
             case rel => exact ⟨(wrap64 (x3_2 + 1)), eT, H', ⟨by have := HJ1.out; have := HK2.out; omega⟩, by repeat (first | exact Drawn0.refl _ | apply Drawn0.step)⟩
            ·rw [if_neg c14] at H
             have c14b0 : ((bt a0 x3_2) == 95) = false := beq_eq_false_iff_ne.mpr c14; have c14b1 : ((bt a0 x3_2) != 95) = true := bne_iff_ne.mpr c14
             by_cases c15 : x3_2 = 0
             ·rw [if_pos c15] at H
              have c15b0 : (x3_2 == 0) = true := beq_iff_eq.mpr c15; have c15b1 : (x3_2 != 0) = false := bne_eq_false_iff_eq.mpr c15; clear c15
              obtain rfl := Option.some.inj H
              have p7 : 0 ≤ (x3_2 : Int) := dT; have q7 : x3_2 < (a0.size : Int) := dT; have hx7 := bt_at a0 x3_2; replace p7 := eq_true p7; replace q7 := eq_true q7
              go_wp2
              go_ret
              exact ⟨by first | rfl | (simp; done) | (simp [*]; done), by repeat (first | exact Drawn0.refl _ | apply Drawn0.step)⟩
             ·rw [if_neg c15] at H
              have c15b0 : (x3_2 == 0) = false := beq_eq_false_iff_ne.mpr c15; have c15b1 : (x3_2 != 0) = true := bne_iff_ne.mpr c15
              have H' := aM H
              clear H; have p7 : 0 ≤ (x3_2 : Int) := dT; have q7 : x3_2 < (a0.size : Int) := dT; have hx7 := bt_at a0 x3_2; replace p7 := eq_true p7; replace q7 := eq_true q7
              go_wp2
              go_roundg k2
              case measure => have := HJ1.out; have := HK2.out; omega
              case rel => exact ⟨(wrap64 (x3_2 + 1)), eT, H', ⟨by have := HJ1.out; have := HK2.out; omega⟩, by repeat (first | exact Drawn0.refl _ | apply Drawn0.step)⟩
           ·rw [if_neg c13] at H
            have c13b0 : decide ((bt a0 x3_2) ≤ 57) = false := decide_eq_false c13; clear c13
            by_cases c16 : ((bt a0 x3_2) = 95)
            ·rw [if_pos c16] at H
             have c16b0 : ((bt a0 x3_2) == 95) = true := beq_iff_eq.mpr c16; have c16b1 : ((bt a0 x3_2) != 95) = false := bne_eq_false_iff_eq.mpr c16; clear c16
             have H' := aM H
             clear H; have p7 : 0 ≤ (x3_2 : Int) := dT; have q7 : x3_2 < (a0.size : Int) := dT; have hx7 := bt_at a0 x3_2; replace p7 := eq_true p7; replace q7 := eq_true q7
             go_wp2
             go_roundg k2
             case measure => have := HJ1.out; have := HK2.out; omega
             case rel => exact ⟨(wrap64 (x3_2 + 1)), eT, H', ⟨by have := HJ1.out; have := HK2.out; omega⟩, by repeat (first | exact Drawn0.refl _ | apply Drawn0.step)⟩
            ·rw [if_neg c16] at H
             have c16b0 : ((bt a0 x3_2) == 95) = false := beq_eq_false_iff_ne.mpr c16; have c16b1 : ((bt a0 x3_2) != 95) = true := bne_iff_ne.mpr c16
             by_cases c17 : ((bt a0 x3_2) = 46)
             ·rw [if_pos c17] at H
              have c17b0 : ((bt a0 x3_2) == 46) = true := beq_iff_eq.mpr c17; have c17b1 : ((bt a0 x3_2) != 46) = false := bne_eq_false_iff_eq.mpr c17; clear c17
              by_cases c18 : x3_2 = 0
              ·rw [if_pos c18] at H
               have c18b0 : (x3_2 == 0) = true := beq_iff_eq.mpr c18; have c18b1 : (x3_2 != 0) = false := bne_eq_false_iff_eq.mpr c18; clear c18
               obtain rfl := Option.some.inj H
               have p7 : 0 ≤ (x3_2 : Int) := dT; have q7 : x3_2 < (a0.size : Int) := dT; have hx7 := bt_at a0 x3_2; replace p7 := eq_true p7; replace q7 := eq_true q7
               go_wp2
               go_ret
               exact ⟨by first | rfl | (simp; done) | (simp [*]; done), by repeat (first | exact Drawn0.refl _ | apply Drawn0.step)⟩
              ·rw [if_neg c18] at H
               have c18b0 : (x3_2 == 0) = false := beq_eq_false_iff_ne.mpr c18; have c18b1 : (x3_2 != 0) = true := bne_iff_ne.mpr c18
               have H' := aM H
               clear H; have p7 : 0 ≤ (x3_2 : Int) := dT; have q7 : x3_2 < (a0.size : Int) := dT; have hx7 := bt_at a0 x3_2; replace p7 := eq_true p7; replace q7 := eq_true q7
               go_wp2
               go_roundg k2
               case measure => have := HJ1.out; have := HK2.out; omega
               case rel => exact ⟨(wrap64 (x3_2 + 1)), eT, H', ⟨by have := HJ1.out; have := HK2.out; omega⟩, by repeat (first | exact Drawn0.refl _ | apply Drawn0.step)⟩
             ·rw [if_neg c17] at H
              have c17b0 : ((bt a0 x3_2) == 46) = false := beq_eq_false_iff_ne.mpr c17; have c17b1 : ((bt a0 x3_2) != 46) = true := bne_iff_ne.mpr c17
              obtain rfl := Option.some.inj H
              have p7 : 0 ≤ (x3_2 : Int) := dT; have q7 : x3_2 < (a0.size : Int) := dT; have hx7 := bt_at a0 x3_2; replace p7 := eq_true p7; replace q7 := eq_true q7
              go_wp2
              go_ret
              exact ⟨by first | rfl | (simp; done) | (simp [*]; done), by repeat (first | exact Drawn0.refl _ | apply Drawn0.step)⟩
          ·rw [if_neg c12] at H
           have c12b0 : decide (48 ≤ (bt a0 x3_2)) = false := decide_eq_false c12; clear c12
           by_cases c19 : ((bt a0 x3_2) = 95)
           ·rw [if_pos c19] at H
            have c19b0 : ((bt a0 x3_2) == 95) = true := beq_iff_eq.mpr c19; have c19b1 : ((bt a0 x3_2) != 95) = false := bne_eq_false_iff_eq.mpr c19; clear c19
            have H' := aM H
            clear H; have p7 : 0 ≤ (x3_2 : Int) := dT; have q7 : x3_2 < (a0.size : Int) := dT; have hx7 := bt_at a0 x3_2; replace p7 := eq_true p7; replace q7 := eq_true q7
            go_wp2
            go_roundg k2
            case measure => have := HJ1.out; have := HK2.out; omega
            case rel => exact ⟨(wrap64 (x3_2 + 1)), eT, H', ⟨by have := HJ1.out; have := HK2.out; omega⟩, by repeat (first | exact Drawn0.refl _ | apply Drawn0.step)⟩
           ·rw [if_neg c19] at H
            have c19b0 : ((bt a0 x3_2) == 95) = false := beq_eq_false_iff_ne.mpr c19; have c19b1 : ((bt a0 x3_2) != 95) = true := bne_iff_ne.mpr c19
            by_cases c20 : ((bt a0 x3_2) = 46)
            ·rw [if_pos c20] at H
             have c20b0 : ((bt a0 x3_2) == 46) = true := beq_iff_eq.mpr c20; have c20b1 : ((bt a0 x3_2) != 46) = false := bne_eq_false_iff_eq.mpr c20; clear c20
             by_cases c21 : x3_2 = 0
             ·rw [if_pos c21] at H
              have c21b0 : (x3_2 == 0) = true := beq_iff_eq.mpr c21; have c21b1 : (x3_2 != 0) = false := bne_eq_false_iff_eq.mpr c21; clear c21
              obtain rfl := Option.some.inj H
              have p7 : 0 ≤ (x3_2 : Int) := dT; have q7 : x3_2 < (a0.size : Int) := dT; have hx7 := bt_at a0 x3_2; replace p7 := eq_true p7; replace q7 := eq_true q7
              go_wp2
              go_ret
              exact ⟨by first | rfl | (simp; done) | (simp [*]; done), by repeat (first | exact Drawn0.refl _ | apply Drawn0.step)⟩
             ·rw [if_neg c21] at H
              have c21b0 : (x3_2 == 0) = false := beq_eq_false_iff_ne.mpr c21; have c21b1 : (x3_2 != 0) = true := bne_iff_ne.mpr c21
              have H' := aM H
              clear H; have p7 : 0 ≤ (x3_2 : Int) := dT; have q7 : x3_2 < (a0.size : Int) := dT; have hx7 := bt_at a0 x3_2; replace p7 := eq_true p7; replace q7 := eq_true q7
              go_wp2
              go_roundg k2
              case measure => have := HJ1.out; have := HK2.out; omega
              case rel => exact ⟨(wrap64 (x3_2 + 1)), eT, H', ⟨by have := HJ1.out; have := HK2.out; omega⟩, by repeat (first | exact Drawn0.refl _ | apply Drawn0.step)⟩
            ·rw [if_neg c20] at H
             have c20b0 : ((bt a0 x3_2) == 46) = false := beq_eq_false_iff_ne.mpr c20; have c20b1 : ((bt a0 x3_2) != 46) = true := bne_iff_ne.mpr c20
             obtain rfl := Option.some.inj H
             have p7 : 0 ≤ (x3_2 : Int) := dT; have q7 : x3_2 < (a0.size : Int) := dT; have hx7 := bt_at a0 x3_2; replace p7 := eq_true p7; replace q7 := eq_true q7
             go_wp2
             go_ret
             exact ⟨by first | rfl | (simp; done) | (simp [*]; done), by repeat (first | exact Drawn0.refl _ | apply Drawn0.step)⟩
        ·rw [if_neg c8] at H
         have c8b0 : decide (97 ≤ (bt a0 x3_2)) = false := decide_eq_false c8; clear c8
         by_cases c22 : (bt a0 x3_2) ≥ 48
         ·rw [if_pos c22] at H
          have c22b0 : decide (48 ≤ (bt a0 x3_2)) = true := decide_eq_true c22; clear c22
          by_cases c23 : (bt a0 x3_2) ≤ 57
          ·rw [if_pos c23] at H
           have c23b0 : decide ((bt a0 x3_2) ≤ 57) = true := decide_eq_true c23; clear c23
           by_cases c24 : ((bt a0 x3_2) = 95)
           ·rw [if_pos c24] at H
            have c24b0 : ((bt a0 x3_2) == 95) = true := beq_iff_eq.mpr c24; have c24b1 : ((bt a0 x3_2) != 95) = false := bne_eq_false_iff_eq.mpr c24; clear c24
            have H' := aM H
            clear H; have p7 : 0 ≤ (x3_2 : Int) := dT; have q7 : x3_2 < (a0.size : Int) := dT; have hx7 := bt_at a0 x3_2; replace p7 := eq_true p7; replace q7 := eq_true q7
            go_wp2
            go_roundg k2
            case measure => have := HJ1.out; have := HK2.out; omega
            case rel => exact ⟨(wrap64 (x3_2 + 1)), eT, H', ⟨by have := HJ1.out; have := HK2.out; omega⟩, by repeat (first | exact Drawn0.refl _ | apply Drawn0.step)⟩
           ·rw [if_neg c24] at H
            have c24b0 : ((bt a0 x3_2) == 95) = false := beq_eq_false_iff_ne.mpr c24; have c24b1 : ((bt a0 x3_2) != 95) = true := bne_iff_ne.mpr c24
            by_cases c25 : x3_2 = 0
            ·rw [if_pos c25] at H
             have c25b0 : (x3_2 == 0) = true := beq_iff_eq.mpr c25; have c25b1 : (x3_2 != 0) = false := bne_eq_false_iff_eq.mpr c25; clear c25
             obtain rfl := Option.some.inj H
             have p7 : 0 ≤ (x3_2 : Int) := dT; have q7 : x3_2 < (a0.size : Int) := dT; have hx7 := bt_at a0 x3_2; replace p7 := eq_true p7; replace q7 := eq_true q7
             go_wp2
             go_ret
             exact ⟨by first | rfl | (simp; done) | (simp [*]; done), by repeat (first | exact Drawn0.refl _ | apply Drawn0.step)⟩
            ·rw [if_neg c25] at H
             have c25b0 : (x3_2 == 0) = false := beq_eq_false_iff_ne.mpr c25; have c25b1 : (x3_2 != 0) = true := bne_iff_ne.mpr c25
             have H' := aM H
             clear H; have p7 : 0 ≤ (x3_2 : Int) := dT; have q7 : x3_2 < (a0.size : Int) := dT; have hx7 := bt_at a0 x3_2; replace p7 := eq_true p7; replace q7 := eq_true q7
             go_wp2
             go_roundg k2
             case measure => have := HJ1.out; have := HK2.out; omega
             case rel => exact ⟨(wrap64 (x3_2 + 1)), eT, H', ⟨by have := HJ1.out; have := HK2.out; omega⟩, by repeat (first | exact Drawn0.refl _ | apply Drawn0.step)⟩
          ·rw [if_neg c23] at H
           have c23b0 : decide ((bt a0 x3_2) ≤ 57) = false := decide_eq_false c23; clear c23
           by_cases c26 : ((bt a0 x3_2) = 95)
           ·rw [if_pos c26] at H
            have c26b0 : ((bt a0 x3_2) == 95) = true := beq_iff_eq.mpr c26; have c26b1 : ((bt a0 x3_2) != 95) = false := bne_eq_false_iff_eq.mpr c26; clear c26
            have H' := aM H
            clear H; have p7 : 0 ≤ (x3_2 : Int) := dT; have q7 : x3_2 < (a0.size : Int) := dT; have hx7 := bt_at a0 x3_2; replace p7 := eq_true p7; replace q7 := eq_true q7
            go_wp2
            go_roundg k2
            case measure => have := HJ1.out; have := HK2.out; omega
            case rel => exact ⟨(wrap64 (x3_2 + 1)), eT, H', ⟨by have := HJ1.out; have := HK2.out; omega⟩, by repeat (first | exact Drawn0.refl _ | apply Drawn0.step)⟩
           ·rw [if_neg c26] at H
            have c26b0 : ((bt a0 x3_2) == 95) = false := beq_eq_false_iff_ne.mpr c26; have c26b1 : ((bt a0 x3_2) != 95) = true := bne_iff_ne.mpr c26
            by_cases c27 : ((bt a0 x3_2) = 46)
            ·rw [if_pos c27] at H
             have c27b0 : ((bt a0 x3_2) == 46) = true := beq_iff_eq.mpr c27; have c27b1 : ((bt a0 x3_2) != 46) = false := bne_eq_false_iff_eq.mpr c27; clear c27
             by_cases c28 : x3_2 = 0
             ·rw [if_pos c28] at H
              have c28b0 : (x3_2 == 0) = true := beq_iff_eq.mpr c28; have c28b1 : (x3_2 != 0) = false := bne_eq_false_iff_eq.mpr c28; clear c28
              obtain rfl := Option.some.inj H
              have p7 : 0 ≤ (x3_2 : Int) := dT; have q7 : x3_2 < (a0.size : Int) := dT; have hx7 := bt_at a0 x3_2; replace p7 := eq_true p7; replace q7 := eq_true q7
              go_wp2
              go_ret
              exact ⟨by first | rfl | (simp; done) | (simp [*]; done), by repeat (first | exact Drawn0.refl _ | apply Drawn0.step)⟩
             ·rw [if_neg c28] at H
              have c28b0 : (x3_2 == 0) = false := beq_eq_false_iff_ne.mpr c28; have c28b1 : (x3_2 != 0) = true := bne_iff_ne.mpr c28
              have H' := aM H
              clear H; have p7 : 0 ≤ (x3_2 : Int) := dT; have q7 : x3_2 < (a0.size : Int) := dT; have hx7 := bt_at a0 x3_2; replace p7 := eq_true p7; replace q7 := eq_true q7
              go_wp2
              go_roundg k2
              case measure => have := HJ1.out; have := HK2.out; omega
              case rel => exact ⟨(wrap64 (x3_2 + 1)), eT, H', ⟨by have := HJ1.out; have := HK2.out; omega⟩, by repeat (first | exact Drawn0.refl _ | apply Drawn0.step)⟩
            ·rw [if_neg c27] at H
             have c27b0 : ((bt a0 x3_2) == 46) = false := beq_eq_false_iff_ne.mpr c27; have c27b1 : ((bt a0 x3_2) != 46) = true := bne_iff_ne.mpr c27
             obtain rfl := Option.some.inj H
             have p7 : 0 ≤ (x3_2 : Int) := dT; have q7 : x3_2 < (a0.size : Int) := dT; have hx7 := bt_at a0 x3_2; replace p7 := eq_true p7; replace q7 := eq_true q7
             go_wp2
             go_ret
             exact ⟨by first | rfl | (simp; done) | (simp [*]; done), by repeat (first | exact Drawn0.refl _ | apply Drawn0.step)⟩
         ·rw [if_neg c22] at H
          have c22b0 : decide (48 ≤ (bt a0 x3_2)) = false := decide_eq_false c22; clear c22
          by_cases c29 : ((bt a0 x3_2) = 95)
          ·rw [if_pos c29] at H
           have c29b0 : ((bt a0 x3_2) == 95) = true := beq_iff_eq.mpr c29; have c29b1 : ((bt a0 x3_2) != 95) = false := bne_eq_false_iff_eq.mpr c29; clear c29
           have H' := aM H
           clear H; have p7 : 0 ≤ (x3_2 : Int) := dT; have q7 : x3_2 < (a0.size : Int) := dT; have hx7 := bt_at a0 x3_2; replace p7 := eq_true p7; replace q7 := eq_true q7
           go_wp2
           go_roundg k2
           case measure => have := HJ1.out; have := HK2.out; omega
           case rel => exact ⟨(wrap64 (x3_2 + 1)), eT, H', ⟨by have := HJ1.out; have := HK2.out; omega⟩, by repeat (first | exact Drawn0.refl _ | apply Drawn0.step)⟩
          ·rw [if_neg c29] at H
           have c29b0 : ((bt a0 x3_2) == 95) = false := beq_eq_false_iff_ne.mpr c29; have c29b1 : ((bt a0 x3_2) != 95) = true := bne_iff_ne.mpr c29
           by_cases c30 : ((bt a0 x3_2) = 46)
           ·rw [if_pos c30] at H
            have c30b0 : ((bt a0 x3_2) == 46) = true := beq_iff_eq.mpr c30; have c30b1 : ((bt a0 x3_2) != 46) = false := bne_eq_false_iff_eq.mpr c30; clear c30
            by_cases c31 : x3_2 = 0
            ·rw [if_pos c31] at H
             have c31b0 : (x3_2 == 0) = true := beq_iff_eq.mpr c31; have c31b1 : (x3_2 != 0) = false := bne_eq_false_iff_eq.mpr c31; clear c31
             obtain rfl := Option.some.inj H
             have p7 : 0 ≤ (x3_2 : Int) := dT; have q7 : x3_2 < (a0.size : Int) := dT; have hx7 := bt_at a0 x3_2; replace p7 := eq_true p7; replace q7 := eq_true q7
             go_wp2
             go_ret
             exact ⟨by first | rfl | (simp; done) | (simp [*]; done), by repeat (first | exact Drawn0.refl _ | apply Drawn0.step)⟩
            ·rw [if_neg c31] at H
             have c31b0 : (x3_2 == 0) = false := beq_eq_false_iff_ne.mpr c31; have c31b1 : (x3_2 != 0) = true := bne_iff_ne.mpr c31
             have H' := aM H
             clear H; have p7 : 0 ≤ (x3_2 : Int) := dT; have q7 : x3_2 < (a0.size : Int) := dT; have hx7 := bt_at a0 x3_2; replace p7 := eq_true p7; replace q7 := eq_true q7
             go_wp2
             go_roundg k2
             case measure => have := HJ1.out; have := HK2.out; omega
             case rel => exact ⟨(wrap64 (x3_2 + 1)), eT, H', ⟨by have := HJ1.out; have := HK2.out; omega⟩, by repeat (first | exact Drawn0.refl _ | apply Drawn0.step)⟩
           ·rw [if_neg c30] at H
            have c30b0 : ((bt a0 x3_2) == 46) = false := beq_eq_false_iff_ne.mpr c30; have c30b1 : ((bt a0 x3_2) != 46) = true := bne_iff_ne.mpr c30
            obtain rfl := Option.some.inj H
            have p7 : 0 ≤ (x3_2 : Int) := dT; have q7 : x3_2 < (a0.size : Int) := dT; have hx7 := bt_at a0 x3_2; replace p7 := eq_true p7; replace q7 := eq_true q7
            go_wp2
            go_ret
            exact ⟨by first | rfl | (simp; done) | (simp [*]; done), by repeat (first | exact Drawn0.refl _ | apply Drawn0.step)⟩
       ·rw [if_neg c6] at H
        exact absurd H (by simp)
      ·rw [if_neg c5] at H
       have c5b0 : decide (x3_2 < (a0.size : Int)) = false := decide_eq_false c5; clear c5
       obtain rfl := Option.some.inj H
       go_wp2
       go_ret
       exact ⟨by first | rfl | (simp; done) | (simp [*]; done), by repeat (first | exact Drawn0.refl _ | apply Drawn0.step)⟩


/-! ### r40_variable: function 33 -/
def r40_variable.l0 : Nat → List (S51) → Int → Int → ByteArray → List (S48) → List (S62) → List (S111) → List (S111) → ByteArray → Int → Option (Int)
 | 0, _, _, _, _, _, _, _, _, _, _ => none
 | k + 1, x0, x2, x8, x260000, x260001, x260002, x260003, x260004, x262000, x262001 => if x8 < x2 then (if 0 ≤ x8 then (if x8 < (x260001.length : Int) then (if ((rd_T48 x260001 x8).f0).toList = x262000.toList then (some 6) else (r40_variable.l0 k x0 x2 (wrap64 (x8 + 1)) x260000 x260001 x260002 x260003 x260004 x262000 x262001)) else (none)) else (none)) else (if x262001 < 0 then (some 1) else (if x262001 ≥ (x0.length : Int) then (some 1) else (some 0)))
def r40_variable.f (k : Nat) (l0 : List (S51)) (a1_0 : ByteArray) (l1_1 : List (S48)) (l1_2 : List (S62)) (l1_3 : List (S111)) (l1_4 : List (S111)) (a2 : Int) : Option (Int) := if 0 ≤ a2 then (if a2 < (l1_1.length : Int) then ((r09_Name.f k ((rd_T48 l1_1 a2).f0)).bind fun t262 => (if t262 = true then (r40_variable.l0 k l0 a2 0 a1_0 l1_1 l1_2 l1_3 l1_4 ((rd_T48 l1_1 a2).f0) ((rd_T48 l1_1 a2).f1)) else (some 5))) else (none)) else (none)
theorem r40_variable.mono_l : ∀ k, (∀ y0 y1 y2 y3 y4 y5 y6 y7 y8 y9, LeO (r40_variable.l0 k y0 y1 y2 y3 y4 y5 y6 y7 y8 y9) (r40_variable.l0 (k + 1) y0 y1 y2 y3 y4 y5 y6 y7 y8 y9))
 | 0 => fun _ _ _ _ _ _ _ _ _ _ r h => by simp [r40_variable.l0] at h
 | k + 1 => by
  have ih0 := r40_variable.mono_l k
  ·intro y0 y1 y2 y3 y4 y5 y6 y7 y8 y9
   unfold r40_variable.l0
   repeat' first
   | (with_reducible first | exact ih0 _ _ _ _ _ _ _ _ _ _ | exact r09_Name.mono _ _ | exact LeO.refl _ | exact LeO.none _ | refine LeO.ite ?_ ?_ | refine LeO.bind ?_ (fun _ => ?_))
   | exact LeO.none _
   | refine LeO.ite ?_ ?_
   | refine LeO.bind ?_ (fun _ => ?_)
theorem r40_variable.mono : ∀ a0 a1 a2 a3 a4 a5 a6 k, LeO (r40_variable.f k a0 a1 a2 a3 a4 a5 a6) (r40_variable.f (k + 1) a0 a1 a2 a3 a4 a5 a6) := by
 intro a0 a1 a2 a3 a4 a5 a6 k
 have ih0 := r40_variable.mono_l k
 unfold r40_variable.f
 repeat' first
   | (with_reducible first | exact ih0 _ _ _ _ _ _ _ _ _ _ | exact r09_Name.mono _ _ | exact LeO.refl _ | exact LeO.none _ | refine LeO.ite ?_ ?_ | refine LeO.bind ?_ (fun _ => ?_))
   | exact LeO.none _
   | refine LeO.ite ?_ ?_
   | refine LeO.bind ?_ (fun _ => ?_)
set_option maxHeartbeats 8000000 in
set_option maxRecDepth 100000 in
theorem r40_variable.calls (k : Nat) (A0 : Option Addr) (c0 : Nat) (l0 : List (S51)) (a1_0 : ByteArray) (A1_1 : Option Addr) (c1_1 : Nat) (l1_1 : List (S48)) (A1_2 : Option Addr) (c1_2 : Nat) (l1_2 : List (S62)) (A1_3 : Option Addr) (c1_3 : Nat) (l1_3 : List (S111)) (A1_4 : Option Addr) (c1_4 : Nat) (l1_4 : List (S111)) (a2 : Int) (r : Int) (w : World) (hr0 : Kd.C k51 w A0 l0.length l0) (hc0 : l0.length ≤ c0) (hr1_1 : Kd.C k48 w A1_1 l1_1.length l1_1) (hc1_1 : l1_1.length ≤ c1_1) (hr1_2 : Kd.C k62 w A1_2 l1_2.length l1_2) (hc1_2 : l1_2.length ≤ c1_2) (hr1_3 : Kd.C k111 w A1_3 l1_3.length l1_3) (hc1_3 : l1_3.length ≤ c1_3) (hr1_4 : Kd.C k111 w A1_4 l1_4.length l1_4) (hc1_4 : l1_4.length ≤ c1_4) (h : r40_variable.f k l0 a1_0 l1_1 l1_2 l1_3 l1_4 a2 = some r) :
  Calls Try.prog 33 #[.slice A0 l0.length c0, .agg #[.string a1_0, .slice A1_1 l1_1.length c1_1, .slice A1_2 l1_2.length c1_2, .slice A1_3 l1_3.length c1_3, .slice A1_4 l1_4.length c1_4], .int .i64 a2] w fun e w' => e = .returned (.int .i64 r) ∧ Below w.heap.size w w' := by
 have hu27 := Try.underlying27; have hu9 := Try.underlying9; have hu23 := Try.underlying23; have hu24 := Try.underlying24; have hu25 := Try.underlying25; have hu48 := Try.underlying48; have hu3 := Try.underlying3; have hu9 := Try.underlying9; have HR0 := aM hr0; have HC0 := aM hc0; clear hr0 hc0; have HR1_1 := aM hr1_1; have HC1_1 := aM hc1_1; clear hr1_1 hc1_1; have HR1_2 := aM hr1_2; have HC1_2 := aM hc1_2; clear hr1_2 hc1_2; have HR1_3 := aM hr1_3; have HC1_3 := aM hc1_3; clear hr1_3 hc1_3; have HR1_4 := aM hr1_4; have HC1_4 := aM hc1_4; clear hr1_4 hc1_4; have HB := aM (Below.refl w.heap.size w)
 have H : (if 0 ≤ a2 then (if a2 < (l1_1.length : Int) then ((r09_Name.f k ((rd_T48 l1_1 a2).f0)).bind fun t262 => (if t262 = true then (r40_variable.l0 k l0 a2 0 a1_0 l1_1 l1_2 l1_3 l1_4 ((rd_T48 l1_1 a2).f0) ((rd_T48 l1_1 a2).f1)) else (some 5))) else (none)) else (none)) = some r := h
 clear h
 by_cases c4 : 0 ≤ a2
 ·rw [if_pos c4] at H
  have c4b0 : decide (0 ≤ a2) = true := decide_eq_true c4; clear c4
  by_cases c5 : a2 < (l1_1.length : Int)
  ·rw [if_pos c5] at H
   have c5b0 : decide (a2 < (l1_1.length : Int)) = true := decide_eq_true c5; clear c5; replace H := Option.bind_eq_some_iff.mp H; obtain ⟨t262, A60, H⟩ := H
   replace H : (if t262 = true then (r40_variable.l0 k l0 a2 0 a1_0 l1_1 l1_2 l1_3 l1_4 ((rd_T48 l1_1 a2).f0) ((rd_T48 l1_1 a2).f1)) else (some 5)) = some r := H
   have A6 := aM A60; clear A60
   by_cases c7 : t262 = true
   ·subst c7
    have H1 : (r40_variable.l0 k l0 a2 0 a1_0 l1_1 l1_2 l1_3 l1_4 ((rd_T48 l1_1 a2).f0) ((rd_T48 l1_1 a2).f1)) = some r := by rw [if_pos rfl] at H; exact H
    clear H; have H := H1; clear H1
    have H' := aM H
    clear H
    go_enter Try.func33, Try.ntmps33
    go_wp2_with (first | ((with_reducible refine gate_dst (N := 4) rfl ?_); (try (refine gate_guard (by rfl) ?_; dsimp only)); refine box_event ?hg (N := 4) ?hd (cs := #[.string a1_0, .slice A1_1 l1_1.length c1_1, .slice A1_2 l1_2.length c1_2, .slice A1_3 l1_3.length c1_3, .slice A1_4 l1_4.length c1_4]) (t := 27) ?hr ?_; (case hd => rfl); (case hg => rfl); (case hr => first | (go_simp; done) | (go_simp; rfl)); intro gb259 hg w8 hbox hb; have n0_ := aM (below_step (bB HB.out) hb); have n1_ := aM (hbox); have n2_ := aM ((by rw [hg]; exact (below_size (bB HB.out)) : w.heap.size ≤ gb259)); have n3_ := aM ((by rw [hg]; exact (below_size (bB HB.out)) : w.heap.size ≤ gb259)); clear HB; have HB := n0_; have BK259 := n1_; have GW259 := n2_; have GE259 := n3_; clear n0_ n1_ n2_ n3_; clear hb hbox hg; have hcz9_0 : w8.cell? ⟨gb259, 0, none⟩ = some (.string a1_0) := (blk_cell BK259.out 0).trans rfl; have hcz9_1 : w8.cell? ⟨gb259, 1, none⟩ = some (.slice A1_1 l1_1.length c1_1) := (blk_cell BK259.out 1).trans rfl; have hcz9_2 : w8.cell? ⟨gb259, 2, none⟩ = some (.slice A1_2 l1_2.length c1_2) := (blk_cell BK259.out 2).trans rfl; have hcz9_3 : w8.cell? ⟨gb259, 3, none⟩ = some (.slice A1_3 l1_3.length c1_3) := (blk_cell BK259.out 3).trans rfl; have hcz9_4 : w8.cell? ⟨gb259, 4, none⟩ = some (.slice A1_4 l1_4.length c1_4) := (blk_cell BK259.out 4).trans rfl; have hfz9_0 := blk_frozen BK259.out 0; have hfz9_1 := blk_frozen BK259.out 1; have hfz9_2 := blk_frozen BK259.out 2; have hfz9_3 := blk_frozen BK259.out 3; have hfz9_4 := blk_frozen BK259.out 4; have p260 : 0 ≤ (a2 : Int) := dT; have q260 : a2 < (l1_1.length : Int) := dT; obtain ⟨ad260, e260, hx260_0, hx260_1⟩ := at_T48 HR1_1.out a2 p260 q260; cases e260; replace hx260_0 := (HB.out.cell (World.block_lt_of_cell? w _ hx260_0)).trans hx260_0; replace hx260_1 := (HB.out.cell (World.block_lt_of_cell? w _ hx260_1)).trans hx260_1; replace p260 := eq_true p260; replace q260 := eq_true q260) | ((with_reducible refine gate_dst (N := 7) rfl ?_); (try (refine gate_guard (by rfl) ?_; dsimp only)); refine box_event ?hg (N := 7) ?hd (cs := #[.string (⟨#[]⟩ : ByteArray), .int .i64 0]) (t := 48) ?hr ?_; (case hd => rfl); (case hg => rfl); (case hr => first | (go_simp; done) | (go_simp; rfl)); intro gb261 hg w10 hbox hb; have n0_ := aM (kW BK259.out hb); have n1_ := aM (below_step (bB1 HB.out GE259.out) hb); have n2_ := aM (hbox); have n3_ := aM ((by rw [hg]; exact (below_size (bB1 HB.out GE259.out)) : w.heap.size ≤ gb261)); have n4_ := aM ((by rw [hg]; exact (below_size (bB1 HB.out GE259.out)) : w.heap.size ≤ gb261)); have n5_ := aM ((by rw [hg]; exact Nat.ne_of_lt (kL BK259.out) : gb259 ≠ gb261)); have n6_ := aM ((by rw [hg]; exact Nat.ne_of_gt (kL BK259.out) : gb261 ≠ gb259)); clear BK259; clear HB; have BK259 := n0_; have HB := n1_; have BK261 := n2_; have GW261 := n3_; have GE261 := n4_; have NB259_261 := n5_; have NB261_259 := n6_; clear n0_ n1_ n2_ n3_ n4_ n5_ n6_; clear hb hbox hg; have hnb11 := NB261_259.out; have hnc11 := NB259_261.out; have hcz12_0 : w10.cell? ⟨gb261, 0, none⟩ = some (.string (⟨#[]⟩ : ByteArray)) := (blk_cell BK261.out 0).trans rfl; have hcz12_1 : w10.cell? ⟨gb261, 1, none⟩ = some (.int .i64 0) := (blk_cell BK261.out 1).trans rfl; have hfz12_0 := blk_frozen BK261.out 0; have hfz12_1 := blk_frozen BK261.out 1) | (go_at_call 51; (with_reducible refine (r09_Name.calls k ((rd_T48 l1_1 a2).f0) true _ A6.out).mono ?_); rintro e w' ⟨rfl, ⟨nd, rfl⟩⟩; (try first | exact ⟨rfl, _, World.drewN_drewN _ _ _⟩ | exact ⟨rfl, _, Eq.trans (World.drewN_drewN _ _ _) (congrArg (World.drewN _) (Nat.add_assoc _ _ _))⟩)))
    repeat (go_quiet (fail); try go_wp2)
    go_loopg [8] k (fun kq v8 w' => ∃ (x8_1 : Int), v8 = .int .i64 x8_1 ∧ Aside0 (r40_variable.l0 kq l0 a2 x8_1 a1_0 l1_1 l1_2 l1_3 l1_4 ((rd_T48 l1_1 a2).f0) ((rd_T48 l1_1 a2).f1) = some r) ∧ Aside0 (kq ≤ k) ∧ Aside0 (w'.heap[gb259]? = some (.cells #[.string a1_0, (.slice (some ad260) l1_1.length c1_1), (.slice A1_2 l1_2.length c1_2), (.slice A1_3 l1_3.length c1_3), (.slice A1_4 l1_4.length c1_4)] 27 (0, 0))) ∧ Aside0 (w'.heap[gb261]? = some (.cells #[.string ((rd_T48 l1_1 a2).f0), .int .i64 ((rd_T48 l1_1 a2).f1)] 48 (0, 0))) ∧ Aside0 (Below w.heap.size w w'))
    case atStart => exact ⟨(0), eT, H', ⟨Nat.le_refl _⟩, ⟨by (with_reducible repeat (first | refine blk_drewN ?_ _ | refine blk_drew ?_ | refine blk_alloc ?_ _)); refine blk_far ?_ NB259_261.out _; (with_reducible repeat (first | refine blk_drewN ?_ _ | refine blk_drew ?_ | refine blk_alloc ?_ _)); refine blk_far ?_ NB259_261.out _; (with_reducible repeat (first | refine blk_drewN ?_ _ | refine blk_drew ?_ | refine blk_alloc ?_ _)); exact BK259.out⟩, ⟨by (with_reducible repeat (first | refine blk_drewN ?_ _ | refine blk_drew ?_ | refine blk_alloc ?_ _)); refine blk_put (cs := #[.string ((rd_T48 l1_1 a2).f0), .int .i64 0]) ?_ 1 _ rfl; (with_reducible repeat (first | refine blk_drewN ?_ _ | refine blk_drew ?_ | refine blk_alloc ?_ _)); refine blk_put (cs := #[.string (⟨#[]⟩ : ByteArray), .int .i64 0]) ?_ 0 _ rfl; (with_reducible repeat (first | refine blk_drewN ?_ _ | refine blk_drew ?_ | refine blk_alloc ?_ _)); exact BK261.out⟩, ⟨bB2 HB.out GE259.out GE261.out⟩⟩
    case round =>
     clear H'
     try clear hx2
     try clear hx260_0
     try clear hx260_1
     obtain ⟨x8_1, rfl, HA, HK1, BK259, BK261, HB⟩ := hrel
     cases gk with
     | zero => exact absurd HA.out (by simp [r40_variable.l0])
     | succ k1 =>
      have H := HA.out; clear HA
      simp only [r40_variable.l0] at H
      by_cases c13 : x8_1 < a2
      ·rw [if_pos c13] at H
       have c13b0 : decide (x8_1 < a2) = true := decide_eq_true c13; clear c13
       by_cases c14 : 0 ≤ x8_1
       ·rw [if_pos c14] at H
        have c14b0 : decide (0 ≤ x8_1) = true := decide_eq_true c14; clear c14
        by_cases c15 : x8_1 < (l1_1.length : Int)
        ·rw [if_pos c15] at H
         have c15b0 : decide (x8_1 < (l1_1.length : Int)) = true := decide_eq_true c15; clear c15
         by_cases c16 : ((rd_T48 l1_1 x8_1).f0).toList = ((rd_T48 l1_1 a2).f0).toList
         ·rw [if_pos c16] at H
          have c16b0 : (((rd_T48 l1_1 x8_1).f0).toList == ((rd_T48 l1_1 a2).f0).toList) = true := beq_iff_eq.mpr c16; have c16b1 : (((rd_T48 l1_1 x8_1).f0).toList != ((rd_T48 l1_1 a2).f0).toList) = false := bne_eq_false_iff_eq.mpr c16; clear c16
          obtain rfl := Option.some.inj H
          have hnb17 := NB259_261.out; have hnc17 := NB261_259.out
          have hcz18_0 : wr.cell? ⟨gb259, 0, none⟩ = some (.string a1_0) := (blk_cell BK259.out 0).trans rfl
          have hcz18_1 : wr.cell? ⟨gb259, 1, none⟩ = some (.slice (some ad260) l1_1.length c1_1) := (blk_cell BK259.out 1).trans rfl
          have hcz18_2 : wr.cell? ⟨gb259, 2, none⟩ = some (.slice A1_2 l1_2.length c1_2) := (blk_cell BK259.out 2).trans rfl
          have hcz18_3 : wr.cell? ⟨gb259, 3, none⟩ = some (.slice A1_3 l1_3.length c1_3) := (blk_cell BK259.out 3).trans rfl
          have hcz18_4 : wr.cell? ⟨gb259, 4, none⟩ = some (.slice A1_4 l1_4.length c1_4) := (blk_cell BK259.out 4).trans rfl
          have hfz18_0 := blk_frozen BK259.out 0; have hfz18_1 := blk_frozen BK259.out 1; have hfz18_2 := blk_frozen BK259.out 2; have hfz18_3 := blk_frozen BK259.out 3; have hfz18_4 := blk_frozen BK259.out 4; have p263 : 0 ≤ (x8_1 : Int) := dT; have q263 : x8_1 < (l1_1.length : Int) := dT; obtain ⟨ad263, e263, hx263_0, hx263_1⟩ := at_T48 HR1_1.out x8_1 p263 q263; obtain rfl : ad260 = ad263 := (by injection e263); replace hx263_0 := (HB.out.cell (World.block_lt_of_cell? w _ hx263_0)).trans hx263_0; replace hx263_1 := (HB.out.cell (World.block_lt_of_cell? w _ hx263_1)).trans hx263_1; replace p263 := eq_true p263; replace q263 := eq_true q263
          have hcz19_0 : wr.cell? ⟨gb261, 0, none⟩ = some (.string ((rd_T48 l1_1 a2).f0)) := (blk_cell BK261.out 0).trans rfl
          have hcz19_1 : wr.cell? ⟨gb261, 1, none⟩ = some (.int .i64 ((rd_T48 l1_1 a2).f1)) := (blk_cell BK261.out 1).trans rfl
          have hfz19_0 := blk_frozen BK261.out 0; have hfz19_1 := blk_frozen BK261.out 1
          go_wp2
          repeat (go_quiet (fail); try go_wp2)
          go_ret
          exact ⟨rT, bB2 HB.out GE259.out GE261.out⟩
         ·rw [if_neg c16] at H
          have c16b0 : (((rd_T48 l1_1 x8_1).f0).toList == ((rd_T48 l1_1 a2).f0).toList) = false := beq_eq_false_iff_ne.mpr c16; have c16b1 : (((rd_T48 l1_1 x8_1).f0).toList != ((rd_T48 l1_1 a2).f0).toList) = true := bne_iff_ne.mpr c16
          have H' := aM H
          clear H; have hnb20 := NB259_261.out; have hnc20 := NB261_259.out
          have hcz21_0 : wr.cell? ⟨gb259, 0, none⟩ = some (.string a1_0) := (blk_cell BK259.out 0).trans rfl
          have hcz21_1 : wr.cell? ⟨gb259, 1, none⟩ = some (.slice (some ad260) l1_1.length c1_1) := (blk_cell BK259.out 1).trans rfl
          have hcz21_2 : wr.cell? ⟨gb259, 2, none⟩ = some (.slice A1_2 l1_2.length c1_2) := (blk_cell BK259.out 2).trans rfl
          have hcz21_3 : wr.cell? ⟨gb259, 3, none⟩ = some (.slice A1_3 l1_3.length c1_3) := (blk_cell BK259.out 3).trans rfl
          have hcz21_4 : wr.cell? ⟨gb259, 4, none⟩ = some (.slice A1_4 l1_4.length c1_4) := (blk_cell BK259.out 4).trans rfl
          have hfz21_0 := blk_frozen BK259.out 0; have hfz21_1 := blk_frozen BK259.out 1; have hfz21_2 := blk_frozen BK259.out 2; have hfz21_3 := blk_frozen BK259.out 3; have hfz21_4 := blk_frozen BK259.out 4; have p263 : 0 ≤ (x8_1 : Int) := dT; have q263 : x8_1 < (l1_1.length : Int) := dT; obtain ⟨ad263, e263, hx263_0, hx263_1⟩ := at_T48 HR1_1.out x8_1 p263 q263; obtain rfl : ad260 = ad263 := (by injection e263); replace hx263_0 := (HB.out.cell (World.block_lt_of_cell? w _ hx263_0)).trans hx263_0; replace hx263_1 := (HB.out.cell (World.block_lt_of_cell? w _ hx263_1)).trans hx263_1; replace p263 := eq_true p263; replace q263 := eq_true q263
          have hcz22_0 : wr.cell? ⟨gb261, 0, none⟩ = some (.string ((rd_T48 l1_1 a2).f0)) := (blk_cell BK261.out 0).trans rfl
          have hcz22_1 : wr.cell? ⟨gb261, 1, none⟩ = some (.int .i64 ((rd_T48 l1_1 a2).f1)) := (blk_cell BK261.out 1).trans rfl
          have hfz22_0 := blk_frozen BK261.out 0; have hfz22_1 := blk_frozen BK261.out 1
          go_wp2
          repeat (go_quiet (fail); try go_wp2)
          go_roundg k1
          case measure => have := HK1.out; omega
          case rel => exact ⟨(wrap64 (x8_1 + 1)), eT, H', ⟨by have := HK1.out; omega⟩, ⟨kB BK259.out⟩, ⟨kB BK261.out⟩, ⟨bB2 HB.out GE259.out GE261.out⟩⟩
        ·rw [if_neg c15] at H
         exact absurd H (by simp)
       ·rw [if_neg c14] at H
        exact absurd H (by simp)
      ·rw [if_neg c13] at H
       have c13b0 : decide (x8_1 < a2) = false := decide_eq_false c13; clear c13
       by_cases c23 : ((rd_T48 l1_1 a2).f1) < 0
       ·rw [if_pos c23] at H
        have c23b0 : decide (((rd_T48 l1_1 a2).f1) < 0) = true := decide_eq_true c23; clear c23
        obtain rfl := Option.some.inj H
        have hnb24 := NB261_259.out; have hnc24 := NB259_261.out
        have hcz25_0 : wr.cell? ⟨gb261, 0, none⟩ = some (.string ((rd_T48 l1_1 a2).f0)) := (blk_cell BK261.out 0).trans rfl
        have hcz25_1 : wr.cell? ⟨gb261, 1, none⟩ = some (.int .i64 ((rd_T48 l1_1 a2).f1)) := (blk_cell BK261.out 1).trans rfl
        have hfz25_0 := blk_frozen BK261.out 0; have hfz25_1 := blk_frozen BK261.out 1
        go_wp2
        repeat (go_quiet (fail); try go_wp2)
        go_ret
        exact ⟨rT, bB2 HB.out GE259.out GE261.out⟩
       ·rw [if_neg c23] at H
        have c23b0 : decide (((rd_T48 l1_1 a2).f1) < 0) = false := decide_eq_false c23; clear c23
        by_cases c26 : ((rd_T48 l1_1 a2).f1) ≥ (l0.length : Int)
        ·rw [if_pos c26] at H
         have c26b0 : decide ((l0.length : Int) ≤ ((rd_T48 l1_1 a2).f1)) = true := decide_eq_true c26; clear c26
         obtain rfl := Option.some.inj H
         have hnb27 := NB261_259.out; have hnc27 := NB259_261.out
         have hcz28_0 : wr.cell? ⟨gb261, 0, none⟩ = some (.string ((rd_T48 l1_1 a2).f0)) := (blk_cell BK261.out 0).trans rfl
         have hcz28_1 : wr.cell? ⟨gb261, 1, none⟩ = some (.int .i64 ((rd_T48 l1_1 a2).f1)) := (blk_cell BK261.out 1).trans rfl
         have hfz28_0 := blk_frozen BK261.out 0; have hfz28_1 := blk_frozen BK261.out 1
         go_wp2
         repeat (go_quiet (fail); try go_wp2)
         go_ret
         exact ⟨rT, bB2 HB.out GE259.out GE261.out⟩
        ·rw [if_neg c26] at H
         have c26b0 : decide ((l0.length : Int) ≤ ((rd_T48 l1_1 a2).f1)) = false := decide_eq_false c26; clear c26
         obtain rfl := Option.some.inj H
         have hnb29 := NB261_259.out; have hnc29 := NB259_261.out
         have hcz30_0 : wr.cell? ⟨gb261, 0, none⟩ = some (.string ((rd_T48 l1_1 a2).f0)) := (blk_cell BK261.out 0).trans rfl
         have hcz30_1 : wr.cell? ⟨gb261, 1, none⟩ = some (.int .i64 ((rd_T48 l1_1 a2).f1)) := (blk_cell BK261.out 1).trans rfl
         have hfz30_0 := blk_frozen BK261.out 0; have hfz30_1 := blk_frozen BK261.out 1
         go_wp2
         repeat (go_quiet (fail); try go_wp2)
         go_ret
         exact ⟨rT, bB2 HB.out GE259.out GE261.out⟩
   ·replace c7 := Bool.eq_false_iff.mpr c7
    subst c7
    have H1 : (some 5) = some r := by rw [if_neg (show ¬ (false = true) by decide)] at H; exact H
    clear H; have H := H1; clear H1
    obtain rfl := Option.some.inj H
    go_enter Try.func33, Try.ntmps33
    go_wp2_with (first | ((with_reducible refine gate_dst (N := 4) rfl ?_); (try (refine gate_guard (by rfl) ?_; dsimp only)); refine box_event ?hg (N := 4) ?hd (cs := #[.string a1_0, .slice A1_1 l1_1.length c1_1, .slice A1_2 l1_2.length c1_2, .slice A1_3 l1_3.length c1_3, .slice A1_4 l1_4.length c1_4]) (t := 27) ?hr ?_; (case hd => rfl); (case hg => rfl); (case hr => first | (go_simp; done) | (go_simp; rfl)); intro gb259 hg w31 hbox hb; have n0_ := aM (below_step (bB HB.out) hb); have n1_ := aM (hbox); have n2_ := aM ((by rw [hg]; exact (below_size (bB HB.out)) : w.heap.size ≤ gb259)); have n3_ := aM ((by rw [hg]; exact (below_size (bB HB.out)) : w.heap.size ≤ gb259)); clear HB; have HB := n0_; have BK259 := n1_; have GW259 := n2_; have GE259 := n3_; clear n0_ n1_ n2_ n3_; clear hb hbox hg; have hcz32_0 : w31.cell? ⟨gb259, 0, none⟩ = some (.string a1_0) := (blk_cell BK259.out 0).trans rfl; have hcz32_1 : w31.cell? ⟨gb259, 1, none⟩ = some (.slice A1_1 l1_1.length c1_1) := (blk_cell BK259.out 1).trans rfl; have hcz32_2 : w31.cell? ⟨gb259, 2, none⟩ = some (.slice A1_2 l1_2.length c1_2) := (blk_cell BK259.out 2).trans rfl; have hcz32_3 : w31.cell? ⟨gb259, 3, none⟩ = some (.slice A1_3 l1_3.length c1_3) := (blk_cell BK259.out 3).trans rfl; have hcz32_4 : w31.cell? ⟨gb259, 4, none⟩ = some (.slice A1_4 l1_4.length c1_4) := (blk_cell BK259.out 4).trans rfl; have hfz32_0 := blk_frozen BK259.out 0; have hfz32_1 := blk_frozen BK259.out 1; have hfz32_2 := blk_frozen BK259.out 2; have hfz32_3 := blk_frozen BK259.out 3; have hfz32_4 := blk_frozen BK259.out 4; have p260 : 0 ≤ (a2 : Int) := dT; have q260 : a2 < (l1_1.length : Int) := dT; obtain ⟨ad260, e260, hx260_0, hx260_1⟩ := at_T48 HR1_1.out a2 p260 q260; cases e260; replace hx260_0 := (HB.out.cell (World.block_lt_of_cell? w _ hx260_0)).trans hx260_0; replace hx260_1 := (HB.out.cell (World.block_lt_of_cell? w _ hx260_1)).trans hx260_1; replace p260 := eq_true p260; replace q260 := eq_true q260) | ((with_reducible refine gate_dst (N := 7) rfl ?_); (try (refine gate_guard (by rfl) ?_; dsimp only)); refine box_event ?hg (N := 7) ?hd (cs := #[.string (⟨#[]⟩ : ByteArray), .int .i64 0]) (t := 48) ?hr ?_; (case hd => rfl); (case hg => rfl); (case hr => first | (go_simp; done) | (go_simp; rfl)); intro gb261 hg w33 hbox hb; have n0_ := aM (kW BK259.out hb); have n1_ := aM (below_step (bB1 HB.out GE259.out) hb); have n2_ := aM (hbox); have n3_ := aM ((by rw [hg]; exact (below_size (bB1 HB.out GE259.out)) : w.heap.size ≤ gb261)); have n4_ := aM ((by rw [hg]; exact (below_size (bB1 HB.out GE259.out)) : w.heap.size ≤ gb261)); have n5_ := aM ((by rw [hg]; exact Nat.ne_of_lt (kL BK259.out) : gb259 ≠ gb261)); have n6_ := aM ((by rw [hg]; exact Nat.ne_of_gt (kL BK259.out) : gb261 ≠ gb259)); clear BK259; clear HB; have BK259 := n0_; have HB := n1_; have BK261 := n2_; have GW261 := n3_; have GE261 := n4_; have NB259_261 := n5_; have NB261_259 := n6_; clear n0_ n1_ n2_ n3_ n4_ n5_ n6_; clear hb hbox hg; have hnb34 := NB261_259.out; have hnc34 := NB259_261.out; have hcz35_0 : w33.cell? ⟨gb261, 0, none⟩ = some (.string (⟨#[]⟩ : ByteArray)) := (blk_cell BK261.out 0).trans rfl; have hcz35_1 : w33.cell? ⟨gb261, 1, none⟩ = some (.int .i64 0) := (blk_cell BK261.out 1).trans rfl; have hfz35_0 := blk_frozen BK261.out 0; have hfz35_1 := blk_frozen BK261.out 1) | (go_at_call 51; (with_reducible refine (r09_Name.calls k ((rd_T48 l1_1 a2).f0) false _ A6.out).mono ?_); rintro e w' ⟨rfl, ⟨nd, rfl⟩⟩; (try first | exact ⟨rfl, _, World.drewN_drewN _ _ _⟩ | exact ⟨rfl, _, Eq.trans (World.drewN_drewN _ _ _) (congrArg (World.drewN _) (Nat.add_assoc _ _ _))⟩)))
    repeat (go_quiet (fail); try go_wp2)
    go_ret
    exact ⟨rT, bB2 HB.out GE259.out GE261.out⟩
  ·rw [if_neg c5] at H
   exact absurd H (by simp)
 ·rw [if_neg c4] at H
  exact absurd H (by simp)




/-! ### r40_guard: function 34 -/
mutual
def r40_guard.j0 : Nat → Bool → ByteArray → List (S48) → List (S62) → List (S111) → List (S111) → Int → Int → Int → Option (Int)
 | 0, _, _, _, _, _, _, _, _, _ => none
 | k + 1, x12, x265000, x265001, x265002, x265003, x265004, x266000, x266001, x266002 => if x12 = true then (some 12) else (if x266001 < 0 then (r40_guard.j1 k true x265000 x265001 x265002 x265003 x265004 x266000 x266001 x266002) else (if x266001 ≥ (x265001.length : Int) then (r40_guard.j1 k true x265000 x265001 x265002 x265003 x265004 x266000 x266001 x266002) else (if x266002 < 0 then (r40_guard.j1 k true x265000 x265001 x265002 x265003 x265004 x266000 x266001 x266002) else (r40_guard.j1 k (decide (x266002 ≥ (x265001.length : Int))) x265000 x265001 x265002 x265003 x265004 x266000 x266001 x266002))))
def r40_guard.j1 : Nat → Bool → ByteArray → List (S48) → List (S62) → List (S111) → List (S111) → Int → Int → Int → Option (Int)
 | 0, _, _, _, _, _, _, _, _, _ => none
 | k + 1, x36, x265000, x265001, x265002, x265003, x265004, x266000, x266001, x266002 => if x36 = true then (some 1) else (if 0 ≤ x266001 then (if x266001 < (x265001.length : Int) then (if 0 ≤ x266002 then (if x266002 < (x265001.length : Int) then (if ((rd_T48 x265001 x266001).f1) = ((rd_T48 x265001 x266002).f1) then (some 0) else (some 17)) else (none)) else (none)) else (none)) else (none))
end
def r40_guard.f (k : Nat) (a0_0 : ByteArray) (l0_1 : List (S48)) (l0_2 : List (S62)) (l0_3 : List (S111)) (l0_4 : List (S111)) (a1_0 : Int) (a1_1 : Int) (a1_2 : Int) : Option (Int) := if a1_0 < 1 then (r40_guard.j0 k true a0_0 l0_1 l0_2 l0_3 l0_4 a1_0 a1_1 a1_2) else (r40_guard.j0 k (decide (a1_0 > 3)) a0_0 l0_1 l0_2 l0_3 l0_4 a1_0 a1_1 a1_2)
theorem r40_guard.mono_l : ∀ k, (∀ y0 y1 y2 y3 y4 y5 y6 y7 y8, LeO (r40_guard.j0 k y0 y1 y2 y3 y4 y5 y6 y7 y8) (r40_guard.j0 (k + 1) y0 y1 y2 y3 y4 y5 y6 y7 y8)) ∧ (∀ y0 y1 y2 y3 y4 y5 y6 y7 y8, LeO (r40_guard.j1 k y0 y1 y2 y3 y4 y5 y6 y7 y8) (r40_guard.j1 (k + 1) y0 y1 y2 y3 y4 y5 y6 y7 y8))
 | 0 => ⟨fun _ _ _ _ _ _ _ _ _ r h => by simp [r40_guard.j0] at h, fun _ _ _ _ _ _ _ _ _ r h => by simp [r40_guard.j1] at h⟩
 | k + 1 => by
  obtain ⟨ih0, ih1⟩ := r40_guard.mono_l k
  refine ⟨?_, ?_⟩
  ·intro y0 y1 y2 y3 y4 y5 y6 y7 y8
   unfold r40_guard.j0
   repeat' first
   | (with_reducible first | exact ih0 _ _ _ _ _ _ _ _ _ | exact ih1 _ _ _ _ _ _ _ _ _ | exact LeO.refl _ | exact LeO.none _ | refine LeO.ite ?_ ?_ | refine LeO.bind ?_ (fun _ => ?_))
   | exact LeO.none _
   | refine LeO.ite ?_ ?_
   | refine LeO.bind ?_ (fun _ => ?_)
  ·intro y0 y1 y2 y3 y4 y5 y6 y7 y8
   unfold r40_guard.j1
   repeat' first
   | (with_reducible first | exact ih0 _ _ _ _ _ _ _ _ _ | exact ih1 _ _ _ _ _ _ _ _ _ | exact LeO.refl _ | exact LeO.none _ | refine LeO.ite ?_ ?_ | refine LeO.bind ?_ (fun _ => ?_))
   | exact LeO.none _
   | refine LeO.ite ?_ ?_
   | refine LeO.bind ?_ (fun _ => ?_)
theorem r40_guard.mono : ∀ a0 a1 a2 a3 a4 a5 a6 a7 k, LeO (r40_guard.f k a0 a1 a2 a3 a4 a5 a6 a7) (r40_guard.f (k + 1) a0 a1 a2 a3 a4 a5 a6 a7) := by
 intro a0 a1 a2 a3 a4 a5 a6 a7 k
 obtain ⟨ih0, ih1⟩ := r40_guard.mono_l k
 unfold r40_guard.f
 repeat' first
   | (with_reducible first | exact ih0 _ _ _ _ _ _ _ _ _ | exact ih1 _ _ _ _ _ _ _ _ _ | exact LeO.refl _ | exact LeO.none _ | refine LeO.ite ?_ ?_ | refine LeO.bind ?_ (fun _ => ?_))
   | exact LeO.none _
   | refine LeO.ite ?_ ?_
   | refine LeO.bind ?_ (fun _ => ?_)
set_option maxHeartbeats 8000000 in
set_option maxRecDepth 100000 in
theorem r40_guard.calls (k : Nat) (a0_0 : ByteArray) (A0_1 : Option Addr) (c0_1 : Nat) (l0_1 : List (S48)) (A0_2 : Option Addr) (c0_2 : Nat) (l0_2 : List (S62)) (A0_3 : Option Addr) (c0_3 : Nat) (l0_3 : List (S111)) (A0_4 : Option Addr) (c0_4 : Nat) (l0_4 : List (S111)) (a1_0 : Int) (a1_1 : Int) (a1_2 : Int) (r : Int) (w : World) (hr0_1 : Kd.C k48 w A0_1 l0_1.length l0_1) (hc0_1 : l0_1.length ≤ c0_1) (hr0_2 : Kd.C k62 w A0_2 l0_2.length l0_2) (hc0_2 : l0_2.length ≤ c0_2) (hr0_3 : Kd.C k111 w A0_3 l0_3.length l0_3) (hc0_3 : l0_3.length ≤ c0_3) (hr0_4 : Kd.C k111 w A0_4 l0_4.length l0_4) (hc0_4 : l0_4.length ≤ c0_4) (h : r40_guard.f k a0_0 l0_1 l0_2 l0_3 l0_4 a1_0 a1_1 a1_2 = some r) :
  Calls Try.prog 34 #[.agg #[.string a0_0, .slice A0_1 l0_1.length c0_1, .slice A0_2 l0_2.length c0_2, .slice A0_3 l0_3.length c0_3, .slice A0_4 l0_4.length c0_4], .agg #[.int .i64 a1_0, .int .i64 a1_1, .int .i64 a1_2]] w fun e w' => e = .returned (.int .i64 r) ∧ Below w.heap.size w w' := by
 have hu27 := Try.underlying27; have hu9 := Try.underlying9; have hu23 := Try.underlying23; have hu24 := Try.underlying24; have hu25 := Try.underlying25; have hu62 := Try.underlying62; have hu3 := Try.underlying3; have HR0_1 := aM hr0_1; have HC0_1 := aM hc0_1; clear hr0_1 hc0_1; have HR0_2 := aM hr0_2; have HC0_2 := aM hc0_2; clear hr0_2 hc0_2; have HR0_3 := aM hr0_3; have HC0_3 := aM hc0_3; clear hr0_3 hc0_3; have HR0_4 := aM hr0_4; have HC0_4 := aM hc0_4; clear hr0_4 hc0_4; have HB := aM (Below.refl w.heap.size w); have H : (if a1_0 < 1 then (r40_guard.j0 k true a0_0 l0_1 l0_2 l0_3 l0_4 a1_0 a1_1 a1_2) else (r40_guard.j0 k (decide (a1_0 > 3)) a0_0 l0_1 l0_2 l0_3 l0_4 a1_0 a1_1 a1_2)) = some r := h; clear h; have HC3 := aM H; clear H
 go_enter Try.func34, Try.ntmps34
 go_upto_region 1 with (first | ((with_reducible refine gate_dst (N := 2) rfl ?_); (try (refine gate_guard (by rfl) ?_; dsimp only)); refine box_event ?hg (N := 2) ?hd (cs := #[.string a0_0, .slice A0_1 l0_1.length c0_1, .slice A0_2 l0_2.length c0_2, .slice A0_3 l0_3.length c0_3, .slice A0_4 l0_4.length c0_4]) (t := 27) ?hr ?_; (case hd => rfl); (case hg => rfl); (case hr => first | (go_simp; done) | (go_simp; rfl)); intro gb264 hg w4 hbox hb; have n0_ := aM (below_step (bB HB.out) hb); have n1_ := aM (hbox); have n2_ := aM ((by rw [hg]; exact (below_size (bB HB.out)) : w.heap.size ≤ gb264)); have n3_ := aM ((by rw [hg]; exact (below_size (bB HB.out)) : w.heap.size ≤ gb264)); clear HB; have HB := n0_; have BK264 := n1_; have GW264 := n2_; have GE264 := n3_; clear n0_ n1_ n2_ n3_; clear hb hbox hg) | ((with_reducible refine gate_dst (N := 3) rfl ?_); (try (refine gate_guard (by rfl) ?_; dsimp only)); refine box_event ?hg (N := 3) ?hd (cs := #[.int .i64 a1_0, .int .i64 a1_1, .int .i64 a1_2]) (t := 62) ?hr ?_; (case hd => rfl); (case hg => rfl); (case hr => first | (go_simp; done) | (go_simp; rfl)); intro gb265 hg w5 hbox hb; have n0_ := aM (kW BK264.out hb); have n1_ := aM (below_step (bB1 HB.out GE264.out) hb); have n2_ := aM (hbox); have n3_ := aM ((by rw [hg]; exact (below_size (bB1 HB.out GE264.out)) : w.heap.size ≤ gb265)); have n4_ := aM ((by rw [hg]; exact (below_size (bB1 HB.out GE264.out)) : w.heap.size ≤ gb265)); have n5_ := aM ((by rw [hg]; exact Nat.ne_of_lt (kL BK264.out) : gb264 ≠ gb265)); have n6_ := aM ((by rw [hg]; exact Nat.ne_of_gt (kL BK264.out) : gb265 ≠ gb264)); clear BK264; clear HB; have BK264 := n0_; have HB := n1_; have BK265 := n2_; have GW265 := n3_; have GE265 := n4_; have NB264_265 := n5_; have NB265_264 := n6_; clear n0_ n1_ n2_ n3_ n4_ n5_ n6_; clear hb hbox hg))
 repeat (go_quiet (fail); try go_wp2)
 (try simp only [Act.put, List.setIfInBounds_toArray, List.set_cons_zero, List.set_cons_succ])
 go_cut [12] (fun v12 wc => ∃ (kq : Nat) (x12_2 : Bool), v12 = .bool x12_2 ∧ Aside0 (r40_guard.j0 kq x12_2 a0_0 l0_1 l0_2 l0_3 l0_4 a1_0 a1_1 a1_2 = some r) ∧ Aside0 (kq ≤ k) ∧ Aside0 (wc.heap[gb264]? = some (.cells #[.string a0_0, (.slice A0_1 l0_1.length c0_1), (.slice A0_2 l0_2.length c0_2), (.slice A0_3 l0_3.length c0_3), (.slice A0_4 l0_4.length c0_4)] 27 (0, 0))) ∧ Aside0 (wc.heap[gb265]? = some (.cells #[.int .i64 a1_0, .int .i64 a1_1, .int .i64 a1_2] 62 (0, 0))) ∧ Aside0 (Below w.heap.size w wc))
 case first =>
  have H := HC3.out; clear HC3
  by_cases c6 : a1_0 < 1
  ·rw [if_pos c6] at H
   have c6b0 : decide (a1_0 < 1) = true := decide_eq_true c6; clear c6
   (first | rw [c6b0] | (simp only [i64_w, i32_w]; rw [c6b0]) | skip)
   have H' := aM H
   clear H; have hnb7 := NB265_264.out; have hnc7 := NB264_265.out
   have hcz8_0 : w5.cell? ⟨gb265, 0, none⟩ = some (.int .i64 a1_0) := (blk_cell BK265.out 0).trans rfl
   have hcz8_1 : w5.cell? ⟨gb265, 1, none⟩ = some (.int .i64 a1_1) := (blk_cell BK265.out 1).trans rfl
   have hcz8_2 : w5.cell? ⟨gb265, 2, none⟩ = some (.int .i64 a1_2) := (blk_cell BK265.out 2).trans rfl
   have hfz8_0 := blk_frozen BK265.out 0; have hfz8_1 := blk_frozen BK265.out 1; have hfz8_2 := blk_frozen BK265.out 2
   go_wp2
   repeat (go_quiet (fail); try go_wp2)
   go_meet
   case rel => exact ⟨_, (true), eT, H', ⟨by first | omega | exact Nat.le_refl _⟩, ⟨kB BK264.out⟩, ⟨kB BK265.out⟩, ⟨bB2 HB.out GE264.out GE265.out⟩⟩
  ·rw [if_neg c6] at H
   have c6b0 : decide (a1_0 < 1) = false := decide_eq_false c6; clear c6
   (first | rw [c6b0] | (simp only [i64_w, i32_w]; rw [c6b0]) | skip)
   have H' := aM H
   clear H; have hnb9 := NB265_264.out; have hnc9 := NB264_265.out
   have hcz10_0 : w5.cell? ⟨gb265, 0, none⟩ = some (.int .i64 a1_0) := (blk_cell BK265.out 0).trans rfl
   have hcz10_1 : w5.cell? ⟨gb265, 1, none⟩ = some (.int .i64 a1_1) := (blk_cell BK265.out 1).trans rfl
   have hcz10_2 : w5.cell? ⟨gb265, 2, none⟩ = some (.int .i64 a1_2) := (blk_cell BK265.out 2).trans rfl
   have hfz10_0 := blk_frozen BK265.out 0; have hfz10_1 := blk_frozen BK265.out 1; have hfz10_2 := blk_frozen BK265.out 2
   go_wp2
   repeat (go_quiet (fail); try go_wp2)
   go_meet
   case rel => exact ⟨_, (decide (a1_0 > 3)), eT, H', ⟨by first | omega | exact Nat.le_refl _⟩, ⟨kB BK264.out⟩, ⟨kB BK265.out⟩, ⟨bB2 HB.out GE264.out GE265.out⟩⟩
 case rest =>
  clear HC3; obtain ⟨kq, x12_2, rfl, HA, HJ2, BK264, BK265, HB⟩ := hcut
  cases kq with
  | zero => exact absurd HA.out (by simp [r40_guard.j0])
  | succ kj2 =>
   have H := HA.out; clear HA
   simp only [r40_guard.j0] at H
   by_cases c11 : x12_2 = true
   ·subst c11
    have H1 : (some 12) = some r := by rw [if_pos rfl] at H; exact H
    clear H; have H := H1; clear H1
    obtain rfl := Option.some.inj H
    go_wp2
    repeat (go_quiet (fail); try go_wp2)
    go_ret
    exact ⟨rT, bB2 HB.out GE264.out GE265.out⟩
   ·replace c11 := Bool.eq_false_iff.mpr c11
    subst c11
    have H1 : (if a1_1 < 0 then (r40_guard.j1 kj2 true a0_0 l0_1 l0_2 l0_3 l0_4 a1_0 a1_1 a1_2) else (if a1_1 ≥ (l0_1.length : Int) then (r40_guard.j1 kj2 true a0_0 l0_1 l0_2 l0_3 l0_4 a1_0 a1_1 a1_2) else (if a1_2 < 0 then (r40_guard.j1 kj2 true a0_0 l0_1 l0_2 l0_3 l0_4 a1_0 a1_1 a1_2) else (r40_guard.j1 kj2 (decide (a1_2 ≥ (l0_1.length : Int))) a0_0 l0_1 l0_2 l0_3 l0_4 a1_0 a1_1 a1_2)))) = some r := by rw [if_neg (show ¬ (false = true) by decide)] at H; exact H
    clear H; have H := H1; clear H1; have HC12 := aM H; clear H
    go_upto_region 3 with (fail)
    repeat (go_quiet (fail); go_upto_region 3 with (fail))
    go_cut [36] (fun v36 wc => ∃ (kq : Nat) (x36_11 : Bool), v36 = .bool x36_11 ∧ Aside0 (r40_guard.j1 kq x36_11 a0_0 l0_1 l0_2 l0_3 l0_4 a1_0 a1_1 a1_2 = some r) ∧ Aside0 (kq ≤ kj2) ∧ Aside0 (wc.heap[gb264]? = some (.cells #[.string a0_0, (.slice A0_1 l0_1.length c0_1), (.slice A0_2 l0_2.length c0_2), (.slice A0_3 l0_3.length c0_3), (.slice A0_4 l0_4.length c0_4)] 27 (0, 0))) ∧ Aside0 (wc.heap[gb265]? = some (.cells #[.int .i64 a1_0, .int .i64 a1_1, .int .i64 a1_2] 62 (0, 0))) ∧ Aside0 (Below w.heap.size w wc))
    case first =>
     have H := HC12.out; clear HC12
     by_cases c13 : a1_1 < 0
     ·rw [if_pos c13] at H
      have c13b0 : decide (a1_1 < 0) = true := decide_eq_true c13; clear c13
      (first | rw [c13b0] | (simp only [i64_w, i32_w]; rw [c13b0]) | skip)
      have H' := aM H
      clear H; have hnb14 := NB265_264.out; have hnc14 := NB264_265.out
      have hcz15_0 : wc.cell? ⟨gb265, 0, none⟩ = some (.int .i64 a1_0) := (blk_cell BK265.out 0).trans rfl
      have hcz15_1 : wc.cell? ⟨gb265, 1, none⟩ = some (.int .i64 a1_1) := (blk_cell BK265.out 1).trans rfl
      have hcz15_2 : wc.cell? ⟨gb265, 2, none⟩ = some (.int .i64 a1_2) := (blk_cell BK265.out 2).trans rfl
      have hfz15_0 := blk_frozen BK265.out 0; have hfz15_1 := blk_frozen BK265.out 1; have hfz15_2 := blk_frozen BK265.out 2
      go_wp2
      repeat (go_quiet (fail); try go_wp2)
      go_meet
      case rel => exact ⟨_, (true), eT, H', ⟨by have := HJ2.out; first | omega | exact Nat.le_refl _⟩, ⟨kB BK264.out⟩, ⟨kB BK265.out⟩, ⟨bB2 HB.out GE264.out GE265.out⟩⟩
     ·rw [if_neg c13] at H
      have c13b0 : decide (a1_1 < 0) = false := decide_eq_false c13; clear c13
      (first | rw [c13b0] | (simp only [i64_w, i32_w]; rw [c13b0]) | skip)
      by_cases c16 : a1_1 ≥ (l0_1.length : Int)
      ·rw [if_pos c16] at H
       have c16b0 : decide ((l0_1.length : Int) ≤ a1_1) = true := decide_eq_true c16; clear c16
       have H' := aM H
       clear H; have hnb17 := NB265_264.out; have hnc17 := NB264_265.out
       have hcz18_0 : wc.cell? ⟨gb265, 0, none⟩ = some (.int .i64 a1_0) := (blk_cell BK265.out 0).trans rfl
       have hcz18_1 : wc.cell? ⟨gb265, 1, none⟩ = some (.int .i64 a1_1) := (blk_cell BK265.out 1).trans rfl
       have hcz18_2 : wc.cell? ⟨gb265, 2, none⟩ = some (.int .i64 a1_2) := (blk_cell BK265.out 2).trans rfl
       have hfz18_0 := blk_frozen BK265.out 0; have hfz18_1 := blk_frozen BK265.out 1; have hfz18_2 := blk_frozen BK265.out 2
       have hcz19_0 : wc.cell? ⟨gb264, 0, none⟩ = some (.string a0_0) := (blk_cell BK264.out 0).trans rfl
       have hcz19_1 : wc.cell? ⟨gb264, 1, none⟩ = some (.slice A0_1 l0_1.length c0_1) := (blk_cell BK264.out 1).trans rfl
       have hcz19_2 : wc.cell? ⟨gb264, 2, none⟩ = some (.slice A0_2 l0_2.length c0_2) := (blk_cell BK264.out 2).trans rfl
       have hcz19_3 : wc.cell? ⟨gb264, 3, none⟩ = some (.slice A0_3 l0_3.length c0_3) := (blk_cell BK264.out 3).trans rfl
       have hcz19_4 : wc.cell? ⟨gb264, 4, none⟩ = some (.slice A0_4 l0_4.length c0_4) := (blk_cell BK264.out 4).trans rfl
       have hfz19_0 := blk_frozen BK264.out 0; have hfz19_1 := blk_frozen BK264.out 1; have hfz19_2 := blk_frozen BK264.out 2; have hfz19_3 := blk_frozen BK264.out 3; have hfz19_4 := blk_frozen BK264.out 4
       go_wp2
       repeat (go_quiet (fail); try go_wp2)
       go_meet
       case rel => exact ⟨_, (true), eT, H', ⟨by have := HJ2.out; first | omega | exact Nat.le_refl _⟩, ⟨kB BK264.out⟩, ⟨kB BK265.out⟩, ⟨bB2 HB.out GE264.out GE265.out⟩⟩
      ·rw [if_neg c16] at H
       have c16b0 : decide ((l0_1.length : Int) ≤ a1_1) = false := decide_eq_false c16; clear c16
       by_cases c20 : a1_2 < 0
       ·rw [if_pos c20] at H
        have c20b0 : decide (a1_2 < 0) = true := decide_eq_true c20; clear c20
        have H' := aM H
        clear H; have hnb21 := NB265_264.out; have hnc21 := NB264_265.out
        have hcz22_0 : wc.cell? ⟨gb265, 0, none⟩ = some (.int .i64 a1_0) := (blk_cell BK265.out 0).trans rfl
        have hcz22_1 : wc.cell? ⟨gb265, 1, none⟩ = some (.int .i64 a1_1) := (blk_cell BK265.out 1).trans rfl
        have hcz22_2 : wc.cell? ⟨gb265, 2, none⟩ = some (.int .i64 a1_2) := (blk_cell BK265.out 2).trans rfl
        have hfz22_0 := blk_frozen BK265.out 0; have hfz22_1 := blk_frozen BK265.out 1; have hfz22_2 := blk_frozen BK265.out 2
        have hcz23_0 : wc.cell? ⟨gb264, 0, none⟩ = some (.string a0_0) := (blk_cell BK264.out 0).trans rfl
        have hcz23_1 : wc.cell? ⟨gb264, 1, none⟩ = some (.slice A0_1 l0_1.length c0_1) := (blk_cell BK264.out 1).trans rfl
        have hcz23_2 : wc.cell? ⟨gb264, 2, none⟩ = some (.slice A0_2 l0_2.length c0_2) := (blk_cell BK264.out 2).trans rfl
        have hcz23_3 : wc.cell? ⟨gb264, 3, none⟩ = some (.slice A0_3 l0_3.length c0_3) := (blk_cell BK264.out 3).trans rfl
        have hcz23_4 : wc.cell? ⟨gb264, 4, none⟩ = some (.slice A0_4 l0_4.length c0_4) := (blk_cell BK264.out 4).trans rfl
        have hfz23_0 := blk_frozen BK264.out 0; have hfz23_1 := blk_frozen BK264.out 1; have hfz23_2 := blk_frozen BK264.out 2; have hfz23_3 := blk_frozen BK264.out 3; have hfz23_4 := blk_frozen BK264.out 4
        go_wp2
        repeat (go_quiet (fail); try go_wp2)
        go_meet
        case rel => exact ⟨_, (true), eT, H', ⟨by have := HJ2.out; first | omega | exact Nat.le_refl _⟩, ⟨kB BK264.out⟩, ⟨kB BK265.out⟩, ⟨bB2 HB.out GE264.out GE265.out⟩⟩
       ·rw [if_neg c20] at H
        have c20b0 : decide (a1_2 < 0) = false := decide_eq_false c20; clear c20
        have H' := aM H
        clear H; have hnb24 := NB265_264.out; have hnc24 := NB264_265.out
        have hcz25_0 : wc.cell? ⟨gb265, 0, none⟩ = some (.int .i64 a1_0) := (blk_cell BK265.out 0).trans rfl
        have hcz25_1 : wc.cell? ⟨gb265, 1, none⟩ = some (.int .i64 a1_1) := (blk_cell BK265.out 1).trans rfl
        have hcz25_2 : wc.cell? ⟨gb265, 2, none⟩ = some (.int .i64 a1_2) := (blk_cell BK265.out 2).trans rfl
        have hfz25_0 := blk_frozen BK265.out 0; have hfz25_1 := blk_frozen BK265.out 1; have hfz25_2 := blk_frozen BK265.out 2
        have hcz26_0 : wc.cell? ⟨gb264, 0, none⟩ = some (.string a0_0) := (blk_cell BK264.out 0).trans rfl
        have hcz26_1 : wc.cell? ⟨gb264, 1, none⟩ = some (.slice A0_1 l0_1.length c0_1) := (blk_cell BK264.out 1).trans rfl
        have hcz26_2 : wc.cell? ⟨gb264, 2, none⟩ = some (.slice A0_2 l0_2.length c0_2) := (blk_cell BK264.out 2).trans rfl
        have hcz26_3 : wc.cell? ⟨gb264, 3, none⟩ = some (.slice A0_3 l0_3.length c0_3) := (blk_cell BK264.out 3).trans rfl
        have hcz26_4 : wc.cell? ⟨gb264, 4, none⟩ = some (.slice A0_4 l0_4.length c0_4) := (blk_cell BK264.out 4).trans rfl
        have hfz26_0 := blk_frozen BK264.out 0; have hfz26_1 := blk_frozen BK264.out 1; have hfz26_2 := blk_frozen BK264.out 2; have hfz26_3 := blk_frozen BK264.out 3; have hfz26_4 := blk_frozen BK264.out 4
        go_wp2
        repeat (go_quiet (fail); try go_wp2)
        go_meet
        case rel => exact ⟨_, (decide (a1_2 ≥ (l0_1.length : Int))), eT, H', ⟨by have := HJ2.out; first | omega | exact Nat.le_refl _⟩, ⟨kB BK264.out⟩, ⟨kB BK265.out⟩, ⟨bB2 HB.out GE264.out GE265.out⟩⟩
    case rest =>
     clear HC12; obtain ⟨kq, x36_11, rfl, HA, HJ11, BK264, BK265, HB⟩ := hcut
     cases kq with
     | zero => exact absurd HA.out (by simp [r40_guard.j1])
     | succ kj11 =>
      have H := HA.out; clear HA
      simp only [r40_guard.j1] at H
      by_cases c27 : x36_11 = true
      ·subst c27
       have H1 : (some 1) = some r := by rw [if_pos rfl] at H; exact H
       clear H; have H := H1; clear H1
       obtain rfl := Option.some.inj H
       go_wp2
       repeat (go_quiet (fail); try go_wp2)
       go_ret
       exact ⟨rT, bB2 HB.out GE264.out GE265.out⟩
      ·replace c27 := Bool.eq_false_iff.mpr c27
       subst c27
       have H1 : (if 0 ≤ a1_1 then (if a1_1 < (l0_1.length : Int) then (if 0 ≤ a1_2 then (if a1_2 < (l0_1.length : Int) then (if ((rd_T48 l0_1 a1_1).f1) = ((rd_T48 l0_1 a1_2).f1) then (some 0) else (some 17)) else (none)) else (none)) else (none)) else (none)) = some r := by rw [if_neg (show ¬ (false = true) by decide)] at H; exact H
       clear H; have H := H1; clear H1
       by_cases c28 : 0 ≤ a1_1
       ·rw [if_pos c28] at H
        have c28b0 : decide (0 ≤ a1_1) = true := decide_eq_true c28; clear c28
        by_cases c29 : a1_1 < (l0_1.length : Int)
        ·rw [if_pos c29] at H
         have c29b0 : decide (a1_1 < (l0_1.length : Int)) = true := decide_eq_true c29; clear c29
         by_cases c30 : 0 ≤ a1_2
         ·rw [if_pos c30] at H
          have c30b0 : decide (0 ≤ a1_2) = true := decide_eq_true c30; clear c30
          by_cases c31 : a1_2 < (l0_1.length : Int)
          ·rw [if_pos c31] at H
           have c31b0 : decide (a1_2 < (l0_1.length : Int)) = true := decide_eq_true c31; clear c31
           by_cases c32 : ((rd_T48 l0_1 a1_1).f1) = ((rd_T48 l0_1 a1_2).f1)
           ·rw [if_pos c32] at H
            have c32b0 : (((rd_T48 l0_1 a1_1).f1) == ((rd_T48 l0_1 a1_2).f1)) = true := beq_iff_eq.mpr c32; have c32b1 : (((rd_T48 l0_1 a1_1).f1) != ((rd_T48 l0_1 a1_2).f1)) = false := bne_eq_false_iff_eq.mpr c32; clear c32
            obtain rfl := Option.some.inj H
            have hnb33 := NB264_265.out; have hnc33 := NB265_264.out
            have hcz34_0 : wc.cell? ⟨gb264, 0, none⟩ = some (.string a0_0) := (blk_cell BK264.out 0).trans rfl
            have hcz34_1 : wc.cell? ⟨gb264, 1, none⟩ = some (.slice A0_1 l0_1.length c0_1) := (blk_cell BK264.out 1).trans rfl
            have hcz34_2 : wc.cell? ⟨gb264, 2, none⟩ = some (.slice A0_2 l0_2.length c0_2) := (blk_cell BK264.out 2).trans rfl
            have hcz34_3 : wc.cell? ⟨gb264, 3, none⟩ = some (.slice A0_3 l0_3.length c0_3) := (blk_cell BK264.out 3).trans rfl
            have hcz34_4 : wc.cell? ⟨gb264, 4, none⟩ = some (.slice A0_4 l0_4.length c0_4) := (blk_cell BK264.out 4).trans rfl
            have hfz34_0 := blk_frozen BK264.out 0; have hfz34_1 := blk_frozen BK264.out 1; have hfz34_2 := blk_frozen BK264.out 2; have hfz34_3 := blk_frozen BK264.out 3; have hfz34_4 := blk_frozen BK264.out 4
            have hcz35_0 : wc.cell? ⟨gb265, 0, none⟩ = some (.int .i64 a1_0) := (blk_cell BK265.out 0).trans rfl
            have hcz35_1 : wc.cell? ⟨gb265, 1, none⟩ = some (.int .i64 a1_1) := (blk_cell BK265.out 1).trans rfl
            have hcz35_2 : wc.cell? ⟨gb265, 2, none⟩ = some (.int .i64 a1_2) := (blk_cell BK265.out 2).trans rfl
            have hfz35_0 := blk_frozen BK265.out 0; have hfz35_1 := blk_frozen BK265.out 1; have hfz35_2 := blk_frozen BK265.out 2; have p266 : 0 ≤ (a1_1 : Int) := dT; have q266 : a1_1 < (l0_1.length : Int) := dT; obtain ⟨ad266, e266, hx266_0, hx266_1⟩ := at_T48 HR0_1.out a1_1 p266 q266; cases e266; replace hx266_0 := (HB.out.cell (World.block_lt_of_cell? w _ hx266_0)).trans hx266_0; replace hx266_1 := (HB.out.cell (World.block_lt_of_cell? w _ hx266_1)).trans hx266_1; replace p266 := eq_true p266; replace q266 := eq_true q266; have p267 : 0 ≤ (a1_2 : Int) := dT; have q267 : a1_2 < (l0_1.length : Int) := dT; obtain ⟨ad267, e267, hx267_0, hx267_1⟩ := at_T48 HR0_1.out a1_2 p267 q267; obtain rfl : ad266 = ad267 := (by injection e267); replace hx267_0 := (HB.out.cell (World.block_lt_of_cell? w _ hx267_0)).trans hx267_0; replace hx267_1 := (HB.out.cell (World.block_lt_of_cell? w _ hx267_1)).trans hx267_1; replace p267 := eq_true p267; replace q267 := eq_true q267
            go_wp2
            repeat (go_quiet (fail); try go_wp2)
            go_ret
            exact ⟨rT, bB2 HB.out GE264.out GE265.out⟩
           ·rw [if_neg c32] at H
            have c32b0 : (((rd_T48 l0_1 a1_1).f1) == ((rd_T48 l0_1 a1_2).f1)) = false := beq_eq_false_iff_ne.mpr c32; have c32b1 : (((rd_T48 l0_1 a1_1).f1) != ((rd_T48 l0_1 a1_2).f1)) = true := bne_iff_ne.mpr c32
            obtain rfl := Option.some.inj H
            have hnb36 := NB264_265.out; have hnc36 := NB265_264.out
            have hcz37_0 : wc.cell? ⟨gb264, 0, none⟩ = some (.string a0_0) := (blk_cell BK264.out 0).trans rfl
            have hcz37_1 : wc.cell? ⟨gb264, 1, none⟩ = some (.slice A0_1 l0_1.length c0_1) := (blk_cell BK264.out 1).trans rfl
            have hcz37_2 : wc.cell? ⟨gb264, 2, none⟩ = some (.slice A0_2 l0_2.length c0_2) := (blk_cell BK264.out 2).trans rfl
            have hcz37_3 : wc.cell? ⟨gb264, 3, none⟩ = some (.slice A0_3 l0_3.length c0_3) := (blk_cell BK264.out 3).trans rfl
            have hcz37_4 : wc.cell? ⟨gb264, 4, none⟩ = some (.slice A0_4 l0_4.length c0_4) := (blk_cell BK264.out 4).trans rfl
            have hfz37_0 := blk_frozen BK264.out 0; have hfz37_1 := blk_frozen BK264.out 1; have hfz37_2 := blk_frozen BK264.out 2; have hfz37_3 := blk_frozen BK264.out 3; have hfz37_4 := blk_frozen BK264.out 4
            have hcz38_0 : wc.cell? ⟨gb265, 0, none⟩ = some (.int .i64 a1_0) := (blk_cell BK265.out 0).trans rfl
            have hcz38_1 : wc.cell? ⟨gb265, 1, none⟩ = some (.int .i64 a1_1) := (blk_cell BK265.out 1).trans rfl
            have hcz38_2 : wc.cell? ⟨gb265, 2, none⟩ = some (.int .i64 a1_2) := (blk_cell BK265.out 2).trans rfl
            have hfz38_0 := blk_frozen BK265.out 0; have hfz38_1 := blk_frozen BK265.out 1; have hfz38_2 := blk_frozen BK265.out 2; have p266 : 0 ≤ (a1_1 : Int) := dT; have q266 : a1_1 < (l0_1.length : Int) := dT; obtain ⟨ad266, e266, hx266_0, hx266_1⟩ := at_T48 HR0_1.out a1_1 p266 q266; cases e266; replace hx266_0 := (HB.out.cell (World.block_lt_of_cell? w _ hx266_0)).trans hx266_0; replace hx266_1 := (HB.out.cell (World.block_lt_of_cell? w _ hx266_1)).trans hx266_1; replace p266 := eq_true p266; replace q266 := eq_true q266; have p267 : 0 ≤ (a1_2 : Int) := dT; have q267 : a1_2 < (l0_1.length : Int) := dT; obtain ⟨ad267, e267, hx267_0, hx267_1⟩ := at_T48 HR0_1.out a1_2 p267 q267; obtain rfl : ad266 = ad267 := (by injection e267); replace hx267_0 := (HB.out.cell (World.block_lt_of_cell? w _ hx267_0)).trans hx267_0; replace hx267_1 := (HB.out.cell (World.block_lt_of_cell? w _ hx267_1)).trans hx267_1; replace p267 := eq_true p267; replace q267 := eq_true q267
            go_wp2
            repeat (go_quiet (fail); try go_wp2)
            go_ret
            exact ⟨rT, bB2 HB.out GE264.out GE265.out⟩
          ·rw [if_neg c31] at H
           exact absurd H (by simp)
         ·rw [if_neg c30] at H
          exact absurd H (by simp)
        ·rw [if_neg c29] at H
         exact absurd H (by simp)
       ·rw [if_neg c28] at H
        exact absurd H (by simp)




/-! ### r40_Check: function 12 -/
mutual
def r40_Check.l0 : Nat → List (S51) → Int → ByteArray → List (S48) → List (S62) → List (S111) → List (S111) → Option (Int)
 | 0, _, _, _, _, _, _, _ => none
 | k + 1, x0, x5, x269000, x269001, x269002, x269003, x269004 => if x5 < (x0.length : Int) then (if 0 ≤ x5 then ((r39_Check.f k ((rd_T51 x0 x5).f0) ((rd_T51 x0 x5).f1)).bind fun t270 => (if t270 = 0 then (r40_Check.l0 k x0 (wrap64 (x5 + 1)) x269000 x269001 x269002 x269003 x269004) else (some t270))) else (none)) else (if (x0.length : Int) < 1 then (r40_Check.j1 k x0 true x269000 x269001 x269002 x269003 x269004) else (if (x0.length : Int) > 8 then (r40_Check.j1 k x0 true x269000 x269001 x269002 x269003 x269004) else (r40_Check.j1 k x0 (decide ((x269001.length : Int) > 4)) x269000 x269001 x269002 x269003 x269004)))
def r40_Check.j1 : Nat → List (S51) → Bool → ByteArray → List (S48) → List (S62) → List (S111) → List (S111) → Option (Int)
 | 0, _, _, _, _, _, _, _ => none
 | k + 1, x0, x38, x269000, x269001, x269002, x269003, x269004 => if x38 = true then (some 2) else (r40_Check.l1 k x0 0 x269000 x269001 x269002 x269003 x269004)
def r40_Check.l1 : Nat → List (S51) → Int → ByteArray → List (S48) → List (S62) → List (S111) → List (S111) → Option (Int)
 | 0, _, _, _, _, _, _, _ => none
 | k + 1, x0, x7, x269000, x269001, x269002, x269003, x269004 => if x7 < (x269001.length : Int) then ((r40_variable.f k x0 x269000 x269001 x269002 x269003 x269004 x7).bind fun t271 => (if t271 = 0 then (r40_Check.l1 k x0 (wrap64 (x7 + 1)) x269000 x269001 x269002 x269003 x269004) else (some t271))) else (r40_Check.l2 k 0 x269000 x269001 x269002 x269003 x269004)
def r40_Check.l2 : Nat → Int → ByteArray → List (S48) → List (S62) → List (S111) → List (S111) → Option (Int)
 | 0, _, _, _, _, _, _ => none
 | k + 1, x9, x269000, x269001, x269002, x269003, x269004 => if x9 < (x269002.length : Int) then (if 0 ≤ x9 then ((r40_guard.f k x269000 x269001 x269002 x269003 x269004 ((rd_T62 x269002 x9).f0) ((rd_T62 x269002 x9).f1) ((rd_T62 x269002 x9).f2)).bind fun t273 => (if t273 = 0 then (r40_Check.l2 k (wrap64 (x9 + 1)) x269000 x269001 x269002 x269003 x269004) else (some t273))) else (none)) else (some 0)
end
def r40_Check.f (k : Nat) (l0 : List (S51)) (a1_0 : ByteArray) (l1_1 : List (S48)) (l1_2 : List (S62)) (l1_3 : List (S111)) (l1_4 : List (S111)) : Option (Int) := r40_Check.l0 k l0 0 a1_0 l1_1 l1_2 l1_3 l1_4
theorem r40_Check.mono_l : ∀ k, (∀ y0 y1 y2 y3 y4 y5 y6, LeO (r40_Check.l0 k y0 y1 y2 y3 y4 y5 y6) (r40_Check.l0 (k + 1) y0 y1 y2 y3 y4 y5 y6)) ∧ (∀ y0 y1 y2 y3 y4 y5 y6, LeO (r40_Check.j1 k y0 y1 y2 y3 y4 y5 y6) (r40_Check.j1 (k + 1) y0 y1 y2 y3 y4 y5 y6)) ∧ (∀ y0 y1 y2 y3 y4 y5 y6, LeO (r40_Check.l1 k y0 y1 y2 y3 y4 y5 y6) (r40_Check.l1 (k + 1) y0 y1 y2 y3 y4 y5 y6)) ∧ (∀ y0 y1 y2 y3 y4 y5, LeO (r40_Check.l2 k y0 y1 y2 y3 y4 y5) (r40_Check.l2 (k + 1) y0 y1 y2 y3 y4 y5))
 | 0 => ⟨fun _ _ _ _ _ _ _ r h => by simp [r40_Check.l0] at h, fun _ _ _ _ _ _ _ r h => by simp [r40_Check.j1] at h, fun _ _ _ _ _ _ _ r h => by simp [r40_Check.l1] at h, fun _ _ _ _ _ _ r h => by simp [r40_Check.l2] at h⟩
 | k + 1 => by
  obtain ⟨ih0, ih1, ih2, ih3⟩ := r40_Check.mono_l k
  refine ⟨?_, ?_, ?_, ?_⟩
  ·intro y0 y1 y2 y3 y4 y5 y6
   unfold r40_Check.l0
   repeat' first
   | (with_reducible first | exact ih0 _ _ _ _ _ _ _ | exact ih1 _ _ _ _ _ _ _ | exact ih2 _ _ _ _ _ _ _ | exact ih3 _ _ _ _ _ _ | exact r39_Check.mono _ _ _ | exact r40_guard.mono _ _ _ _ _ _ _ _ _ | exact r40_variable.mono _ _ _ _ _ _ _ _ | exact LeO.refl _ | exact LeO.none _ | refine LeO.ite ?_ ?_ | refine LeO.bind ?_ (fun _ => ?_))
   | exact LeO.none _
   | refine LeO.ite ?_ ?_
   | refine LeO.bind ?_ (fun _ => ?_)
  ·intro y0 y1 y2 y3 y4 y5 y6
   unfold r40_Check.j1
   repeat' first
   | (with_reducible first | exact ih0 _ _ _ _ _ _ _ | exact ih1 _ _ _ _ _ _ _ | exact ih2 _ _ _ _ _ _ _ | exact ih3 _ _ _ _ _ _ | exact r39_Check.mono _ _ _ | exact r40_guard.mono _ _ _ _ _ _ _ _ _ | exact r40_variable.mono _ _ _ _ _ _ _ _ | exact LeO.refl _ | exact LeO.none _ | refine LeO.ite ?_ ?_ | refine LeO.bind ?_ (fun _ => ?_))
   | exact LeO.none _
   | refine LeO.ite ?_ ?_
   | refine LeO.bind ?_ (fun _ => ?_)
  ·intro y0 y1 y2 y3 y4 y5 y6
   unfold r40_Check.l1
   repeat' first
   | (with_reducible first | exact ih0 _ _ _ _ _ _ _ | exact ih1 _ _ _ _ _ _ _ | exact ih2 _ _ _ _ _ _ _ | exact ih3 _ _ _ _ _ _ | exact r39_Check.mono _ _ _ | exact r40_guard.mono _ _ _ _ _ _ _ _ _ | exact r40_variable.mono _ _ _ _ _ _ _ _ | exact LeO.refl _ | exact LeO.none _ | refine LeO.ite ?_ ?_ | refine LeO.bind ?_ (fun _ => ?_))
   | exact LeO.none _
   | refine LeO.ite ?_ ?_
   | refine LeO.bind ?_ (fun _ => ?_)
  ·intro y0 y1 y2 y3 y4 y5
   unfold r40_Check.l2
   repeat' first
   | (with_reducible first | exact ih0 _ _ _ _ _ _ _ | exact ih1 _ _ _ _ _ _ _ | exact ih2 _ _ _ _ _ _ _ | exact ih3 _ _ _ _ _ _ | exact r39_Check.mono _ _ _ | exact r40_guard.mono _ _ _ _ _ _ _ _ _ | exact r40_variable.mono _ _ _ _ _ _ _ _ | exact LeO.refl _ | exact LeO.none _ | refine LeO.ite ?_ ?_ | refine LeO.bind ?_ (fun _ => ?_))
   | exact LeO.none _
   | refine LeO.ite ?_ ?_
   | refine LeO.bind ?_ (fun _ => ?_)
theorem r40_Check.mono : ∀ a0 a1 a2 a3 a4 a5 k, LeO (r40_Check.f k a0 a1 a2 a3 a4 a5) (r40_Check.f (k + 1) a0 a1 a2 a3 a4 a5) := by
 intro a0 a1 a2 a3 a4 a5 k
 obtain ⟨ih0, ih1, ih2, ih3⟩ := r40_Check.mono_l k
 unfold r40_Check.f
 repeat' first
   | (with_reducible first | exact ih0 _ _ _ _ _ _ _ | exact ih1 _ _ _ _ _ _ _ | exact ih2 _ _ _ _ _ _ _ | exact ih3 _ _ _ _ _ _ | exact r39_Check.mono _ _ _ | exact r40_guard.mono _ _ _ _ _ _ _ _ _ | exact r40_variable.mono _ _ _ _ _ _ _ _ | exact LeO.refl _ | exact LeO.none _ | refine LeO.ite ?_ ?_ | refine LeO.bind ?_ (fun _ => ?_))
   | exact LeO.none _
   | refine LeO.ite ?_ ?_
   | refine LeO.bind ?_ (fun _ => ?_)
def r40_Check.T18 : Bool × List (List Nat × List Nat) := (true, [([], []), ([], []), ([1], [1]), ([], []), ([2, 3], [2, 3]), ([4], [4]), ([0, 5], [0, 5]), ([6, 6, 0, 1, 2, 3, 4, 5, 6], [6])])
def r40_Check.B18 : List Nat := [0, 0, 2, 0, 14, 30, 63, 127]
theorem r40_Check.tab18 : rtab .any (opsOf Try.f12 18) = r40_Check.T18 := by kernel_rfl
theorem r40_Check.bits18 : waitsOk r40_Check.T18.2 r40_Check.B18 = true := by kernel_rfl
set_option maxHeartbeats 8000000 in
set_option maxRecDepth 100000 in
theorem r40_Check.calls (k : Nat) (A0 : Option Addr) (c0 : Nat) (l0 : List (S51)) (a1_0 : ByteArray) (A1_1 : Option Addr) (c1_1 : Nat) (l1_1 : List (S48)) (A1_2 : Option Addr) (c1_2 : Nat) (l1_2 : List (S62)) (A1_3 : Option Addr) (c1_3 : Nat) (l1_3 : List (S111)) (A1_4 : Option Addr) (c1_4 : Nat) (l1_4 : List (S111)) (r : Int) (w : World) (hr0 : Kd.C k51 w A0 l0.length l0) (hc0 : l0.length ≤ c0) (hr1_1 : Kd.C k48 w A1_1 l1_1.length l1_1) (hc1_1 : l1_1.length ≤ c1_1) (hr1_2 : Kd.C k62 w A1_2 l1_2.length l1_2) (hc1_2 : l1_2.length ≤ c1_2) (hr1_3 : Kd.C k111 w A1_3 l1_3.length l1_3) (hc1_3 : l1_3.length ≤ c1_3) (hr1_4 : Kd.C k111 w A1_4 l1_4.length l1_4) (hc1_4 : l1_4.length ≤ c1_4) (h : r40_Check.f k l0 a1_0 l1_1 l1_2 l1_3 l1_4 = some r) :
  Calls Try.prog 12 #[.slice A0 l0.length c0, .agg #[.string a1_0, .slice A1_1 l1_1.length c1_1, .slice A1_2 l1_2.length c1_2, .slice A1_3 l1_3.length c1_3, .slice A1_4 l1_4.length c1_4]] w fun e w' => e = .returned (.int .i64 r) ∧ Below w.heap.size w w' := by
 have hu27 := Try.underlying27; have hu9 := Try.underlying9; have hu23 := Try.underlying23; have hu24 := Try.underlying24; have hu25 := Try.underlying25; have hu51 := Try.underlying51; have hu9 := Try.underlying9; have hu49 := Try.underlying49; have hu62 := Try.underlying62; have hu3 := Try.underlying3; have HR0 := aM hr0; have HC0 := aM hc0; clear hr0 hc0; have HR1_1 := aM hr1_1; have HC1_1 := aM hc1_1; clear hr1_1 hc1_1; have HR1_2 := aM hr1_2; have HC1_2 := aM hc1_2; clear hr1_2 hc1_2; have HR1_3 := aM hr1_3; have HC1_3 := aM hc1_3; clear hr1_3 hc1_3; have HR1_4 := aM hr1_4; have HC1_4 := aM hc1_4; clear hr1_4 hc1_4; have HB := aM (Below.refl w.heap.size w); have H : (r40_Check.l0 k l0 0 a1_0 l1_1 l1_2 l1_3 l1_4) = some r := h; clear h
 have H' := aM H
 clear H
 go_enter Try.func12, Try.ntmps12
 go_wp2_with (first | ((with_reducible refine gate_dst (N := 3) rfl ?_); (try (refine gate_guard (by rfl) ?_; dsimp only)); refine box_event ?hg (N := 3) ?hd (cs := #[.string a1_0, .slice A1_1 l1_1.length c1_1, .slice A1_2 l1_2.length c1_2, .slice A1_3 l1_3.length c1_3, .slice A1_4 l1_4.length c1_4]) (t := 27) ?hr ?_; (case hd => rfl); (case hg => rfl); (case hr => first | (go_simp; done) | (go_simp; rfl)); intro gb268 hg w3 hbox hb; have n0_ := aM (below_step (bB HB.out) hb); have n1_ := aM (hbox); have n2_ := aM ((by rw [hg]; exact (below_size (bB HB.out)) : w.heap.size ≤ gb268)); have n3_ := aM ((by rw [hg]; exact (below_size (bB HB.out)) : w.heap.size ≤ gb268)); clear HB; have HB := n0_; have BK268 := n1_; have GW268 := n2_; have GE268 := n3_; clear n0_ n1_ n2_ n3_; clear hb hbox hg))
 go_loopg [5] k (fun kq v5 w' => ∃ (x5_1 : Int), v5 = .int .i64 x5_1 ∧ Aside0 (r40_Check.l0 kq l0 x5_1 a1_0 l1_1 l1_2 l1_3 l1_4 = some r) ∧ Aside0 (kq ≤ k) ∧ Aside0 (w'.heap[gb268]? = some (.cells #[.string a1_0, (.slice A1_1 l1_1.length c1_1), (.slice A1_2 l1_2.length c1_2), (.slice A1_3 l1_3.length c1_3), (.slice A1_4 l1_4.length c1_4)] 27 (0, 0))) ∧ Aside0 (Below w.heap.size w w'))
 case atStart => exact ⟨(0), eT, H', ⟨Nat.le_refl _⟩, ⟨kB BK268.out⟩, ⟨bB1 HB.out GE268.out⟩⟩
 case round =>
  clear H'; obtain ⟨x5_1, rfl, HA, HK1, BK268, HB⟩ := hrel
  cases gk with
  | zero => exact absurd HA.out (by simp [r40_Check.l0])
  | succ k1 =>
   have H := HA.out; clear HA
   simp only [r40_Check.l0] at H
   by_cases c4 : x5_1 < (l0.length : Int)
   ·rw [if_pos c4] at H
    have c4b0 : decide (x5_1 < (l0.length : Int)) = true := decide_eq_true c4; clear c4
    by_cases c5 : 0 ≤ x5_1
    ·rw [if_pos c5] at H
     have c5b0 : decide (0 ≤ x5_1) = true := decide_eq_true c5; clear c5; replace H := Option.bind_eq_some_iff.mp H; obtain ⟨t270, A60, H⟩ := H
     replace H : (if t270 = 0 then (r40_Check.l0 k1 l0 (wrap64 (x5_1 + 1)) a1_0 l1_1 l1_2 l1_3 l1_4) else (some t270)) = some r := H
     have A6 := aM A60; clear A60
     by_cases c7 : t270 = 0
     ·rw [if_pos c7] at H
      have c7b0 : (t270 == 0) = true := beq_iff_eq.mpr c7; have c7b1 : (t270 != 0) = false := bne_eq_false_iff_eq.mpr c7; clear c7
      have H' := aM H
      clear H; have p269 : 0 ≤ (x5_1 : Int) := dT; have q269 : x5_1 < (l0.length : Int) := dT; obtain ⟨ad269, A269_1, c269_1, e269, hx269_0, hx269_1, hl269_1, hi269_1⟩ := at_T51 HR0.out x5_1 p269 q269; cases e269; replace hx269_0 := (HB.out.cell (World.block_lt_of_cell? w _ hx269_0)).trans hx269_0; replace hx269_1 := (HB.out.cell (World.block_lt_of_cell? w _ hx269_1)).trans hx269_1; have HR269_1 := aM hi269_1; have HC269_1 := aM hl269_1; clear hi269_1 hl269_1; replace p269 := eq_true p269; replace q269 := eq_true q269
      go_wp2_with (first | ((with_reducible refine gate_callee (f := 32) rfl ?_); refine goesL_ (some 21) rfl rfl Try.func32 (by kernel_rfl) rfl #[.agg #[.string ((rd_T51 l0 x5_1).f0), .slice A269_1 ((rd_T51 l0 x5_1).f1).length c269_1]] rfl mT ?_; (with_reducible refine (r39_Check.calls k1 ((rd_T51 l0 x5_1).f0) _ _ ((rd_T51 l0 x5_1).f1) t270 _ ?side1 ?side2 A6.out).mono ?_); (case side1 => exact cB HR269_1.out HB.out); (case side2 => exact HC269_1.out); rintro e w8 ⟨rfl, hb⟩; refine ⟨_, rfl, ?_⟩; have n0_ := aM (kW BK268.out hb); have n1_ := aM (below_step (bB1 HB.out GE268.out) hb); clear BK268; clear HB; have BK268 := n0_; have HB := n1_; clear n0_ n1_; (try clear hb); (try clear hb2); (try clear hk); (try clear hi)))
      go_roundg k1
      case measure => have := HK1.out; omega
      case rel => exact ⟨(wrap64 (x5_1 + 1)), eT, H', ⟨by have := HK1.out; omega⟩, ⟨kB BK268.out⟩, ⟨bB1 HB.out GE268.out⟩⟩
     ·rw [if_neg c7] at H
      have c7b0 : (t270 == 0) = false := beq_eq_false_iff_ne.mpr c7; have c7b1 : (t270 != 0) = true := bne_iff_ne.mpr c7
      obtain rfl := Option.some.inj H
      have p269 : 0 ≤ (x5_1 : Int) := dT; have q269 : x5_1 < (l0.length : Int) := dT; obtain ⟨ad269, A269_1, c269_1, e269, hx269_0, hx269_1, hl269_1, hi269_1⟩ := at_T51 HR0.out x5_1 p269 q269; cases e269; replace hx269_0 := (HB.out.cell (World.block_lt_of_cell? w _ hx269_0)).trans hx269_0; replace hx269_1 := (HB.out.cell (World.block_lt_of_cell? w _ hx269_1)).trans hx269_1; have HR269_1 := aM hi269_1; have HC269_1 := aM hl269_1; clear hi269_1 hl269_1; replace p269 := eq_true p269; replace q269 := eq_true q269
      go_wp2_with (first | ((with_reducible refine gate_callee (f := 32) rfl ?_); refine goesL_ (some 21) rfl rfl Try.func32 (by kernel_rfl) rfl #[.agg #[.string ((rd_T51 l0 x5_1).f0), .slice A269_1 ((rd_T51 l0 x5_1).f1).length c269_1]] rfl mT ?_; (with_reducible refine (r39_Check.calls k1 ((rd_T51 l0 x5_1).f0) _ _ ((rd_T51 l0 x5_1).f1) t270 _ ?side1 ?side2 A6.out).mono ?_); (case side1 => exact cB HR269_1.out HB.out); (case side2 => exact HC269_1.out); rintro e w9 ⟨rfl, hb⟩; refine ⟨_, rfl, ?_⟩; have n0_ := aM (kW BK268.out hb); have n1_ := aM (below_step (bB1 HB.out GE268.out) hb); clear BK268; clear HB; have BK268 := n0_; have HB := n1_; clear n0_ n1_; (try clear hb); (try clear hb2); (try clear hk); (try clear hi)))
      go_ret
      exact ⟨rT, bB1 HB.out GE268.out⟩
    ·rw [if_neg c5] at H
     exact absurd H (by simp)
   ·rw [if_neg c4] at H
    have c4b0 : decide (x5_1 < (l0.length : Int)) = false := decide_eq_false c4; clear c4; have HC10 := aM H; clear H
    go_upto_region 7 with (fail)
    go_cut [38] (fun v38 wc => ∃ (kq : Nat) (x38_9 : Bool), v38 = .bool x38_9 ∧ Aside0 (r40_Check.j1 kq l0 x38_9 a1_0 l1_1 l1_2 l1_3 l1_4 = some r) ∧ Aside0 (kq ≤ k1) ∧ Aside0 (wc.heap[gb268]? = some (.cells #[.string a1_0, (.slice A1_1 l1_1.length c1_1), (.slice A1_2 l1_2.length c1_2), (.slice A1_3 l1_3.length c1_3), (.slice A1_4 l1_4.length c1_4)] 27 (0, 0))) ∧ Aside0 (Below w.heap.size w wc))
    case first =>
     have H := HC10.out; clear HC10
     by_cases c11 : (l0.length : Int) < 1
     ·rw [if_pos c11] at H
      have c11b0 : decide ((l0.length : Int) < 1) = true := decide_eq_true c11; have c11b1 : decide (l0.length < 1) = true := decide_eq_true (by omega); clear c11
      (first | rw [c11b0] | (simp only [i64_w, i32_w]; rw [c11b0]) | skip)
      have H' := aM H
      clear H
      go_wp2
      go_meet
      case rel => exact ⟨_, (true), eT, H', ⟨by have := HK1.out; first | omega | exact Nat.le_refl _⟩, ⟨kB BK268.out⟩, ⟨bB1 HB.out GE268.out⟩⟩
     ·rw [if_neg c11] at H
      have c11b0 : decide ((l0.length : Int) < 1) = false := decide_eq_false c11; have c11b1 : decide (l0.length < 1) = false := decide_eq_false (by omega); clear c11
      (first | rw [c11b0] | (simp only [i64_w, i32_w]; rw [c11b0]) | skip)
      by_cases c12 : (l0.length : Int) > 8
      ·rw [if_pos c12] at H
       have c12b0 : decide (8 < (l0.length : Int)) = true := decide_eq_true c12; have c12b1 : decide (8 < l0.length) = true := decide_eq_true (by omega); clear c12
       have H' := aM H
       clear H
       go_wp2
       go_meet
       case rel => exact ⟨_, (true), eT, H', ⟨by have := HK1.out; first | omega | exact Nat.le_refl _⟩, ⟨kB BK268.out⟩, ⟨bB1 HB.out GE268.out⟩⟩
      ·rw [if_neg c12] at H
       have c12b0 : decide (8 < (l0.length : Int)) = false := decide_eq_false c12; have c12b1 : decide (8 < l0.length) = false := decide_eq_false (by omega); clear c12
       have H' := aM H
       clear H
       have hcz13_0 : wr.cell? ⟨gb268, 0, none⟩ = some (.string a1_0) := (blk_cell BK268.out 0).trans rfl
       have hcz13_1 : wr.cell? ⟨gb268, 1, none⟩ = some (.slice A1_1 l1_1.length c1_1) := (blk_cell BK268.out 1).trans rfl
       have hcz13_2 : wr.cell? ⟨gb268, 2, none⟩ = some (.slice A1_2 l1_2.length c1_2) := (blk_cell BK268.out 2).trans rfl
       have hcz13_3 : wr.cell? ⟨gb268, 3, none⟩ = some (.slice A1_3 l1_3.length c1_3) := (blk_cell BK268.out 3).trans rfl
       have hcz13_4 : wr.cell? ⟨gb268, 4, none⟩ = some (.slice A1_4 l1_4.length c1_4) := (blk_cell BK268.out 4).trans rfl
       have hfz13_0 := blk_frozen BK268.out 0; have hfz13_1 := blk_frozen BK268.out 1; have hfz13_2 := blk_frozen BK268.out 2; have hfz13_3 := blk_frozen BK268.out 3; have hfz13_4 := blk_frozen BK268.out 4
       go_wp2
       go_meet
       case rel => exact ⟨_, (decide ((l1_1.length : Int) > 4)), eT, H', ⟨by have := HK1.out; first | omega | exact Nat.le_refl _⟩, ⟨kB BK268.out⟩, ⟨bB1 HB.out GE268.out⟩⟩
    case rest =>
     clear HC10
     try clear hx2
     try clear hx269_0
     try clear hx269_1
     obtain ⟨kq, x38_9, rfl, HA, HJ9, BK268, HB⟩ := hcut
     cases kq with
     | zero => exact absurd HA.out (by simp [r40_Check.j1])
     | succ kj9 =>
      have H := HA.out; clear HA
      simp only [r40_Check.j1] at H
      by_cases c14 : x38_9 = true
      ·subst c14
       have H1 : (some 2) = some r := by rw [if_pos rfl] at H; exact H
       clear H; have H := H1; clear H1
       obtain rfl := Option.some.inj H
       go_wp2
       go_ret
       exact ⟨rT, bB1 HB.out GE268.out⟩
      ·replace c14 := Bool.eq_false_iff.mpr c14
       subst c14
       have H1 : (r40_Check.l1 kj9 l0 0 a1_0 l1_1 l1_2 l1_3 l1_4) = some r := by rw [if_neg (show ¬ (false = true) by decide)] at H; exact H
       clear H; have H := H1; clear H1
       have H' := aM H
       clear H
       go_wp2
       go_loopg [7] kj9 (fun kq v7 w' => ∃ (x7_3 : Int), v7 = .int .i64 x7_3 ∧ Aside0 (r40_Check.l1 kq l0 x7_3 a1_0 l1_1 l1_2 l1_3 l1_4 = some r) ∧ Aside0 (kq ≤ kj9) ∧ Aside0 (w'.heap[gb268]? = some (.cells #[.string a1_0, (.slice A1_1 l1_1.length c1_1), (.slice A1_2 l1_2.length c1_2), (.slice A1_3 l1_3.length c1_3), (.slice A1_4 l1_4.length c1_4)] 27 (0, 0))) ∧ Aside0 (Below w.heap.size w w'))
       case atStart => exact ⟨(0), eT, H', ⟨Nat.le_refl _⟩, ⟨kB BK268.out⟩, ⟨bB1 HB.out GE268.out⟩⟩
       case round =>
        clear H'
        try clear hx2
        try clear hx269_0
        try clear hx269_1
        obtain ⟨x7_3, rfl, HA, HK3, BK268, HB⟩ := hrel
        cases gk with
        | zero => exact absurd HA.out (by simp [r40_Check.l1])
        | succ k3 =>
         have H := HA.out; clear HA
         simp only [r40_Check.l1] at H
         by_cases c15 : x7_3 < (l1_1.length : Int)
         ·rw [if_pos c15] at H
          have c15b0 : decide (x7_3 < (l1_1.length : Int)) = true := decide_eq_true c15; clear c15; replace H := Option.bind_eq_some_iff.mp H; obtain ⟨t271, A160, H⟩ := H
          replace H : (if t271 = 0 then (r40_Check.l1 k3 l0 (wrap64 (x7_3 + 1)) a1_0 l1_1 l1_2 l1_3 l1_4) else (some t271)) = some r := H
          have A16 := aM A160; clear A160
          by_cases c17 : t271 = 0
          ·rw [if_pos c17] at H
           have c17b0 : (t271 == 0) = true := beq_iff_eq.mpr c17; have c17b1 : (t271 != 0) = false := bne_eq_false_iff_eq.mpr c17; clear c17
           have H' := aM H
           clear H
           have hcz18_0 : wr.cell? ⟨gb268, 0, none⟩ = some (.string a1_0) := (blk_cell BK268.out 0).trans rfl
           have hcz18_1 : wr.cell? ⟨gb268, 1, none⟩ = some (.slice A1_1 l1_1.length c1_1) := (blk_cell BK268.out 1).trans rfl
           have hcz18_2 : wr.cell? ⟨gb268, 2, none⟩ = some (.slice A1_2 l1_2.length c1_2) := (blk_cell BK268.out 2).trans rfl
           have hcz18_3 : wr.cell? ⟨gb268, 3, none⟩ = some (.slice A1_3 l1_3.length c1_3) := (blk_cell BK268.out 3).trans rfl
           have hcz18_4 : wr.cell? ⟨gb268, 4, none⟩ = some (.slice A1_4 l1_4.length c1_4) := (blk_cell BK268.out 4).trans rfl
           have hfz18_0 := blk_frozen BK268.out 0; have hfz18_1 := blk_frozen BK268.out 1; have hfz18_2 := blk_frozen BK268.out 2; have hfz18_3 := blk_frozen BK268.out 3; have hfz18_4 := blk_frozen BK268.out 4
           go_wp2_with (first | ((with_reducible refine gate_callee (f := 33) rfl ?_); refine goesL_ (some 49) rfl rfl Try.func33 (by kernel_rfl) rfl #[.slice A0 l0.length c0, .agg #[.string a1_0, .slice A1_1 l1_1.length c1_1, .slice A1_2 l1_2.length c1_2, .slice A1_3 l1_3.length c1_3, .slice A1_4 l1_4.length c1_4], .int .i64 x7_3] rfl mT ?_; (with_reducible refine (r40_variable.calls k3 _ _ l0 a1_0 _ _ l1_1 _ _ l1_2 _ _ l1_3 _ _ l1_4 x7_3 t271 _ ?side1 ?side2 ?side3 ?side4 ?side5 ?side6 ?side7 ?side8 ?side9 ?side10 A16.out).mono ?_); (case side1 => exact cB HR0.out HB.out); (case side2 => exact HC0.out); (case side3 => exact cB HR1_1.out HB.out); (case side4 => exact HC1_1.out); (case side5 => exact cB HR1_2.out HB.out); (case side6 => exact HC1_2.out); (case side7 => exact cB HR1_3.out HB.out); (case side8 => exact HC1_3.out); (case side9 => exact cB HR1_4.out HB.out); (case side10 => exact HC1_4.out); rintro e w19 ⟨rfl, hb⟩; refine ⟨_, rfl, ?_⟩; have n0_ := aM (kW BK268.out hb); have n1_ := aM (below_step (bB1 HB.out GE268.out) hb); clear BK268; clear HB; have BK268 := n0_; have HB := n1_; clear n0_ n1_; (try clear hb); (try clear hb2); (try clear hk); (try clear hi)))
           go_roundg k3
           case measure => have := HK1.out; have := HJ9.out; have := HK3.out; omega
           case rel => exact ⟨(wrap64 (x7_3 + 1)), eT, H', ⟨by have := HK1.out; have := HJ9.out; have := HK3.out; omega⟩, ⟨kB BK268.out⟩, ⟨bB1 HB.out GE268.out⟩⟩
          ·rw [if_neg c17] at H
           have c17b0 : (t271 == 0) = false := beq_eq_false_iff_ne.mpr c17; have c17b1 : (t271 != 0) = true := bne_iff_ne.mpr c17
           obtain rfl := Option.some.inj H
           have hcz20_0 : wr.cell? ⟨gb268, 0, none⟩ = some (.string a1_0) := (blk_cell BK268.out 0).trans rfl
           have hcz20_1 : wr.cell? ⟨gb268, 1, none⟩ = some (.slice A1_1 l1_1.length c1_1) := (blk_cell BK268.out 1).trans rfl
           have hcz20_2 : wr.cell? ⟨gb268, 2, none⟩ = some (.slice A1_2 l1_2.length c1_2) := (blk_cell BK268.out 2).trans rfl
           have hcz20_3 : wr.cell? ⟨gb268, 3, none⟩ = some (.slice A1_3 l1_3.length c1_3) := (blk_cell BK268.out 3).trans rfl
           have hcz20_4 : wr.cell? ⟨gb268, 4, none⟩ = some (.slice A1_4 l1_4.length c1_4) := (blk_cell BK268.out 4).trans rfl
           have hfz20_0 := blk_frozen BK268.out 0; have hfz20_1 := blk_frozen BK268.out 1; have hfz20_2 := blk_frozen BK268.out 2; have hfz20_3 := blk_frozen BK268.out 3; have hfz20_4 := blk_frozen BK268.out 4
           go_wp2_with (first | ((with_reducible refine gate_callee (f := 33) rfl ?_); refine goesL_ (some 49) rfl rfl Try.func33 (by kernel_rfl) rfl #[.slice A0 l0.length c0, .agg #[.string a1_0, .slice A1_1 l1_1.length c1_1, .slice A1_2 l1_2.length c1_2, .slice A1_3 l1_3.length c1_3, .slice A1_4 l1_4.length c1_4], .int .i64 x7_3] rfl mT ?_; (with_reducible refine (r40_variable.calls k3 _ _ l0 a1_0 _ _ l1_1 _ _ l1_2 _ _ l1_3 _ _ l1_4 x7_3 t271 _ ?side1 ?side2 ?side3 ?side4 ?side5 ?side6 ?side7 ?side8 ?side9 ?side10 A16.out).mono ?_); (case side1 => exact cB HR0.out HB.out); (case side2 => exact HC0.out); (case side3 => exact cB HR1_1.out HB.out); (case side4 => exact HC1_1.out); (case side5 => exact cB HR1_2.out HB.out); (case side6 => exact HC1_2.out); (case side7 => exact cB HR1_3.out HB.out); (case side8 => exact HC1_3.out); (case side9 => exact cB HR1_4.out HB.out); (case side10 => exact HC1_4.out); rintro e w21 ⟨rfl, hb⟩; refine ⟨_, rfl, ?_⟩; have n0_ := aM (kW BK268.out hb); have n1_ := aM (below_step (bB1 HB.out GE268.out) hb); clear BK268; clear HB; have BK268 := n0_; have HB := n1_; clear n0_ n1_; (try clear hb); (try clear hb2); (try clear hk); (try clear hi)))
           go_ret
           exact ⟨rT, bB1 HB.out GE268.out⟩
         ·rw [if_neg c15] at H
          have c15b0 : decide (x7_3 < (l1_1.length : Int)) = false := decide_eq_false c15; clear c15
          have H' := aM H
          clear H
          have hcz22_0 : wr.cell? ⟨gb268, 0, none⟩ = some (.string a1_0) := (blk_cell BK268.out 0).trans rfl
          have hcz22_1 : wr.cell? ⟨gb268, 1, none⟩ = some (.slice A1_1 l1_1.length c1_1) := (blk_cell BK268.out 1).trans rfl
          have hcz22_2 : wr.cell? ⟨gb268, 2, none⟩ = some (.slice A1_2 l1_2.length c1_2) := (blk_cell BK268.out 2).trans rfl
          have hcz22_3 : wr.cell? ⟨gb268, 3, none⟩ = some (.slice A1_3 l1_3.length c1_3) := (blk_cell BK268.out 3).trans rfl
          have hcz22_4 : wr.cell? ⟨gb268, 4, none⟩ = some (.slice A1_4 l1_4.length c1_4) := (blk_cell BK268.out 4).trans rfl
          have hfz22_0 := blk_frozen BK268.out 0; have hfz22_1 := blk_frozen BK268.out 1; have hfz22_2 := blk_frozen BK268.out 2; have hfz22_3 := blk_frozen BK268.out 3; have hfz22_4 := blk_frozen BK268.out 4
          go_wp2
          go_loopg [9] k3 (fun kq v9 w' => ∃ (x9_4 : Int), v9 = .int .i64 x9_4 ∧ Aside0 (r40_Check.l2 kq x9_4 a1_0 l1_1 l1_2 l1_3 l1_4 = some r) ∧ Aside0 (kq ≤ k3) ∧ Aside0 (w'.heap[gb268]? = some (.cells #[.string a1_0, (.slice A1_1 l1_1.length c1_1), (.slice A1_2 l1_2.length c1_2), (.slice A1_3 l1_3.length c1_3), (.slice A1_4 l1_4.length c1_4)] 27 (0, 0))) ∧ Aside0 (Below w.heap.size w w'))
          case atStart => exact ⟨(0), eT, H', ⟨Nat.le_refl _⟩, ⟨kB BK268.out⟩, ⟨bB1 HB.out GE268.out⟩⟩
          case round =>
           clear H'
           try clear hx2
           try clear hx269_0
           try clear hx269_1
           obtain ⟨x9_4, rfl, HA, HK4, BK268, HB⟩ := hrel
           cases gk with
           | zero => exact absurd HA.out (by simp [r40_Check.l2])
           | succ k4 =>
            have H := HA.out; clear HA
            simp only [r40_Check.l2] at H
            by_cases c23 : x9_4 < (l1_2.length : Int)
            ·rw [if_pos c23] at H
             have c23b0 : decide (x9_4 < (l1_2.length : Int)) = true := decide_eq_true c23; clear c23
             by_cases c24 : 0 ≤ x9_4
             ·rw [if_pos c24] at H
              have c24b0 : decide (0 ≤ x9_4) = true := decide_eq_true c24; clear c24; replace H := Option.bind_eq_some_iff.mp H; obtain ⟨t273, A250, H⟩ := H
              replace H : (if t273 = 0 then (r40_Check.l2 k4 (wrap64 (x9_4 + 1)) a1_0 l1_1 l1_2 l1_3 l1_4) else (some t273)) = some r := H
              have A25 := aM A250; clear A250
              by_cases c26 : t273 = 0
              ·rw [if_pos c26] at H
               have c26b0 : (t273 == 0) = true := beq_iff_eq.mpr c26; have c26b1 : (t273 != 0) = false := bne_eq_false_iff_eq.mpr c26; clear c26
               have H' := aM H
               clear H
               have hcz27_0 : wr.cell? ⟨gb268, 0, none⟩ = some (.string a1_0) := (blk_cell BK268.out 0).trans rfl
               have hcz27_1 : wr.cell? ⟨gb268, 1, none⟩ = some (.slice A1_1 l1_1.length c1_1) := (blk_cell BK268.out 1).trans rfl
               have hcz27_2 : wr.cell? ⟨gb268, 2, none⟩ = some (.slice A1_2 l1_2.length c1_2) := (blk_cell BK268.out 2).trans rfl
               have hcz27_3 : wr.cell? ⟨gb268, 3, none⟩ = some (.slice A1_3 l1_3.length c1_3) := (blk_cell BK268.out 3).trans rfl
               have hcz27_4 : wr.cell? ⟨gb268, 4, none⟩ = some (.slice A1_4 l1_4.length c1_4) := (blk_cell BK268.out 4).trans rfl
               have hfz27_0 := blk_frozen BK268.out 0; have hfz27_1 := blk_frozen BK268.out 1; have hfz27_2 := blk_frozen BK268.out 2; have hfz27_3 := blk_frozen BK268.out 3; have hfz27_4 := blk_frozen BK268.out 4
               try go_wp2
               have n0_ := aM (blk_drew BK268.out); have n1_ := aM (below_drew1 HB.out); clear BK268; clear HB; have BK268 := n0_; have HB := n1_; clear n0_ n1_; have p272 : 0 ≤ (x9_4 : Int) := dT; have q272 : x9_4 < (l1_2.length : Int) := dT; obtain ⟨ad272, e272, hx272_0, hx272_1, hx272_2⟩ := at_T62 HR1_2.out x9_4 p272 q272; have hw272_2 := hx272_2; have hw272_1 := hx272_1; have hw272_0 := hx272_0; cases e272; replace hx272_0 := (HB.out.cell (World.block_lt_of_cell? w _ hx272_0)).trans hx272_0; replace hx272_1 := (HB.out.cell (World.block_lt_of_cell? w _ hx272_1)).trans hx272_1; replace hx272_2 := (HB.out.cell (World.block_lt_of_cell? w _ hx272_2)).trans hx272_2; replace p272 := eq_true p272; replace q272 := eq_true q272
               refine start_ (n := 8) (S := fun w' => w'.cell? ⟨gb268, 0, none⟩ = some (.string a1_0) ∧ w'.cell? ⟨gb268, 1, none⟩ = some (.slice A1_1 l1_1.length c1_1) ∧ w'.cell? ⟨gb268, 2, none⟩ = some (.slice (some ad272) l1_2.length c1_2) ∧ w'.cell? ⟨gb268, 3, none⟩ = some (.slice A1_3 l1_3.length c1_3) ∧ w'.cell? ⟨gb268, 4, none⟩ = some (.slice A1_4 l1_4.length c1_4) ∧ w'.cell? (ad272.add ((x9_4).toNat * 3)) = some (.int .i64 ((rd_T62 l1_2 x9_4).f0)) ∧ w'.cell? ⟨(ad272.add ((x9_4).toNat * 3)).block, (ad272.add ((x9_4).toNat * 3)).off + 1, none⟩ = some (.int .i64 ((rd_T62 l1_2 x9_4).f1)) ∧ w'.cell? ⟨(ad272.add ((x9_4).toNat * 3)).block, (ad272.add ((x9_4).toNat * 3)).off + 2, none⟩ = some (.int .i64 ((rd_T62 l1_2 x9_4).f2))) (ds := []) #[false, false, false, false, false, false, false, false] (by kernel_rfl) rfl rfl ⟨(blk_cell BK268.out 0).trans rfl, (blk_cell BK268.out 1).trans rfl, (blk_cell BK268.out 2).trans rfl, (blk_cell BK268.out 3).trans rfl, (blk_cell BK268.out 4).trans rfl, ((HB.out.cell (World.block_lt_of_cell? w _ hw272_0)).trans hw272_0), ((HB.out.cell (World.block_lt_of_cell? w _ hw272_1)).trans hw272_1), ((HB.out.cell (World.block_lt_of_cell? w _ hw272_2)).trans hw272_2)⟩ (fun hHeld => ?_); refine with_tabW r40_Check.tab18 r40_Check.bits18 (fun HT_ HW_ => ?_)
               generalize wr.drew = w28 at BK268 HB hx272_0 hx272_1 hx272_2 hHeld ⊢
               refine pure_ (i := 1) (N := some 61) (v := ?_) (a' := ?_) #[false, true, false, false, false, false, false, false] rfl rfl (any_of HT_.out (by kernel_rfl)) (fun _ _ _ h => h) (Or.inl ⟨by rfl, ?_⟩) ?_ ?_; rotate_left; exact qT; rotate_left; exact pT
               refine pure_ (i := 3) (N := some 63) (v := ?_) (a' := ?_) #[false, true, false, true, false, false, false, false] rfl rfl (any_of HT_.out (by kernel_rfl)) (fun _ _ _ h => h) (Or.inl ⟨by rfl, ?_⟩) ?_ ?_; rotate_left; exact qT; rotate_left; exact pT
               refine take_ (i := 0) (N := some 60) (v := ?_) (a' := ?_) #[true, true, false, true, false, false, false, false] rfl rfl (take_ofW HT_.out HW_.out (by kernel_rfl)) (fun _ _ _ h => h) (Or.inl ⟨by rfl, ?_⟩) hHeld ?_ ?_; rotate_left; rintro w' ⟨s0, s1, s2, s3, s4, s5, s6, s7⟩; go_simp; with_reducible rfl; rotate_left; exact pT
               refine take_ (i := 2) (N := some 62) (v := ?_) (a' := ?_) #[true, true, true, true, false, false, false, false] rfl rfl (take_ofW HT_.out HW_.out (by kernel_rfl)) (fun _ _ _ h => h) (Or.inl ⟨by rfl, ?_⟩) hHeld ?_ ?_; rotate_left; rintro w' ⟨s0, s1, s2, s3, s4, s5, s6, s7⟩; go_simp; with_reducible rfl; rotate_left; exact pT
               refine pure_ (i := 4) (N := some 64) (v := ?_) (a' := ?_) #[true, true, true, true, true, false, false, false] rfl rfl (any_of HT_.out (by kernel_rfl)) (fun _ _ _ h => h) (Or.inl ⟨by rfl, ?_⟩) ?_ ?_; rotate_left; exact qT; rotate_left; exact pT
               refine take_ (i := 5) (N := some 65) (v := ?_) (a' := ?_) #[true, true, true, true, true, true, false, false] rfl rfl (take_ofW HT_.out HW_.out (by kernel_rfl)) (fun _ _ _ h => h) (Or.inl ⟨by rfl, ?_⟩) hHeld ?_ ?_; rotate_left; rintro w' ⟨s0, s1, s2, s3, s4, s5, s6, s7⟩; go_simp; with_reducible rfl; rotate_left; exact pT
               refine one_ (i := 6) (N := some 66) #[true, true, true, true, true, true, true, false] rfl rfl (one_of HT_.out (by kernel_rfl)) (by decide) (fun K hK => ?_)
               refine goes_ Try.func34 (by kernel_rfl) rfl #[.agg #[.string a1_0, .slice A1_1 l1_1.length c1_1, .slice (some ad272) l1_2.length c1_2, .slice A1_3 l1_3.length c1_3, .slice A1_4 l1_4.length c1_4], .agg #[.int .i64 ((rd_T62 l1_2 x9_4).f0), .int .i64 ((rd_T62 l1_2 x9_4).f1), .int .i64 ((rd_T62 l1_2 x9_4).f2)]] (by rfl) rfl rfl mT ?_
               with_reducible refine (r40_guard.calls k4 a1_0 _ _ l1_1 _ _ l1_2 _ _ l1_3 _ _ l1_4 ((rd_T62 l1_2 x9_4).f0) ((rd_T62 l1_2 x9_4).f1) ((rd_T62 l1_2 x9_4).f2) t273 _ ?side1 ?side2 ?side3 ?side4 ?side5 ?side6 ?side7 ?side8 A25.out).mono ?_
               (case side1 => exact cB HR1_1.out HB.out)
               (case side2 => exact HC1_1.out)
               (case side3 => exact cB HR1_2.out HB.out)
               (case side4 => exact HC1_2.out)
               (case side5 => exact cB HR1_3.out HB.out)
               (case side6 => exact HC1_3.out)
               (case side7 => exact cB HR1_4.out HB.out)
               (case side8 => exact HC1_4.out)
               rintro e w29 ⟨rfl, hb⟩
               refine ⟨_, rfl, ?_⟩
               have n0_ := aM (kW BK268.out hb); have n1_ := aM (below_step (bB1 HB.out GE268.out) hb); clear BK268; clear HB; have BK268 := n0_; have HB := n1_; clear n0_ n1_
               (try clear hb)
               (try clear hb2)
               (try clear hk)
               (try clear hi)
               refine hK.out _ _ ⟨(blk_cell BK268.out 0).trans rfl, (blk_cell BK268.out 1).trans rfl, (blk_cell BK268.out 2).trans rfl, (blk_cell BK268.out 3).trans rfl, (blk_cell BK268.out 4).trans rfl, ((HB.out.cell (World.block_lt_of_cell? w _ hw272_0)).trans hw272_0), ((HB.out.cell (World.block_lt_of_cell? w _ hw272_1)).trans hw272_1), ((HB.out.cell (World.block_lt_of_cell? w _ hw272_2)).trans hw272_2)⟩ (fun hHeld => ?_)
               clear hK K
               refine norm_ (a' := ?_) ?_ ?_
               rotate_left
               ·show Act.put _ (some 66) _ = _
                simp only [Act.put, List.setIfInBounds_toArray, List.set_cons_zero, List.set_cons_succ, i64_w, i32_w]
                rfl
               refine pure_ (i := 7) (N := some 10) (v := ?_) (a' := ?_) #[true, true, true, true, true, true, true, true] rfl rfl (any_of HT_.out (by kernel_rfl)) (fun _ _ _ h => h) (Or.inl ⟨by rfl, ?_⟩) ?_ ?_; rotate_left; exact qT; rotate_left; exact pT
               refine done_ (done_of HT_.out (by kernel_rfl)) ?_
               try go_wp2
               go_roundg k4
               case measure => have := HK1.out; have := HJ9.out; have := HK3.out; have := HK4.out; omega
               case rel => exact ⟨(wrap64 (x9_4 + 1)), eT, H', ⟨by have := HK1.out; have := HJ9.out; have := HK3.out; have := HK4.out; omega⟩, ⟨kB BK268.out⟩, ⟨bB1 HB.out GE268.out⟩⟩
              ·rw [if_neg c26] at H
               have c26b0 : (t273 == 0) = false := beq_eq_false_iff_ne.mpr c26; have c26b1 : (t273 != 0) = true := bne_iff_ne.mpr c26
               obtain rfl := Option.some.inj H
               have hcz30_0 : wr.cell? ⟨gb268, 0, none⟩ = some (.string a1_0) := (blk_cell BK268.out 0).trans rfl
               have hcz30_1 : wr.cell? ⟨gb268, 1, none⟩ = some (.slice A1_1 l1_1.length c1_1) := (blk_cell BK268.out 1).trans rfl
               have hcz30_2 : wr.cell? ⟨gb268, 2, none⟩ = some (.slice A1_2 l1_2.length c1_2) := (blk_cell BK268.out 2).trans rfl
               have hcz30_3 : wr.cell? ⟨gb268, 3, none⟩ = some (.slice A1_3 l1_3.length c1_3) := (blk_cell BK268.out 3).trans rfl
               have hcz30_4 : wr.cell? ⟨gb268, 4, none⟩ = some (.slice A1_4 l1_4.length c1_4) := (blk_cell BK268.out 4).trans rfl
               have hfz30_0 := blk_frozen BK268.out 0; have hfz30_1 := blk_frozen BK268.out 1; have hfz30_2 := blk_frozen BK268.out 2; have hfz30_3 := blk_frozen BK268.out 3; have hfz30_4 := blk_frozen BK268.out 4
               try go_wp2
               have n0_ := aM (blk_drew BK268.out); have n1_ := aM (below_drew1 HB.out); clear BK268; clear HB; have BK268 := n0_; have HB := n1_; clear n0_ n1_; have p272 : 0 ≤ (x9_4 : Int) := dT; have q272 : x9_4 < (l1_2.length : Int) := dT; obtain ⟨ad272, e272, hx272_0, hx272_1, hx272_2⟩ := at_T62 HR1_2.out x9_4 p272 q272; have hw272_2 := hx272_2; have hw272_1 := hx272_1; have hw272_0 := hx272_0; cases e272; replace hx272_0 := (HB.out.cell (World.block_lt_of_cell? w _ hx272_0)).trans hx272_0; replace hx272_1 := (HB.out.cell (World.block_lt_of_cell? w _ hx272_1)).trans hx272_1; replace hx272_2 := (HB.out.cell (World.block_lt_of_cell? w _ hx272_2)).trans hx272_2; replace p272 := eq_true p272; replace q272 := eq_true q272
               refine start_ (n := 8) (S := fun w' => w'.cell? ⟨gb268, 0, none⟩ = some (.string a1_0) ∧ w'.cell? ⟨gb268, 1, none⟩ = some (.slice A1_1 l1_1.length c1_1) ∧ w'.cell? ⟨gb268, 2, none⟩ = some (.slice (some ad272) l1_2.length c1_2) ∧ w'.cell? ⟨gb268, 3, none⟩ = some (.slice A1_3 l1_3.length c1_3) ∧ w'.cell? ⟨gb268, 4, none⟩ = some (.slice A1_4 l1_4.length c1_4) ∧ w'.cell? (ad272.add ((x9_4).toNat * 3)) = some (.int .i64 ((rd_T62 l1_2 x9_4).f0)) ∧ w'.cell? ⟨(ad272.add ((x9_4).toNat * 3)).block, (ad272.add ((x9_4).toNat * 3)).off + 1, none⟩ = some (.int .i64 ((rd_T62 l1_2 x9_4).f1)) ∧ w'.cell? ⟨(ad272.add ((x9_4).toNat * 3)).block, (ad272.add ((x9_4).toNat * 3)).off + 2, none⟩ = some (.int .i64 ((rd_T62 l1_2 x9_4).f2))) (ds := []) #[false, false, false, false, false, false, false, false] (by kernel_rfl) rfl rfl ⟨(blk_cell BK268.out 0).trans rfl, (blk_cell BK268.out 1).trans rfl, (blk_cell BK268.out 2).trans rfl, (blk_cell BK268.out 3).trans rfl, (blk_cell BK268.out 4).trans rfl, ((HB.out.cell (World.block_lt_of_cell? w _ hw272_0)).trans hw272_0), ((HB.out.cell (World.block_lt_of_cell? w _ hw272_1)).trans hw272_1), ((HB.out.cell (World.block_lt_of_cell? w _ hw272_2)).trans hw272_2)⟩ (fun hHeld => ?_); refine with_tabW r40_Check.tab18 r40_Check.bits18 (fun HT_ HW_ => ?_)
               generalize wr.drew = w31 at BK268 HB hx272_0 hx272_1 hx272_2 hHeld ⊢
               refine pure_ (i := 1) (N := some 61) (v := ?_) (a' := ?_) #[false, true, false, false, false, false, false, false] rfl rfl (any_of HT_.out (by kernel_rfl)) (fun _ _ _ h => h) (Or.inl ⟨by rfl, ?_⟩) ?_ ?_; rotate_left; exact qT; rotate_left; exact pT
               refine pure_ (i := 3) (N := some 63) (v := ?_) (a' := ?_) #[false, true, false, true, false, false, false, false] rfl rfl (any_of HT_.out (by kernel_rfl)) (fun _ _ _ h => h) (Or.inl ⟨by rfl, ?_⟩) ?_ ?_; rotate_left; exact qT; rotate_left; exact pT
               refine take_ (i := 0) (N := some 60) (v := ?_) (a' := ?_) #[true, true, false, true, false, false, false, false] rfl rfl (take_ofW HT_.out HW_.out (by kernel_rfl)) (fun _ _ _ h => h) (Or.inl ⟨by rfl, ?_⟩) hHeld ?_ ?_; rotate_left; rintro w' ⟨s0, s1, s2, s3, s4, s5, s6, s7⟩; go_simp; with_reducible rfl; rotate_left; exact pT
               refine take_ (i := 2) (N := some 62) (v := ?_) (a' := ?_) #[true, true, true, true, false, false, false, false] rfl rfl (take_ofW HT_.out HW_.out (by kernel_rfl)) (fun _ _ _ h => h) (Or.inl ⟨by rfl, ?_⟩) hHeld ?_ ?_; rotate_left; rintro w' ⟨s0, s1, s2, s3, s4, s5, s6, s7⟩; go_simp; with_reducible rfl; rotate_left; exact pT
               refine pure_ (i := 4) (N := some 64) (v := ?_) (a' := ?_) #[true, true, true, true, true, false, false, false] rfl rfl (any_of HT_.out (by kernel_rfl)) (fun _ _ _ h => h) (Or.inl ⟨by rfl, ?_⟩) ?_ ?_; rotate_left; exact qT; rotate_left; exact pT
               refine take_ (i := 5) (N := some 65) (v := ?_) (a' := ?_) #[true, true, true, true, true, true, false, false] rfl rfl (take_ofW HT_.out HW_.out (by kernel_rfl)) (fun _ _ _ h => h) (Or.inl ⟨by rfl, ?_⟩) hHeld ?_ ?_; rotate_left; rintro w' ⟨s0, s1, s2, s3, s4, s5, s6, s7⟩; go_simp; with_reducible rfl; rotate_left; exact pT
               refine one_ (i := 6) (N := some 66) #[true, true, true, true, true, true, true, false] rfl rfl (one_of HT_.out (by kernel_rfl)) (by decide) (fun K hK => ?_)
               refine goes_ Try.func34 (by kernel_rfl) rfl #[.agg #[.string a1_0, .slice A1_1 l1_1.length c1_1, .slice (some ad272) l1_2.length c1_2, .slice A1_3 l1_3.length c1_3, .slice A1_4 l1_4.length c1_4], .agg #[.int .i64 ((rd_T62 l1_2 x9_4).f0), .int .i64 ((rd_T62 l1_2 x9_4).f1), .int .i64 ((rd_T62 l1_2 x9_4).f2)]] (by rfl) rfl rfl mT ?_
               with_reducible refine (r40_guard.calls k4 a1_0 _ _ l1_1 _ _ l1_2 _ _ l1_3 _ _ l1_4 ((rd_T62 l1_2 x9_4).f0) ((rd_T62 l1_2 x9_4).f1) ((rd_T62 l1_2 x9_4).f2) t273 _ ?side1 ?side2 ?side3 ?side4 ?side5 ?side6 ?side7 ?side8 A25.out).mono ?_
               (case side1 => exact cB HR1_1.out HB.out)
               (case side2 => exact HC1_1.out)
               (case side3 => exact cB HR1_2.out HB.out)
               (case side4 => exact HC1_2.out)
               (case side5 => exact cB HR1_3.out HB.out)
               (case side6 => exact HC1_3.out)
               (case side7 => exact cB HR1_4.out HB.out)
               (case side8 => exact HC1_4.out)
               rintro e w32 ⟨rfl, hb⟩
               refine ⟨_, rfl, ?_⟩
               have n0_ := aM (kW BK268.out hb); have n1_ := aM (below_step (bB1 HB.out GE268.out) hb); clear BK268; clear HB; have BK268 := n0_; have HB := n1_; clear n0_ n1_
               (try clear hb)
               (try clear hb2)
               (try clear hk)
               (try clear hi)
               refine hK.out _ _ ⟨(blk_cell BK268.out 0).trans rfl, (blk_cell BK268.out 1).trans rfl, (blk_cell BK268.out 2).trans rfl, (blk_cell BK268.out 3).trans rfl, (blk_cell BK268.out 4).trans rfl, ((HB.out.cell (World.block_lt_of_cell? w _ hw272_0)).trans hw272_0), ((HB.out.cell (World.block_lt_of_cell? w _ hw272_1)).trans hw272_1), ((HB.out.cell (World.block_lt_of_cell? w _ hw272_2)).trans hw272_2)⟩ (fun hHeld => ?_)
               clear hK K
               refine norm_ (a' := ?_) ?_ ?_
               rotate_left
               ·show Act.put _ (some 66) _ = _
                simp only [Act.put, List.setIfInBounds_toArray, List.set_cons_zero, List.set_cons_succ, i64_w, i32_w]
                rfl
               refine pure_ (i := 7) (N := some 10) (v := ?_) (a' := ?_) #[true, true, true, true, true, true, true, true] rfl rfl (any_of HT_.out (by kernel_rfl)) (fun _ _ _ h => h) (Or.inl ⟨by rfl, ?_⟩) ?_ ?_; rotate_left; exact qT; rotate_left; exact pT
               refine done_ (done_of HT_.out (by kernel_rfl)) ?_
               try go_wp2
               go_ret
               exact ⟨rT, bB1 HB.out GE268.out⟩
             ·rw [if_neg c24] at H
              exact absurd H (by simp)
            ·rw [if_neg c23] at H
             have c23b0 : decide (x9_4 < (l1_2.length : Int)) = false := decide_eq_false c23; clear c23
             obtain rfl := Option.some.inj H
             have hcz33_0 : wr.cell? ⟨gb268, 0, none⟩ = some (.string a1_0) := (blk_cell BK268.out 0).trans rfl
             have hcz33_1 : wr.cell? ⟨gb268, 1, none⟩ = some (.slice A1_1 l1_1.length c1_1) := (blk_cell BK268.out 1).trans rfl
             have hcz33_2 : wr.cell? ⟨gb268, 2, none⟩ = some (.slice A1_2 l1_2.length c1_2) := (blk_cell BK268.out 2).trans rfl
             have hcz33_3 : wr.cell? ⟨gb268, 3, none⟩ = some (.slice A1_3 l1_3.length c1_3) := (blk_cell BK268.out 3).trans rfl
             have hcz33_4 : wr.cell? ⟨gb268, 4, none⟩ = some (.slice A1_4 l1_4.length c1_4) := (blk_cell BK268.out 4).trans rfl
             have hfz33_0 := blk_frozen BK268.out 0; have hfz33_1 := blk_frozen BK268.out 1; have hfz33_2 := blk_frozen BK268.out 2; have hfz33_3 := blk_frozen BK268.out 3; have hfz33_4 := blk_frozen BK268.out 4
             go_wp2
             go_ret
             exact ⟨rT, bB1 HB.out GE268.out⟩




end Go.Proofs.Ytapkjfnfkalibaa.Pr
