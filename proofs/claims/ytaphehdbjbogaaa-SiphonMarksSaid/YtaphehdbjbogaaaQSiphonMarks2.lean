/- Functions that the statement reaches: what each answers, and that the program answers it (written by a program of this work). -/
import Derived.Test.YtaphehdbjbogaaaProg
import Derived.Below
import Derived.Deep.Draws
import Derived.Deep.AppendLies
import Derived.Maps.AppendAt
import Derived.OwnWalk
import Derived.Laws.BytesArg
import Derived.Laws.MakeOwn
import Derived.Laws.OwnMore
import Derived.Deep.OwnRows
import Derived.Tactics
import Derived.Lib.ConvBytes
import Derived.Laws.Slices
import Derived.WalkKit
import Derived.KernelRfl
import Derived.RowKit3
import Derived.Deep.LoopGhost
import Derived.Deep.QuietTactic
import Derived.BigQuiet
import Derived.WideLaws
import Derived.Deep.DeepCutAuto
import Derived.Deep.CutBlock
import Derived.Deep.RegionHeld3
import Derived.Laws.Rows
import Derived.Lib.AppendStr
import Derived.ArgAppend
import Derived.Laws.IdiomCopy
import Derived.OrdersHeld
import Derived.Laws.BitsLemmas
import Derived.RowKit
import Derived.WalkMore
import Derived.Test.YtaphehdbjbogaaaVSiphonMarks
import Derived.Test.YtaphehdbjbogaaaBSiphonMarks
import Derived.Test.YtaphehdbjbogaaaQSiphonMarks0
import Derived.Test.YtaphehdbjbogaaaQSiphonMarks1
namespace Go.Proofs.Ytaphehdbjbogaaa.Pr
open Go.RowKit Go.Proofs.YtaphehdbjbogaaaW.PrintWords Go.Proofs.YtaphehdbjbogaaaW.PrintLast Go.Proofs.YtaphehdbjbogaaaW.PrintMore
attribute [local go_sem] Instr.field asAgg
attribute [local go_sem] max2_int min2_int max_two min_two max_three min_three max_four min_four   -- for this text's walks alone
set_option linter.unusedVariables false
set_option linter.unusedSimpArgs false
/-! ### petrinetref33_Marked: function 16 -/
mutual
def petrinetref33_Marked.l0 : Nat → Int → List Int → Int → Option (Bool)
 | 0, _, _, _ => none
 | k + 1, x0, x1, x5 => if x5 < (x1.length : Int) then (petrinetref33_Marked.j1 k x0 x1 x5 (decide (x5 < 64))) else (petrinetref33_Marked.j1 k x0 x1 x5 false)
def petrinetref33_Marked.j1 : Nat → Int → List Int → Int → Bool → Option (Bool)
 | 0, _, _, _, _ => none
 | k + 1, x0, x1, x5, x13 => if x13 = true then ((petrinetref06_Has.f k x0 x5).bind fun t241 => (if t241 = true then (if 0 ≤ x5 then (if x5 < (x1.length : Int) then (if (rd x1 x5) ≥ 1 then (some true) else (petrinetref33_Marked.l0 k x0 x1 (wrap64 (x5 + 1)))) else (none)) else (none)) else (petrinetref33_Marked.l0 k x0 x1 (wrap64 (x5 + 1))))) else (some false)
end
def petrinetref33_Marked.f (k : Nat) (a0 : Int) (l1 : List Int) : Option (Bool) := petrinetref33_Marked.l0 k a0 l1 0
theorem petrinetref33_Marked.mono_l : ∀ k, (∀ y0 y1 y2, LeO (petrinetref33_Marked.l0 k y0 y1 y2) (petrinetref33_Marked.l0 (k + 1) y0 y1 y2)) ∧ (∀ y0 y1 y2 y3, LeO (petrinetref33_Marked.j1 k y0 y1 y2 y3) (petrinetref33_Marked.j1 (k + 1) y0 y1 y2 y3))
 | 0 => ⟨fun _ _ _ r h => by simp [petrinetref33_Marked.l0] at h, fun _ _ _ _ r h => by simp [petrinetref33_Marked.j1] at h⟩
 | k + 1 => by
  obtain ⟨ih0, ih1⟩ := petrinetref33_Marked.mono_l k
  refine ⟨?_, ?_⟩
  ·
   intro y0 y1 y2
   unfold petrinetref33_Marked.l0
   repeat' first
   | (with_reducible exact ih0 _ _ _)
   | (with_reducible exact ih1 _ _ _ _)
   | (with_reducible exact petrinetref06_Has.mono _ _ _)
   | (with_reducible exact LeO.refl _)
   | (with_reducible exact LeO.none _)
   | (with_reducible refine LeO.ite ?_ ?_)
   | (with_reducible refine LeO.bind ?_ (fun _ => ?_))
   | exact ih0 _ _ _
   | exact ih1 _ _ _ _
   | exact petrinetref06_Has.mono _ _ _
   | exact LeO.none _
   | refine LeO.ite ?_ ?_
   | refine LeO.bind ?_ (fun _ => ?_)
  ·
   intro y0 y1 y2 y3
   unfold petrinetref33_Marked.j1
   repeat' first
   | (with_reducible exact ih0 _ _ _)
   | (with_reducible exact ih1 _ _ _ _)
   | (with_reducible exact petrinetref06_Has.mono _ _ _)
   | (with_reducible exact LeO.refl _)
   | (with_reducible exact LeO.none _)
   | (with_reducible refine LeO.ite ?_ ?_)
   | (with_reducible refine LeO.bind ?_ (fun _ => ?_))
   | exact ih0 _ _ _
   | exact ih1 _ _ _ _
   | exact petrinetref06_Has.mono _ _ _
   | exact LeO.none _
   | refine LeO.ite ?_ ?_
   | refine LeO.bind ?_ (fun _ => ?_)
theorem petrinetref33_Marked.mono : ∀ a0 a1 k, LeO (petrinetref33_Marked.f k a0 a1) (petrinetref33_Marked.f (k + 1) a0 a1) := by
 intro a0 a1 k
 obtain ⟨ih0, ih1⟩ := petrinetref33_Marked.mono_l k
 unfold petrinetref33_Marked.f
 repeat' first
   | (with_reducible exact ih0 _ _ _)
   | (with_reducible exact ih1 _ _ _ _)
   | (with_reducible exact petrinetref06_Has.mono _ _ _)
   | (with_reducible exact LeO.refl _)
   | (with_reducible exact LeO.none _)
   | (with_reducible refine LeO.ite ?_ ?_)
   | (with_reducible refine LeO.bind ?_ (fun _ => ?_))
   | exact ih0 _ _ _
   | exact ih1 _ _ _ _
   | exact petrinetref06_Has.mono _ _ _
   | exact LeO.none _
   | refine LeO.ite ?_ ?_
   | refine LeO.bind ?_ (fun _ => ?_)
set_option maxHeartbeats 8000000 in
set_option maxRecDepth 100000 in
theorem petrinetref33_Marked.calls (k : Nat) (a0 : Int) (A1 : Option Addr) (c1 : Nat) (l1 : List Int) (r : Bool) (w : World) (hr1 : Kd.C (Kd.int .i64) w A1 l1.length l1) (hc1 : l1.length ≤ c1) (h : petrinetref33_Marked.f k a0 l1 = some r) :
  Calls Try.prog 16 #[.int .u64 a0, .slice A1 l1.length c1] w fun e w' => e = .returned (.bool r) ∧ Drawn0 w w' := by
 have HR1 := Aside0.mk hr1
 have HC1 := Aside0.mk hc1
 clear hr1 hc1
 have H : (petrinetref33_Marked.l0 k a0 l1 0) = some r := h
 clear h
 have H' := Aside0.mk H
 clear H
 go_enter Try.func16, Try.ntmps16
 go_wp2
 go_loopg [5] k (fun kq v5 w' => ∃ (x5_1 : Int), v5 = .int .i64 x5_1 ∧ Aside0 (petrinetref33_Marked.l0 kq a0 l1 x5_1 = some r) ∧ Aside0 (kq ≤ k) ∧ Drawn0 w w')
 case atStart => exact ⟨(0), (by first | rfl | (simp; done) | (simp [*]; done) | (simp [i64_w]; done)), H', ⟨Nat.le_refl _⟩, by repeat (first | exact Drawn0.refl _ | apply Drawn0.step)⟩
 case round =>
  clear H'
  try clear c1
  try clear p2
  obtain ⟨x5_1, rfl, HA, HK1, ⟨m1, rfl⟩⟩ := hrel
  cases gk with
  | zero => exact absurd HA.out (by simp [petrinetref33_Marked.l0])
  | succ k1 =>
   have H := HA.out
   clear HA
   simp only [petrinetref33_Marked.l0] at H
   have HC3 := Aside0.mk H
   clear H
   go_upto_region 2 with (fail)
   go_cut [13] (fun v13 wc => ∃ (kq : Nat) (x13_2 : Bool), v13 = .bool x13_2 ∧ Aside0 (petrinetref33_Marked.j1 kq a0 l1 x5_1 x13_2 = some r) ∧ Aside0 (kq ≤ k1) ∧ Drawn0 w wc)
   case first =>
    have H := HC3.out
    clear HC3
    by_cases c4 : x5_1 < (l1.length : Int)
    ·
     rw [if_pos c4] at H
     have c4b0 : decide (x5_1 < (l1.length : Int)) = true := decide_eq_true c4
     clear c4
     (first | rw [c4b0] | (simp only [i64_w, i32_w]; rw [c4b0]) | skip)
     have H' := Aside0.mk H
     clear H
     go_wp2
     go_meet
     case rel => exact ⟨_, (decide (x5_1 < 64)), (by first | rfl | (simp; done) | (simp [*]; done) | (simp [i64_w]; done)), H', ⟨by have := HK1.out; first | omega | exact Nat.le_refl _⟩, by repeat (first | exact Drawn0.refl _ | apply Drawn0.step)⟩
    ·
     rw [if_neg c4] at H
     have c4b0 : decide (x5_1 < (l1.length : Int)) = false := decide_eq_false c4
     clear c4
     (first | rw [c4b0] | (simp only [i64_w, i32_w]; rw [c4b0]) | skip)
     have H' := Aside0.mk H
     clear H
     go_wp2
     go_meet
     case rel => exact ⟨_, (false), (by first | rfl | (simp; done) | (simp [*]; done) | (simp [i64_w]; done)), H', ⟨by have := HK1.out; first | omega | exact Nat.le_refl _⟩, by repeat (first | exact Drawn0.refl _ | apply Drawn0.step)⟩
   case rest =>
    clear HC3
    try clear c1
    try clear p2
    try clear c4
    try clear c4b0
    try clear p2
    obtain ⟨kq, x13_2, rfl, HA, HJ2, ⟨mc2, rfl⟩⟩ := hcut
    cases kq with
    | zero => exact absurd HA.out (by simp [petrinetref33_Marked.j1])
    | succ kj2 =>
     have H := HA.out
     clear HA
     simp only [petrinetref33_Marked.j1] at H
     by_cases c5 : x13_2 = true
     ·
      subst c5
      have H1 : ((petrinetref06_Has.f kj2 a0 x5_1).bind fun t241 => (if t241 = true then (if 0 ≤ x5_1 then (if x5_1 < (l1.length : Int) then (if (rd l1 x5_1) ≥ 1 then (some true) else (petrinetref33_Marked.l0 kj2 a0 l1 (wrap64 (x5_1 + 1)))) else (none)) else (none)) else (petrinetref33_Marked.l0 kj2 a0 l1 (wrap64 (x5_1 + 1))))) = some r := by rw [if_pos rfl] at H; exact H
      clear H
      have H := H1
      clear H1
      replace H := Option.bind_eq_some_iff.mp H
      obtain ⟨t241, A60, H⟩ := H
      replace H : (if t241 = true then (if 0 ≤ x5_1 then (if x5_1 < (l1.length : Int) then (if (rd l1 x5_1) ≥ 1 then (some true) else (petrinetref33_Marked.l0 kj2 a0 l1 (wrap64 (x5_1 + 1)))) else (none)) else (none)) else (petrinetref33_Marked.l0 kj2 a0 l1 (wrap64 (x5_1 + 1)))) = some r := H
      have A6 := Aside0.mk A60
      clear A60
      by_cases c7 : t241 = true
      ·
       subst c7
       have H1 : (if 0 ≤ x5_1 then (if x5_1 < (l1.length : Int) then (if (rd l1 x5_1) ≥ 1 then (some true) else (petrinetref33_Marked.l0 kj2 a0 l1 (wrap64 (x5_1 + 1)))) else (none)) else (none)) = some r := by rw [if_pos rfl] at H; exact H
       clear H
       have H := H1
       clear H1
       by_cases c8 : 0 ≤ x5_1
       ·
        rw [if_pos c8] at H
        have c8b0 : decide (0 ≤ x5_1) = true := decide_eq_true c8
        clear c8
        by_cases c9 : x5_1 < (l1.length : Int)
        ·
         rw [if_pos c9] at H
         have c9b0 : decide (x5_1 < (l1.length : Int)) = true := decide_eq_true c9
         clear c9
         by_cases c10 : (rd l1 x5_1) ≥ 1
         ·
          rw [if_pos c10] at H
          have c10b0 : decide (1 ≤ (rd l1 x5_1)) = true := decide_eq_true c10
          clear c10
          obtain rfl := Option.some.inj H
          go_wp2_with (first | ((with_reducible refine gate_callee (f := 39) rfl ?_); refine goesL_ (some 18) rfl rfl Try.func39 (by kernel_rfl) rfl #[.int .u64 a0, .int .i64 x5_1] rfl (by (try simp only [List.map_toArray, List.map_cons, List.map_nil]); first | done | rfl | (simp only [List.length_drop, List.length_take]; rfl)) ?_; (with_reducible refine (petrinetref06_Has.calls kj2 a0 x5_1 true _ A6.out).mono ?_); rintro e w' ⟨rfl, ⟨nd, rfl⟩⟩; refine ⟨_, rfl, ?_⟩; have p242 : 0 ≤ (x5_1 : Int) := of_decide_eq_true (by first | (with_reducible assumption) | assumption); have q242 : x5_1 < (l1.length : Int) := of_decide_eq_true (by first | (with_reducible assumption) | assumption); obtain ⟨ad242, e242, hx242_0⟩ := Kd.at_int HR1.out x5_1 p242 q242; cases e242; replace p242 := eq_true p242; replace q242 := eq_true q242))
          go_ret
          exact ⟨by first | rfl | (simp; done) | (simp [*]; done), by repeat (first | exact Drawn0.refl _ | apply Drawn0.step)⟩
         ·
          rw [if_neg c10] at H
          have c10b0 : decide (1 ≤ (rd l1 x5_1)) = false := decide_eq_false c10
          clear c10
          have H' := Aside0.mk H
          clear H
          go_wp2_with (first | ((with_reducible refine gate_callee (f := 39) rfl ?_); refine goesL_ (some 18) rfl rfl Try.func39 (by kernel_rfl) rfl #[.int .u64 a0, .int .i64 x5_1] rfl (by (try simp only [List.map_toArray, List.map_cons, List.map_nil]); first | done | rfl | (simp only [List.length_drop, List.length_take]; rfl)) ?_; (with_reducible refine (petrinetref06_Has.calls kj2 a0 x5_1 true _ A6.out).mono ?_); rintro e w' ⟨rfl, ⟨nd, rfl⟩⟩; refine ⟨_, rfl, ?_⟩; have p242 : 0 ≤ (x5_1 : Int) := of_decide_eq_true (by first | (with_reducible assumption) | assumption); have q242 : x5_1 < (l1.length : Int) := of_decide_eq_true (by first | (with_reducible assumption) | assumption); obtain ⟨ad242, e242, hx242_0⟩ := Kd.at_int HR1.out x5_1 p242 q242; cases e242; replace p242 := eq_true p242; replace q242 := eq_true q242))
          go_roundg kj2
          case measure => have := HK1.out; have := HJ2.out; omega
          case rel => exact ⟨(wrap64 (x5_1 + 1)), (by first | rfl | (simp; done) | (simp [*]; done) | (simp [i64_w]; done)), H', ⟨by have := HK1.out; have := HJ2.out; omega⟩, by repeat (first | exact Drawn0.refl _ | apply Drawn0.step)⟩
        ·
         rw [if_neg c9] at H
         exact absurd H (by simp)
       ·
        rw [if_neg c8] at H
        exact absurd H (by simp)
      ·
       replace c7 := Bool.eq_false_iff.mpr c7
       subst c7
       have H1 : (petrinetref33_Marked.l0 kj2 a0 l1 (wrap64 (x5_1 + 1))) = some r := by rw [if_neg (show ¬ (false = true) by decide)] at H; exact H
       clear H
       have H := H1
       clear H1
       have H' := Aside0.mk H
       clear H
       go_wp2_with (first | ((with_reducible refine gate_callee (f := 39) rfl ?_); refine goesL_ (some 18) rfl rfl Try.func39 (by kernel_rfl) rfl #[.int .u64 a0, .int .i64 x5_1] rfl (by (try simp only [List.map_toArray, List.map_cons, List.map_nil]); first | done | rfl | (simp only [List.length_drop, List.length_take]; rfl)) ?_; (with_reducible refine (petrinetref06_Has.calls kj2 a0 x5_1 false _ A6.out).mono ?_); rintro e w' ⟨rfl, ⟨nd, rfl⟩⟩; refine ⟨_, rfl, ?_⟩))
       go_roundg kj2
       case measure => have := HK1.out; have := HJ2.out; omega
       case rel => exact ⟨(wrap64 (x5_1 + 1)), (by first | rfl | (simp; done) | (simp [*]; done) | (simp [i64_w]; done)), H', ⟨by have := HK1.out; have := HJ2.out; omega⟩, by repeat (first | exact Drawn0.refl _ | apply Drawn0.step)⟩
     ·
      replace c5 := Bool.eq_false_iff.mpr c5
      subst c5
      have H1 : (some false) = some r := by rw [if_neg (show ¬ (false = true) by decide)] at H; exact H
      clear H
      have H := H1
      clear H1
      obtain rfl := Option.some.inj H
      go_wp2
      go_ret
      exact ⟨by first | rfl | (simp; done) | (simp [*]; done), by repeat (first | exact Drawn0.refl _ | apply Drawn0.step)⟩


/-! ### petrinetlaw33_SiphonMarks: function 4 -/
def petrinetlaw33_SiphonMarks.f (k : Nat) (a0 : Int) (l1 : List Int) : Option (Bool) := (siphon_Marked.f k a0 l1).bind fun t243 => ((petrinetref33_Marked.f k a0 l1).bind fun t244 => (if (t243 == t244) = true then ((petrinetlaw33_exampleHolds.f k).bind fun t245 => (some t245)) else (some false)))
theorem petrinetlaw33_SiphonMarks.mono : ∀ a0 a1 k, LeO (petrinetlaw33_SiphonMarks.f k a0 a1) (petrinetlaw33_SiphonMarks.f (k + 1) a0 a1) := by
 intro a0 a1 k
 unfold petrinetlaw33_SiphonMarks.f
 repeat' first
   | (with_reducible exact petrinetlaw33_exampleHolds.mono _)
   | (with_reducible exact petrinetref33_Marked.mono _ _ _)
   | (with_reducible exact siphon_Marked.mono _ _ _)
   | (with_reducible exact LeO.refl _)
   | (with_reducible exact LeO.none _)
   | (with_reducible refine LeO.ite ?_ ?_)
   | (with_reducible refine LeO.bind ?_ (fun _ => ?_))
   | exact petrinetlaw33_exampleHolds.mono _
   | exact petrinetref33_Marked.mono _ _ _
   | exact siphon_Marked.mono _ _ _
   | exact LeO.none _
   | refine LeO.ite ?_ ?_
   | refine LeO.bind ?_ (fun _ => ?_)
set_option maxHeartbeats 8000000 in
set_option maxRecDepth 100000 in
theorem petrinetlaw33_SiphonMarks.calls (k : Nat) (a0 : Int) (A1 : Option Addr) (c1 : Nat) (l1 : List Int) (r : Bool) (w : World) (hr1 : Kd.C (Kd.int .i64) w A1 l1.length l1) (hc1 : l1.length ≤ c1) (h : petrinetlaw33_SiphonMarks.f k a0 l1 = some r) (hrT_ : Aside0 (r = true)) :
  Calls Try.prog 4 #[.int .u64 a0, .slice A1 l1.length c1] w fun e w' => e = .returned (.bool r) ∧ Below w.heap.size w w' := by
 have HR1 := Aside0.mk hr1
 have HC1 := Aside0.mk hc1
 clear hr1 hc1
 have HB := Aside0.mk (Below.refl w.heap.size w)
 have H : ((siphon_Marked.f k a0 l1).bind fun t243 => ((petrinetref33_Marked.f k a0 l1).bind fun t244 => (if (t243 == t244) = true then ((petrinetlaw33_exampleHolds.f k).bind fun t245 => (some t245)) else (some false)))) = some r := h
 clear h
 replace H := Option.bind_eq_some_iff.mp H
 obtain ⟨t243, A30, H⟩ := H
 replace H : ((petrinetref33_Marked.f k a0 l1).bind fun t244 => (if (t243 == t244) = true then ((petrinetlaw33_exampleHolds.f k).bind fun t245 => (some t245)) else (some false))) = some r := H
 have A3 := Aside0.mk A30
 clear A30
 replace H := Option.bind_eq_some_iff.mp H
 obtain ⟨t244, A40, H⟩ := H
 replace H : (if (t243 == t244) = true then ((petrinetlaw33_exampleHolds.f k).bind fun t245 => (some t245)) else (some false)) = some r := H
 have A4 := Aside0.mk A40
 clear A40
 by_cases c5 : (t243 == t244) = true
 ·
  rw [if_pos c5] at H
  have c5b0 : (t243 == t244) = true := c5
  (try (have c5b1 : decide (t243 = t244) = true := by simpa using c5))
  (try (have c5b2 : (t243 == t244) = true := by simpa using c5))
  clear c5
  replace H := Option.bind_eq_some_iff.mp H
  obtain ⟨t245, A60, H⟩ := H
  replace H : (some t245) = some r := H
  have A6 := Aside0.mk A60
  clear A60
  obtain rfl := Option.some.inj H
  go_enter Try.func4, Try.ntmps4
  go_wp2_with (first | ((with_reducible refine gate_callee (f := 15) rfl ?_); refine goesL_ (some 7) rfl rfl Try.func15 (by kernel_rfl) rfl #[.int .u64 a0, .slice A1 l1.length c1] rfl (by (try simp only [List.map_toArray, List.map_cons, List.map_nil]); first | done | rfl | (simp only [List.length_drop, List.length_take]; rfl)) ?_; (with_reducible refine (siphon_Marked.calls k a0 _ _ l1 t243 _ ?side1 ?side2 A3.out).mono ?_); (case side1 => repeat (first | exact HR1.out | (with_reducible refine Kd.C_alloc ?_ _) | (with_reducible refine Kd.C_drewN ?_ _) | (with_reducible refine Kd.C_drew ?_))); (case side2 => exact HC1.out); rintro e w' ⟨rfl, ⟨nd, rfl⟩⟩; refine ⟨_, rfl, ?_⟩) | ((with_reducible refine gate_callee (f := 16) rfl ?_); refine goesL_ (some 10) rfl rfl Try.func16 (by kernel_rfl) rfl #[.int .u64 a0, .slice A1 l1.length c1] rfl (by (try simp only [List.map_toArray, List.map_cons, List.map_nil]); first | done | rfl | (simp only [List.length_drop, List.length_take]; rfl)) ?_; (with_reducible refine (petrinetref33_Marked.calls k a0 _ _ l1 t244 _ ?side1 ?side2 A4.out).mono ?_); (case side1 => repeat (first | exact HR1.out | (with_reducible refine Kd.C_alloc ?_ _) | (with_reducible refine Kd.C_drewN ?_ _) | (with_reducible refine Kd.C_drew ?_))); (case side2 => exact HC1.out); rintro e w' ⟨rfl, ⟨nd, rfl⟩⟩; refine ⟨_, rfl, ?_⟩) | (go_at_call 11; (with_reducible refine (petrinetlaw33_exampleHolds.calls k  t245 _ A6.out (by first | exact hrT_ | exact ⟨rfl⟩)).mono ?_); rintro e w7 ⟨rfl, hb⟩; have n0_ := Aside0.mk (below_step (by repeat (first | (with_reducible first | exact HB.out | apply below_alloc | apply pw_below_drewN | apply below_drew1) | exact HB.out)) hb); clear HB; have HB := n0_; clear n0_; (try clear hb); (try clear hb2); (try clear hk); (try clear hi)))
  go_ret
  exact ⟨by first | rfl | (simp [errW_none, errW_some] <;> rfl) | (simp [*, errW_none, errW_some] <;> rfl), by repeat (first | (with_reducible first | exact HB.out | apply below_alloc | apply pw_below_drewN | apply below_drew1) | exact HB.out)⟩
 ·
  rw [if_neg c5] at H
  have c5b0 : (t243 == t244) = false := by simpa using c5
  (try (have c5b1 : decide (t243 = t244) = false := by simpa using c5))
  (try (have c5b2 : (t243 == t244) = false := by simpa using c5))
  (try (have c5b3 : ¬ (t243 = t244) := by simpa using c5))
  clear c5
  exact absurd ((Option.some.inj H).trans hrT_.out) Bool.false_ne_true

/-- THE ONE PURE STATEMENT of petrinetlaw33_SiphonMarks: yours. -/
def petrinetlaw33_SiphonMarks.Pure : Prop := ∀ (a0 : Int) (l1 : List Int), (Lit.int .u64 a0).wf = true → l1.length ≤ maxLen → l1.length * 8 ≤ 140737488351232 → (∀ x ∈ l1, (Lit.int .i64 x).wf = true) → ∃ k, petrinetlaw33_SiphonMarks.f k a0 l1 = some true
theorem petrinetlaw33_SiphonMarks.walk (P : petrinetlaw33_SiphonMarks.Pure) (a0 : Int) (a1 : Option Addr) (len1 cap1 : Nat) (z1 : List Int) (w : World) (w0 : (Lit.int .u64 a0).wf = true) (w1 : (a1 = none ∧ len1 = 0 ∧ cap1 = 0 ∧ z1 = []) ∨ ∃ x, a1 = some x ∧ len1 ≤ cap1 ∧ cap1 ≤ maxLen ∧ z1.length = cap1 ∧ (∀ i, i < z1.length → w.cell? (x.add i) = some (.int .i64 (z1.getD i 0))) ∧ ∀ n ∈ z1, (Lit.int .i64 n).wf = true) (y1 : len1 * 8 ≤ 140737488351232) :
  Calls Try.prog 4 #[.int .u64 a0, .slice a1 len1 cap1] w fun e w' => e = .returned (.bool true) ∧ Below w.heap.size w w' := by
 obtain ⟨l1, rfl, hr1, hm1, hw1, hc1⟩ := ReadsInt.ofRowC w1
 obtain ⟨k, h⟩ := P a0 l1 w0 hm1 y1 hw1
 refine (petrinetlaw33_SiphonMarks.calls k a0 _ _ l1 true w (Kd.C_of_reads (d := (0 : Int)) (h1 := fun _ => rfl) hr1) hc1 h ⟨rfl⟩).mono ?_
 rintro e w' ⟨rfl, hd⟩
 exact ⟨rfl, hd⟩


/-! ### petrinetref06_Without: function 42 -/
def petrinetref06_Without.f (k : Nat) (a0 : Int) (a1 : Int) : Option (Int) := (petrinetref06_Has.f k a0 a1).bind fun t256 => (if t256 = true then ((petrinetref06_bit.f k a1).bind fun t257 => (some (IntKind.u64.wrap (a0 - t257)))) else (some a0))
theorem petrinetref06_Without.mono : ∀ a0 a1 k, LeO (petrinetref06_Without.f k a0 a1) (petrinetref06_Without.f (k + 1) a0 a1) := by
 intro a0 a1 k
 unfold petrinetref06_Without.f
 repeat' first
   | (with_reducible exact petrinetref06_Has.mono _ _ _)
   | (with_reducible exact petrinetref06_bit.mono _ _)
   | (with_reducible exact LeO.refl _)
   | (with_reducible exact LeO.none _)
   | (with_reducible refine LeO.ite ?_ ?_)
   | (with_reducible refine LeO.bind ?_ (fun _ => ?_))
   | exact petrinetref06_Has.mono _ _ _
   | exact petrinetref06_bit.mono _ _
   | exact LeO.none _
   | refine LeO.ite ?_ ?_
   | refine LeO.bind ?_ (fun _ => ?_)







/-! ### petrinetref06_With: function 23 -/
def petrinetref06_With.f (k : Nat) (a0 : Int) (a1 : Int) : Option (Int) := if a1 < 0 then (some a0) else (if a1 > 63 then (some a0) else ((petrinetref06_Has.f k a0 a1).bind fun t307 => (if t307 = true then (some a0) else ((petrinetref06_bit.f k a1).bind fun t308 => (some (IntKind.u64.wrap (a0 + t308)))))))
theorem petrinetref06_With.mono : ∀ a0 a1 k, LeO (petrinetref06_With.f k a0 a1) (petrinetref06_With.f (k + 1) a0 a1) := by
 intro a0 a1 k
 unfold petrinetref06_With.f
 repeat' first
   | (with_reducible exact petrinetref06_Has.mono _ _ _)
   | (with_reducible exact petrinetref06_bit.mono _ _)
   | (with_reducible exact LeO.refl _)
   | (with_reducible exact LeO.none _)
   | (with_reducible refine LeO.ite ?_ ?_)
   | (with_reducible refine LeO.bind ?_ (fun _ => ?_))
   | exact petrinetref06_Has.mono _ _ _
   | exact petrinetref06_bit.mono _ _
   | exact LeO.none _
   | refine LeO.ite ?_ ?_
   | refine LeO.bind ?_ (fun _ => ?_)





/-! ### petrinetref06_minimal: function 67 -/
def petrinetref06_minimal.l0 : Nat → List Int → Int → Int → Option (Bool)
 | 0, _, _, _ => none
 | k + 1, x0, x1, x5 => if x5 < (x0.length : Int) then (if 0 ≤ x5 then (if (rd x0 x5) = x1 then (petrinetref06_minimal.l0 k x0 x1 (wrap64 (x5 + 1))) else ((petrinetref06_Subset.f k (rd x0 x5) x1).bind fun t374 => (if t374 = true then (some false) else (petrinetref06_minimal.l0 k x0 x1 (wrap64 (x5 + 1)))))) else (none)) else (some true)
def petrinetref06_minimal.f (k : Nat) (l0 : List Int) (a1 : Int) : Option (Bool) := petrinetref06_minimal.l0 k l0 a1 0
theorem petrinetref06_minimal.mono_l : ∀ k, (∀ y0 y1 y2, LeO (petrinetref06_minimal.l0 k y0 y1 y2) (petrinetref06_minimal.l0 (k + 1) y0 y1 y2))
 | 0 => fun _ _ _ r h => by simp [petrinetref06_minimal.l0] at h
 | k + 1 => by
  have ih0 := petrinetref06_minimal.mono_l k
  ·
   intro y0 y1 y2
   unfold petrinetref06_minimal.l0
   repeat' first
   | (with_reducible exact ih0 _ _ _)
   | (with_reducible exact petrinetref06_Subset.mono _ _ _)
   | (with_reducible exact LeO.refl _)
   | (with_reducible exact LeO.none _)
   | (with_reducible refine LeO.ite ?_ ?_)
   | (with_reducible refine LeO.bind ?_ (fun _ => ?_))
   | exact ih0 _ _ _
   | exact petrinetref06_Subset.mono _ _ _
   | exact LeO.none _
   | refine LeO.ite ?_ ?_
   | refine LeO.bind ?_ (fun _ => ?_)
theorem petrinetref06_minimal.mono : ∀ a0 a1 k, LeO (petrinetref06_minimal.f k a0 a1) (petrinetref06_minimal.f (k + 1) a0 a1) := by
 intro a0 a1 k
 have ih0 := petrinetref06_minimal.mono_l k
 unfold petrinetref06_minimal.f
 repeat' first
   | (with_reducible exact ih0 _ _ _)
   | (with_reducible exact petrinetref06_Subset.mono _ _ _)
   | (with_reducible exact LeO.refl _)
   | (with_reducible exact LeO.none _)
   | (with_reducible refine LeO.ite ?_ ?_)
   | (with_reducible refine LeO.bind ?_ (fun _ => ?_))
   | exact ih0 _ _ _
   | exact petrinetref06_Subset.mono _ _ _
   | exact LeO.none _
   | refine LeO.ite ?_ ?_
   | refine LeO.bind ?_ (fun _ => ?_)

/-! ### petrinetref06_Len: function 80 -/
def petrinetref06_Len.f (k : Nat) (a0 : Int) : Option (Int) := (petrinetref06_List.f k a0).bind fun t375 => (some (t375.length : Int))
theorem petrinetref06_Len.mono : ∀ a0 k, LeO (petrinetref06_Len.f k a0) (petrinetref06_Len.f (k + 1) a0) := by
 intro a0 k
 unfold petrinetref06_Len.f
 repeat' first
   | (with_reducible exact petrinetref06_List.mono _ _)
   | (with_reducible exact LeO.refl _)
   | (with_reducible exact LeO.none _)
   | (with_reducible refine LeO.ite ?_ ?_)
   | (with_reducible refine LeO.bind ?_ (fun _ => ?_))
   | exact petrinetref06_List.mono _ _
   | exact LeO.none _
   | refine LeO.ite ?_ ?_
   | refine LeO.bind ?_ (fun _ => ?_)

/-! ### petrinetref06_before: function 68 -/
def petrinetref06_before.f (k : Nat) (a0 : Int) (a1 : Int) : Option (Bool) := (petrinetref06_Len.f k a0).bind fun t378 => ((petrinetref06_Len.f k a1).bind fun t379 => (if t378 < t379 then (some true) else ((petrinetref06_Len.f k a0).bind fun t380 => ((petrinetref06_Len.f k a1).bind fun t381 => (if t380 = t381 then (some (decide (a0 < a1))) else (some false))))))
theorem petrinetref06_before.mono : ∀ a0 a1 k, LeO (petrinetref06_before.f k a0 a1) (petrinetref06_before.f (k + 1) a0 a1) := by
 intro a0 a1 k
 unfold petrinetref06_before.f
 repeat' first
   | (with_reducible exact petrinetref06_Len.mono _ _)
   | (with_reducible exact LeO.refl _)
   | (with_reducible exact LeO.none _)
   | (with_reducible refine LeO.ite ?_ ?_)
   | (with_reducible refine LeO.bind ?_ (fun _ => ?_))
   | exact petrinetref06_Len.mono _ _
   | exact LeO.none _
   | refine LeO.ite ?_ ?_
   | refine LeO.bind ?_ (fun _ => ?_)



/-! ### petrinetref06_Minimal: function 52 -/
mutual
def petrinetref06_Minimal.l0 : Nat → List Int → List Int → Int → Option (List Int)
 | 0, _, _, _ => none
 | k + 1, x0, x3, x4 => if x4 < (x0.length : Int) then (if 0 ≤ x4 then ((petrinetref06_minimal.f k x0 (rd x0 x4)).bind fun t383 => (if t383 = true then (petrinetref06_Minimal.l1 k x0 x3 x4 0 false 0) else (petrinetref06_Minimal.l0 k x0 x3 (wrap64 (x4 + 1))))) else (none)) else (some x3)
def petrinetref06_Minimal.l1 : Nat → List Int → List Int → Int → Int → Bool → Int → Option (List Int)
 | 0, _, _, _, _, _, _ => none
 | k + 1, x0, x3, x4, x5, x6, x7 => if x7 < (x3.length : Int) then (if 0 ≤ x7 then (if 0 ≤ x4 then (if x4 < (x0.length : Int) then (if (rd x3 x7) = (rd x0 x4) then ((petrinetref06_before.f k (rd x3 x7) (rd x0 x4)).bind fun t406 => (if t406 = true then (petrinetref06_Minimal.l1 k x0 x3 x4 (wrap64 (x7 + 1)) true (wrap64 (x7 + 1))) else (petrinetref06_Minimal.l1 k x0 x3 x4 x5 true (wrap64 (x7 + 1))))) else ((petrinetref06_before.f k (rd x3 x7) (rd x0 x4)).bind fun t409 => (if t409 = true then (petrinetref06_Minimal.l1 k x0 x3 x4 (wrap64 (x7 + 1)) x6 (wrap64 (x7 + 1))) else (petrinetref06_Minimal.l1 k x0 x3 x4 x5 x6 (wrap64 (x7 + 1)))))) else (none)) else (none)) else (none)) else (if x6 = true then (petrinetref06_Minimal.l0 k x0 x3 (wrap64 (x4 + 1))) else (if 0 ≤ x5 then (if x5 ≤ (x3.length : Int) then ((some (x3.take (x5 : Int).toNat : List Int)).bind fun y384 => (if ([] : List Int).length + y384.length < 17592186044416 then ((some (([] : List Int) ++ y384 : List Int)).bind fun y388 => (if 0 ≤ x4 then (if x4 < (x0.length : Int) then (if y388.length < 17592186044416 then ((some (y388 ++ [rd x0 x4] : List Int)).bind fun y392 => ((some (x3.drop (x5 : Int).toNat : List Int)).bind fun y395 => (if y392.length + y395.length < 17592186044416 then (petrinetref06_Minimal.l0 k x0 (y392 ++ y395) (wrap64 (x4 + 1))) else (none)))) else (none)) else (none)) else (none))) else (none))) else (none)) else (none)))
end
def petrinetref06_Minimal.f (k : Nat) (l0 : List Int) : Option (List Int) := petrinetref06_Minimal.l0 k l0 ([] : List Int) 0
theorem petrinetref06_Minimal.mono_l : ∀ k, (∀ y0 y1 y2, LeO (petrinetref06_Minimal.l0 k y0 y1 y2) (petrinetref06_Minimal.l0 (k + 1) y0 y1 y2)) ∧ (∀ y0 y1 y2 y3 y4 y5, LeO (petrinetref06_Minimal.l1 k y0 y1 y2 y3 y4 y5) (petrinetref06_Minimal.l1 (k + 1) y0 y1 y2 y3 y4 y5))
 | 0 => ⟨fun _ _ _ r h => by simp [petrinetref06_Minimal.l0] at h, fun _ _ _ _ _ _ r h => by simp [petrinetref06_Minimal.l1] at h⟩
 | k + 1 => by
  obtain ⟨ih0, ih1⟩ := petrinetref06_Minimal.mono_l k
  refine ⟨?_, ?_⟩
  ·
   intro y0 y1 y2
   unfold petrinetref06_Minimal.l0
   repeat' first
   | (with_reducible exact ih0 _ _ _)
   | (with_reducible exact ih1 _ _ _ _ _ _)
   | (with_reducible exact petrinetref06_before.mono _ _ _)
   | (with_reducible exact petrinetref06_minimal.mono _ _ _)
   | (with_reducible exact LeO.refl _)
   | (with_reducible exact LeO.none _)
   | (with_reducible refine LeO.ite ?_ ?_)
   | (with_reducible refine LeO.bind ?_ (fun _ => ?_))
   | exact ih0 _ _ _
   | exact ih1 _ _ _ _ _ _
   | exact petrinetref06_before.mono _ _ _
   | exact petrinetref06_minimal.mono _ _ _
   | exact LeO.none _
   | refine LeO.ite ?_ ?_
   | refine LeO.bind ?_ (fun _ => ?_)
  ·
   intro y0 y1 y2 y3 y4 y5
   unfold petrinetref06_Minimal.l1
   repeat' first
   | (with_reducible exact ih0 _ _ _)
   | (with_reducible exact ih1 _ _ _ _ _ _)
   | (with_reducible exact petrinetref06_before.mono _ _ _)
   | (with_reducible exact petrinetref06_minimal.mono _ _ _)
   | (with_reducible exact LeO.refl _)
   | (with_reducible exact LeO.none _)
   | (with_reducible refine LeO.ite ?_ ?_)
   | (with_reducible refine LeO.bind ?_ (fun _ => ?_))
   | exact ih0 _ _ _
   | exact ih1 _ _ _ _ _ _
   | exact petrinetref06_before.mono _ _ _
   | exact petrinetref06_minimal.mono _ _ _
   | exact LeO.none _
   | refine LeO.ite ?_ ?_
   | refine LeO.bind ?_ (fun _ => ?_)
theorem petrinetref06_Minimal.mono : ∀ a0 k, LeO (petrinetref06_Minimal.f k a0) (petrinetref06_Minimal.f (k + 1) a0) := by
 intro a0 k
 obtain ⟨ih0, ih1⟩ := petrinetref06_Minimal.mono_l k
 unfold petrinetref06_Minimal.f
 repeat' first
   | (with_reducible exact ih0 _ _ _)
   | (with_reducible exact ih1 _ _ _ _ _ _)
   | (with_reducible exact petrinetref06_before.mono _ _ _)
   | (with_reducible exact petrinetref06_minimal.mono _ _ _)
   | (with_reducible exact LeO.refl _)
   | (with_reducible exact LeO.none _)
   | (with_reducible refine LeO.ite ?_ ?_)
   | (with_reducible refine LeO.bind ?_ (fun _ => ?_))
   | exact ih0 _ _ _
   | exact ih1 _ _ _ _ _ _
   | exact petrinetref06_before.mono _ _ _
   | exact petrinetref06_minimal.mono _ _ _
   | exact LeO.none _
   | refine LeO.ite ?_ ?_
   | refine LeO.bind ?_ (fun _ => ?_)





/-! ### petrinetref06_Same: function 33 -/
def petrinetref06_Same.l0 : Nat → List Int → List Int → Int → Option (Bool)
 | 0, _, _, _ => none
 | k + 1, x0, x1, x5 => if x5 < (x0.length : Int) then (if 0 ≤ x5 then (if x5 < (x1.length : Int) then (if (rd x0 x5) = (rd x1 x5) then (petrinetref06_Same.l0 k x0 x1 (wrap64 (x5 + 1))) else (some false)) else (none)) else (none)) else (some true)
def petrinetref06_Same.f (k : Nat) (l0 : List Int) (l1 : List Int) : Option (Bool) := if (l0.length : Int) = (l1.length : Int) then (petrinetref06_Same.l0 k l0 l1 0) else (some false)
theorem petrinetref06_Same.mono_l : ∀ k, (∀ y0 y1 y2, LeO (petrinetref06_Same.l0 k y0 y1 y2) (petrinetref06_Same.l0 (k + 1) y0 y1 y2))
 | 0 => fun _ _ _ r h => by simp [petrinetref06_Same.l0] at h
 | k + 1 => by
  have ih0 := petrinetref06_Same.mono_l k
  ·
   intro y0 y1 y2
   unfold petrinetref06_Same.l0
   repeat' first
   | (with_reducible exact ih0 _ _ _)
   | (with_reducible exact LeO.refl _)
   | (with_reducible exact LeO.none _)
   | (with_reducible refine LeO.ite ?_ ?_)
   | (with_reducible refine LeO.bind ?_ (fun _ => ?_))
   | exact ih0 _ _ _
   | exact LeO.none _
   | refine LeO.ite ?_ ?_
   | refine LeO.bind ?_ (fun _ => ?_)
theorem petrinetref06_Same.mono : ∀ a0 a1 k, LeO (petrinetref06_Same.f k a0 a1) (petrinetref06_Same.f (k + 1) a0 a1) := by
 intro a0 a1 k
 have ih0 := petrinetref06_Same.mono_l k
 unfold petrinetref06_Same.f
 repeat' first
   | (with_reducible exact ih0 _ _ _)
   | (with_reducible exact LeO.refl _)
   | (with_reducible exact LeO.none _)
   | (with_reducible refine LeO.ite ?_ ?_)
   | (with_reducible refine LeO.bind ?_ (fun _ => ?_))
   | exact ih0 _ _ _
   | exact LeO.none _
   | refine LeO.ite ?_ ?_
   | refine LeO.bind ?_ (fun _ => ?_)

end Go.Proofs.Ytaphehdbjbogaaa.Pr
