-- Written by a program of this session (the kit's print with mkprint.py's replacements). Lean checks it.
import Derived.Test.YtaofommgdgmncaaPr0
namespace Go.Proofs.Ytaofommgdgmncaa.Pr
open Go.RowKit Go.Proofs.YtaofommgdgmncaaW.PrintWords Go.Proofs.YtaofommgdgmncaaW.PrintLast Go.Proofs.YtaofommgdgmncaaW.PrintMore
attribute [local go_sem] Instr.field asAgg
attribute [local go_sem] max2_int min2_int max_two min_two max_three min_three max_four min_four   -- for this text's walks alone
set_option linter.unusedVariables false
set_option linter.unusedSimpArgs false

/-! ### eventlog_Follows: function 14 -/
mutual
def eventlog_Follows.l0 : Nat → ByteArray → ByteArray → Int → List (List ByteArray) → Int → Int → Option (Int)
  | 0, _, _, _, _, _, _ => none
  | k + 1, x1, x2, x7, x11, x12, x13 => if x13 < x12 then (if 0 ≤ x13 then (if x13 < (x11.length : Int) then (eventlog_Follows.l1 k x1 x2 x7 (rd_L1 x11 x13) 1 x11 x12 x13) else (none)) else (none)) else (some x7)
def eventlog_Follows.l1 : Nat → ByteArray → ByteArray → Int → List ByteArray → Int → List (List ByteArray) → Int → Int → Option (Int)
  | 0, _, _, _, _, _, _, _, _ => none
  | k + 1, x1, x2, x7, x9, x10, x11, x12, x13 => if x10 < (x9.length : Int) then (if 0 ≤ (wrap64 (x10 - 1)) then (if (wrap64 (x10 - 1)) < (x9.length : Int) then (if (rdOf ByteArray.empty x9 (wrap64 (x10 - 1))).toList = x1.toList then (if 0 ≤ x10 then (if (rdOf ByteArray.empty x9 x10).toList = x2.toList then (eventlog_Follows.l1 k x1 x2 (wrap64 (x7 + 1)) x9 (wrap64 (x10 + 1)) x11 x12 x13) else (eventlog_Follows.l1 k x1 x2 x7 x9 (wrap64 (x10 + 1)) x11 x12 x13)) else (none)) else (eventlog_Follows.l1 k x1 x2 x7 x9 (wrap64 (x10 + 1)) x11 x12 x13)) else (none)) else (none)) else (eventlog_Follows.l0 k x1 x2 x7 x11 x12 (wrap64 (x13 + 1)))
end
def eventlog_Follows.f (k : Nat) (l0 : List (List ByteArray)) (a1 : ByteArray) (a2 : ByteArray) : Option (Int) := eventlog_Follows.l0 k a1 a2 0 l0 (l0.length : Int) 0
theorem eventlog_Follows.mono_l : ∀ k, (∀ y0 y1 y2 y3 y4 y5, LeO (eventlog_Follows.l0 k y0 y1 y2 y3 y4 y5) (eventlog_Follows.l0 (k + 1) y0 y1 y2 y3 y4 y5)) ∧ (∀ y0 y1 y2 y3 y4 y5 y6 y7, LeO (eventlog_Follows.l1 k y0 y1 y2 y3 y4 y5 y6 y7) (eventlog_Follows.l1 (k + 1) y0 y1 y2 y3 y4 y5 y6 y7))
  | 0 => ⟨fun _ _ _ _ _ _ r h => by simp [eventlog_Follows.l0] at h, fun _ _ _ _ _ _ _ _ r h => by simp [eventlog_Follows.l1] at h⟩
  | k + 1 => by
    obtain ⟨ih0, ih1⟩ := eventlog_Follows.mono_l k
    refine ⟨?_, ?_⟩
    · intro y0 y1 y2 y3 y4 y5
      unfold eventlog_Follows.l0
      repeat' first
      | (with_reducible exact ih0 _ _ _ _ _ _)
      | (with_reducible exact ih1 _ _ _ _ _ _ _ _)
      | (with_reducible exact LeO.refl _)
      | (with_reducible exact LeO.none _)
      | (with_reducible refine LeO.ite ?_ ?_)
      | (with_reducible refine LeO.bind ?_ (fun _ => ?_))
      | exact ih0 _ _ _ _ _ _
      | exact ih1 _ _ _ _ _ _ _ _
      | exact LeO.none _
      | refine LeO.ite ?_ ?_
      | refine LeO.bind ?_ (fun _ => ?_)
    · intro y0 y1 y2 y3 y4 y5 y6 y7
      unfold eventlog_Follows.l1
      repeat' first
      | (with_reducible exact ih0 _ _ _ _ _ _)
      | (with_reducible exact ih1 _ _ _ _ _ _ _ _)
      | (with_reducible exact LeO.refl _)
      | (with_reducible exact LeO.none _)
      | (with_reducible refine LeO.ite ?_ ?_)
      | (with_reducible refine LeO.bind ?_ (fun _ => ?_))
      | exact ih0 _ _ _ _ _ _
      | exact ih1 _ _ _ _ _ _ _ _
      | exact LeO.none _
      | refine LeO.ite ?_ ?_
      | refine LeO.bind ?_ (fun _ => ?_)
theorem eventlog_Follows.mono : ∀ a0 a1 a2 k, LeO (eventlog_Follows.f k a0 a1 a2) (eventlog_Follows.f (k + 1) a0 a1 a2) := by
  intro a0 a1 a2 k
  obtain ⟨ih0, ih1⟩ := eventlog_Follows.mono_l k
  unfold eventlog_Follows.f
  repeat' first
      | (with_reducible exact ih0 _ _ _ _ _ _)
      | (with_reducible exact ih1 _ _ _ _ _ _ _ _)
      | (with_reducible exact LeO.refl _)
      | (with_reducible exact LeO.none _)
      | (with_reducible refine LeO.ite ?_ ?_)
      | (with_reducible refine LeO.bind ?_ (fun _ => ?_))
      | exact ih0 _ _ _ _ _ _
      | exact ih1 _ _ _ _ _ _ _ _
      | exact LeO.none _
      | refine LeO.ite ?_ ?_
      | refine LeO.bind ?_ (fun _ => ?_)
set_option maxHeartbeats 8000000 in
set_option maxRecDepth 100000 in
theorem eventlog_Follows.calls (k : Nat) (A0 : Option Addr) (c0 : Nat) (l0 : List (List ByteArray)) (a1 : ByteArray) (a2 : ByteArray) (r : Int) (w : World) (hr0 : Kd.C (Kd.slice 9 Kd.string) w A0 l0.length l0) (hc0 : l0.length ≤ c0) (h : eventlog_Follows.f k l0 a1 a2 = some r) :
    Calls Try.prog 14 #[.slice A0 l0.length c0, .string a1, .string a2] w fun e w' => e = .returned (.int .i64 r) ∧ Drawn0 w w' := by
  have HR0 := Aside0.mk hr0
  have HC0 := Aside0.mk hc0
  clear hr0 hc0
  have H : (eventlog_Follows.l0 k a1 a2 0 l0 (l0.length : Int) 0) = some r := h
  clear h
  have H' := Aside0.mk H
  clear H
  go_enter Try.func14, Try.ntmps14
  go_wp2
  go_loopg [7, 13] k (fun kq v7 v13 w' => ∃ (x7_1 : Int) (x13_1 : Int), v7 = .int .i64 x7_1 ∧ v13 = .int .i64 x13_1 ∧ Aside0 (eventlog_Follows.l0 kq a1 a2 x7_1 l0 (l0.length : Int) x13_1 = some r) ∧ Aside0 (kq ≤ k) ∧ Drawn0 w w')
  case atStart => exact ⟨(0), (0), (by first | rfl | (simp; done) | (simp [*]; done) | (simp [i64_w]; done)), (by first | rfl | (simp; done) | (simp [*]; done) | (simp [i64_w]; done)), H', ⟨Nat.le_refl _⟩, by repeat (first | exact Drawn0.refl _ | apply Drawn0.step)⟩
  case round =>
    clear H'
    try clear c1
    try clear p2
    obtain ⟨x7_1, x13_1, rfl, rfl, HA, HK1, ⟨m1, rfl⟩⟩ := hrel
    cases gk with
    | zero => exact absurd HA.out (by simp [eventlog_Follows.l0])
    | succ k1 =>
      have H := HA.out
      clear HA
      simp only [eventlog_Follows.l0] at H
      by_cases c4 : x13_1 < (l0.length : Int)
      · rw [if_pos c4] at H
        have c4b0 : decide (x13_1 < (l0.length : Int)) = true := decide_eq_true c4
        clear c4
        by_cases c5 : 0 ≤ x13_1
        · rw [if_pos c5] at H
          have c5b0 : decide (0 ≤ x13_1) = true := decide_eq_true c5
          clear c5
          by_cases c6 : x13_1 < (l0.length : Int)
          · rw [if_pos c6] at H
            have c6b0 : decide (x13_1 < (l0.length : Int)) = true := decide_eq_true c6
            clear c6
            have H' := Aside0.mk H
            clear H
            have p104 : 0 ≤ (x13_1 : Int) := of_decide_eq_true (by first | (with_reducible assumption) | assumption)
            have q104 : x13_1 < (l0.length : Int) := of_decide_eq_true (by first | (with_reducible assumption) | assumption)
            obtain ⟨ad104, A104_0, c104_0, e104, hx104_0, hl104_0, hi104_0⟩ := at_L1 HR0.out x13_1 p104 q104
            cases e104
            have HR104_0 := Aside0.mk hi104_0
            have HC104_0 := Aside0.mk hl104_0
            clear hi104_0 hl104_0
            replace p104 := eq_true p104
            replace q104 := eq_true q104
            go_wp2
            go_loopg [7, 10] k1 (fun kq v7 v10 w' => ∃ (x7_2 : Int) (x10_2 : Int), v7 = .int .i64 x7_2 ∧ v10 = .int .i64 x10_2 ∧ Aside0 (eventlog_Follows.l1 kq a1 a2 x7_2 (rd_L1 l0 x13_1) x10_2 l0 (l0.length : Int) x13_1 = some r) ∧ Aside0 (kq ≤ k1) ∧ Drawn0 w w')
            case atStart => exact ⟨(x7_1), (1), (by first | rfl | (simp; done) | (simp [*]; done) | (simp [i64_w]; done)), (by first | rfl | (simp; done) | (simp [*]; done) | (simp [i64_w]; done)), H', ⟨Nat.le_refl _⟩, by repeat (first | exact Drawn0.refl _ | apply Drawn0.step)⟩
            case round =>
              clear H'
              try clear c1
              try clear p1
              try clear q1
              try clear hx1
              try clear p2
              try clear c4
              try clear c4b0
              try clear c5
              try clear c5b0
              try clear c6
              try clear c6b0
              try clear hx104_0
              try clear p104
              try clear p2
              try clear q104
              obtain ⟨x7_2, x10_2, rfl, rfl, HA, HK2, ⟨m2, rfl⟩⟩ := hrel
              cases gk with
              | zero => exact absurd HA.out (by simp [eventlog_Follows.l1])
              | succ k2 =>
                have H := HA.out
                clear HA
                simp only [eventlog_Follows.l1] at H
                by_cases c7 : x10_2 < ((rd_L1 l0 x13_1).length : Int)
                · rw [if_pos c7] at H
                  have c7b0 : decide (x10_2 < ((rd_L1 l0 x13_1).length : Int)) = true := decide_eq_true c7
                  clear c7
                  obtain ⟨ji8, hji8⟩ : ∃ j_ : Int, (wrap64 (x10_2 - 1)) = j_ := ⟨_, rfl⟩
                  replace H : (if 0 ≤ (ji8) then (if (ji8) < ((rd_L1 l0 x13_1).length : Int) then (if (rdOf ByteArray.empty (rd_L1 l0 x13_1) (ji8)).toList = a1.toList then (if 0 ≤ x10_2 then (if (rdOf ByteArray.empty (rd_L1 l0 x13_1) x10_2).toList = a2.toList then (eventlog_Follows.l1 k2 a1 a2 (wrap64 (x7_2 + 1)) (rd_L1 l0 x13_1) (wrap64 (x10_2 + 1)) l0 (l0.length : Int) x13_1) else (eventlog_Follows.l1 k2 a1 a2 x7_2 (rd_L1 l0 x13_1) (wrap64 (x10_2 + 1)) l0 (l0.length : Int) x13_1)) else (none)) else (eventlog_Follows.l1 k2 a1 a2 x7_2 (rd_L1 l0 x13_1) (wrap64 (x10_2 + 1)) l0 (l0.length : Int) x13_1)) else (none)) else (none)) = some r := by first | (rw [hji8] at H; exact H) | (simp only [hji8] at H ⊢; exact H)
                  have hji8w : (IntKind.i64.wrap (x10_2 - 1)) = ji8 := (i64_w _).trans hji8
                  by_cases c9 : 0 ≤ (ji8)
                  · rw [if_pos c9] at H
                    have c9b0 : decide (0 ≤ (ji8)) = true := decide_eq_true c9
                    clear c9
                    by_cases c10 : (ji8) < ((rd_L1 l0 x13_1).length : Int)
                    · rw [if_pos c10] at H
                      have c10b0 : decide ((ji8) < ((rd_L1 l0 x13_1).length : Int)) = true := decide_eq_true c10
                      clear c10
                      by_cases c11 : (rdOf ByteArray.empty (rd_L1 l0 x13_1) (ji8)).toList = a1.toList
                      · rw [if_pos c11] at H
                        have c11b0 : ((rdOf ByteArray.empty (rd_L1 l0 x13_1) (ji8)).toList == a1.toList) = true := beq_iff_eq.mpr c11
                        have c11b1 : ((rdOf ByteArray.empty (rd_L1 l0 x13_1) (ji8)).toList != a1.toList) = false := bne_eq_false_iff_eq.mpr c11
                        clear c11
                        by_cases c12 : 0 ≤ x10_2
                        · rw [if_pos c12] at H
                          have c12b0 : decide (0 ≤ x10_2) = true := decide_eq_true c12
                          clear c12
                          by_cases c13 : (rdOf ByteArray.empty (rd_L1 l0 x13_1) x10_2).toList = a2.toList
                          · rw [if_pos c13] at H
                            have c13b0 : ((rdOf ByteArray.empty (rd_L1 l0 x13_1) x10_2).toList == a2.toList) = true := beq_iff_eq.mpr c13
                            have c13b1 : ((rdOf ByteArray.empty (rd_L1 l0 x13_1) x10_2).toList != a2.toList) = false := bne_eq_false_iff_eq.mpr c13
                            clear c13
                            have H' := Aside0.mk H
                            clear H
                            have p105 : 0 ≤ ((ji8) : Int) := of_decide_eq_true (by first | (with_reducible assumption) | assumption)
                            have q105 : (ji8) < ((rd_L1 l0 x13_1).length : Int) := of_decide_eq_true (by first | (with_reducible assumption) | assumption)
                            obtain ⟨ad105, e105, hx105_0⟩ := Kd.at_string HR104_0.out (ji8) p105 q105
                            cases e105
                            replace p105 := eq_true p105
                            replace q105 := eq_true q105
                            have p106 : 0 ≤ (x10_2 : Int) := of_decide_eq_true (by first | (with_reducible assumption) | assumption)
                            have q106 : x10_2 < ((rd_L1 l0 x13_1).length : Int) := of_decide_eq_true (by first | (with_reducible assumption) | assumption)
                            obtain ⟨ad106, e106, hx106_0⟩ := Kd.at_string HR104_0.out x10_2 p106 q106
                            obtain rfl : ad105 = ad106 := (by injection e106)
                            replace p106 := eq_true p106
                            replace q106 := eq_true q106
                            go_wp2
                            go_roundg k2
                            case measure => have := HK1.out; have := HK2.out; omega
                            case rel => exact ⟨(wrap64 (x7_2 + 1)), (wrap64 (x10_2 + 1)), (by first | rfl | (simp; done) | (simp [*]; done) | (simp [i64_w]; done)), (by first | rfl | (simp; done) | (simp [*]; done) | (simp [i64_w]; done)), H', ⟨by have := HK1.out; have := HK2.out; omega⟩, by repeat (first | exact Drawn0.refl _ | apply Drawn0.step)⟩
                          · rw [if_neg c13] at H
                            have c13b0 : ((rdOf ByteArray.empty (rd_L1 l0 x13_1) x10_2).toList == a2.toList) = false := beq_eq_false_iff_ne.mpr c13
                            have c13b1 : ((rdOf ByteArray.empty (rd_L1 l0 x13_1) x10_2).toList != a2.toList) = true := bne_iff_ne.mpr c13
                            have H' := Aside0.mk H
                            clear H
                            have p105 : 0 ≤ ((ji8) : Int) := of_decide_eq_true (by first | (with_reducible assumption) | assumption)
                            have q105 : (ji8) < ((rd_L1 l0 x13_1).length : Int) := of_decide_eq_true (by first | (with_reducible assumption) | assumption)
                            obtain ⟨ad105, e105, hx105_0⟩ := Kd.at_string HR104_0.out (ji8) p105 q105
                            cases e105
                            replace p105 := eq_true p105
                            replace q105 := eq_true q105
                            have p106 : 0 ≤ (x10_2 : Int) := of_decide_eq_true (by first | (with_reducible assumption) | assumption)
                            have q106 : x10_2 < ((rd_L1 l0 x13_1).length : Int) := of_decide_eq_true (by first | (with_reducible assumption) | assumption)
                            obtain ⟨ad106, e106, hx106_0⟩ := Kd.at_string HR104_0.out x10_2 p106 q106
                            obtain rfl : ad105 = ad106 := (by injection e106)
                            replace p106 := eq_true p106
                            replace q106 := eq_true q106
                            go_wp2
                            go_roundg k2
                            case measure => have := HK1.out; have := HK2.out; omega
                            case rel => exact ⟨(x7_2), (wrap64 (x10_2 + 1)), (by first | rfl | (simp; done) | (simp [*]; done) | (simp [i64_w]; done)), (by first | rfl | (simp; done) | (simp [*]; done) | (simp [i64_w]; done)), H', ⟨by have := HK1.out; have := HK2.out; omega⟩, by repeat (first | exact Drawn0.refl _ | apply Drawn0.step)⟩
                        · rw [if_neg c12] at H
                          exact absurd H (by simp)
                      · rw [if_neg c11] at H
                        have c11b0 : ((rdOf ByteArray.empty (rd_L1 l0 x13_1) (ji8)).toList == a1.toList) = false := beq_eq_false_iff_ne.mpr c11
                        have c11b1 : ((rdOf ByteArray.empty (rd_L1 l0 x13_1) (ji8)).toList != a1.toList) = true := bne_iff_ne.mpr c11
                        have H' := Aside0.mk H
                        clear H
                        have p105 : 0 ≤ ((ji8) : Int) := of_decide_eq_true (by first | (with_reducible assumption) | assumption)
                        have q105 : (ji8) < ((rd_L1 l0 x13_1).length : Int) := of_decide_eq_true (by first | (with_reducible assumption) | assumption)
                        obtain ⟨ad105, e105, hx105_0⟩ := Kd.at_string HR104_0.out (ji8) p105 q105
                        cases e105
                        replace p105 := eq_true p105
                        replace q105 := eq_true q105
                        go_wp2
                        go_roundg k2
                        case measure => have := HK1.out; have := HK2.out; omega
                        case rel => exact ⟨(x7_2), (wrap64 (x10_2 + 1)), (by first | rfl | (simp; done) | (simp [*]; done) | (simp [i64_w]; done)), (by first | rfl | (simp; done) | (simp [*]; done) | (simp [i64_w]; done)), H', ⟨by have := HK1.out; have := HK2.out; omega⟩, by repeat (first | exact Drawn0.refl _ | apply Drawn0.step)⟩
                    · rw [if_neg c10] at H
                      exact absurd H (by simp)
                  · rw [if_neg c9] at H
                    exact absurd H (by simp)
                · rw [if_neg c7] at H
                  have c7b0 : decide (x10_2 < ((rd_L1 l0 x13_1).length : Int)) = false := decide_eq_false c7
                  clear c7
                  have H' := Aside0.mk H
                  clear H
                  go_wp2
                  go_roundg k2
                  case measure => have := HK1.out; have := HK2.out; omega
                  case rel => exact ⟨(x7_2), (wrap64 (x13_1 + 1)), (by first | rfl | (simp; done) | (simp [*]; done) | (simp [i64_w]; done)), (by first | rfl | (simp; done) | (simp [*]; done) | (simp [i64_w]; done)), H', ⟨by have := HK1.out; have := HK2.out; omega⟩, by repeat (first | exact Drawn0.refl _ | apply Drawn0.step)⟩
          · rw [if_neg c6] at H
            exact absurd H (by simp)
        · rw [if_neg c5] at H
          exact absurd H (by simp)
      · rw [if_neg c4] at H
        have c4b0 : decide (x13_1 < (l0.length : Int)) = false := decide_eq_false c4
        clear c4
        obtain rfl := Option.some.inj H
        go_wp2
        go_ret
        exact ⟨by first | rfl | (simp; done) | (simp [*]; done), by repeat (first | exact Drawn0.refl _ | apply Drawn0.step)⟩

end Go.Proofs.Ytaofommgdgmncaa.Pr
