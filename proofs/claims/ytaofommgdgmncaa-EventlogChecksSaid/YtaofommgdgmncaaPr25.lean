-- Written by a program of this session (the kit's print with mkprint.py's replacements). Lean checks it.
import Derived.Test.YtaofommgdgmncaaPr0
namespace Go.Proofs.Ytaofommgdgmncaa.Pr
open Go.RowKit Go.Proofs.YtaofommgdgmncaaW.PrintWords Go.Proofs.YtaofommgdgmncaaW.PrintLast Go.Proofs.YtaofommgdgmncaaW.PrintMore
attribute [local go_sem] Instr.field asAgg
attribute [local go_sem] max2_int min2_int max_two min_two max_three min_three max_four min_four   -- for this text's walks alone
set_option linter.unusedVariables false
set_option linter.unusedSimpArgs false

/-! ### eventlog_text: function 41 -/
def eventlog_text.l0 : Nat → ByteArray → List ByteArray → Int → Int → Option (ByteArray)
  | 0, _, _, _, _ => none
  | k + 1, x3, x13, x14, x15 => if x15 < x14 then (if 0 ≤ x15 then (if x15 < (x13.length : Int) then (if 1 + (rdOf ByteArray.empty x13 x15).size ≤ 9223372036854775807 then (if x3.size + ((⟨#[32]⟩ : ByteArray) ++ (rdOf ByteArray.empty x13 x15)).size ≤ 9223372036854775807 then (eventlog_text.l0 k (x3 ++ ((⟨#[32]⟩ : ByteArray) ++ (rdOf ByteArray.empty x13 x15))) x13 x14 (wrap64 (x15 + 1))) else (none)) else (none)) else (none)) else (none)) else (some x3)
def eventlog_text.f (k : Nat) (l0 : List ByteArray) : Option (ByteArray) := if (l0.length : Int) = 0 then (some (⟨#[45]⟩ : ByteArray)) else (if 0 < (l0.length : Int) then (if 1 ≤ (l0.length : Int) then (eventlog_text.l0 k (rdOf ByteArray.empty l0 0) (l0.drop 1) ((l0.drop 1).length : Int) 0) else (none)) else (none))
theorem eventlog_text.mono_l : ∀ k, (∀ y0 y1 y2 y3, LeO (eventlog_text.l0 k y0 y1 y2 y3) (eventlog_text.l0 (k + 1) y0 y1 y2 y3))
  | 0 => fun _ _ _ _ r h => by simp [eventlog_text.l0] at h
  | k + 1 => by
    have ih0 := eventlog_text.mono_l k
    · intro y0 y1 y2 y3
      unfold eventlog_text.l0
      repeat' first
      | (with_reducible exact ih0 _ _ _ _)
      | (with_reducible exact LeO.refl _)
      | (with_reducible exact LeO.none _)
      | (with_reducible refine LeO.ite ?_ ?_)
      | (with_reducible refine LeO.bind ?_ (fun _ => ?_))
      | exact ih0 _ _ _ _
      | exact LeO.none _
      | refine LeO.ite ?_ ?_
      | refine LeO.bind ?_ (fun _ => ?_)
theorem eventlog_text.mono : ∀ a0 k, LeO (eventlog_text.f k a0) (eventlog_text.f (k + 1) a0) := by
  intro a0 k
  have ih0 := eventlog_text.mono_l k
  unfold eventlog_text.f
  repeat' first
      | (with_reducible exact ih0 _ _ _ _)
      | (with_reducible exact LeO.refl _)
      | (with_reducible exact LeO.none _)
      | (with_reducible refine LeO.ite ?_ ?_)
      | (with_reducible refine LeO.bind ?_ (fun _ => ?_))
      | exact ih0 _ _ _ _
      | exact LeO.none _
      | refine LeO.ite ?_ ?_
      | refine LeO.bind ?_ (fun _ => ?_)
set_option maxHeartbeats 8000000 in
set_option maxRecDepth 100000 in
theorem eventlog_text.calls (k : Nat) (A0 : Option Addr) (c0 : Nat) (l0 : List ByteArray) (r : ByteArray) (w : World) (hr0 : Kd.C Kd.string w A0 l0.length l0) (hc0 : l0.length ≤ c0) (h : eventlog_text.f k l0 = some r) :
    Calls Try.prog 41 #[.slice A0 l0.length c0] w fun e w' => e = .returned (.string r) ∧ Drawn0 w w' := by
  have HR0 := Aside0.mk hr0
  have HC0 := Aside0.mk hc0
  clear hr0 hc0
  have H : (if (l0.length : Int) = 0 then (some (⟨#[45]⟩ : ByteArray)) else (if 0 < (l0.length : Int) then (if 1 ≤ (l0.length : Int) then (eventlog_text.l0 k (rdOf ByteArray.empty l0 0) (l0.drop 1) ((l0.drop 1).length : Int) 0) else (none)) else (none))) = some r := h
  clear h
  by_cases c2 : (l0.length : Int) = 0
  · rw [if_pos c2] at H
    have c2b0 : ((l0.length : Int) == 0) = true := beq_iff_eq.mpr c2
    have c2b1 : ((l0.length : Int) != 0) = false := bne_eq_false_iff_eq.mpr c2
    clear c2
    obtain rfl := Option.some.inj H
    go_enter Try.func41, Try.ntmps41
    go_wp2
    go_ret
    exact ⟨by first | rfl | (simp; done) | (simp [*]; done), by repeat (first | exact Drawn0.refl _ | apply Drawn0.step)⟩
  · rw [if_neg c2] at H
    have c2b0 : ((l0.length : Int) == 0) = false := beq_eq_false_iff_ne.mpr c2
    have c2b1 : ((l0.length : Int) != 0) = true := bne_iff_ne.mpr c2
    have c2b2 : ¬ (l0 = []) := fun h_ => c2 (by rw [h_]; rfl)
    by_cases c3 : 0 < (l0.length : Int)
    · rw [if_pos c3] at H
      have c3b0 : decide (0 < (l0.length : Int)) = true := decide_eq_true c3
      have c3b1 : decide (0 < l0.length) = true := decide_eq_true (by omega)
      clear c3
      by_cases c4 : 1 ≤ (l0.length : Int)
      · rw [if_pos c4] at H
        have c4b0 := eq_true c4
        have c4b1 : decide (1 ≤ (l0.length : Int)) = true := decide_eq_true c4
        clear c4
        have H' := Aside0.mk H
        clear H
        have p237 : 0 ≤ (0 : Int) := (by omega)
        have q237 : 0 < (l0.length : Int) := of_decide_eq_true (by first | (with_reducible assumption) | assumption)
        obtain ⟨ad237, e237, hx237_0⟩ := Kd.at_string HR0.out 0 p237 q237
        cases e237
        have qi237 : (0 < l0.length) = True := eq_true (by omega)
        (try rw [show ((0 : Int)).toNat = 0 from rfl] at hx237_0)
        (try rw [Addr.add_zero'] at hx237_0)
        replace p237 := eq_true p237
        replace q237 := eq_true q237
        obtain ⟨i05, hi05, _, hsz5, _⟩ := info_parts info9
        obtain ⟨A5, hcut5, hA5, hC5⟩ := print_drop_of (P := Try.prog) Value.string (⟨#[]⟩ : ByteArray) 34 9 .i64 Try.underlying34 hi05 hsz5 (some ad237) c0 l0 1 (by omega) (of_decide_eq_true (by first | (with_reducible assumption) | assumption)) HC0.out
        have HR238 := Aside0.mk (Kd.C_of_reads (h1 := fun _ => rfl) (hA5 _ (Kd.reads_of_C HR0.out)))
        have HC238 := Aside0.mk hC5
        clear hA5 hC5 hi05 hsz5
        go_enter Try.func41, Try.ntmps41
        go_wp2
        go_loopg [3, 15] k (fun kq v3 v15 w' => ∃ (x3_1 : ByteArray) (x15_1 : Int), v3 = .string x3_1 ∧ v15 = .int .i64 x15_1 ∧ Aside0 (eventlog_text.l0 kq x3_1 (l0.drop 1) ((l0.drop 1).length : Int) x15_1 = some r) ∧ Aside0 (kq ≤ k) ∧ Drawn0 w w')
        case atStart => exact ⟨(rdOf ByteArray.empty l0 0), (0), (by first | rfl | (simp; done) | (simp [*]; done)), (by first | rfl | (simp; done) | (simp [*]; done)), H', ⟨Nat.le_refl _⟩, by repeat (first | exact Drawn0.refl _ | apply Drawn0.step)⟩
        case round =>
          clear H'
          try clear c2
          try clear c2b0
          try clear c2b1
          try clear c2b2
          try clear p2
          try clear q2
          try clear hx2
          try clear qi2
          try clear c3
          try clear c3b0
          try clear c3b1
          try clear c4
          try clear c4b0
          try clear c4b1
          try clear hx237_0
          try clear p237
          try clear q237
          obtain ⟨x3_1, x15_1, rfl, rfl, HA, HK1, ⟨m1, rfl⟩⟩ := hrel
          cases gk with
          | zero => exact absurd HA.out (by simp [eventlog_text.l0])
          | succ k1 =>
            have H := HA.out
            clear HA
            simp only [eventlog_text.l0] at H
            by_cases c6 : x15_1 < ((l0.drop 1).length : Int)
            · rw [if_pos c6] at H
              have c6b0 : decide (x15_1 < ((l0.drop 1).length : Int)) = true := decide_eq_true c6
              try have c6b3 : decide (x15_1 < ((l0.length - 1 : Nat) : Int)) = true := by have e_ := c6b0; rw [List.length_drop] at e_; exact e_
              clear c6
              by_cases c7 : 0 ≤ x15_1
              · rw [if_pos c7] at H
                have c7b0 : decide (0 ≤ x15_1) = true := decide_eq_true c7
                clear c7
                by_cases c8 : x15_1 < ((l0.drop 1).length : Int)
                · rw [if_pos c8] at H
                  have c8b0 : decide (x15_1 < ((l0.drop 1).length : Int)) = true := decide_eq_true c8
                  try have c8b3 : decide (x15_1 < ((l0.length - 1 : Nat) : Int)) = true := by have e_ := c8b0; rw [List.length_drop] at e_; exact e_
                  clear c8
                  by_cases c9 : 1 + (rdOf ByteArray.empty (l0.drop 1) x15_1).size ≤ 9223372036854775807
                  · rw [if_pos c9] at H
                    have c9b0 := eq_true c9
                    have c9b1 : decide (1 + (rdOf ByteArray.empty (l0.drop 1) x15_1).size ≤ 9223372036854775807) = true := decide_eq_true c9
                    try have c9b2 : (9223372036854775807 < 1 + (rdOf ByteArray.empty (l0.drop 1) x15_1).size) = False := eq_false (Nat.not_lt.2 c9)
                    try have c9b3 : (9223372036854775807 < 1 + (rdOf ByteArray.empty l0.tail x15_1).size) = False := eq_false (Nat.not_lt.2 (by simpa using c9))
                    by_cases c10 : x3_1.size + ((⟨#[32]⟩ : ByteArray) ++ (rdOf ByteArray.empty (l0.drop 1) x15_1)).size ≤ 9223372036854775807
                    · rw [if_pos c10] at H
                      have c10b0 := eq_true c10
                      have c10b1 : decide (x3_1.size + ((⟨#[32]⟩ : ByteArray) ++ (rdOf ByteArray.empty (l0.drop 1) x15_1)).size ≤ 9223372036854775807) = true := decide_eq_true c10
                      try have c10b2 : (9223372036854775807 < x3_1.size + ((⟨#[32]⟩ : ByteArray) ++ (rdOf ByteArray.empty (l0.drop 1) x15_1)).size) = False := eq_false (Nat.not_lt.2 c10)
                      try have c10b3 : (9223372036854775807 < x3_1.size + ((⟨#[32]⟩ : ByteArray) ++ (rdOf ByteArray.empty l0.tail x15_1)).size) = False := eq_false (Nat.not_lt.2 (by simpa using c10))
                      try have c10b4 := c10b3
                      try simp only [ByteArray.size_append, show (⟨#[32]⟩ : ByteArray).size = 1 from rfl] at c10b4
                      have H' := Aside0.mk H
                      clear H
                      have p239 : 0 ≤ (x15_1 : Int) := of_decide_eq_true (by first | (with_reducible assumption) | assumption)
                      have q239 : x15_1 < ((l0.drop 1).length : Int) := of_decide_eq_true (by first | (with_reducible assumption) | assumption)
                      obtain ⟨ad239, e239, hx239_0⟩ := Kd.at_string HR238.out x15_1 p239 q239
                      cases e239
                      replace p239 := eq_true p239
                      replace q239 := eq_true q239
                      try have q239b := q239
                      try rw [List.length_drop] at q239b
                      go_wp2
                      go_roundg k1
                      case measure => have := HK1.out; omega
                      case rel => exact ⟨(x3_1 ++ ((⟨#[32]⟩ : ByteArray) ++ (rdOf ByteArray.empty (l0.drop 1) x15_1))), (wrap64 (x15_1 + 1)), (by first | rfl | (simp; done) | (simp [*]; done)), (by first | rfl | (simp; done) | (simp [*]; done)), H', ⟨by have := HK1.out; omega⟩, by repeat (first | exact Drawn0.refl _ | apply Drawn0.step)⟩
                    · rw [if_neg c10] at H
                      exact absurd H (by simp)
                  · rw [if_neg c9] at H
                    exact absurd H (by simp)
                · rw [if_neg c8] at H
                  exact absurd H (by simp)
              · rw [if_neg c7] at H
                exact absurd H (by simp)
            · rw [if_neg c6] at H
              have c6b0 : decide (x15_1 < ((l0.drop 1).length : Int)) = false := decide_eq_false c6
              try have c6b3 : decide (x15_1 < ((l0.length - 1 : Nat) : Int)) = false := by have e_ := c6b0; rw [List.length_drop] at e_; exact e_
              clear c6
              obtain rfl := Option.some.inj H
              go_wp2
              go_ret
              exact ⟨by first | rfl | (simp; done) | (simp [*]; done), by repeat (first | exact Drawn0.refl _ | apply Drawn0.step)⟩
      · rw [if_neg c4] at H
        exact absurd H (by simp)
    · rw [if_neg c3] at H
      exact absurd H (by simp)

end Go.Proofs.Ytaofommgdgmncaa.Pr
