-- Written by a program of this session (the kit's print with mkprint.py's replacements). Lean checks it.
import Derived.Test.YtaofommgdgmncaaPr0
import Derived.Test.YtaofommgdgmncaaNames
import Derived.LoopTactic
import Derived.BigGuardPart
namespace Go.Proofs.Ytaofommgdgmncaa.Pr
open Go.RowKit Go.Proofs.YtaofommgdgmncaaW.PrintWords Go.Proofs.YtaofommgdgmncaaW.PrintLast Go.Proofs.YtaofommgdgmncaaW.PrintMore
attribute [local go_sem] Instr.field asAgg
attribute [local go_sem] max2_int min2_int max_two min_two max_three min_three max_four min_four   -- for this text's walks alone
set_option linter.unusedVariables false
set_option linter.unusedSimpArgs false

-- STUBBED 22
/-! ### eventlog_Name: function 22: by hand -/
open Go.Proofs.Ytaofommgdgmncaa.Names

def eventlog_Name.f (a0 : ByteArray) : Option (Bool) := some (nameB a0)

set_option maxHeartbeats 4000000 in
set_option maxRecDepth 100000 in
theorem eventlog_Name.calls (a0 : ByteArray) (r : Bool) (w : World) (h : eventlog_Name.f a0 = some r) :
    Calls Try.prog 22 #[.string a0] w fun e w' => e = .returned (.bool r) ∧ Below w.heap.size w w' := by
  have HR := Aside0.mk (show nameB a0 = r from Option.some.inj h)
  clear h
  by_cases h1 : 1 ≤ a0.size
  · by_cases h2 : a0.size ≤ 16
    · have g1 : ¬ (a0.size : Int) < 1 := by omega
      have g2 : ¬ (16 : Int) < (a0.size : Int) := by omega
      go_enter Try.func22, Try.ntmps22
      go_wp2
      go_loopw [3] (fun _ w' => ∃ pos : Nat, w' = w.iter a0 pos ∧ pos ≤ a0.size ∧ Aside0 (∀ i, i < pos → okB i (byteAt a0 i) = true)) (fun _ w' => a0.size - w'.iterPos w.heap.size)
      case atStart => exact ⟨0, rfl, Nat.zero_le _, ⟨fun i h => absurd h (Nat.not_lt_zero _)⟩⟩
      case round =>
        obtain ⟨pos, rfl, hpos, HA⟩ := hrel
        by_cases hp : pos < a0.size
        · have hnx : ∀ ty, (Instr.next (.pointer (some ⟨w.heap.size, 0, none⟩)) true ty).run Try.prog (w.iter a0 pos) = _ := fun ty => run_next_any w a0 pos ty hp
          obtain ⟨c, hc⟩ : ∃ c, c = byteAt a0 pos := ⟨_, rfl⟩
          by_cases hlo : c < 128
          · have hd := rune_low a0 pos hp (by omega)
            rw [← hc] at hd
            rw [hd] at hnx
            have HC := Aside0.mk hc
            clear hd hc
            go_wp2
            all_goals first
              | (go_roundw
                 case rel =>
                   refine ⟨pos + 1, rfl, by omega, ⟨fun i hi => ?_⟩⟩
                   by_cases e : i = pos
                   · rw [e, ← HC.out]
                     exact okB_of (by first | omega | (have h46 := is46 ‹_›; omega))
                   · exact HA.out i (by omega)
                 case measure => simp; omega)
              | (have hr : r = false := HR.out.symm.trans (nameB_false hp (by rw [← HC.out]; exact okB_not (by first | omega | (have h46 := not46 ‹_›; omega))))
                 go_ret
                 exact ⟨by rw [hr]; rfl, below_iter _ _ _⟩)
          · have hd := rune_high a0 pos hp (by omega)
            have hr : r = false := HR.out.symm.trans (nameB_false hp (by rw [← hc]; exact okB_high hlo))
            obtain ⟨u, hu⟩ : ∃ u, u = (Utf8.decode a0 pos).1 := ⟨_, rfl⟩
            rw [← hu] at hd hnx
            have HR2 := Aside0.mk hr
            have k1 : (97 : Int) ≤ (u : Int) := by omega
            have k2 : ¬ (u : Int) ≤ 122 := by omega
            have k3 : ((u : Int) == 95) = false := by rw [beq_eq_false_iff_ne]; omega
            have k4 : (48 : Int) ≤ (u : Int) := by omega
            have k5 : ¬ (u : Int) ≤ 57 := by omega
            have k6 : ((u : Int) == 46) = false := by rw [beq_eq_false_iff_ne]; omega
            clear hr hu hc hlo
            go_wp2
            all_goals
              go_ret
              exact ⟨by rw [HR2.out]; rfl, below_iter _ _ _⟩
        · have hnx : ∀ ty, (Instr.next (.pointer (some ⟨w.heap.size, 0, none⟩)) true ty).run Try.prog (w.iter a0 pos) = _ := fun ty => run_next_end w a0 pos ty hp
          obtain rfl : pos = a0.size := by omega
          go_wp2
          go_ret
          have hr : r = true := HR.out.symm.trans (nameB_true h1 h2 HA.out)
          exact ⟨by rw [hr]; rfl, below_iter _ _ _⟩
    · have HF := Aside0.mk (show nameB a0 = false by unfold nameB; simp [h2])
      have g1 : ¬ (a0.size : Int) < 1 := by omega
      have g2 : (16 : Int) < (a0.size : Int) := by omega
      go_enter Try.func22, Try.ntmps22
      go_wp2
      go_ret
      have hr : r = false := HR.out.symm.trans HF.out
      exact ⟨by rw [hr]; rfl, Below.refl _ _⟩
  · have HF := Aside0.mk (show nameB a0 = false by unfold nameB; simp [h1])
    have g1 : (a0.size : Int) < 1 := by omega
    go_enter Try.func22, Try.ntmps22
    go_wp2
    go_ret
    have hr : r = false := HR.out.symm.trans HF.out
    exact ⟨by rw [hr]; rfl, Below.refl _ _⟩

end Go.Proofs.Ytaofommgdgmncaa.Pr
