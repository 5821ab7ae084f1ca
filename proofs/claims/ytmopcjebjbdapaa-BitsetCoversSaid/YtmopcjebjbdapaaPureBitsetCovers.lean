/- Every set of a list of at most 40 sets has a subset in Minimal, every set of Minimal is in the list, and no set of Minimal contains another one. -/
import Derived.Test.YtmopcjebjbdapaaPr16
import Derived.Test.YtmopcjebjbdapaaLives
import Derived.Test.YtmopcjebjbdapaaMins
namespace Go.Proofs.Ytmopcjebjbdapaa.Pure
open Go.RowKit Go.Proofs.Ytmopcjebjbdapaa.Pr Go.Proofs.Ytmopcjebjbdapaa.Bits Go.Proofs.Ytmopcjebjbdapaa.Sets Go.Proofs.Ytmopcjebjbdapaa.Mins Go.Proofs.Ytmopcjebjbdapaa.Refs Go.Proofs.YtmopcjebjbdapaaW.PrintWords Go.Proofs.YtmopcjebjbdapaaW.PrintLast Go.Proofs.YtmopcjebjbdapaaW.PrintMore
set_option linter.unusedVariables false
set_option linter.unusedSimpArgs false

theorem map_U {l : List Int} (h : ∀ x ∈ l, (Lit.int .u64 x).wf = true) : ∃ v : List (BitVec 64), l = v.map U := by
  induction l with
  | nil => exact ⟨[], rfl⟩
  | cons x l ih =>
    obtain ⟨v, rfl⟩ := ih (fun y hy => h y (List.mem_cons_of_mem _ hy))
    obtain ⟨a, rfl⟩ := U_of (h x List.mem_cons_self)
    exact ⟨a :: v, rfl⟩
theorem rdU (v : List (BitVec 64)) {i : Nat} (h : i < v.length) : rd (v.map U) (i : Int) = U v[i] := by simp [rd, h]

section
variable (l : List (BitVec 64)) (hl : l.length ≤ 40)
include hl
theorem cov_l4 (j : Nat) (hj : j < (minV l).length) (rest : Ev (fun k => petrinetlaw06_BitsetCovers.l2 k (l.map U) ((minV l).map U) ((j + 1 : Nat) : Int)) true) : ∀ (d i : Nat), i ≤ (minV l).length → (minV l).length - i = d →
    Ev (fun k => petrinetlaw06_BitsetCovers.l4 k (l.map U) ((minV l).map U) (j : Int) (i : Int)) true := by
  have hm := minV_len l
  intro d
  induction d with
  | zero =>
    intro i hi hd
    refine Ev.succ ?_
    simp only [petrinetlaw06_BitsetCovers.l4, List.length_map]
    have c1 : ¬ (i : Int) < ((minV l).length : Int) := by omega
    simp only [c1, if_false]
    rw [wrap_succ (by omega)]
    exact rest
  | succ d ih =>
    intro i hi hd
    refine Ev.succ ?_
    simp only [petrinetlaw06_BitsetCovers.l4, List.length_map]
    have c1 : (i : Int) < ((minV l).length : Int) := by omega
    have c2 : (0 : Int) ≤ (i : Int) := by omega
    have c3 : (j : Int) < ((minV l).length : Int) := by omega
    have c4 : (0 : Int) ≤ (j : Int) := by omega
    have h2 := ih (i + 1) (by omega) (by omega)
    simp only [c1, c2, c3, c4, if_true, rdU _ (show i < (minV l).length by omega), rdU _ hj, bits_and, wrap_succ (show i < 9223372036854775807 by omega)]
    by_cases e : (i : Int) = (j : Int)
    · simp only [e, if_true]
      have e' : i = j := by omega
      subst e'
      exact h2
    · simp only [e, if_false]
      have hne : ¬ U ((minV l)[i]'(by omega) &&& (minV l)[j]) = U ((minV l)[i]'(by omega)) := by
        intro h9
        have h8 := U_inj.1 h9
        have hs : subS ((minV l)[i]'(by omega)) (minV l)[j] = true := subS_iff.2 (fun q hq => by
          rw [← h8, BitVec.getLsbD_and] at hq
          simp at hq
          exact hq.2)
        have h7 := minV_anti (List.getElem_mem (by omega)) (List.getElem_mem hj) hs
        have hnd := List.pairwise_iff_getElem.1 (sort_nodup (sort_minV l))
        rcases Nat.lt_trichotomy i j with h6 | h6 | h6
        · exact hnd i j (by omega) hj h6 h7
        · omega
        · exact hnd j i hj (by omega) h6 h7.symm
      simp only [hne, if_false]
      exact h2
theorem cov_l3 (j : Nat) (hj : j < (minV l).length) (rest : Ev (fun k => petrinetlaw06_BitsetCovers.l2 k (l.map U) ((minV l).map U) ((j + 1 : Nat) : Int)) true) : ∀ (d i : Nat) (b : Bool), i ≤ l.length → l.length - i = d → (b = true ∨ (minV l)[j] ∈ l.drop i) →
    Ev (fun k => petrinetlaw06_BitsetCovers.l3 k (l.map U) ((minV l).map U) (j : Int) b (i : Int)) true := by
  have hm := minV_len l
  intro d
  induction d with
  | zero =>
    intro i b hi hd hb
    refine Ev.succ ?_
    simp only [petrinetlaw06_BitsetCovers.l3, List.length_map]
    have c1 : ¬ (i : Int) < (l.length : Int) := by omega
    have hb' : b = true := by
      rcases hb with hb | hb
      · exact hb
      · rw [List.drop_of_length_le (by omega)] at hb; cases hb
    simp only [c1, if_false, hb', if_true]
    exact cov_l4 l hl j hj rest _ 0 (by omega) rfl
  | succ d ih =>
    intro i b hi hd hb
    refine Ev.succ ?_
    simp only [petrinetlaw06_BitsetCovers.l3, List.length_map]
    have c1 : (i : Int) < (l.length : Int) := by omega
    have c2 : (0 : Int) ≤ (i : Int) := by omega
    have c3 : (j : Int) < ((minV l).length : Int) := by omega
    have c4 : (0 : Int) ≤ (j : Int) := by omega
    simp only [c1, c2, c3, c4, if_true, rdU _ (show i < l.length by omega), rdU _ hj, wrap_succ (show i < 9223372036854775807 by omega)]
    cases b with
    | true =>
      simp only [if_true]
      exact ih (i + 1) true (by omega) (by omega) (.inl rfl)
    | false =>
      simp only [if_neg (show ¬ (false = true) by decide)]
      refine ih (i + 1) _ (by omega) (by omega) ?_
      rcases hb with hb | hb
      · cases hb
      · rw [List.drop_eq_getElem_cons (by omega : i < l.length)] at hb
        rcases List.mem_cons.1 hb with hb | hb
        · left; rw [hb]; simp
        · exact .inr hb
theorem cov_l2 : ∀ (d j : Nat), j ≤ (minV l).length → (minV l).length - j = d → Ev (fun k => petrinetlaw06_BitsetCovers.l2 k (l.map U) ((minV l).map U) (j : Int)) true := by
  intro d
  induction d with
  | zero =>
    intro j hj hd
    refine Ev.succ ?_
    simp only [petrinetlaw06_BitsetCovers.l2, List.length_map]
    have c1 : ¬ (j : Int) < ((minV l).length : Int) := by omega
    simp only [c1, if_false]
    exact Ev.now _
  | succ d ih =>
    intro j hj hd
    refine Ev.succ ?_
    simp only [petrinetlaw06_BitsetCovers.l2, List.length_map]
    have c1 : (j : Int) < ((minV l).length : Int) := by omega
    simp only [c1, if_true]
    exact cov_l3 l hl j (by omega) (ih (j + 1) (by omega) (by omega)) _ 0 false (by omega) rfl (.inr (by rw [List.drop_zero]; exact (mem_minV.1 (List.getElem_mem (by omega))).1))
theorem cov_l1 (i : Nat) (hi : i < l.length) (rest : Ev (fun k => petrinetlaw06_BitsetCovers.l0 k (l.map U) ((minV l).map U) ((i + 1 : Nat) : Int)) true) : ∀ (d j : Nat) (b : Bool), j ≤ (minV l).length → (minV l).length - j = d → (b = true ∨ ∃ m ∈ (minV l).drop j, subS m l[i] = true) →
    Ev (fun k => petrinetlaw06_BitsetCovers.l1 k (l.map U) ((minV l).map U) (i : Int) b (j : Int)) true := by
  have hm := minV_len l
  intro d
  induction d with
  | zero =>
    intro j b hj hd hb
    refine Ev.succ ?_
    simp only [petrinetlaw06_BitsetCovers.l1, List.length_map]
    have c1 : ¬ (j : Int) < ((minV l).length : Int) := by omega
    have hb' : b = true := by
      rcases hb with hb | ⟨m, hb, _⟩
      · exact hb
      · rw [List.drop_of_length_le (by omega)] at hb; cases hb
    simp only [c1, if_false, hb', if_true]
    rw [wrap_succ (by omega)]
    exact rest
  | succ d ih =>
    intro j b hj hd hb
    refine Ev.succ ?_
    simp only [petrinetlaw06_BitsetCovers.l1, List.length_map]
    have c1 : (i : Int) < (l.length : Int) := by omega
    have c2 : (0 : Int) ≤ (i : Int) := by omega
    have c3 : (j : Int) < ((minV l).length : Int) := by omega
    have c4 : (0 : Int) ≤ (j : Int) := by omega
    simp only [c1, c2, c3, c4, if_true, rdU _ hi, rdU _ (show j < (minV l).length by omega), subset_U, Option.bind_some, wrap_succ (show j < 9223372036854775807 by omega)]
    cases b with
    | true =>
      simp only [if_true]
      exact ih (j + 1) true (by omega) (by omega) (.inl rfl)
    | false =>
      simp only [if_neg (show ¬ (false = true) by decide)]
      refine ih (j + 1) _ (by omega) (by omega) ?_
      rcases hb with hb | ⟨m, hb, hs⟩
      · cases hb
      · rw [List.drop_eq_getElem_cons (by omega : j < (minV l).length)] at hb
        rcases List.mem_cons.1 hb with rfl | hb
        · exact .inl hs
        · exact .inr ⟨m, hb, hs⟩
theorem cov_l0 : ∀ (d i : Nat), i ≤ l.length → l.length - i = d → Ev (fun k => petrinetlaw06_BitsetCovers.l0 k (l.map U) ((minV l).map U) (i : Int)) true := by
  intro d
  induction d with
  | zero =>
    intro i hi hd
    refine Ev.succ ?_
    simp only [petrinetlaw06_BitsetCovers.l0, List.length_map]
    have c1 : ¬ (i : Int) < (l.length : Int) := by omega
    simp only [c1, if_false]
    exact cov_l2 l hl _ 0 (by omega) rfl
  | succ d ih =>
    intro i hi hd
    refine Ev.succ ?_
    simp only [petrinetlaw06_BitsetCovers.l0, List.length_map]
    have c1 : (i : Int) < (l.length : Int) := by omega
    simp only [c1, if_true]
    exact cov_l1 l hl i (by omega) (ih (i + 1) (by omega) (by omega)) _ 0 false (by omega) rfl (.inr (by rw [List.drop_zero]; exact minV_covers _ _ (List.getElem_mem (by omega)) (Nat.le_refl _)))
end

theorem BitsetCovers : petrinetlaw06_BitsetCovers.Pure := by
  intro l0 hl1 hl2 hw
  obtain ⟨l, rfl⟩ := map_U hw
  apply Ev.rounds
  unfold petrinetlaw06_BitsetCovers.f
  refine Ev.bind lives ?_
  simp only [if_true, List.length_map]
  by_cases hl : (l.length : Int) > 40
  · simp only [hl, if_true]
    exact Ev.now _
  · simp only [hl, if_false, minimal_U l (by omega), Option.bind_some]
    exact cov_l0 l (by omega) _ 0 (by omega) rfl

end Go.Proofs.Ytmopcjebjbdapaa.Pure
