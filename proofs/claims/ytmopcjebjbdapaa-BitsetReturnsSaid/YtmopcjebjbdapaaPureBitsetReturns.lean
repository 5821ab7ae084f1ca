/- List and Of of package bitset are inverse to each other, the elements are ascending, and With and Without undo each other. -/
import Derived.Test.YtmopcjebjbdapaaPr14
import Derived.Test.YtmopcjebjbdapaaLives
import Derived.Test.YtmopcjebjbdapaaMins
namespace Go.Proofs.Ytmopcjebjbdapaa.Pure
set_option linter.unusedVariables false
set_option linter.unusedSimpArgs false
open Go.RowKit Go.Proofs.Ytmopcjebjbdapaa.Pr Go.Proofs.Ytmopcjebjbdapaa.Bits Go.Proofs.Ytmopcjebjbdapaa.Sets Go.Proofs.Ytmopcjebjbdapaa.Mins Go.Proofs.Ytmopcjebjbdapaa.Refs Go.Proofs.YtmopcjebjbdapaaW.PrintWords Go.Proofs.YtmopcjebjbdapaaW.PrintLast Go.Proofs.YtmopcjebjbdapaaW.PrintMore

theorem of_els (a : BitVec 64) : ((els a 64).map Int.ofNat).foldl withB 0#64 = a := by
  have key : ∀ k, k ≤ 64 → ∀ j, j < 64 → (((els a k).map Int.ofNat).foldl withB 0#64).getLsbD j = (a.getLsbD j && decide (j < k)) := by
    intro k
    induction k with
    | zero => intro _ j hj; simp [els]
    | succ k ih =>
      intro hk j hj
      cases hb : a.getLsbD k with
      | false =>
        rw [els_miss hb, ih (by omega) j hj]
        by_cases e : j = k
        · subst e; simp [hb]
        · have : decide (j < k) = decide (j < k + 1) := by rw [Bool.eq_iff_iff]; simp; omega
          rw [this]
      | true =>
        rw [els_hit hb, List.map_append, List.foldl_append]
        simp only [List.map_cons, List.map_nil, List.foldl_cons, List.foldl_nil]
        have e0 : ¬ (Int.ofNat k < 0) := by simp
        unfold withB
        rw [if_neg e0]
        rw [BitVec.getLsbD_or, tp_bit]
        have := ih (by omega) j hj
        unfold withB at this
        rw [this]
        by_cases e : j = k
        · subst e; simp [hb, hj]
        · have e1 : ¬ k = j := fun h => e h.symm
          have e2 : decide (j < k) = decide (j < k + 1) := by rw [Bool.eq_iff_iff]; simp; omega
          rw [e2]; simp [e1]
  apply ext_bit
  intro j hj
  rw [key 64 (Nat.le_refl _) j hj]
  simp [hj]
theorem with_bit (a : BitVec 64) {n : Nat} (hn : n < 64) : withB a (n : Int) = a ||| tp n := by unfold withB; rw [if_neg (by omega)]; rfl
theorem without_bit (a : BitVec 64) {n : Nat} (hn : n < 64) : withoutB a (n : Int) = a &&& ~~~ tp n := by unfold withoutB; rw [if_neg (by omega)]; rfl

theorem ret_j2 (a : BitVec 64) (i : Int) (b : Bool) (hb : b = true ↔ i < 0 ∨ i > 63) : Ev (fun k => petrinetlaw06_BitsetReturns.j2 k (U a) i b) true := by
  refine Ev.succ ?_
  simp only [petrinetlaw06_BitsetReturns.j2, has_U, with_U, without_U, Option.bind_some]
  cases b with
  | true =>
    have hi := hb.1 rfl
    have h1 : (decide (0 ≤ i) && a.getLsbD i.toNat) = false := by
      rcases hi with h | h
      · have : ¬ 0 ≤ i := by omega
        simp [this]
      · rw [BitVec.getLsbD_of_ge _ _ (by omega), Bool.and_false]
    have h2 : withB a i = a := by
      unfold withB
      split
      · rfl
      · rw [tp_big (by omega)]; simp
    have h3 : withoutB a i = a := by
      unfold withoutB
      split
      · rfl
      · rw [tp_big (by omega)]
        apply ext_bit; intro j hj; rw [BitVec.getLsbD_and, BitVec.getLsbD_not, BitVec.getLsbD_zero]; simp [hj]
    simp only [if_true, h1, h2, h3, if_neg (show ¬ (false = true) by decide), beq_self_eq_true]
    exact Ev.now _
  | false =>
    have hi : ¬ (i < 0 ∨ i > 63) := fun h => by have := hb.2 h; cases this
    obtain ⟨n, rfl⟩ := Int.eq_ofNat_of_zero_le (show 0 ≤ i by omega)
    have hn : n < 64 := by omega
    have e1 : (a ||| tp n).getLsbD n = true := by rw [BitVec.getLsbD_or, tp_bit]; simp [hn]
    have e2 : (a &&& ~~~ tp n).getLsbD n = false := by rw [BitVec.getLsbD_and, BitVec.getLsbD_not, tp_bit]; simp [hn]
    have e3 : (a ||| tp n) &&& ~~~ tp n = a &&& ~~~ tp n := by
      apply ext_bit; intro j hj
      rw [BitVec.getLsbD_and, BitVec.getLsbD_and, BitVec.getLsbD_or, BitVec.getLsbD_not, tp_bit]
      by_cases e : n = j <;> simp [e, hj]
    have e4 : (a &&& ~~~ tp n) ||| tp n = a ||| tp n := by
      apply ext_bit; intro j hj
      rw [BitVec.getLsbD_or, BitVec.getLsbD_or, BitVec.getLsbD_and, BitVec.getLsbD_not, tp_bit]
      by_cases e : n = j <;> simp [e, hj]
    simp only [if_neg (show ¬ (false = true) by decide), with_bit _ hn, without_bit _ hn, Int.toNat_natCast, e1, e2, e3, e4, Int.natCast_nonneg, decide_true, Bool.true_and, if_true, beq_self_eq_true]
    exact Ev.now _

theorem ret_l0 (a : BitVec 64) (i : Int) : ∀ (d q : Nat), q ≤ (els a 64).length → (els a 64).length - q = d → Ev (fun k => petrinetlaw06_BitsetReturns.l0 k (U a) i ((els a 64).map Int.ofNat) (q : Int)) true := by
  have hl := els_len a 64
  intro d
  induction d with
  | zero =>
    intro q hq hd
    refine Ev.succ ?_
    simp only [petrinetlaw06_BitsetReturns.l0, List.length_map]
    have c1 : ¬ (q : Int) < ((els a 64).length : Int) := by omega
    simp only [c1, if_false]
    by_cases h : i < 0
    · simp only [h, if_true]
      exact ret_j2 a i true (by simp [h])
    · simp only [h, if_false]
      exact ret_j2 a i _ (by simp [h])
  | succ d ih =>
    intro q hq hd
    have hlt : q < (els a 64).length := by omega
    have hrd : ∀ p, p < (els a 64).length → rd ((els a 64).map Int.ofNat) (p : Int) = (((els a 64)[p]?.getD 0 : Nat) : Int) := by
      intro p hp
      simp [rd, hp]
    have hm := mem_els.1 (show (els a 64)[q] ∈ els a 64 from List.getElem_mem hlt)
    have hg : (els a 64)[q]?.getD 0 = (els a 64)[q] := by simp [hlt]
    have c1 : (q : Int) < ((els a 64).length : Int) := by omega
    have c2 : (0 : Int) ≤ (q : Int) := by omega
    have c3 : ¬ (((els a 64)[q] : Nat) : Int) < 0 := by omega
    have c4 : ¬ (((els a 64)[q] : Nat) : Int) > 63 := by omega
    have c5 : (decide ((0 : Int) ≤ (((els a 64)[q] : Nat) : Int)) && a.getLsbD (((els a 64)[q] : Nat) : Int).toNat) = true := by
      rw [Int.toNat_natCast, hm.2]; simp
    refine Ev.succ ?_
    simp only [petrinetlaw06_BitsetReturns.l0, List.length_map, c1, c2, if_true, hrd q hlt, hg, c3, c4, if_false, has_U, Option.bind_some, c5]
    have hnext := ih (q + 1) (by omega) (by omega)
    by_cases hq0 : (q : Int) > 0
    · have hw : wrap64 ((q : Int) - 1) = ((q - 1 : Nat) : Int) := by unfold wrap64; omega
      have d1 : (0 : Int) ≤ ((q - 1 : Nat) : Int) := by omega
      have d2 : ((q - 1 : Nat) : Int) < ((els a 64).length : Int) := by omega
      have hg2 : (els a 64)[q - 1]?.getD 0 = (els a 64)[q - 1] := by simp [show q - 1 < (els a 64).length by omega]
      have hlt2 := List.pairwise_iff_getElem.1 (els_sorted a 64) (q - 1) q (by omega) hlt (by omega)
      have d3 : ¬ (((els a 64)[q] : Nat) : Int) ≤ (((els a 64)[q - 1]'(by omega) : Nat) : Int) := by omega
      simp only [hq0, if_true, hw, d1, d2, hrd (q - 1) (by omega), hg2, d3, if_false]
      rw [wrap_succ (by omega)]
      exact hnext
    · simp only [hq0, if_false]
      rw [wrap_succ (by omega)]
      exact hnext

theorem BitsetReturns : petrinetlaw06_BitsetReturns.Pure := by
  intro a0 i h0 hi
  obtain ⟨a, rfl⟩ := U_of h0
  apply Ev.rounds
  unfold petrinetlaw06_BitsetReturns.f
  simp only [list_U, len_U, Option.bind_some]
  refine Ev.bind lives ?_
  simp only [if_true]
  refine Ev.bind (of_U _ (by have := els_len a 64; simp; omega)) ?_
  simp only [of_els, if_true, List.length_map, bne_self_eq_false]
  refine Ev.succ ?_
  simp only [petrinetlaw06_BitsetReturns.j0, if_neg (show ¬ (false = true) by decide)]
  exact ret_l0 a i _ 0 (by omega) rfl

end Go.Proofs.Ytmopcjebjbdapaa.Pure
