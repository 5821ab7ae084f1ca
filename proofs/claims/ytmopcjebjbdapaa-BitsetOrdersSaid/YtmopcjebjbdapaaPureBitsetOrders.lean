/- Subset, Len and Least of package bitset agree with the operations on the bits of the numbers. -/
import Derived.Test.YtmopcjebjbdapaaPr17
import Derived.Test.YtmopcjebjbdapaaLives
import Derived.Test.YtmopcjebjbdapaaMins
namespace Go.Proofs.Ytmopcjebjbdapaa.Pure
set_option linter.unusedVariables false
set_option linter.unusedSimpArgs false
open Go.RowKit Go.Proofs.Ytmopcjebjbdapaa.Pr Go.Proofs.Ytmopcjebjbdapaa.Bits Go.Proofs.Ytmopcjebjbdapaa.Sets Go.Proofs.Ytmopcjebjbdapaa.Mins Go.Proofs.Ytmopcjebjbdapaa.Refs Go.Proofs.YtmopcjebjbdapaaW.PrintWords Go.Proofs.YtmopcjebjbdapaaW.PrintLast Go.Proofs.YtmopcjebjbdapaaW.PrintMore

theorem els_incl (a b : BitVec 64) (k : Nat) : (els (a ||| b) k).length + (els (a &&& b) k).length = (els a k).length + (els b k).length := by
  induction k with
  | zero => simp [els]
  | succ k ih =>
    have h : ∀ v : BitVec 64, (els v (k + 1)).length = (els v k).length + (if v.getLsbD k then 1 else 0) := by
      intro v
      cases h : v.getLsbD k with
      | true => rw [els_hit h]; simp
      | false => rw [els_miss h]; simp
    rw [h, h, h, h, BitVec.getLsbD_or, BitVec.getLsbD_and]
    cases a.getLsbD k <;> cases b.getLsbD k <;> simp <;> omega
theorem least_spec {a : BitVec 64} (h : a ≠ 0#64) : ∃ n, Go.Proofs.Ytmopcjebjbdapaa.Pr.leastOf (els a 64) = ((n : Nat) : Int) ∧ n < 64 ∧ a.getLsbD n = true ∧ ∀ j, j < n → a.getLsbD j = false := by
  cases hl : els a 64 with
  | nil => exact absurd (els_eq_nil.1 hl) h
  | cons n t =>
    have hm := mem_els.1 (show n ∈ els a 64 by rw [hl]; exact List.mem_cons_self)
    refine ⟨n, rfl, hm.1, hm.2, fun j hj => ?_⟩
    cases hb : a.getLsbD j with
    | false => rfl
    | true =>
      have h2 : j ∈ els a 64 := mem_els.2 ⟨BitVec.lt_of_getLsbD hb, hb⟩
      have hs := els_sorted a 64
      rw [hl] at h2 hs
      rcases List.mem_cons.1 h2 with h3 | h3
      · omega
      · have := (List.pairwise_cons.1 hs).1 j h3
        omega
theorem least_zero : Go.Proofs.Ytmopcjebjbdapaa.Pr.leastOf (els 0#64 64) = -1 := by rw [els_zero]; rfl

theorem BitsetOrders : petrinetlaw06_BitsetOrders.Pure := by
  intro a0 b0 h0 h1
  obtain ⟨a, rfl⟩ := U_of h0
  obtain ⟨b, rfl⟩ := U_of h1
  apply Ev.rounds
  unfold petrinetlaw06_BitsetOrders.f
  refine Ev.bind lives ?_
  have e1 : subS a b = (U (a &&& b) == U a) := by
    rw [Bool.eq_iff_iff, subS_iff, beq_iff_eq, U_inj]
    constructor
    · intro h; apply ext_bit; intro i hi
      rw [BitVec.getLsbD_and]
      cases ha : a.getLsbD i with
      | false => rfl
      | true => rw [h i ha]; rfl
    · intro h i hi
      rw [← h, BitVec.getLsbD_and] at hi
      simp at hi
      exact hi.2
  have e2 : subS a (a ||| b) = true := subS_iff.2 (fun i hi => by rw [BitVec.getLsbD_or, hi]; rfl)
  have e3 : subS (a &&& b) b = true := subS_iff.2 (fun i hi => by rw [BitVec.getLsbD_and] at hi; simp at hi; exact hi.2)
  simp only [if_true, subset_U, bits_and, bits_or, Option.bind_some, e1, bne_self_eq_false, if_neg (show ¬ (false = true) by decide), e2, e3, Bool.not_true]
  have hlen := els_incl a b 64
  obtain ⟨n1, N1⟩ : ∃ n : Int, n = ((els (a ||| b) 64).length : Int) := ⟨_, rfl⟩
  obtain ⟨n2, N2⟩ : ∃ n : Int, n = ((els (a &&& b) 64).length : Int) := ⟨_, rfl⟩
  obtain ⟨n3, N3⟩ : ∃ n : Int, n = ((els a 64).length : Int) := ⟨_, rfl⟩
  obtain ⟨n4, N4⟩ : ∃ n : Int, n = ((els b 64).length : Int) := ⟨_, rfl⟩
  have f1 : bitset_Len.f (U (a ||| b)) = some n1 := by rw [N1]; exact len_U _
  have f2 : bitset_Len.f (U (a &&& b)) = some n2 := by rw [N2]; exact len_U _
  have f3 : bitset_Len.f (U a) = some n3 := by rw [N3]; exact len_U _
  have f4 : bitset_Len.f (U b) = some n4 := by rw [N4]; exact len_U _
  have hsum : n1 + n2 = n3 + n4 := by omega
  clear N1 N2 N3 N4 hlen
  refine Ev.succ ?_
  simp only [petrinetlaw06_BitsetOrders.j0, if_neg (show ¬ (false = true) by decide), f1, f2, f3, f4, hsum, if_true, least_U, has_U, Option.bind_some]
  by_cases ha : a = 0#64
  · subst ha
    have z : U 0#64 = 0 := rfl
    have e4 : (0#64 ||| b) = b := by simp
    simp only [z, if_true, least_zero, e4, beq_self_eq_true]
    exact Ev.now _
  · have ha' : ¬ U a = 0 := fun h => ha (U_eq_zero.1 h)
    simp only [ha', if_false]
    by_cases hb : b = 0#64
    · subst hb
      have z : U 0#64 = 0 := rfl
      have e4 : (a ||| 0#64) = a := by simp
      simp only [z, if_true, least_zero, e4, beq_self_eq_true]
      exact Ev.now _
    · have hb' : ¬ U b = 0 := fun h => hb (U_eq_zero.1 h)
      simp only [hb', if_false]
      obtain ⟨n, n1, n2, n3, n4⟩ := least_spec ha
      obtain ⟨m, m1, m2, m3, m4⟩ := least_spec hb
      have hu : a ||| b ≠ 0#64 := by
        intro h
        have : (a ||| b).getLsbD n = true := by rw [BitVec.getLsbD_or, n3]; rfl
        rw [h] at this; simp at this
      obtain ⟨q, q1, q2, q3, q4⟩ := least_spec hu
      have hq : q = min n m := by
        have c1 : ¬ n < q := fun h => by have := q4 n h; rw [BitVec.getLsbD_or, n3] at this; cases this
        have c2 : ¬ m < q := fun h => by have := q4 m h; rw [BitVec.getLsbD_or, m3] at this; simp at this
        rw [BitVec.getLsbD_or] at q3
        have c3 : ¬ (q < n ∧ q < m) := fun h => by rw [n4 q h.1, m4 q h.2] at q3; cases q3
        omega
      have hmn : ((q : Nat) : Int) = mn (n : Int) (m : Int) := by unfold mn; split <;> omega
      simp only [n1, m1, q1, hmn, if_true, Int.toNat_natCast, n3, m3, Int.natCast_nonneg, decide_true, Bool.true_and]
      exact Ev.now _

end Go.Proofs.Ytmopcjebjbdapaa.Pure
