/- Beginning with the empty set, Next of package bitset visits every subset of a set of at most 8 elements exactly once, in ascending order, and then ends. -/
import Derived.Test.YtmopcjebjbdapaaPr15
import Derived.Test.YtmopcjebjbdapaaLives
import Derived.Test.YtmopcjebjbdapaaMins
namespace Go.Proofs.Ytmopcjebjbdapaa.Pure
set_option linter.unusedVariables false
set_option linter.unusedSimpArgs false
open Go.RowKit Go.Proofs.Ytmopcjebjbdapaa.Pr Go.Proofs.Ytmopcjebjbdapaa.Bits Go.Proofs.Ytmopcjebjbdapaa.Sets Go.Proofs.Ytmopcjebjbdapaa.Mins Go.Proofs.Ytmopcjebjbdapaa.Refs Go.Proofs.YtmopcjebjbdapaaW.PrintWords Go.Proofs.YtmopcjebjbdapaaW.PrintLast Go.Proofs.YtmopcjebjbdapaaW.PrintMore

/-- The number of s among the subsets of o, by the elements below k. -/
def rk (s o : BitVec 64) : Nat → Nat
  | 0 => 0
  | k + 1 => rk s o k + (if o.getLsbD k && s.getLsbD k then 2 ^ (els o k).length else 0)
theorem els_succ_len (o : BitVec 64) (k : Nat) : (els o (k + 1)).length = (els o k).length + (if o.getLsbD k then 1 else 0) := by
  cases h : o.getLsbD k with
  | true => rw [els_hit h]; simp
  | false => rw [els_miss h]; simp
theorem rk_zero (o : BitVec 64) (k : Nat) : rk 0#64 o k = 0 := by
  induction k with
  | zero => rfl
  | succ k ih => simp [rk, ih]
theorem rk_lt (s o : BitVec 64) (k : Nat) : rk s o k < 2 ^ (els o k).length := by
  induction k with
  | zero => simp [rk, els]
  | succ k ih =>
    rw [rk, els_succ_len]
    cases ho : o.getLsbD k with
    | false => simp; omega
    | true =>
      simp only [Bool.true_and, if_true, Nat.pow_succ]
      split <;> omega
theorem rk_full {s o : BitVec 64} {k : Nat} (h : rk s o k + 1 = 2 ^ (els o k).length) : ∀ j, j < k → o.getLsbD j = true → s.getLsbD j = true := by
  induction k with
  | zero => intro j hj; omega
  | succ k ih =>
    intro j hj ho
    rw [rk, els_succ_len] at h
    have hlt := rk_lt s o k
    cases hok : o.getLsbD k with
    | false =>
      rw [hok] at h
      simp at h
      by_cases e : j = k
      · subst e; rw [hok] at ho; cases ho
      · exact ih h j (by omega) ho
    | true =>
      rw [hok] at h
      simp only [Bool.true_and, if_true, Nat.pow_succ] at h
      cases hs : s.getLsbD k with
      | false => rw [hs] at h; simp at h; omega
      | true =>
        rw [hs] at h
        simp only [if_true] at h
        by_cases e : j = k
        · subst e; exact hs
        · exact ih (by omega) j (by omega) ho
theorem rk_low {s o : BitVec 64} {m : Nat} (h : ∀ j, j < m → o.getLsbD j = true → s.getLsbD j = true) : ∀ k, k ≤ m → rk s o k + 1 = 2 ^ (els o k).length := by
  intro k
  induction k with
  | zero => intro _; simp [rk, els]
  | succ k ih =>
    intro hk
    have h2 := ih (by omega)
    rw [rk, els_succ_len]
    cases ho : o.getLsbD k with
    | false => simpa using h2
    | true =>
      rw [h k (by omega) ho]
      simp only [Bool.and_self, if_true, Nat.pow_succ]
      omega
theorem rk_none {v o : BitVec 64} {m : Nat} (h : ∀ j, j < m → v.getLsbD j = false) : ∀ k, k ≤ m → rk v o k = 0 := by
  intro k
  induction k with
  | zero => intro _; rfl
  | succ k ih =>
    intro hk
    rw [rk, ih (by omega), h k (by omega)]
    simp
theorem rk_next {s o v : BitVec 64} {m : Nat} (hm : Lacks s o m) (hv : ∀ j, j < 64 → v.getLsbD j = (if j < m then false else if j = m then true else s.getLsbD j)) : ∀ k, m < k → k ≤ 64 → rk v o k = rk s o k + 1 := by
  obtain ⟨h1, h2, h3⟩ := hm
  intro k
  induction k with
  | zero => intro h; omega
  | succ k ih =>
    intro hk hk2
    by_cases e : k = m
    · subst e
      have a1 := rk_low h3 k (Nat.le_refl _)
      have a2 := rk_none (v := v) (o := o) (m := k) (fun j hj => by rw [hv j (by omega), if_pos hj]) k (Nat.le_refl _)
      have hvk : v.getLsbD k = true := by rw [hv k (by omega), if_neg (by omega), if_pos rfl]
      rw [rk, rk, a2, h1, h2, hvk]
      simp
      omega
    · have hvk : v.getLsbD k = s.getLsbD k := by rw [hv k (by omega), if_neg (by omega), if_neg e]
      rw [rk, rk, ih (by omega) (by omega), hvk]
      omega
theorem lt_bit {x y m : Nat} (hx : x.testBit m = false) (hy : y.testBit m = true) (h : ∀ j, m < j → x.testBit j = y.testBit j) : x < y := by
  have e : x / 2 ^ (m + 1) = y / 2 ^ (m + 1) := by
    rw [← Nat.shiftRight_eq_div_pow, ← Nat.shiftRight_eq_div_pow]
    apply Nat.eq_of_testBit_eq
    intro i
    rw [Nat.testBit_shiftRight, Nat.testBit_shiftRight]
    exact h _ (by omega)
  rw [Nat.testBit_eq_decide_div_mod_eq] at hx hy
  simp at hx hy
  have a1 := Nat.mod_pow_succ (x := x) (b := 2) (k := m)
  have a2 := Nat.mod_pow_succ (x := y) (b := 2) (k := m)
  have b1 := Nat.div_add_mod x (2 ^ (m + 1))
  have b2 := Nat.div_add_mod y (2 ^ (m + 1))
  have c1 : x % 2 ^ m < 2 ^ m := Nat.mod_lt _ (Nat.two_pow_pos m)
  rw [hx] at a1
  rw [hy] at a2
  rw [e] at b1
  omega
theorem next_up {s o : BitVec 64} (h : subS s o = true) (hne : s ≠ o) : nextB s o = ((s - o) &&& o, true) ∧ rk ((s - o) &&& o) o 64 = rk s o 64 + 1 ∧ subS ((s - o) &&& o) o = true ∧ s.toNat < ((s - o) &&& o).toNat := by
  obtain ⟨m, hm⟩ := lacks_of h hne
  have hb := next_bit h hm
  have hlt : m < 64 := BitVec.lt_of_getLsbD hm.1
  refine ⟨?_, rk_next hm hb 64 hlt (Nat.le_refl _), subS_iff.2 (fun j hj => by rw [BitVec.getLsbD_and] at hj; simp at hj; exact hj.2), ?_⟩
  · unfold nextB
    have h' : s &&& ~~~o = 0#64 := by unfold subS at h; simpa using h
    rw [if_pos h', if_neg hne]
  · refine lt_bit (m := m) hm.2.1 ?_ ?_
    · have := hb m hlt
      rw [if_neg (by omega), if_pos rfl] at this
      exact this
    · intro j hj
      by_cases h64 : j < 64
      · have := hb j h64
        rw [if_neg (by omega), if_neg (by omega)] at this
        exact this.symm
      · have e1 : s.getLsbD j = false := BitVec.getLsbD_of_ge _ _ (by omega)
        have e2 : ((s - o) &&& o).getLsbD j = false := BitVec.getLsbD_of_ge _ _ (by omega)
        exact e1.trans e2.symm
theorem rk_eq {s o : BitVec 64} (h : subS s o = true) (hr : rk s o 64 + 1 = 2 ^ (els o 64).length) : s = o := by
  have hf := rk_full hr
  apply ext_bit
  intro j hj
  cases ho : o.getLsbD j with
  | true => exact hf j hj ho
  | false =>
    cases hs : s.getLsbD j with
    | false => rfl
    | true => rw [subS_iff.1 h j hs] at ho; cases ho

theorem vis_l1 (o : BitVec 64) (hk : (els o 64).length ≤ 8) : ∀ (d i : Nat) (s : BitVec 64), i ≤ 2 ^ (els o 64).length → 1 ≤ i → 2 ^ (els o 64).length - i = d → subS s o = true → rk s o 64 + 1 = i →
    Ev (fun k => petrinetlaw06_BitsetVisits.l1 k (U o) ((2 ^ (els o 64).length : Nat) : Int) (U s) (i : Int)) true := by
  have hp : 2 ^ (els o 64).length ≤ 2 ^ 8 := Nat.pow_le_pow_right (by decide) hk
  intro d
  induction d with
  | zero =>
    intro i s hi h1 hd hs hr
    have e : i = 2 ^ (els o 64).length := by omega
    have hso : s = o := rk_eq hs (by omega)
    refine Ev.succ ?_
    simp only [petrinetlaw06_BitsetVisits.l1]
    have c1 : ¬ (i : Int) < ((2 ^ (els o 64).length : Nat) : Int) := by omega
    have h' : o &&& ~~~o = 0#64 := by have := subS_refl o; unfold subS at this; simp
    have hn : nextB o o = (0#64, false) := by unfold nextB; rw [if_pos h', if_pos rfl]
    simp only [c1, if_false, next_U, Option.bind_some, hso, if_true, hn]
    exact Ev.same (funext fun k => by rfl)
  | succ d ih =>
    intro i s hi h1 hd hs hr
    refine Ev.succ ?_
    simp only [petrinetlaw06_BitsetVisits.l1]
    have c1 : (i : Int) < ((2 ^ (els o 64).length : Nat) : Int) := by omega
    have hne : s ≠ o := by
      intro e
      subst e
      have := rk_low (s := s) (o := s) (m := 64) (fun _ _ h => h) 64 (Nat.le_refl _)
      omega
    obtain ⟨n1, n2, n3, n4⟩ := next_up hs hne
    have c2 : ¬ U ((s - o) &&& o) ≤ U s := by unfold U; omega
    have c3 : ((s - o) &&& o) &&& o = (s - o) &&& o := by
      apply ext_bit; intro j hj
      rw [BitVec.getLsbD_and]
      cases hb : ((s - o) &&& o).getLsbD j with
      | false => rfl
      | true => rw [subS_iff.1 n3 j hb]; rfl
    simp only [c1, if_true, next_U, n1, Option.bind_some, c2, if_false, bits_and, c3]
    rw [wrap_succ (by omega)]
    exact ih (i + 1) _ (by omega) (by omega) (by omega) n3 (by omega)
theorem vis_l0 (o : BitVec 64) (hk : (els o 64).length ≤ 8) : ∀ (d i : Nat), i ≤ (els o 64).length → (els o 64).length - i = d →
    Ev (fun k => petrinetlaw06_BitsetVisits.l0 k (U o) ((els o 64).length : Int) ((2 ^ i : Nat) : Int) (i : Int)) true := by
  intro d
  induction d with
  | zero =>
    intro i hi hd
    obtain rfl : i = (els o 64).length := by omega
    refine Ev.succ ?_
    simp only [petrinetlaw06_BitsetVisits.l0, Int.lt_irrefl, if_false]
    have hz := vis_l1 o hk _ 1 0#64 (Nat.one_le_two_pow) (Nat.le_refl _) rfl (subS_iff.2 (fun j hj => by simp at hj)) (by rw [rk_zero])
    exact hz
  | succ d ih =>
    intro i hi hd
    refine Ev.succ ?_
    simp only [petrinetlaw06_BitsetVisits.l0]
    have c1 : (i : Int) < ((els o 64).length : Int) := by omega
    have hp : 2 ^ i ≤ 2 ^ 8 := Nat.pow_le_pow_right (by decide) (by omega)
    have hw : wrap64 (((2 ^ i : Nat) : Int) * 2) = ((2 ^ (i + 1) : Nat) : Int) := by
      rw [Nat.pow_succ]; unfold wrap64; omega
    simp only [c1, if_true]
    rw [hw, wrap_succ (by omega)]
    exact ih (i + 1) (by omega) (by omega)

theorem BitsetVisits : petrinetlaw06_BitsetVisits.Pure := by
  intro a0 h0
  obtain ⟨o, rfl⟩ := U_of h0
  apply Ev.rounds
  unfold petrinetlaw06_BitsetVisits.f
  simp only [len_U, Option.bind_some]
  refine Ev.bind lives ?_
  have c1 : ¬ ((els o 64).length : Int) < 0 := by omega
  simp only [if_true, c1, if_false]
  refine Ev.succ ?_
  simp only [petrinetlaw06_BitsetVisits.j0]
  by_cases h : ((els o 64).length : Int) > 8
  · simp only [h, decide_true, if_true]
    exact Ev.now _
  · simp only [h, decide_false, if_neg (show ¬ (false = true) by decide)]
    exact vis_l0 o (by omega) _ 0 (by omega) rfl

end Go.Proofs.Ytmopcjebjbdapaa.Pure
