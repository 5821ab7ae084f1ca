/- What the functions of the reference of bitset answer, told of vectors of bits. -/
import Derived.Test.YtmopcjebjbdapaaPr8
import Derived.Test.YtmopcjebjbdapaaPr9
import Derived.Test.YtmopcjebjbdapaaPr10
import Derived.Test.YtmopcjebjbdapaaSets
namespace Go.Proofs.Ytmopcjebjbdapaa.Refs
open Go.RowKit Go.Proofs.Ytmopcjebjbdapaa.Pr Go.Proofs.Ytmopcjebjbdapaa.Bits Go.Proofs.Ytmopcjebjbdapaa.Sets Go.Proofs.YtmopcjebjbdapaaW.PrintWords Go.Proofs.YtmopcjebjbdapaaW.PrintLast Go.Proofs.YtmopcjebjbdapaaW.PrintMore
set_option linter.unusedVariables false
set_option linter.unusedSimpArgs false

theorem wrap_succ {i : Nat} (h : i < 9223372036854775807) : wrap64 ((i : Int) + 1) = ((i + 1 : Nat) : Int) := by unfold wrap64; omega
theorem tp_double {i : Nat} (h : i + 1 < 64) : IntKind.u64.wrap (U (tp i) * 2) = U (tp (i + 1)) := by
  rw [U_tp (by omega), U_tp h, IntKind.wrap_u64, Int.pow_succ]
  have h1 : (2 : Int) ^ (i + 1) < 2 ^ 64 := by
    have : 2 ^ (i + 1) < 2 ^ 64 := Nat.pow_lt_pow_right (by decide) h
    have := (Int.ofNat_lt).2 this
    simpa using this
  have h0 : (0 : Int) < 2 ^ i := Int.pow_pos (by decide)
  rw [Int.pow_succ] at h1
  omega
theorem bit_l0 (n : Nat) (hn : n < 64) : ∀ (d i : Nat), i ≤ n → n - i = d → Ev (fun k => petrinetref06_bit.l0 k (n : Int) (U (tp i)) (i : Int)) (U (tp n)) := by
  intro d
  induction d with
  | zero =>
    intro i hi hd
    obtain rfl : i = n := by omega
    refine Ev.succ ?_
    simp only [petrinetref06_bit.l0]
    exact Ev.same (funext fun k => by rw [if_neg (by omega)])
  | succ d ih =>
    intro i hi hd
    refine Ev.succ ?_
    simp only [petrinetref06_bit.l0]
    refine Ev.congr (fun k => ?_) (ih (i + 1) (by omega) (by omega))
    rw [if_pos (by omega), tp_double (by omega), wrap_succ (by omega)]
theorem tp_zero : U (tp 0) = 1 := by rw [U_tp (by decide)]; rfl
theorem rbit {n : Nat} (hn : n < 64) : Ev (fun k => petrinetref06_bit.f k (n : Int)) (U (tp n)) := by
  have h := bit_l0 n hn _ 0 (by omega) rfl
  rw [tp_zero] at h
  exact h
theorem rhas (a : BitVec 64) (i : Int) : Ev (fun k => petrinetref06_Has.f k (U a) i) (decide (0 ≤ i) && a.getLsbD i.toNat) := by
  unfold petrinetref06_Has.f
  by_cases h0 : 0 ≤ i
  · by_cases h1 : i < 64
    · obtain ⟨n, rfl⟩ := Int.eq_ofNat_of_zero_le h0
      simp only [ge_iff_le, h0, h1, if_true]
      refine Ev.bind (rbit (by omega)) ?_
      have hne : ¬ U (tp n) = 0 := by
        rw [U_tp (by omega)]
        exact Int.ne_of_gt (Int.pow_pos (by decide))
      refine Ev.same (funext fun k => ?_)
      rw [if_neg hne]
      congr 1
      have e1 : Int.tdiv (U a) (U (tp n)) = U a / 2 ^ n := by
        rw [Int.tdiv_eq_ediv_of_nonneg (U_nonneg _), U_tp (by omega)]
      have e2 : IntKind.u64.wrap (U a / 2 ^ n) = U a / 2 ^ n := by
        rw [div_U, IntKind.wrap_u64]
        have := U_nonneg (a >>> n); have := U_lt (a >>> n); omega
      rw [e1, e2, Int.tmod_eq_emod_of_nonneg (by rw [div_U]; exact U_nonneg _), div_bit]
      cases hb : a.getLsbD n <;> simp [hb]
    · simp only [ge_iff_le, h0, h1, if_true, if_false]
      rw [BitVec.getLsbD_of_ge _ _ (by omega), Bool.and_false]
      exact Ev.now _
  · simp only [ge_iff_le, h0, if_false]
    exact Ev.same (funext fun k => by simp [h0])
theorem rwith (a : BitVec 64) (i : Int) : Ev (fun k => petrinetref06_With.f k (U a) i) (U (withB a i)) := by
  unfold petrinetref06_With.f withB
  by_cases h0 : i < 0
  · simp only [h0, if_true]; exact Ev.now _
  · obtain ⟨n, rfl⟩ := Int.eq_ofNat_of_zero_le (show 0 ≤ i by omega)
    by_cases h1 : (n : Int) > 63
    · simp only [h0, h1, if_true, if_false]
      rw [tp_big (by omega)]
      exact Ev.same (funext fun k => by simp)
    · simp only [h0, h1, if_false]
      refine Ev.bind (rhas a n) ?_
      cases hb : a.getLsbD n with
      | true =>
        refine Ev.same (funext fun k => ?_)
        simp [hb]
        congr 1
        apply ext_bit
        intro j hj
        rw [BitVec.getLsbD_or, tp_bit]
        by_cases e : n = j
        · subst e; simp [hb]
        · simp [e]
      | false =>
        simp [hb]
        refine Ev.bind (rbit (by omega)) ?_
        refine Ev.same (funext fun k => ?_)
        rw [wrap_add, add_tp hb]
theorem rwithout (a : BitVec 64) (i : Int) : Ev (fun k => petrinetref06_Without.f k (U a) i) (U (withoutB a i)) := by
  unfold petrinetref06_Without.f withoutB
  refine Ev.bind (rhas a i) ?_
  by_cases h0 : i < 0
  · rw [if_pos h0]
    exact Ev.same (funext fun k => by have : ¬ 0 ≤ i := by omega
                                      simp [this])
  · obtain ⟨n, rfl⟩ := Int.eq_ofNat_of_zero_le (show 0 ≤ i by omega)
    rw [if_neg h0]
    cases hb : a.getLsbD n with
    | true =>
      have hn : n < 64 := BitVec.lt_of_getLsbD hb
      simp [hb]
      refine Ev.bind (rbit hn) ?_
      exact Ev.same (funext fun k => by rw [wrap_sub, sub_tp hb])
    | false =>
      refine Ev.same (funext fun k => ?_)
      simp [hb]
      congr 1
      apply ext_bit
      intro j hj
      rw [BitVec.getLsbD_and, BitVec.getLsbD_not, tp_bit]
      by_cases e : n = j
      · subst e; simp [hb]
      · simp [e, hj]
theorem rof_l0 (l : List Int) (hl : l.length ≤ 9223372036854775806) : ∀ (d : Nat) (s : BitVec 64) (i : Nat), i ≤ l.length → l.length - i = d → Ev (fun k => petrinetref06_Of.l0 k l (U s) (i : Int)) (U ((l.drop i).foldl withB s)) := by
  intro d
  induction d with
  | zero =>
    intro s i hi hd
    refine Ev.succ ?_
    simp only [petrinetref06_Of.l0]
    rw [List.drop_of_length_le (by omega)]
    exact Ev.same (funext fun k => by rw [if_neg (by omega)]; rfl)
  | succ d ih =>
    intro s i hi hd
    have hlt : i < l.length := by omega
    have hrd : rd l (i : Int) = l[i] := by simp [rd, hlt]
    refine Ev.succ ?_
    simp only [petrinetref06_Of.l0]
    rw [List.drop_eq_getElem_cons hlt, List.foldl_cons]
    have c1 : (i : Int) < (l.length : Int) := by omega
    have c2 : (0 : Int) ≤ (i : Int) := by omega
    simp only [c1, c2, if_true, hrd]
    refine Ev.bind (rwith s l[i]) ?_
    rw [wrap_succ (by omega)]
    exact ih (withB s l[i]) (i + 1) (by omega) (by omega)
theorem rof (l : List Int) (hl : l.length ≤ 9223372036854775806) : Ev (fun k => petrinetref06_Of.f k l) (U (l.foldl withB 0#64)) := by
  have := rof_l0 l hl _ 0#64 0 (by omega) rfl
  exact this
theorem rlist_l0 (a : BitVec 64) : ∀ (d i : Nat), i ≤ 64 → 64 - i = d → Ev (fun k => petrinetref06_List.l0 k (U a) ((els a i).map Int.ofNat) (i : Int)) ((els a 64).map Int.ofNat) := by
  intro d
  induction d with
  | zero =>
    intro i hi hd
    obtain rfl : i = 64 := by omega
    refine Ev.succ ?_
    simp only [petrinetref06_List.l0]
    exact Ev.same (funext fun k => by rw [if_neg (by omega)])
  | succ d ih =>
    intro i hi hd
    refine Ev.succ ?_
    simp only [petrinetref06_List.l0]
    have c1 : (i : Int) < 64 := by omega
    simp only [c1, if_true]
    refine Ev.bind (rhas a i) ?_
    have h2 := ih (i + 1) (by omega) (by omega)
    rw [wrap_succ (by omega)]
    cases hb : a.getLsbD i with
    | true =>
      have hl := els_len a i
      rw [els_hit hb, List.map_append] at h2
      refine Ev.congr (fun k => ?_) h2
      simp [hb]
      intro h9
      omega
    | false =>
      rw [els_miss hb] at h2
      refine Ev.congr (fun k => ?_) h2
      simp [hb]
theorem rlist (a : BitVec 64) : Ev (fun k => petrinetref06_List.f k (U a)) ((els a 64).map Int.ofNat) := by
  have := rlist_l0 a _ 0 (by omega) rfl
  exact this
theorem rlen (a : BitVec 64) : Ev (fun k => petrinetref06_Len.f k (U a)) ((els a 64).length : Int) := by
  unfold petrinetref06_Len.f
  refine Ev.bind (rlist a) ?_
  exact Ev.same (funext fun k => by simp)
theorem rleast (a : BitVec 64) : Ev (fun k => petrinetref06_Least.f k (U a)) (Go.Proofs.Ytmopcjebjbdapaa.Pr.leastOf (els a 64)) := by
  unfold petrinetref06_Least.f
  refine Ev.bind (rlist a) ?_
  refine Ev.same (funext fun k => ?_)
  cases els a 64 with
  | nil => simp [Pr.leastOf]
  | cons x xs =>
    have : ¬ ((xs.length : Int) + 1 = 0) := by omega
    simp [Pr.leastOf, rd, this]
theorem rsubset_l0 (a b : BitVec 64) : ∀ (d i : Nat), i ≤ (els a 64).length → (els a 64).length - i = d → Ev (fun k => petrinetref06_Subset.l0 k (U b) ((els a 64).map Int.ofNat) (i : Int)) (((els a 64).drop i).all fun x => b.getLsbD x) := by
  have hl := els_len a 64
  intro d
  induction d with
  | zero =>
    intro i hi hd
    refine Ev.succ ?_
    simp only [petrinetref06_Subset.l0]
    rw [List.drop_of_length_le (by omega)]
    exact Ev.same (funext fun k => by rw [if_neg (by simp; omega)]; rfl)
  | succ d ih =>
    intro i hi hd
    have hlt : i < (els a 64).length := by omega
    have hrd : rd ((els a 64).map Int.ofNat) (i : Int) = (((els a 64)[i] : Nat) : Int) := by simp [rd, hlt]
    refine Ev.succ ?_
    simp only [petrinetref06_Subset.l0, List.length_map]
    have c1 : (i : Int) < ((els a 64).length : Int) := by omega
    have c2 : (0 : Int) ≤ (i : Int) := by omega
    simp only [c1, c2, if_true, hrd]
    refine Ev.bind (rhas b _) ?_
    rw [List.drop_eq_getElem_cons hlt, List.all_cons, wrap_succ (by omega)]
    have h2 := ih (i + 1) (by omega) (by omega)
    cases hb : b.getLsbD (els a 64)[i] with
    | true =>
      refine Ev.congr (fun k => ?_) (by simpa using h2)
      simp [hb]
    | false =>
      exact Ev.same (funext fun k => by simp [hb])
theorem subS_all (a b : BitVec 64) : ((els a 64).all fun x => b.getLsbD x) = subS a b := by
  rw [Bool.eq_iff_iff, List.all_eq_true, subS_iff]
  constructor
  · intro h i hi
    exact h i (mem_els.2 ⟨BitVec.lt_of_getLsbD hi, hi⟩)
  · intro h i hi
    exact h i (mem_els.1 hi).2
theorem rsubset (a b : BitVec 64) : Ev (fun k => petrinetref06_Subset.f k (U a) (U b)) (subS a b) := by
  unfold petrinetref06_Subset.f
  refine Ev.bind (rlist a) ?_
  have h := rsubset_l0 a b _ 0 (by omega) rfl
  rw [List.drop_zero, subS_all] at h
  exact h
theorem rall_l0 (n : Int) : ∀ (d i : Nat), i ≤ 64 → (i : Int) ≤ max 0 n → (min n.toNat 64) - i = d → Ev (fun k => petrinetref06_All.l0 k n (U (allTo i)) (i : Int)) (U (allTo (min n.toNat 64))) := by
  intro d
  induction d with
  | zero =>
    intro i h64 hi hd
    refine Ev.succ ?_
    simp only [petrinetref06_All.l0]
    have e : min n.toNat 64 = i := by omega
    rw [e]
    refine Ev.same (funext fun k => ?_)
    by_cases h : (i : Int) < 64
    · rw [if_pos h, if_neg (by omega)]
    · rw [if_neg h]
  | succ d ih =>
    intro i h64 hi hd
    refine Ev.succ ?_
    simp only [petrinetref06_All.l0]
    have h2 := ih (i + 1) (by omega) (by omega) (by omega)
    have c1 : (i : Int) < 64 := by omega
    have c2 : (i : Int) < n := by omega
    simp only [c1, c2, if_true]
    refine Ev.bind (rbit (by omega)) ?_
    have hz : (allTo i).getLsbD i = false := by rw [allTo_bit]; simp
    rw [wrap_succ (by omega), wrap_add, add_tp hz]
    exact h2
theorem rall (n : Int) : Ev (fun k => petrinetref06_All.f k n) (U (allTo (min n.toNat 64))) := by
  have := rall_l0 n _ 0 (by omega) (by omega) rfl
  exact this
theorem rints_l0 (l : List Int) (hl : l.length ≤ 9223372036854775806) : ∀ (d i : Nat), i ≤ l.length → l.length - i = d → Ev (fun k => petrinetref06_Ints.l0 k l l (i : Int)) true := by
  intro d
  induction d with
  | zero =>
    intro i hi hd
    refine Ev.succ ?_
    simp only [petrinetref06_Ints.l0]
    exact Ev.same (funext fun k => by rw [if_neg (by omega)])
  | succ d ih =>
    intro i hi hd
    refine Ev.succ ?_
    simp only [petrinetref06_Ints.l0]
    have c1 : (i : Int) < (l.length : Int) := by omega
    have c2 : (0 : Int) ≤ (i : Int) := by omega
    simp only [c1, c2, if_true]
    rw [wrap_succ (by omega)]
    exact ih (i + 1) (by omega) (by omega)
theorem rints (l : List Int) (hl : l.length ≤ 9223372036854775806) : Ev (fun k => petrinetref06_Ints.f k l l) true := by
  unfold petrinetref06_Ints.f
  have h := rints_l0 l hl _ 0 (by omega) rfl
  refine Ev.congr (fun k => ?_) h
  simp
theorem rsame_l0 (l : List Int) (hl : l.length ≤ 9223372036854775806) : ∀ (d i : Nat), i ≤ l.length → l.length - i = d → Ev (fun k => petrinetref06_Same.l0 k l l (i : Int)) true := by
  intro d
  induction d with
  | zero =>
    intro i hi hd
    refine Ev.succ ?_
    simp only [petrinetref06_Same.l0]
    exact Ev.same (funext fun k => by rw [if_neg (by omega)])
  | succ d ih =>
    intro i hi hd
    refine Ev.succ ?_
    simp only [petrinetref06_Same.l0]
    have c1 : (i : Int) < (l.length : Int) := by omega
    have c2 : (0 : Int) ≤ (i : Int) := by omega
    simp only [c1, c2, if_true]
    rw [wrap_succ (by omega)]
    exact ih (i + 1) (by omega) (by omega)
theorem rsame (l : List Int) (hl : l.length ≤ 9223372036854775806) : Ev (fun k => petrinetref06_Same.f k l l) true := by
  unfold petrinetref06_Same.f
  have h := rsame_l0 l hl _ 0 (by omega) rfl
  refine Ev.congr (fun k => ?_) h
  simp

end Go.Proofs.Ytmopcjebjbdapaa.Refs
