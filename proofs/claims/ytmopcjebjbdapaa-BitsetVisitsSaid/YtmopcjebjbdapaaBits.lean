/- Sets of numbers below 64 as vectors of bits: what Go's operations on a uint64 say of them. -/
import Derived.Laws.Bits64
import Derived.Test.YtmopcjebjbdapaaWMore
namespace Go.Proofs.Ytmopcjebjbdapaa.Bits
set_option linter.unusedVariables false
set_option linter.unusedSimpArgs false
open Go.RowKit Go.Proofs.YtmopcjebjbdapaaW.PrintWords Go.Proofs.YtmopcjebjbdapaaW.PrintLast Go.Proofs.YtmopcjebjbdapaaW.PrintMore

/-- A vector of bits as Go's number. -/
def U (v : BitVec 64) : Int := (v.toNat : Int)
theorem U_nonneg (v : BitVec 64) : 0 ≤ U v := Int.natCast_nonneg _
theorem U_lt (v : BitVec 64) : U v < 18446744073709551616 := by have := v.isLt; unfold U; omega
theorem U_inj {a b : BitVec 64} : U a = U b ↔ a = b := by
  constructor
  · intro h; apply BitVec.eq_of_toNat_eq; unfold U at h; omega
  · rintro rfl; rfl
theorem U_of {x : Int} (h : (Lit.int .u64 x).wf = true) : ∃ v, x = U v := by
  have hb : 0 ≤ x ∧ x < 18446744073709551616 := by
    simp [Lit.wf, IntKind.min, IntKind.max, IntKind.bits, IntKind.signed] at h
    omega
  refine ⟨BitVec.ofNat 64 x.toNat, ?_⟩
  unfold U
  rw [BitVec.toNat_ofNat]
  omega
theorem ofInt_U (v : BitVec 64) : BitVec.ofInt 64 (U v) = v := by
  unfold U
  rw [BitVec.ofInt_natCast]
  simp
theorem wrap_U (v : BitVec 64) : IntKind.u64.wrap (v.toNat : Int) = U v := by
  rw [IntKind.wrap_u64]; unfold U; have := v.isLt; omega
theorem bits_and (a b : BitVec 64) : Go.bits .and .u64 (U a) (U b) = U (a &&& b) := by
  show IntKind.u64.wrap ((BitVec.ofInt 64 (U a) &&& BitVec.ofInt 64 (U b)).toNat : Int) = _
  rw [ofInt_U, ofInt_U, wrap_U]
theorem bits_or (a b : BitVec 64) : Go.bits .or .u64 (U a) (U b) = U (a ||| b) := by
  show IntKind.u64.wrap ((BitVec.ofInt 64 (U a) ||| BitVec.ofInt 64 (U b)).toNat : Int) = _
  rw [ofInt_U, ofInt_U, wrap_U]
theorem bits_andNot (a b : BitVec 64) : Go.bits .andNot .u64 (U a) (U b) = U (a &&& ~~~b) := by
  show IntKind.u64.wrap ((BitVec.ofInt 64 (U a) &&& ~~~ BitVec.ofInt 64 (U b)).toNat : Int) = _
  rw [ofInt_U, ofInt_U, wrap_U]
theorem wrap_add (a b : BitVec 64) : IntKind.u64.wrap (U a + U b) = U (a + b) := by
  rw [IntKind.wrap_u64]; unfold U; rw [BitVec.toNat_add]; omega
theorem wrap_sub (a b : BitVec 64) : IntKind.u64.wrap (U a - U b) = U (a - b) := by
  rw [IntKind.wrap_u64]; unfold U; rw [BitVec.toNat_sub]
  have := a.isLt; have := b.isLt
  omega
theorem U_zero : U 0#64 = 0 := rfl
theorem U_one : U 1#64 = 1 := rfl
theorem U_eq_zero {a : BitVec 64} : U a = 0 ↔ a = 0#64 := by rw [← U_zero]; exact U_inj
/-- The set of one number. -/
def tp (i : Nat) : BitVec 64 := BitVec.twoPow 64 i
theorem U_tp {i : Nat} (h : i < 64) : U (tp i) = 2 ^ i := by
  unfold U tp
  rw [BitVec.toNat_twoPow]
  have : 2 ^ i < 2 ^ 64 := Nat.pow_lt_pow_right (by decide) h
  rw [Nat.mod_eq_of_lt this]
  exact Int.natCast_pow 2 i
theorem tp_bit (i j : Nat) : (tp i).getLsbD j = (decide (i < 64) && decide (i = j)) := by
  unfold tp; rw [BitVec.getLsbD_twoPow]
theorem shl_one {i : Nat} (h : i < 64) : shl .u64 1 (i : Int) = U (tp i) := by
  unfold shl
  have e : min ((i : Int)).toNat IntKind.u64.bits = i := by
    rw [Int.toNat_natCast]; exact Nat.min_eq_left (by simp [IntKind.bits]; omega)
  rw [e, Int.one_mul, ← U_tp h, IntKind.wrap_u64]
  have := U_lt (tp i); have := U_nonneg (tp i)
  omega
theorem wrap_idx {i : Int} (h0 : 0 ≤ i) (h1 : i < 64) : IntKind.u64.wrap i = i := by
  rw [IntKind.wrap_u64]; omega
theorem div_bit (a : BitVec 64) (i : Nat) : (U a / 2 ^ i) % 2 = (if a.getLsbD i then 1 else 0) := by
  unfold U
  rw [BitVec.getLsbD, Nat.testBit_eq_decide_div_mod_eq]
  have e : ((a.toNat : Int) / 2 ^ i) = ((a.toNat / 2 ^ i : Nat) : Int) := by rw [Int.natCast_ediv, Int.natCast_pow]; rfl
  rw [e]
  split <;> rename_i h <;> simp at h <;> omega
theorem div_U (a : BitVec 64) (i : Nat) : U a / 2 ^ i = U (a >>> i) := by
  unfold U
  rw [BitVec.toNat_ushiftRight, Nat.shiftRight_eq_div_pow, Int.natCast_ediv, Int.natCast_pow]; rfl
theorem bit_at (a : BitVec 64) (i : Nat) : (Go.bits .and .u64 (U a / 2 ^ i) 1 == 1) = a.getLsbD i := by
  rw [div_U, ← U_one, bits_and]
  have e : (a >>> i &&& 1#64) = if a.getLsbD i then 1#64 else 0#64 := by
    apply BitVec.eq_of_getLsbD_eq
    intro j hj
    rw [BitVec.getLsbD_and, BitVec.getLsbD_ushiftRight]
    by_cases h0 : j = 0
    · subst h0
      cases hb : a.getLsbD i <;> simp [hb]
    · have h1 : (1#64).getLsbD j = false := by rw [BitVec.getLsbD_one]; simp [h0]
      cases hb : a.getLsbD i <;> simp [h1]
  rw [e]
  cases a.getLsbD i <;> simp [U]
theorem shr_at {a : BitVec 64} {i : Nat} (h : i < 64) : shr .u64 (U a) (i : Int) = U a / 2 ^ i := by
  unfold shr
  have e : min ((i : Int)).toNat IntKind.u64.bits = i := by
    rw [Int.toNat_natCast]; exact Nat.min_eq_left (by simp [IntKind.bits]; omega)
  rw [e]

theorem ext_bit {a b : BitVec 64} (h : ∀ i, i < 64 → a.getLsbD i = b.getLsbD i) : a = b := BitVec.eq_of_getLsbD_eq h
/-- Nothing in common: the sum is the union. -/
theorem add_or {a b : BitVec 64} (h : a &&& b = 0#64) : a + b = a ||| b := BitVec.add_eq_or_of_and_eq_zero a b h
theorem add_tp {a : BitVec 64} {i : Nat} (h : a.getLsbD i = false) : a + tp i = a ||| tp i := by
  apply add_or
  apply ext_bit
  intro j hj
  rw [BitVec.getLsbD_and, tp_bit]
  by_cases e : i = j
  · subst e; simp [h]
  · simp [e]
theorem sub_tp {a : BitVec 64} {i : Nat} (h : a.getLsbD i = true) : a - tp i = a &&& ~~~ tp i := by
  have h2 : (a &&& ~~~ tp i) + tp i = a := by
    rw [add_tp]
    · apply ext_bit
      intro j hj
      rw [BitVec.getLsbD_or, BitVec.getLsbD_and, BitVec.getLsbD_not, tp_bit]
      by_cases e : i = j
      · subst e; simp [h, hj]
      · simp [e, hj]
    · rw [BitVec.getLsbD_and, BitVec.getLsbD_not, tp_bit]
      have hi : i < 64 := BitVec.lt_of_getLsbD h
      simp [hi]
  have h3 := congrArg (· - tp i) h2
  simp only [BitVec.add_sub_cancel] at h3
  exact h3.symm
/-- The elements below k, in order. -/
def els (a : BitVec 64) (k : Nat) : List Nat := (List.range k).filter (fun i => a.getLsbD i)
theorem mem_els {a : BitVec 64} {k i : Nat} : i ∈ els a k ↔ i < k ∧ a.getLsbD i = true := by simp [els]
theorem els_sorted (a : BitVec 64) (k : Nat) : (els a k).Pairwise (· < ·) := List.Pairwise.filter _ List.pairwise_lt_range
theorem els_hit {a : BitVec 64} {k : Nat} (h : a.getLsbD k = true) : els a (k + 1) = els a k ++ [k] := by simp [els, List.range_succ, h]
theorem els_miss {a : BitVec 64} {k : Nat} (h : a.getLsbD k = false) : els a (k + 1) = els a k := by simp [els, List.range_succ, h]
theorem els_len (a : BitVec 64) (k : Nat) : (els a k).length ≤ k := by
  have := List.length_filter_le (fun i => a.getLsbD i) (List.range k)
  simpa [els] using this
theorem els_zero (k : Nat) : els 0#64 k = [] := by simp [els]
theorem els_eq_nil {a : BitVec 64} : els a 64 = [] ↔ a = 0#64 := by
  constructor
  · intro h
    apply ext_bit
    intro i hi
    cases hb : a.getLsbD i with
    | false => simp
    | true =>
      have : i ∈ els a 64 := mem_els.2 ⟨hi, hb⟩
      rw [h] at this; cases this
  · rintro rfl; exact els_zero _

end Go.Proofs.Ytmopcjebjbdapaa.Bits
