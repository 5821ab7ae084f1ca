/- What the functions of package bitset answer, told of vectors of bits. -/
import Derived.Test.YtmopcjebjbdapaaPr1
import Derived.Test.YtmopcjebjbdapaaPr2
import Derived.Test.YtmopcjebjbdapaaPr3
import Derived.Test.YtmopcjebjbdapaaPr4
import Derived.Test.YtmopcjebjbdapaaPr5
import Derived.Test.YtmopcjebjbdapaaPr6
import Derived.Test.YtmopcjebjbdapaaPr7
import Derived.Test.YtmopcjebjbdapaaBits
namespace Go.Proofs.Ytmopcjebjbdapaa.Sets
open Go.RowKit Go.Proofs.Ytmopcjebjbdapaa.Pr Go.Proofs.Ytmopcjebjbdapaa.Bits Go.Proofs.YtmopcjebjbdapaaW.PrintWords Go.Proofs.YtmopcjebjbdapaaW.PrintLast Go.Proofs.YtmopcjebjbdapaaW.PrintMore
set_option linter.unusedVariables false
set_option linter.unusedSimpArgs false

theorem Ev.succ {α : Type} {g : Nat → Option α} {r : α} (h : Ev (fun k => g (k + 1)) r) : Ev g r := Ev.step (fun _ => rfl) h
theorem Ev.same {α : Type} {r : α} {g : Nat → Option α} (h : g = fun _ => some r) : Ev g r := by rw [h]; exact Ev.now r

theorem has_U (a : BitVec 64) (i : Int) : bitset_Has.f (U a) i = some (decide (0 ≤ i) && a.getLsbD i.toNat) := by
  unfold bitset_Has.f
  by_cases h0 : 0 ≤ i
  · rw [if_pos h0]
    by_cases h1 : i < 64
    · obtain ⟨n, rfl⟩ := Int.eq_ofNat_of_zero_le h0
      rw [if_pos h1, wrap_idx h0 h1, if_pos h0, shr_at (by omega), bit_at]
      simp
    · rw [if_neg h1, BitVec.getLsbD_of_ge _ _ (by omega)]
      simp
  · rw [if_neg h0]; simp [h0]
def withB (a : BitVec 64) (i : Int) : BitVec 64 := if i < 0 then a else a ||| tp i.toNat
def withoutB (a : BitVec 64) (i : Int) : BitVec 64 := if i < 0 then a else a &&& ~~~ tp i.toNat
theorem tp_big {i : Nat} (h : 64 ≤ i) : tp i = 0#64 := by
  apply ext_bit
  intro j hj
  rw [tp_bit]
  simp
  omega
theorem with_U (a : BitVec 64) (i : Int) : bitset_With.f (U a) i = some (U (withB a i)) := by
  unfold bitset_With.f withB
  by_cases h0 : i < 0
  · rw [if_pos h0, if_pos h0]
  · rw [if_neg h0, if_neg h0]
    obtain ⟨n, rfl⟩ := Int.eq_ofNat_of_zero_le (show 0 ≤ i by omega)
    by_cases h1 : (n : Int) > 63
    · rw [if_pos h1, tp_big (by omega)]; simp
    · rw [if_neg h1, wrap_idx (by omega) (by omega), if_pos (by omega), shl_one (by omega), bits_or]; simp
theorem without_U (a : BitVec 64) (i : Int) : bitset_Without.f (U a) i = some (U (withoutB a i)) := by
  unfold bitset_Without.f withoutB
  by_cases h0 : i < 0
  · rw [if_pos h0, if_pos h0]
  · rw [if_neg h0, if_neg h0]
    obtain ⟨n, rfl⟩ := Int.eq_ofNat_of_zero_le (show 0 ≤ i by omega)
    by_cases h1 : (n : Int) > 63
    · have e : a &&& ~~~ 0#64 = a := by apply ext_bit; intro j hj; rw [BitVec.getLsbD_and, BitVec.getLsbD_not, BitVec.getLsbD_zero]; simp [hj]
      rw [if_pos h1, tp_big (by omega), e]
    · rw [if_neg h1, wrap_idx (by omega) (by omega), if_pos (by omega), shl_one (by omega), bits_andNot]; simp
theorem elemsTo_U (a : BitVec 64) (k : Nat) : elemsTo (U a) k = els a k := by
  unfold elemsTo els
  congr 1
  funext i
  unfold bitAt
  exact bit_at a i
theorem list_U (a : BitVec 64) : bitset_List.f (U a) = some ((els a 64).map Int.ofNat) := by unfold bitset_List.f; rw [elemsTo_U]
theorem len_U (a : BitVec 64) : bitset_Len.f (U a) = some ((els a 64).length : Int) := by unfold bitset_Len.f; rw [elemsTo_U]
theorem least_U (a : BitVec 64) : bitset_Least.f (U a) = some (Go.Proofs.Ytmopcjebjbdapaa.Pr.leastOf (els a 64)) := by unfold bitset_Least.f; rw [elemsTo_U]
def subS (a b : BitVec 64) : Bool := decide (a &&& ~~~b = 0#64)
theorem subB_U (a b : BitVec 64) : subB (U a) (U b) = subS a b := by
  unfold subB subS
  rw [bits_andNot, Bool.eq_iff_iff]
  simp [U_eq_zero]
theorem subset_U (a b : BitVec 64) : bitset_Subset.f (U a) (U b) = some (subS a b) := by
  rw [← subB_U]; rfl
theorem subS_iff {a b : BitVec 64} : subS a b = true ↔ ∀ i, a.getLsbD i = true → b.getLsbD i = true := by
  unfold subS
  rw [decide_eq_true_iff]
  constructor
  · intro h i hi
    have h2 : (a &&& ~~~b).getLsbD i = (0#64).getLsbD i := by rw [h]
    have hlt := BitVec.lt_of_getLsbD hi
    cases hb : b.getLsbD i with
    | true => rfl
    | false =>
      rw [BitVec.getLsbD_and, BitVec.getLsbD_not, BitVec.getLsbD_zero, hi, hb] at h2
      simp [hlt] at h2
  · intro h
    apply ext_bit
    intro i hi
    rw [BitVec.getLsbD_and, BitVec.getLsbD_not]
    cases ha : a.getLsbD i with
    | false => simp
    | true => simp [h i ha]
def nextB (s o : BitVec 64) : BitVec 64 × Bool := if s &&& ~~~o = 0#64 then (if s = o then (0#64, false) else ((s - o) &&& o, true)) else (0#64, false)
theorem next_U (s o : BitVec 64) : bitset_Next.f (U s) (U o) = some (U (nextB s o).1, (nextB s o).2) := by
  unfold bitset_Next.f nextB
  rw [bits_andNot]
  by_cases h : s &&& ~~~o = 0#64
  · rw [if_pos h, if_pos (U_eq_zero.2 h)]
    by_cases e : s = o
    · rw [if_pos e, if_pos (by rw [e])]; rfl
    · rw [if_neg e, if_neg (fun h2 => e (U_inj.1 h2)), wrap_sub, bits_and]
  · rw [if_neg h, if_neg (fun h2 => h (U_eq_zero.1 h2))]; rfl
/-- The numbers below k. -/
def allTo : Nat → BitVec 64
  | 0 => 0#64
  | k + 1 => allTo k ||| tp k
theorem allTo_bit (k i : Nat) : (allTo k).getLsbD i = (decide (i < k) && decide (i < 64)) := by
  induction k with
  | zero => simp [allTo]
  | succ k ih =>
    rw [allTo, BitVec.getLsbD_or, ih, tp_bit, Bool.eq_iff_iff]
    simp
    omega
theorem all_l0 (n : Int) : ∀ (d i : Nat), i ≤ 64 → (i : Int) ≤ max 0 n → (min n.toNat 64) - i = d → Ev (fun k => bitset_All.l0 k n (U (allTo i)) (i : Int)) (U (allTo (min n.toNat 64))) := by
  intro d
  induction d with
  | zero =>
    intro i h64 hi hd
    refine Ev.succ ?_
    simp only [bitset_All.l0]
    have e : min n.toNat 64 = i := by omega
    rw [e]
    refine Ev.same (funext fun k => ?_)
    by_cases h : (i : Int) < n
    · rw [if_pos h, if_neg (by omega)]
    · rw [if_neg h]
  | succ d ih =>
    intro i h64 hi hd
    refine Ev.succ ?_
    simp only [bitset_All.l0]
    have h2 := ih (i + 1) (by omega) (by omega) (by omega)
    refine Ev.congr (fun k => ?_) h2
    have hw : wrap64 ((i : Int) + 1) = ((i + 1 : Nat) : Int) := by unfold wrap64; omega
    rw [if_pos (by omega), if_pos (by omega), wrap_idx (by omega) (by omega), if_pos (by omega), shl_one (by omega), bits_or, hw]
    rfl
theorem all_U (n : Int) : Ev (fun k => bitset_All.f k n) (U (allTo (min n.toNat 64))) := by
  have := all_l0 n _ 0 (by omega) (by omega) rfl
  exact this
theorem of_l0 (l : List Int) (hl : l.length ≤ 9223372036854775806) : ∀ (d : Nat) (s : BitVec 64) (i : Nat), i ≤ l.length → l.length - i = d → Ev (fun k => bitset_Of.l0 k (U s) l (l.length : Int) (i : Int)) (U ((l.drop i).foldl withB s)) := by
  intro d
  induction d with
  | zero =>
    intro s i hi hd
    refine Ev.succ ?_
    simp only [bitset_Of.l0]
    rw [List.drop_of_length_le (by omega)]
    exact Ev.same (funext fun k => by rw [if_neg (by omega)]; rfl)
  | succ d ih =>
    intro s i hi hd
    have hlt : i < l.length := by omega
    have hrd : rd l (i : Int) = l[i] := by simp [rd, hlt]
    have hw : wrap64 ((i : Int) + 1) = ((i + 1 : Nat) : Int) := by unfold wrap64; omega
    refine Ev.succ ?_
    simp only [bitset_Of.l0]
    rw [List.drop_eq_getElem_cons hlt, List.foldl_cons]
    refine Ev.congr (fun k => ?_) (ih (withB s l[i]) (i + 1) (by omega) (by omega))
    rw [if_pos (by omega), if_pos (by omega), if_pos (by omega), hrd, with_U, Option.bind_some, hw]
theorem of_U (l : List Int) (hl : l.length ≤ 9223372036854775806) : Ev (fun k => bitset_Of.f k l) (U (l.foldl withB 0#64)) := by
  have := of_l0 l hl _ 0#64 0 (by omega) rfl
  exact this

end Go.Proofs.Ytmopcjebjbdapaa.Sets
