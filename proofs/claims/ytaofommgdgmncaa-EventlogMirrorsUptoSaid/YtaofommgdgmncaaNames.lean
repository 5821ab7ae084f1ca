/- Valid names, told of bytes: what a walk over a string's runes and a look at its bytes say. -/
import Derived.Laws.RangeAny
import Derived.Laws.RangeString
import Derived.Below
import Derived.WalkKit
namespace Go.Proofs.Ytaofommgdgmncaa.Names
set_option linter.unusedVariables false
set_option linter.unusedSimpArgs false
open Go.RowKit

/-- A byte that may begin a name. -/
def letterB (c : Nat) : Bool := (decide (97 ≤ c) && decide (c ≤ 122)) || decide (c = 95)
/-- A byte that may stand at place i of a name. -/
def okB (i c : Nat) : Bool := letterB c || (decide (0 < i) && ((decide (48 ≤ c) && decide (c ≤ 57)) || decide (c = 46)))
def byteAt (s : ByteArray) (i : Nat) : Nat := (s.data.toList[i]?.getD 0).toNat
def nameB (s : ByteArray) : Bool := decide (1 ≤ s.size) && decide (s.size ≤ 16) && (List.range s.size).all fun i => okB i (byteAt s i)

theorem byteAt_get (s : ByteArray) (i : Nat) (h : i < s.size) : byteAt s i = (s[i]'h).toNat := by
  have h' : i < s.data.toList.length := by simpa using h
  unfold byteAt
  rw [List.getElem?_eq_getElem h']
  rfl
theorem below_iter (w : World) (s : ByteArray) (pos : Nat) : Below w.heap.size w (w.iter s pos) := (Below.refl _ w).alloc (Nat.le_refl _) _

/-- What the round at place pos meets: the rune, and how far it goes on. -/
theorem rune_low (s : ByteArray) (pos : Nat) (h : pos < s.size) (ha : byteAt s pos < 128) : Utf8.decode s pos = (byteAt s pos, 1) := by
  rw [byteAt_get s pos h] at ha ⊢
  exact decode_ascii s pos h ha
theorem rune_high (s : ByteArray) (pos : Nat) (h : pos < s.size) (ha : ¬ byteAt s pos < 128) : 128 ≤ (Utf8.decode s pos).1 := by
  rw [byteAt_get s pos h] at ha
  exact (decode_high s pos h (by omega)).1
theorem okB_high {i c : Nat} (h : ¬ c < 128) : okB i c = false := by
  have h1 : ¬ c ≤ 122 := by omega
  have h2 : ¬ c = 95 := by omega
  have h3 : ¬ c ≤ 57 := by omega
  have h4 : ¬ c = 46 := by omega
  simp [okB, letterB, h1, h2, h3, h4]
theorem nameB_false {s : ByteArray} {i : Nat} (h : i < s.size) (hk : okB i (byteAt s i) = false) : nameB s = false := by
  cases hn : nameB s with
  | false => rfl
  | true =>
    unfold nameB at hn
    simp only [Bool.and_eq_true, List.all_eq_true, List.mem_range] at hn
    rw [hn.2 i h] at hk; cases hk
theorem nameB_true {s : ByteArray} (h1 : 1 ≤ s.size) (h2 : s.size ≤ 16) (h : ∀ i, i < s.size → okB i (byteAt s i) = true) : nameB s = true := by
  unfold nameB
  simp only [Bool.and_eq_true, List.all_eq_true, List.mem_range, decide_eq_true_eq]
  exact ⟨⟨h1, h2⟩, h⟩
theorem okB_of {i c : Nat} (h : (97 ≤ c ∧ c ≤ 122) ∨ c = 95 ∨ (0 < i ∧ ((48 ≤ c ∧ c ≤ 57) ∨ c = 46))) : okB i c = true := by
  simp only [okB, letterB, Bool.or_eq_true, Bool.and_eq_true, decide_eq_true_eq]
  omega
theorem okB_not {i c : Nat} (h : ¬ ((97 ≤ c ∧ c ≤ 122) ∨ c = 95 ∨ (0 < i ∧ ((48 ≤ c ∧ c ≤ 57) ∨ c = 46)))) : okB i c = false := by
  cases hk : okB i c with
  | false => rfl
  | true =>
    simp only [okB, letterB, Bool.or_eq_true, Bool.and_eq_true, decide_eq_true_eq] at hk
    omega
theorem is46 {c : Nat} (h : (!((c : Int) == 46)) = false) : c = 46 := by simp at h; omega
theorem not46 {c : Nat} (h : (!((c : Int) == 46)) = true) : ¬ c = 46 := by simp at h; omega
end Go.Proofs.Ytaofommgdgmncaa.Names
