/- The parts of a text between separators, by bytes. -/
import Derived.Below
namespace Go.Proofs.Ytaofommgdgmncaa.Parts
set_option linter.unusedVariables false
set_option linter.unusedSimpArgs false

/-- Is there a separator at place k (or the text's end)? -/
def cutAt (s : ByteArray) (by_ : Int) (k : Nat) : Bool := match s.data.toList[k]? with | some c => ((c.toNat : Int) == by_) | none => true
/-- The parts that end before place k, and where the next one begins. -/
def pf (s : ByteArray) (by_ : Int) : Nat → List ByteArray × Nat
  | 0 => ([], 0)
  | k + 1 => if cutAt s by_ k then ((pf s by_ k).1 ++ [s.extract (pf s by_ k).2 k], k + 1) else pf s by_ k
def partsOf (s : ByteArray) (by_ : Int) : List ByteArray := (pf s by_ (s.size + 1)).1
theorem pf_from (s : ByteArray) (b : Int) (k : Nat) : (pf s b k).2 ≤ k := by
  induction k with
  | zero => exact Nat.le_refl _
  | succ k ih =>
    rw [pf]
    split
    · exact Nat.le_refl _
    · omega
theorem pf_len (s : ByteArray) (b : Int) (k : Nat) : (pf s b k).1.length ≤ k := by
  induction k with
  | zero => exact Nat.le_refl _
  | succ k ih =>
    rw [pf]
    split
    · simp; omega
    · omega
theorem pf_hit {s : ByteArray} {b : Int} {k : Nat} (h : cutAt s b k = true) : pf s b (k + 1) = ((pf s b k).1 ++ [s.extract (pf s b k).2 k], k + 1) := by rw [pf, if_pos h]
theorem pf_miss {s : ByteArray} {b : Int} {k : Nat} (h : cutAt s b k = false) : pf s b (k + 1) = pf s b k := by rw [pf, if_neg (by simp [h])]
theorem blen (s : ByteArray) : s.data.toList.length = s.size := by rw [Array.length_toList]; rfl
theorem cut_end (s : ByteArray) (b : Int) : cutAt s b s.size = true := by
  have h : s.data.toList[s.size]? = none := List.getElem?_eq_none (by rw [blen]; exact Nat.le_refl _)
  unfold cutAt
  rw [h]
theorem cut_get {s : ByteArray} {b : Int} {k : Nat} (h : k < s.size) : cutAt s b k = (((s[k]'h).toNat : Int) == b) := by
  have h' : k < s.data.toList.length := by rw [blen]; exact h
  unfold cutAt
  rw [List.getElem?_eq_getElem h']
  rfl
theorem pf_prefix (s : ByteArray) (b : Int) (k d : Nat) : ∃ r, (pf s b (k + d)).1 = (pf s b k).1 ++ r := by
  induction d with
  | zero => exact ⟨[], by simp⟩
  | succ d ih =>
    obtain ⟨r, hr⟩ := ih
    rw [← Nat.add_assoc]
    cases hc : cutAt s b (k + d) with
    | true => rw [pf_hit hc]; exact ⟨r ++ [_], by rw [hr, List.append_assoc]⟩
    | false => rw [pf_miss hc]; exact ⟨r, hr⟩
theorem parts_prefix {s : ByteArray} {b : Int} {k : Nat} (h : k ≤ s.size) : ∃ r, partsOf s b = (pf s b (k + 1)).1 ++ r := by
  obtain ⟨r, hr⟩ := pf_prefix s b (k + 1) (s.size - k)
  exact ⟨r, by rw [← hr, partsOf]; congr 2; omega⟩

theorem pf_mem (s : ByteArray) (b : Int) : ∀ (k : Nat), k ≤ s.size + 1 → ∀ y ∈ (pf s b k).1, y.size ≤ s.size := by
  intro k
  induction k with
  | zero => intro _ y hy; simp [pf] at hy
  | succ k ih =>
    intro hk y hy
    cases hc : cutAt s b k with
    | true =>
      rw [pf_hit hc] at hy
      rcases List.mem_append.1 hy with h | h
      · exact ih (by omega) y h
      · rw [List.mem_singleton.1 h, ByteArray.size_extract]; omega
    | false => rw [pf_miss hc] at hy; exact ih (by omega) y hy
theorem parts_mem {s : ByteArray} {b : Int} {y : ByteArray} (h : y ∈ partsOf s b) : y.size ≤ s.size := pf_mem s b _ (Nat.le_refl _) y h

end Go.Proofs.Ytaofommgdgmncaa.Parts
