/- Minimal of package region returns what the reference returns, for systems of at most 6 states (and where it refuses). -/
import Derived.Test.YtihjbomgbbfifaaQRegionMinimals0
import Derived.Test.YtihjbomgbbfifaaQRegionMinimals1
import Derived.Test.YtihjbomgbbfifaaQRegionMinimals2
import Derived.Test.YtihjbomgbbfifaaQRegionMinimals3
import Derived.Test.YtihjbomgbbfifaaQRegionMinimals4
import Derived.Test.YtihjbomgbbfifaaBRegionMinimals
import Derived.Test.YtihjbomgbbfifaaVRegionMinimals
import Derived.Deep.Slices
import Derived.ChangeArms
/- General lemmas of this seat's proofs, in one text. -/
/- What the references' Name answers: the same of bytes as Names.nameB. -/
namespace Go.Proofs.Ytihjbomgbbfifaa.RName
open Go.RowKit Go.Proofs.Ytihjbomgbbfifaa.Pr Go.Proofs.Ytihjbomgbbfifaa.Evs Go.Proofs.Ytihjbomgbbfifaa.Names Go.Proofs.YtihjbomgbbfifaaW.PrintWords Go.Proofs.YtihjbomgbbfifaaW.PrintLast Go.Proofs.YtihjbomgbbfifaaW.PrintMore
set_option linter.unusedVariables false
set_option linter.unusedSimpArgs false

theorem bt_byte {s : ByteArray} {i : Nat} (h : i < s.size) : bt s (i : Int) = (byteAt s i : Int) := by
  rw [byteAt_get s i h]
  simp [bt, h]
set_option maxHeartbeats 2000000 in
theorem name_l0 (s : ByteArray) (h1 : 1 ≤ s.size) (h16 : s.size ≤ 16) : ∀ (d i : Nat), i ≤ s.size → s.size - i = d → (∀ j, j < i → okB j (byteAt s j) = true) → Ev (fun k => petrinetref09_Name.l0 k s (i : Int)) (nameB s) := by
  intro d
  induction d with
  | zero =>
    intro i hi hd hok
    obtain rfl : i = s.size := by omega
    refine Ev.succ ?_
    simp only [petrinetref09_Name.l0]
    exact Ev.neg (by omega) (Ev.val (nameB_true h1 h16 hok).symm)
  | succ d ih =>
    intro i hi hd hok
    have hlt : i < s.size := by omega
    have hb := bt_byte hlt
    obtain ⟨c, hc⟩ : ∃ c, byteAt s i = c := ⟨_, rfl⟩
    rw [hc] at hb
    have hgo : okB i c = true → Ev (fun k => petrinetref09_Name.l0 k s (wrap64 ((i : Int) + 1))) (nameB s) := by
      intro hk
      rw [wrap_succ (by omega)]
      refine ih (i + 1) (by omega) (by omega) (fun j hj => ?_)
      by_cases hji : j = i
      · subst hji; rw [hc]; exact hk
      · exact hok j (by omega)
    have hstop : okB i c = false → Ev (fun _ : Nat => some false) (nameB s) := fun hk => Ev.val (nameB_false hlt (by rw [hc]; exact hk)).symm
    refine Ev.succ ?_
    simp only [petrinetref09_Name.l0, hb]
    refine Ev.pos (by omega) (Ev.pos (by omega) ?_)
    repeat' (refine Ev.ite (fun _ => ?_) (fun _ => ?_))
    all_goals first
      | exact hgo (okB_of (by omega))
      | exact hstop (okB_not (by omega))
      | (exfalso; omega)
theorem rname (s : ByteArray) : Ev (fun k => petrinetref09_Name.f k s) (nameB s) := by
  unfold petrinetref09_Name.f
  have hj : ∀ b : Bool, (b = true → nameB s = false) → (b = false → 1 ≤ s.size ∧ s.size ≤ 16) → Ev (fun k => petrinetref09_Name.j0 k s b) (nameB s) := by
    intro b ht hf
    refine Ev.succ ?_
    simp only [petrinetref09_Name.j0]
    refine Ev.ite (fun h => Ev.val (ht h).symm) (fun h => ?_)
    obtain ⟨h1, h2⟩ := hf (by simpa using h)
    exact name_l0 s h1 h2 _ 0 (by omega) rfl (fun j hj => by omega)
  refine Ev.ite (fun h => hj true (fun _ => ?_) (fun h => by cases h)) (fun h => hj _ (fun h2 => ?_) (fun h2 => ?_))
  · unfold nameB; rw [decide_eq_false (show ¬ 1 ≤ s.size by omega)]; rfl
  · have h3 := of_decide_eq_true h2
    unfold nameB; rw [decide_eq_false (show ¬ s.size ≤ 16 by omega)]; simp
  · have h3 := of_decide_eq_false h2
    omega
end Go.Proofs.Ytihjbomgbbfifaa.RName

/- What the functions of package bitset answer, told of vectors of bits. -/
namespace Go.Proofs.Ytihjbomgbbfifaa.Sets
open Go.RowKit Go.Proofs.Ytihjbomgbbfifaa.Evs Go.Proofs.Ytihjbomgbbfifaa.Pr Go.Proofs.Ytihjbomgbbfifaa.Bits Go.Proofs.YtihjbomgbbfifaaW.PrintWords Go.Proofs.YtihjbomgbbfifaaW.PrintLast Go.Proofs.YtihjbomgbbfifaaW.PrintMore
set_option linter.unusedVariables false
set_option linter.unusedSimpArgs false


theorem has_U (a : BitVec 64) (i : Int) : bitset_Has.f (U a) i = some (decide (0 ≤ i) && a.getLsbD i.toNat) := by
  unfold bitset_Has.f
  by_cases h0 : 0 ≤ i
  · rw [if_pos h0]
    by_cases h1 : i < 64
    · obtain ⟨n, rfl⟩ := Int.eq_ofNat_of_zero_le h0
      rw [if_pos h1, wrap_idx h0 h1, if_pos h0, shr_at (by omega), bit_at]
      simp
    · rw [if_neg h1, BitVec.getLsbD_of_ge _ _ (by omega)]
      simp
  · rw [if_neg h0]; simp [h0]
def withB (a : BitVec 64) (i : Int) : BitVec 64 := if i < 0 then a else a ||| tp i.toNat
def withoutB (a : BitVec 64) (i : Int) : BitVec 64 := if i < 0 then a else a &&& ~~~ tp i.toNat
theorem tp_big {i : Nat} (h : 64 ≤ i) : tp i = 0#64 := by
  apply ext_bit
  intro j hj
  rw [tp_bit]
  simp
  omega
theorem elemsTo_U (a : BitVec 64) (k : Nat) : elemsTo (U a) k = els a k := by
  unfold elemsTo els
  congr 1
  funext i
  unfold bitAt
  exact bit_at a i
theorem len_U (a : BitVec 64) : bitset_Len.f (U a) = some ((els a 64).length : Int) := by unfold bitset_Len.f; rw [elemsTo_U]
def subS (a b : BitVec 64) : Bool := decide (a &&& ~~~b = 0#64)
theorem subB_U (a b : BitVec 64) : subB (U a) (U b) = subS a b := by
  unfold subB subS
  rw [bits_andNot, Bool.eq_iff_iff]
  simp [U_eq_zero]
theorem subset_U (a b : BitVec 64) : bitset_Subset.f (U a) (U b) = some (subS a b) := by
  rw [← subB_U]; rfl
theorem subS_iff {a b : BitVec 64} : subS a b = true ↔ ∀ i, a.getLsbD i = true → b.getLsbD i = true := by
  unfold subS
  rw [decide_eq_true_iff]
  constructor
  · intro h i hi
    have h2 : (a &&& ~~~b).getLsbD i = (0#64).getLsbD i := by rw [h]
    have hlt := BitVec.lt_of_getLsbD hi
    cases hb : b.getLsbD i with
    | true => rfl
    | false =>
      rw [BitVec.getLsbD_and, BitVec.getLsbD_not, BitVec.getLsbD_zero, hi, hb] at h2
      simp [hlt] at h2
  · intro h
    apply ext_bit
    intro i hi
    rw [BitVec.getLsbD_and, BitVec.getLsbD_not]
    cases ha : a.getLsbD i with
    | false => simp
    | true => simp [h i ha]
def nextB (s o : BitVec 64) : BitVec 64 × Bool := if s &&& ~~~o = 0#64 then (if s = o then (0#64, false) else ((s - o) &&& o, true)) else (0#64, false)
theorem next_U (s o : BitVec 64) : bitset_Next.f (U s) (U o) = some (U (nextB s o).1, (nextB s o).2) := by
  unfold bitset_Next.f nextB
  rw [bits_andNot]
  by_cases h : s &&& ~~~o = 0#64
  · rw [if_pos h, if_pos (U_eq_zero.2 h)]
    by_cases e : s = o
    · rw [if_pos e, if_pos (by rw [e])]; rfl
    · rw [if_neg e, if_neg (fun h2 => e (U_inj.1 h2)), wrap_sub, bits_and]
  · rw [if_neg h, if_neg (fun h2 => h (U_eq_zero.1 h2))]; rfl
/-- The numbers below k. -/
def allTo : Nat → BitVec 64
  | 0 => 0#64
  | k + 1 => allTo k ||| tp k
theorem allTo_bit (k i : Nat) : (allTo k).getLsbD i = (decide (i < k) && decide (i < 64)) := by
  induction k with
  | zero => simp [allTo]
  | succ k ih =>
    rw [allTo, BitVec.getLsbD_or, ih, tp_bit, Bool.eq_iff_iff]
    simp
    omega
theorem all_l0 (n : Int) : ∀ (d i : Nat), i ≤ 64 → (i : Int) ≤ max 0 n → (min n.toNat 64) - i = d → Ev (fun k => bitset_All.l0 k n (U (allTo i)) (i : Int)) (U (allTo (min n.toNat 64))) := by
  intro d
  induction d with
  | zero =>
    intro i h64 hi hd
    refine Ev.succ ?_
    simp only [bitset_All.l0]
    have e : min n.toNat 64 = i := by omega
    rw [e]
    refine Ev.same (funext fun k => ?_)
    by_cases h : (i : Int) < n
    · rw [if_pos h, if_neg (by omega)]
    · rw [if_neg h]
  | succ d ih =>
    intro i h64 hi hd
    refine Ev.succ ?_
    simp only [bitset_All.l0]
    have h2 := ih (i + 1) (by omega) (by omega) (by omega)
    refine Ev.congr (fun k => ?_) h2
    have hw : wrap64 ((i : Int) + 1) = ((i + 1 : Nat) : Int) := by unfold wrap64; omega
    rw [if_pos (by omega), if_pos (by omega), wrap_idx (by omega) (by omega), if_pos (by omega), shl_one (by omega), bits_or, hw]
    rfl
theorem all_U (n : Int) : Ev (fun k => bitset_All.f k n) (U (allTo (min n.toNat 64))) := by
  have := all_l0 n _ 0 (by omega) (by omega) rfl
  exact this
end Go.Proofs.Ytihjbomgbbfifaa.Sets

/- What the functions of the reference of bitset answer, told of vectors of bits. -/
namespace Go.Proofs.Ytihjbomgbbfifaa.Refs
open Go.RowKit Go.Proofs.Ytihjbomgbbfifaa.Evs Go.Proofs.Ytihjbomgbbfifaa.Pr Go.Proofs.Ytihjbomgbbfifaa.Bits Go.Proofs.Ytihjbomgbbfifaa.Sets Go.Proofs.YtihjbomgbbfifaaW.PrintWords Go.Proofs.YtihjbomgbbfifaaW.PrintLast Go.Proofs.YtihjbomgbbfifaaW.PrintMore
set_option linter.unusedVariables false
set_option linter.unusedSimpArgs false

theorem tp_double {i : Nat} (h : i + 1 < 64) : IntKind.u64.wrap (U (tp i) * 2) = U (tp (i + 1)) := by
  rw [U_tp (by omega), U_tp h, IntKind.wrap_u64, Int.pow_succ]
  have h1 : (2 : Int) ^ (i + 1) < 2 ^ 64 := by
    have : 2 ^ (i + 1) < 2 ^ 64 := Nat.pow_lt_pow_right (by decide) h
    have := (Int.ofNat_lt).2 this
    simpa using this
  have h0 : (0 : Int) < 2 ^ i := Int.pow_pos (by decide)
  rw [Int.pow_succ] at h1
  omega
theorem bit_l0 (n : Nat) (hn : n < 64) : ∀ (d i : Nat), i ≤ n → n - i = d → Ev (fun k => petrinetref06_bit.l0 k (n : Int) (U (tp i)) (i : Int)) (U (tp n)) := by
  intro d
  induction d with
  | zero =>
    intro i hi hd
    obtain rfl : i = n := by omega
    refine Ev.succ ?_
    simp only [petrinetref06_bit.l0]
    exact Ev.same (funext fun k => by rw [if_neg (by omega)])
  | succ d ih =>
    intro i hi hd
    refine Ev.succ ?_
    simp only [petrinetref06_bit.l0]
    refine Ev.congr (fun k => ?_) (ih (i + 1) (by omega) (by omega))
    rw [if_pos (by omega), tp_double (by omega), wrap_succ (by omega)]
theorem tp_zero : U (tp 0) = 1 := by rw [U_tp (by decide)]; rfl
theorem rbit {n : Nat} (hn : n < 64) : Ev (fun k => petrinetref06_bit.f k (n : Int)) (U (tp n)) := by
  have h := bit_l0 n hn _ 0 (by omega) rfl
  rw [tp_zero] at h
  exact h
theorem rhas (a : BitVec 64) (i : Int) : Ev (fun k => petrinetref06_Has.f k (U a) i) (decide (0 ≤ i) && a.getLsbD i.toNat) := by
  unfold petrinetref06_Has.f
  by_cases h0 : 0 ≤ i
  · by_cases h1 : i < 64
    · obtain ⟨n, rfl⟩ := Int.eq_ofNat_of_zero_le h0
      simp only [ge_iff_le, h0, h1, if_true]
      refine Ev.bind (rbit (by omega)) ?_
      have hne : ¬ U (tp n) = 0 := by
        rw [U_tp (by omega)]
        exact Int.ne_of_gt (Int.pow_pos (by decide))
      refine Ev.same (funext fun k => ?_)
      rw [if_neg hne]
      congr 1
      have e1 : Int.tdiv (U a) (U (tp n)) = U a / 2 ^ n := by
        rw [Int.tdiv_eq_ediv_of_nonneg (U_nonneg _), U_tp (by omega)]
      have e2 : IntKind.u64.wrap (U a / 2 ^ n) = U a / 2 ^ n := by
        rw [div_U, IntKind.wrap_u64]
        have := U_nonneg (a >>> n); have := U_lt (a >>> n); omega
      rw [e1, e2, Int.tmod_eq_emod_of_nonneg (by rw [div_U]; exact U_nonneg _), div_bit]
      cases hb : a.getLsbD n <;> simp [hb]
    · simp only [ge_iff_le, h0, h1, if_true, if_false]
      rw [BitVec.getLsbD_of_ge _ _ (by omega), Bool.and_false]
      exact Ev.now _
  · simp only [ge_iff_le, h0, if_false]
    exact Ev.same (funext fun k => by simp [h0])
theorem rlist_l0 (a : BitVec 64) : ∀ (d i : Nat), i ≤ 64 → 64 - i = d → Ev (fun k => petrinetref06_List.l0 k (U a) ((els a i).map Int.ofNat) (i : Int)) ((els a 64).map Int.ofNat) := by
  intro d
  induction d with
  | zero =>
    intro i hi hd
    obtain rfl : i = 64 := by omega
    refine Ev.succ ?_
    simp only [petrinetref06_List.l0]
    exact Ev.same (funext fun k => by rw [if_neg (by omega)])
  | succ d ih =>
    intro i hi hd
    refine Ev.succ ?_
    simp only [petrinetref06_List.l0]
    have c1 : (i : Int) < 64 := by omega
    simp only [c1, if_true]
    refine Ev.bind (rhas a i) ?_
    have h2 := ih (i + 1) (by omega) (by omega)
    rw [wrap_succ (by omega)]
    cases hb : a.getLsbD i with
    | true =>
      have hl := els_len a i
      rw [els_hit hb, List.map_append] at h2
      refine Ev.congr (fun k => ?_) h2
      simp [hb]
      intro h9
      omega
    | false =>
      rw [els_miss hb] at h2
      refine Ev.congr (fun k => ?_) h2
      simp [hb]
theorem rlist (a : BitVec 64) : Ev (fun k => petrinetref06_List.f k (U a)) ((els a 64).map Int.ofNat) := by
  have := rlist_l0 a _ 0 (by omega) rfl
  exact this
theorem rlen (a : BitVec 64) : Ev (fun k => petrinetref06_Len.f k (U a)) ((els a 64).length : Int) := by
  unfold petrinetref06_Len.f
  refine Ev.bind (rlist a) ?_
  exact Ev.same (funext fun k => by simp)
theorem rsubset_l0 (a b : BitVec 64) : ∀ (d i : Nat), i ≤ (els a 64).length → (els a 64).length - i = d → Ev (fun k => petrinetref06_Subset.l0 k (U b) ((els a 64).map Int.ofNat) (i : Int)) (((els a 64).drop i).all fun x => b.getLsbD x) := by
  have hl := els_len a 64
  intro d
  induction d with
  | zero =>
    intro i hi hd
    refine Ev.succ ?_
    simp only [petrinetref06_Subset.l0]
    rw [List.drop_of_length_le (by omega)]
    exact Ev.same (funext fun k => by rw [if_neg (by simp; omega)]; rfl)
  | succ d ih =>
    intro i hi hd
    have hlt : i < (els a 64).length := by omega
    have hrd : rd ((els a 64).map Int.ofNat) (i : Int) = (((els a 64)[i] : Nat) : Int) := by simp [rd, hlt]
    refine Ev.succ ?_
    simp only [petrinetref06_Subset.l0, List.length_map]
    have c1 : (i : Int) < ((els a 64).length : Int) := by omega
    have c2 : (0 : Int) ≤ (i : Int) := by omega
    simp only [c1, c2, if_true, hrd]
    refine Ev.bind (rhas b _) ?_
    rw [List.drop_eq_getElem_cons hlt, List.all_cons, wrap_succ (by omega)]
    have h2 := ih (i + 1) (by omega) (by omega)
    cases hb : b.getLsbD (els a 64)[i] with
    | true =>
      refine Ev.congr (fun k => ?_) (by simpa using h2)
      simp [hb]
    | false =>
      exact Ev.same (funext fun k => by simp [hb])
theorem subS_all (a b : BitVec 64) : ((els a 64).all fun x => b.getLsbD x) = subS a b := by
  rw [Bool.eq_iff_iff, List.all_eq_true, subS_iff]
  constructor
  · intro h i hi
    exact h i (mem_els.2 ⟨BitVec.lt_of_getLsbD hi, hi⟩)
  · intro h i hi
    exact h i (mem_els.1 hi).2
theorem rsubset (a b : BitVec 64) : Ev (fun k => petrinetref06_Subset.f k (U a) (U b)) (subS a b) := by
  unfold petrinetref06_Subset.f
  refine Ev.bind (rlist a) ?_
  have h := rsubset_l0 a b _ 0 (by omega) rfl
  rw [List.drop_zero, subS_all] at h
  exact h
theorem rall_l0 (n : Int) : ∀ (d i : Nat), i ≤ 64 → (i : Int) ≤ max 0 n → (min n.toNat 64) - i = d → Ev (fun k => petrinetref06_All.l0 k n (U (allTo i)) (i : Int)) (U (allTo (min n.toNat 64))) := by
  intro d
  induction d with
  | zero =>
    intro i h64 hi hd
    refine Ev.succ ?_
    simp only [petrinetref06_All.l0]
    have e : min n.toNat 64 = i := by omega
    rw [e]
    refine Ev.same (funext fun k => ?_)
    by_cases h : (i : Int) < 64
    · rw [if_pos h, if_neg (by omega)]
    · rw [if_neg h]
  | succ d ih =>
    intro i h64 hi hd
    refine Ev.succ ?_
    simp only [petrinetref06_All.l0]
    have h2 := ih (i + 1) (by omega) (by omega) (by omega)
    have c1 : (i : Int) < 64 := by omega
    have c2 : (i : Int) < n := by omega
    simp only [c1, c2, if_true]
    refine Ev.bind (rbit (by omega)) ?_
    have hz : (allTo i).getLsbD i = false := by rw [allTo_bit]; simp
    rw [wrap_succ (by omega), wrap_add, add_tp hz]
    exact h2
theorem rall (n : Int) : Ev (fun k => petrinetref06_All.f k n) (U (allTo (min n.toNat 64))) := by
  have := rall_l0 n _ 0 (by omega) (by omega) rfl
  exact this
theorem rints_l0 (l : List Int) (hl : l.length ≤ 9223372036854775806) : ∀ (d i : Nat), i ≤ l.length → l.length - i = d → Ev (fun k => petrinetref06_Ints.l0 k l l (i : Int)) true := by
  intro d
  induction d with
  | zero =>
    intro i hi hd
    refine Ev.succ ?_
    simp only [petrinetref06_Ints.l0]
    exact Ev.same (funext fun k => by rw [if_neg (by omega)])
  | succ d ih =>
    intro i hi hd
    refine Ev.succ ?_
    simp only [petrinetref06_Ints.l0]
    have c1 : (i : Int) < (l.length : Int) := by omega
    have c2 : (0 : Int) ≤ (i : Int) := by omega
    simp only [c1, c2, if_true]
    rw [wrap_succ (by omega)]
    exact ih (i + 1) (by omega) (by omega)
theorem rints (l : List Int) (hl : l.length ≤ 9223372036854775806) : Ev (fun k => petrinetref06_Ints.f k l l) true := by
  unfold petrinetref06_Ints.f
  have h := rints_l0 l hl _ 0 (by omega) rfl
  refine Ev.congr (fun k => ?_) h
  simp
theorem rsame_l0 (l : List Int) (hl : l.length ≤ 9223372036854775806) : ∀ (d i : Nat), i ≤ l.length → l.length - i = d → Ev (fun k => petrinetref06_Same.l0 k l l (i : Int)) true := by
  intro d
  induction d with
  | zero =>
    intro i hi hd
    refine Ev.succ ?_
    simp only [petrinetref06_Same.l0]
    exact Ev.same (funext fun k => by rw [if_neg (by omega)])
  | succ d ih =>
    intro i hi hd
    refine Ev.succ ?_
    simp only [petrinetref06_Same.l0]
    have c1 : (i : Int) < (l.length : Int) := by omega
    have c2 : (0 : Int) ≤ (i : Int) := by omega
    simp only [c1, c2, if_true]
    rw [wrap_succ (by omega)]
    exact ih (i + 1) (by omega) (by omega)
theorem rsame (l : List Int) (hl : l.length ≤ 9223372036854775806) : Ev (fun k => petrinetref06_Same.f k l l) true := by
  unfold petrinetref06_Same.f
  have h := rsame_l0 l hl _ 0 (by omega) rfl
  refine Ev.congr (fun k => ?_) h
  simp

end Go.Proofs.Ytihjbomgbbfifaa.Refs

/- What package bitset's Minimal and Next answer: order, members, the next subset. -/
namespace Go.Proofs.Ytihjbomgbbfifaa.Mins
open Go.RowKit Go.Proofs.Ytihjbomgbbfifaa.Evs Go.Proofs.Ytihjbomgbbfifaa.Pr Go.Proofs.Ytihjbomgbbfifaa.Bits Go.Proofs.Ytihjbomgbbfifaa.Sets Go.Proofs.YtihjbomgbbfifaaW.PrintWords Go.Proofs.YtihjbomgbbfifaaW.PrintLast Go.Proofs.YtihjbomgbbfifaaW.PrintMore
set_option linter.unusedVariables false
set_option linter.unusedSimpArgs false

/-! ### the order -/
def lenV (a : BitVec 64) : Nat := (els a 64).length
def befV (a b : BitVec 64) : Bool := if lenV a = lenV b then decide (a.toNat < b.toNat) else decide (lenV a < lenV b)
theorem befV_iff {a b : BitVec 64} : befV a b = true ↔ lenV a < lenV b ∨ (lenV a = lenV b ∧ a.toNat < b.toNat) := by
  unfold befV
  split <;> simp <;> omega
theorem befV_irr (a : BitVec 64) : befV a a = false := by simp [befV]
theorem befV_trans {a b c : BitVec 64} (h : befV a b = true) (k : befV b c = true) : befV a c = true := by rw [befV_iff] at *; omega
theorem befV_tri {a b : BitVec 64} (h : befV a b = false) (k : befV b a = false) : a = b := by
  have h' : ¬ befV a b = true := by simp [h]
  have k' : ¬ befV b a = true := by simp [k]
  rw [befV_iff] at h' k'
  apply BitVec.eq_of_toNat_eq
  omega
theorem beforeB_U (a b : BitVec 64) : beforeB (U a) (U b) = befV a b := by
  unfold beforeB befV lenV
  rw [elemsTo_U, elemsTo_U]
  by_cases h : (els a 64).length = (els b 64).length
  · rw [if_pos h, if_pos (by omega), Bool.eq_iff_iff]; simp [U]
  · rw [if_neg h, if_neg (by omega), Bool.eq_iff_iff]; simp

/-! ### Minimal -/
def smallV (l : List (BitVec 64)) (s : BitVec 64) : Bool := l.all fun t => decide (t = s) || !subS t s
theorem smallestB_U (l : List (BitVec 64)) (s : BitVec 64) : smallestB (l.map U) (U s) = smallV l s := by
  unfold smallestB smallV
  rw [List.all_map]
  congr 1
  funext t
  simp only [Function.comp_apply, subB_U]
  congr 1
  rw [Bool.eq_iff_iff]; simp [U_inj]
def posV (out : List (BitVec 64)) (s : BitVec 64) : Nat := (out.takeWhile (befV · s)).length
theorem posOf_U (out : List (BitVec 64)) (s : BitVec 64) : posOf (out.map U) (U s) = posV out s := by
  unfold posOf posV
  rw [List.takeWhile_map, List.length_map]
  congr 2
  funext t
  exact beforeB_U t s
def insV (out : List (BitVec 64)) (s : BitVec 64) : List (BitVec 64) := if out[posV out s]? = some s then out else out.take (posV out s) ++ s :: out.drop (posV out s)
theorem insL_U (out : List (BitVec 64)) (s : BitVec 64) : insL (out.map U) (U s) = (insV out s).map U := by
  unfold insL insV
  rw [posOf_U]
  by_cases h : out[posV out s]? = some s
  · rw [if_pos h, if_pos (by rw [List.getElem?_map, h]; rfl)]
  · rw [if_neg h, if_neg]
    · simp
    · rw [List.getElem?_map]
      intro e
      apply h
      cases ho : out[posV out s]? with
      | none => rw [ho] at e; cases e
      | some x => rw [ho] at e; simp at e; rw [U_inj.1 e]
def minV (l : List (BitVec 64)) : List (BitVec 64) := l.foldl (fun out s => if smallV l s then insV out s else out) []
theorem minimalL_U (l : List (BitVec 64)) : minimalL (l.map U) = (minV l).map U := by
  unfold minimalL minV
  suffices h : ∀ (m : List (BitVec 64)) (out : List (BitVec 64)), (m.map U).foldl (stepL (l.map U)) (out.map U) = (m.foldl (fun out s => if smallV l s then insV out s else out) out).map U by
    exact h l []
  intro m
  induction m with
  | nil => intro out; rfl
  | cons s m ih =>
    intro out
    rw [List.map_cons, List.foldl_cons, List.foldl_cons]
    have e : stepL (l.map U) (out.map U) (U s) = (if smallV l s then insV out s else out).map U := by
      unfold stepL
      rw [smallestB_U]
      split
      · exact insL_U out s
      · rfl
    rw [e]
    exact ih _
theorem minimal_U (l : List (BitVec 64)) (hl : l.length ≤ 1099511627776) : bitset_Minimal.f (l.map U) = some ((minV l).map U) := by
  unfold bitset_Minimal.f
  rw [if_pos (by simpa using hl), minimalL_U]

def SortV (out : List (BitVec 64)) : Prop := out.Pairwise (fun a b => befV a b = true)
theorem mem_insV {out : List (BitVec 64)} {s x : BitVec 64} : x ∈ insV out s ↔ x ∈ out ∨ x = s := by
  unfold insV
  split
  · rename_i h
    constructor
    · exact .inl
    · rintro (h' | rfl)
      · exact h'
      · exact List.mem_of_getElem? h
  · rw [List.mem_append, List.mem_cons]
    have h : x ∈ out ↔ x ∈ out.take (posV out s) ∨ x ∈ out.drop (posV out s) := by
      rw [← List.mem_append, List.take_append_drop]
    rw [h]
    constructor
    · rintro (h | h | h)
      · exact .inl (.inl h)
      · exact .inr h
      · exact .inl (.inr h)
    · rintro ((h | h) | h)
      · exact .inl h
      · exact .inr (.inr h)
      · exact .inr (.inl h)
theorem tw_take {α : Type} (p : α → Bool) : ∀ l : List α, l.take (l.takeWhile p).length = l.takeWhile p
  | [] => rfl
  | x :: l => by
    rw [List.takeWhile_cons]
    split
    · rw [List.length_cons, List.take_succ_cons, tw_take p l]
    · rfl
theorem tw_all {α : Type} (p : α → Bool) {x : α} : ∀ l : List α, x ∈ l.takeWhile p → p x = true
  | [], h => by cases h
  | y :: l, h => by
    rw [List.takeWhile_cons] at h
    split at h
    · rcases List.mem_cons.1 h with rfl | h
      · assumption
      · exact tw_all p l h
    · cases h
theorem tw_stop {α : Type} (p : α → Bool) : ∀ (l : List α) {x : α}, l[(l.takeWhile p).length]? = some x → p x = false
  | [], x, h => by simp at h
  | y :: l, x, h => by
    rw [List.takeWhile_cons] at h
    split at h
    · rw [List.length_cons, List.getElem?_cons_succ] at h
      exact tw_stop p l h
    · simp at h
      subst h
      rename_i hy
      simpa using hy
theorem take_bef {out : List (BitVec 64)} {s x : BitVec 64} (h : x ∈ out.take (posV out s)) : befV x s = true := by
  unfold posV at h
  rw [tw_take] at h
  exact tw_all (befV · s) _ h
/-- Behind the place of s nothing of a sorted list comes before s. -/
theorem drop_bef {out : List (BitVec 64)} (hs : SortV out) {s x : BitVec 64} (h : x ∈ out.drop (posV out s)) : befV x s = false := by
  obtain ⟨i, hi, rfl⟩ := List.mem_iff_getElem.1 h
  rw [List.getElem_drop]
  simp at hi
  have h0 : posV out s < out.length := by omega
  have hst : befV out[posV out s] s = false := tw_stop (befV · s) out (show out[(out.takeWhile (befV · s)).length]? = some out[posV out s] from List.getElem?_eq_getElem h0)
  by_cases e : i = 0
  · subst e; simpa using hst
  · have hlt := List.pairwise_iff_getElem.1 hs (posV out s) (posV out s + i) h0 (by omega) (by omega)
    cases hb : befV out[posV out s + i] s with
    | false => rfl
    | true => rw [befV_trans hlt hb] at hst; cases hst
theorem sort_insV {out : List (BitVec 64)} (hs : SortV out) (s : BitVec 64) : SortV (insV out s) := by
  unfold insV
  split
  · exact hs
  · rename_i h
    unfold SortV
    rw [List.pairwise_append]
    refine ⟨List.Pairwise.sublist (List.take_sublist _ _) hs, ?_, ?_⟩
    · rw [List.pairwise_cons]
      refine ⟨fun x hx => ?_, List.Pairwise.sublist (List.drop_sublist _ _) hs⟩
      have h1 := drop_bef hs hx
      cases hb : befV s x with
      | true => rfl
      | false =>
        exfalso
        have e := befV_tri h1 hb
        subst e
        obtain ⟨i, hi, hx'⟩ := List.mem_iff_getElem.1 hx
        simp at hi
        rw [List.getElem_drop] at hx'
        by_cases e0 : i = 0
        · subst e0
          apply h
          rw [List.getElem?_eq_getElem (by omega)]
          simpa using hx'
        · have hlt := List.pairwise_iff_getElem.1 hs (posV out x) (posV out x + i) (by omega) (by omega) (by omega)
          rw [hx'] at hlt
          have := tw_stop (befV · x) out (show out[(out.takeWhile (befV · x)).length]? = some out[posV out x] from by rw [List.getElem?_eq_getElem]; rfl)
          rw [this] at hlt; cases hlt
    · intro x hx y hy
      have h1 := take_bef hx
      rcases List.mem_cons.1 hy with rfl | hy
      · exact h1
      · rw [← List.take_append_drop (posV out s) out] at hs
        exact (List.pairwise_append.1 hs).2.2 x hx y hy
theorem sort_minV (l : List (BitVec 64)) : SortV (minV l) := by
  unfold minV
  suffices h : ∀ (m out : List (BitVec 64)), SortV out → SortV (m.foldl (fun out s => if smallV l s then insV out s else out) out) from h l [] List.Pairwise.nil
  intro m
  induction m with
  | nil => intro out h; exact h
  | cons s m ih =>
    intro out h
    rw [List.foldl_cons]
    apply ih
    split
    · exact sort_insV h s
    · exact h
theorem mem_minV {l : List (BitVec 64)} {x : BitVec 64} : x ∈ minV l ↔ x ∈ l ∧ smallV l x = true := by
  unfold minV
  suffices h : ∀ (m out : List (BitVec 64)), x ∈ m.foldl (fun out s => if smallV l s then insV out s else out) out ↔ x ∈ out ∨ (x ∈ m ∧ smallV l x = true) by
    rw [h]; simp
  intro m
  induction m with
  | nil => intro out; simp
  | cons s m ih =>
    intro out
    rw [List.foldl_cons, ih]
    by_cases hs : smallV l s = true
    · rw [if_pos hs, mem_insV, List.mem_cons]
      constructor
      · rintro ((h | rfl) | ⟨h, k⟩)
        · exact .inl h
        · exact .inr ⟨.inl rfl, hs⟩
        · exact .inr ⟨.inr h, k⟩
      · rintro (h | ⟨rfl | h, k⟩)
        · exact .inl (.inl h)
        · exact .inl (.inr rfl)
        · exact .inr ⟨h, k⟩
    · rw [if_neg hs, List.mem_cons]
      constructor
      · rintro (h | ⟨h, k⟩)
        · exact .inl h
        · exact .inr ⟨.inr h, k⟩
      · rintro (h | ⟨rfl | h, k⟩)
        · exact .inl h
        · exact absurd k hs
        · exact .inr ⟨h, k⟩
theorem sort_nodup {l : List (BitVec 64)} (h : SortV l) : l.Nodup := by
  refine List.Pairwise.imp ?_ h
  intro a b hab e
  subst e
  rw [befV_irr] at hab; cases hab
theorem minV_len (l : List (BitVec 64)) : (minV l).length ≤ l.length := by
  have h := minimalTo_len (l.map U) (l.map U) []
  have e : (l.map U).foldl (stepL (l.map U)) [] = (minV l).map U := minimalL_U l
  rw [e] at h
  simpa using h
theorem smallV_iff {l : List (BitVec 64)} {s : BitVec 64} : smallV l s = true ↔ ∀ t ∈ l, subS t s = true → t = s := by
  unfold smallV
  rw [List.all_eq_true]
  constructor
  · intro h t ht hs
    have := h t ht
    simpa [hs] using this
  · intro h t ht
    cases hs : subS t s with
    | false => simp
    | true => simp [h t ht hs]
/-- A subset that is another set is a smaller number. -/
theorem sub_lt {a b : BitVec 64} (h : subS a b = true) (hne : a ≠ b) : a.toNat < b.toNat := by
  have hle : a.toNat ≤ b.toNat := by
    have e : a = a &&& b := by
      apply ext_bit
      intro i hi
      rw [BitVec.getLsbD_and]
      cases ha : a.getLsbD i with
      | false => simp
      | true => simp [subS_iff.1 h i ha]
    rw [e, BitVec.toNat_and]
    exact Nat.and_le_right
  rcases Nat.lt_or_eq_of_le hle with h2 | h2
  · exact h2
  · exact absurd (BitVec.eq_of_toNat_eq h2) hne
theorem subS_trans {a b c : BitVec 64} (h : subS a b = true) (k : subS b c = true) : subS a c = true := subS_iff.2 (fun i hi => subS_iff.1 k i (subS_iff.1 h i hi))
theorem subS_refl (a : BitVec 64) : subS a a = true := subS_iff.2 (fun _ h => h)
/-- Every set of the list has a subset among the minimal ones. -/
theorem minV_covers {l : List (BitVec 64)} : ∀ (n : Nat) (x : BitVec 64), x ∈ l → x.toNat ≤ n → ∃ m ∈ minV l, subS m x = true := by
  intro n
  induction n with
  | zero =>
    intro x hx hn
    refine ⟨x, mem_minV.2 ⟨hx, smallV_iff.2 (fun t ht hs => ?_)⟩, subS_refl x⟩
    apply Classical.byContradiction
    intro hne
    have := sub_lt hs hne
    omega
  | succ n ih =>
    intro x hx hn
    by_cases hs : smallV l x = true
    · exact ⟨x, mem_minV.2 ⟨hx, hs⟩, subS_refl x⟩
    · rw [smallV_iff] at hs
      have : ∃ t, t ∈ l ∧ subS t x = true ∧ t ≠ x := by
        apply Classical.byContradiction
        intro hno
        apply hs
        intro t ht hst
        apply Classical.byContradiction
        intro hne
        exact hno ⟨t, ht, hst, hne⟩
      obtain ⟨t, ht, hst, hne⟩ := this
      have hlt := sub_lt hst hne
      obtain ⟨m, hm, hmt⟩ := ih t ht (by omega)
      exact ⟨m, hm, subS_trans hmt hst⟩
theorem minV_anti {l : List (BitVec 64)} {a b : BitVec 64} (ha : a ∈ minV l) (hb : b ∈ minV l) (h : subS a b = true) : a = b :=
  smallV_iff.1 (mem_minV.1 hb).2 a (mem_minV.1 ha).1 h

/-! ### Next -/
/-- m is the least number of o that s lacks. -/
def Lacks (s o : BitVec 64) (m : Nat) : Prop := o.getLsbD m = true ∧ s.getLsbD m = false ∧ ∀ j, j < m → o.getLsbD j = true → s.getLsbD j = true
theorem lacks_of {s o : BitVec 64} (h : subS s o = true) (hne : s ≠ o) : ∃ m, Lacks s o m := by
  have hex : ∃ m, o.getLsbD m = true ∧ s.getLsbD m = false := by
    apply Classical.byContradiction
    intro hno
    apply hne
    apply ext_bit
    intro i hi
    cases hs : s.getLsbD i with
    | true => exact (subS_iff.1 h i hs).symm
    | false =>
      cases ho : o.getLsbD i with
      | false => rfl
      | true => exact absurd ⟨i, ho, hs⟩ hno
  obtain ⟨m, hm⟩ := hex
  have key : ∀ n, (∃ m, m ≤ n ∧ o.getLsbD m = true ∧ s.getLsbD m = false) → ∃ m, Lacks s o m := by
    intro n
    induction n with
    | zero =>
      rintro ⟨m, hm, h1, h2⟩
      exact ⟨m, h1, h2, fun j hj => absurd hj (by omega)⟩
    | succ n ih =>
      rintro ⟨m, hm, h1, h2⟩
      by_cases hl : ∃ j, j ≤ n ∧ o.getLsbD j = true ∧ s.getLsbD j = false
      · exact ih hl
      · refine ⟨m, h1, h2, fun j hj ho => ?_⟩
        cases hs : s.getLsbD j with
        | true => rfl
        | false => exact absurd ⟨j, by omega, ho, hs⟩ hl
  exact key m ⟨m, Nat.le_refl _, hm⟩
theorem neg_bits {t : BitVec 64} {m : Nat} (hlow : ∀ i, i < m → t.getLsbD i = false) (hm : t.getLsbD m = true) (j : Nat) (hj : j < 64) : (-t).getLsbD j = (if j < m then false else if j = m then true else !t.getLsbD j) := by
  rw [BitVec.getLsbD_neg, decide_eq_true hj, Bool.true_and]
  by_cases c1 : j < m
  · rw [if_pos c1, hlow j c1, decide_eq_false]
    · rfl
    · rintro ⟨i, hi, hb⟩
      rw [hlow i (by omega)] at hb; cases hb
  · rw [if_neg c1]
    by_cases c2 : j = m
    · subst c2
      rw [if_pos rfl, hm, decide_eq_false]
      · rfl
      · rintro ⟨i, hi, hb⟩
        rw [hlow i hi] at hb; cases hb
    · rw [if_neg c2, decide_eq_true (⟨m, by omega, hm⟩ : ∃ i, i < j ∧ t.getLsbD i = true), Bool.xor_true]
theorem next_bit {s o : BitVec 64} (h : subS s o = true) {m : Nat} (hm : Lacks s o m) (j : Nat) (hj : j < 64) : ((s - o) &&& o).getLsbD j = (if j < m then false else if j = m then true else s.getLsbD j) := by
  obtain ⟨h1, h2, h3⟩ := hm
  have hlt : m < 64 := BitVec.lt_of_getLsbD h1
  have tb : ∀ i, i < 64 → (o &&& ~~~s).getLsbD i = (o.getLsbD i && !s.getLsbD i) := by
    intro i hi
    rw [BitVec.getLsbD_and, BitVec.getLsbD_not, decide_eq_true hi, Bool.true_and]
  have ht : s + (o &&& ~~~s) = o := by
    rw [add_or]
    · apply ext_bit
      intro i hi
      rw [BitVec.getLsbD_or, tb i hi]
      cases hs : s.getLsbD i with
      | true => simp [subS_iff.1 h i hs]
      | false => simp
    · apply ext_bit
      intro i hi
      rw [BitVec.getLsbD_and, tb i hi]
      cases s.getLsbD i <;> simp
  have e : s - o = -(o &&& ~~~s) := by
    have h9 : s - (s + (o &&& ~~~s)) = -(o &&& ~~~s) := by
      rw [BitVec.sub_eq_add_neg, BitVec.neg_add, BitVec.sub_eq_add_neg, ← BitVec.add_assoc, ← BitVec.sub_eq_add_neg s s, BitVec.sub_self, BitVec.zero_add]
    rwa [ht] at h9
  rw [e, BitVec.getLsbD_and, neg_bits (m := m) _ _ j hj]
  · by_cases c1 : j < m
    · rw [if_pos c1, if_pos c1]; rfl
    · rw [if_neg c1, if_neg c1]
      by_cases c2 : j = m
      · subst c2; rw [if_pos rfl, if_pos rfl, h1]; rfl
      · rw [if_neg c2, if_neg c2, tb j hj]
        cases hs : s.getLsbD j with
        | true => simp [subS_iff.1 h j hs]
        | false => cases o.getLsbD j <;> simp
  · intro i hi
    rw [tb i (by omega)]
    cases ho : o.getLsbD i with
    | false => rfl
    | true => rw [h3 i hi ho]; rfl
  · rw [tb m hlt, h1, h2]; rfl

end Go.Proofs.Ytihjbomgbbfifaa.Mins

/- What the reference's Minimal answers. -/
namespace Go.Proofs.Ytihjbomgbbfifaa.RMins
set_option linter.unusedVariables false
set_option linter.unusedSimpArgs false
open Go.RowKit Go.Proofs.Ytihjbomgbbfifaa.Evs Go.Proofs.Ytihjbomgbbfifaa.Pr Go.Proofs.Ytihjbomgbbfifaa.Bits Go.Proofs.Ytihjbomgbbfifaa.Sets Go.Proofs.Ytihjbomgbbfifaa.Mins Go.Proofs.Ytihjbomgbbfifaa.Refs Go.Proofs.YtihjbomgbbfifaaW.PrintWords Go.Proofs.YtihjbomgbbfifaaW.PrintLast Go.Proofs.YtihjbomgbbfifaaW.PrintMore

theorem map_U {l : List Int} (h : ∀ x ∈ l, (Lit.int .u64 x).wf = true) : ∃ v : List (BitVec 64), l = v.map U := by
  induction l with
  | nil => exact ⟨[], rfl⟩
  | cons x l ih =>
    obtain ⟨v, rfl⟩ := ih (fun y hy => h y (List.mem_cons_of_mem _ hy))
    obtain ⟨a, rfl⟩ := U_of (h x List.mem_cons_self)
    exact ⟨a :: v, rfl⟩
theorem rdU (v : List (BitVec 64)) {i : Nat} (h : i < v.length) : rd (v.map U) (i : Int) = U v[i] := by simp [rd, h]
theorem rbefore (a b : BitVec 64) : Ev (fun k => petrinetref06_before.f k (U a) (U b)) (befV a b) := by
  unfold petrinetref06_before.f
  refine Ev.bind (rlen a) ?_
  refine Ev.bind (rlen b) ?_
  by_cases h : ((els a 64).length : Int) < ((els b 64).length : Int)
  · simp only [h, if_true]
    have : befV a b = true := befV_iff.2 (.inl (by unfold lenV; omega))
    rw [this]; exact Ev.now _
  · simp only [h, if_false]
    refine Ev.bind (rlen a) ?_
    refine Ev.bind (rlen b) ?_
    refine Ev.same (funext fun k => ?_)
    unfold befV lenV
    by_cases e : (els a 64).length = (els b 64).length
    · rw [if_pos (by omega), if_pos e]
      congr 1
      rw [Bool.eq_iff_iff]; simp [U]
    · rw [if_neg (by omega), if_neg e]
      congr 1
      symm
      simp; omega
theorem rminimal_l0 (l : List (BitVec 64)) (hl : l.length ≤ 100000) (s : BitVec 64) : ∀ (d i : Nat), i ≤ l.length → l.length - i = d → Ev (fun k => petrinetref06_minimal.l0 k (l.map U) (U s) (i : Int)) (smallV (l.drop i) s) := by
  intro d
  induction d with
  | zero =>
    intro i hi hd
    refine Ev.succ ?_
    simp only [petrinetref06_minimal.l0, List.length_map]
    rw [List.drop_of_length_le (by omega)]
    exact Ev.same (funext fun k => by rw [if_neg (by omega)]; rfl)
  | succ d ih =>
    intro i hi hd
    have hlt : i < l.length := by omega
    refine Ev.succ ?_
    simp only [petrinetref06_minimal.l0, List.length_map]
    have c1 : (i : Int) < (l.length : Int) := by omega
    have c2 : (0 : Int) ≤ (i : Int) := by omega
    simp only [c1, c2, if_true, rdU l hlt, wrap_succ (show i < 9223372036854775807 by omega)]
    have h2 := ih (i + 1) (by omega) (by omega)
    have e : smallV (l.drop i) s = ((decide (l[i] = s) || !subS l[i] s) && smallV (l.drop (i + 1)) s) := by
      rw [List.drop_eq_getElem_cons hlt]; rfl
    rw [e]
    by_cases hs : l[i] = s
    · simp only [hs, if_true, decide_true, Bool.true_or, Bool.true_and]
      exact h2
    · have hs' : ¬ U l[i] = U s := fun h => hs (U_inj.1 h)
      simp only [hs', if_false, decide_eq_false hs, Bool.false_or]
      refine Ev.bind (rsubset _ _) ?_
      cases hb : subS l[i] s with
      | true =>
        simp only [if_true, Bool.not_true, Bool.false_and]
        exact Ev.now _
      | false =>
        simp only [if_neg (show ¬ (false = true) by decide), Bool.not_false, Bool.true_and]
        exact h2
theorem rminimal (l : List (BitVec 64)) (hl : l.length ≤ 100000) (s : BitVec 64) : Ev (fun k => petrinetref06_minimal.f k (l.map U) (U s)) (smallV l s) := by
  have h := rminimal_l0 l hl s _ 0 (by omega) rfl
  rw [List.drop_zero] at h
  exact h
/-- Where s stands among the first i of a sorted list. -/
def atV (out : List (BitVec 64)) (s : BitVec 64) (i : Nat) : Nat := ((out.take i).takeWhile (befV · s)).length
theorem sort_take {out : List (BitVec 64)} (h : SortV out) (i : Nat) : SortV (out.take i) := List.Pairwise.sublist (List.take_sublist _ _) h
theorem atV_step {out : List (BitVec 64)} (hs : SortV out) {s : BitVec 64} {i : Nat} (hi : i < out.length) : atV out s (i + 1) = if befV out[i] s = true then i + 1 else atV out s i := by
  unfold atV
  rw [List.take_succ_eq_append_getElem hi]
  have hall : befV out[i] s = true → ∀ x ∈ out.take i, befV x s = true := by
    intro hb x hx
    obtain ⟨q, hq, rfl⟩ := List.mem_iff_getElem.1 hx
    simp at hq
    rw [List.getElem_take]
    exact befV_trans (List.pairwise_iff_getElem.1 hs q i (by omega) hi (by omega)) hb
  split
  · rename_i hb
    have h2 : (out.take i ++ [out[i]]).takeWhile (befV · s) = out.take i ++ [out[i]] := by
      rw [List.takeWhile_append_of_pos (hall hb)]
      simp [hb]
    rw [h2]; simp; omega
  · rename_i hb
    have hb' : befV out[i] s = false := by simpa using hb
    rw [List.takeWhile_append]
    split
    · rename_i h9
      rw [List.length_append, List.length_take, ← Nat.add_zero (List.length (List.takeWhile (befV · s) (List.take i out)))]
      rw [List.length_take] at h9
      rw [h9]
      simp [hb', List.takeWhile]
    · rfl
theorem atV_end {out : List (BitVec 64)} {s : BitVec 64} : atV out s out.length = posV out s := by unfold atV posV; rw [List.take_length]
theorem ins_twice {out : List (BitVec 64)} (hs : SortV out) {s : BitVec 64} : out[posV out s]? = some s ↔ s ∈ out := by
  constructor
  · exact fun h => List.mem_of_getElem? h
  · intro hm
    rw [← List.take_append_drop (posV out s) out, List.mem_append] at hm
    rcases hm with hm | hm
    · have := take_bef hm
      rw [befV_irr] at this; cases this
    · obtain ⟨i, hi, hx⟩ := List.mem_iff_getElem.1 hm
      simp at hi
      rw [List.getElem_drop] at hx
      by_cases e0 : i = 0
      · subst e0
        rw [List.getElem?_eq_getElem (by omega)]
        simpa using hx
      · exfalso
        have hlt := List.pairwise_iff_getElem.1 hs (posV out s) (posV out s + i) (by omega) (by omega) (by omega)
        rw [hx] at hlt
        have := tw_stop (befV · s) out (show out[(out.takeWhile (befV · s)).length]? = some out[posV out s] from by rw [List.getElem?_eq_getElem]; rfl)
        rw [this] at hlt; cases hlt

section
variable (l : List (BitVec 64)) (hl : l.length ≤ 100000)
include hl
theorem mins_l1 (out : List (BitVec 64)) (hs : SortV out) (ho : out.length ≤ 100000) (q : Nat) (hq : q < l.length) (r : List (BitVec 64))
    (rest : Ev (fun k => petrinetref06_Minimal.l0 k (l.map U) ((insV out l[q]).map U) ((q + 1 : Nat) : Int)) (r.map U)) : ∀ (d i : Nat), i ≤ out.length → out.length - i = d →
    Ev (fun k => petrinetref06_Minimal.l1 k (l.map U) (out.map U) (q : Int) ((atV out l[q] i : Nat) : Int) (decide (l[q] ∈ out.take i)) (i : Int)) (r.map U) := by
  intro d
  induction d with
  | zero =>
    intro i hi hd
    obtain rfl : i = out.length := by omega
    refine Ev.succ ?_
    simp only [petrinetref06_Minimal.l1, List.length_map, Int.lt_irrefl, if_false]
    rw [atV_end, List.take_length]
    have hp : posV out l[q] ≤ out.length := by unfold posV; exact (List.takeWhile_sublist _).length_le
    by_cases hm : l[q] ∈ out
    · simp only [hm, decide_true, if_true]
      rw [wrap_succ (by omega)]
      have e : insV out l[q] = out := by unfold insV; rw [if_pos ((ins_twice hs).2 hm)]
      rw [e] at rest
      exact rest
    · simp only [hm, decide_false, if_neg (show ¬ (false = true) by decide)]
      have e : insV out l[q] = out.take (posV out l[q]) ++ l[q] :: out.drop (posV out l[q]) := by unfold insV; rw [if_neg (fun h => hm ((ins_twice hs).1 h))]
      rw [e] at rest
      have c1 : (0 : Int) ≤ ((posV out l[q] : Nat) : Int) := by omega
      have c2 : ((posV out l[q] : Nat) : Int) ≤ (out.length : Int) := by omega
      have c3 : (0 : Int) ≤ (q : Int) := by omega
      have c4 : (q : Int) < (l.length : Int) := by omega
      simp only [c1, c2, c3, c4, if_true, Option.bind_some, List.length_nil, List.length_take, List.length_map, Int.toNat_natCast, List.nil_append, rdU l hq, List.length_append, List.length_cons, List.length_drop]
      have d1 : 0 + min (posV out l[q]) out.length < 17592186044416 := by omega
      have d2 : min (posV out l[q]) out.length < 17592186044416 := by omega
      have d3 : min (posV out l[q]) out.length + (0 + 1) + (out.length - posV out l[q]) < 17592186044416 := by omega
      simp only [d1, d2, d3, if_true]
      rw [wrap_succ (by omega)]
      have e2 : (out.map U).take (posV out l[q]) ++ [U l[q]] ++ (out.map U).drop (posV out l[q]) = (out.take (posV out l[q]) ++ l[q] :: out.drop (posV out l[q])).map U := by simp
      rw [e2]
      exact rest
  | succ d ih =>
    intro i hi hd
    have hlt : i < out.length := by omega
    have c1 : (i : Int) < (out.length : Int) := by omega
    have c2 : (0 : Int) ≤ (i : Int) := by omega
    have c3 : (0 : Int) ≤ (q : Int) := by omega
    have c4 : (q : Int) < (l.length : Int) := by omega
    have h2 := ih (i + 1) (by omega) (by omega)
    rw [atV_step hs hlt, List.take_succ_eq_append_getElem hlt] at h2
    refine Ev.succ ?_
    simp only [petrinetref06_Minimal.l1, List.length_map, c1, c2, c3, c4, if_true, rdU l hq, rdU out hlt, wrap_succ (show i < 9223372036854775807 by omega)]
    by_cases e : out[i] = l[q]
    · have hmem : decide (l[q] ∈ out.take i ++ [out[i]]) = true := by simp [e]
      rw [hmem] at h2
      simp only [e, if_true]
      refine Ev.bind (rbefore _ _) ?_
      rw [befV_irr]
      simp only [if_neg (show ¬ (false = true) by decide)]
      rw [e, befV_irr, if_neg (by decide)] at h2
      exact h2
    · have e' : ¬ U out[i] = U l[q] := fun h => e (U_inj.1 h)
      have hmem : decide (l[q] ∈ out.take i ++ [out[i]]) = decide (l[q] ∈ out.take i) := by
        have h9 : ¬ l[q] = out[i] := fun h => e h.symm
        rw [Bool.eq_iff_iff, decide_eq_true_iff, decide_eq_true_iff, List.mem_append, List.mem_singleton]
        exact ⟨fun h => h.elim id (fun h => absurd h h9), .inl⟩
      rw [hmem] at h2
      simp only [e', if_false]
      refine Ev.bind (rbefore _ _) ?_
      cases hb : befV out[i] l[q] with
      | true =>
        rw [hb, if_pos rfl] at h2
        simp only [if_true]
        exact h2
      | false =>
        rw [hb, if_neg (by decide)] at h2
        simp only [if_neg (show ¬ (false = true) by decide)]
        exact h2
theorem mins_l0 : ∀ (d q : Nat) (out : List (BitVec 64)), q ≤ l.length → l.length - q = d → SortV out → out.length ≤ q →
    Ev (fun k => petrinetref06_Minimal.l0 k (l.map U) (out.map U) (q : Int)) (((l.drop q).foldl (fun out s => if smallV l s then insV out s else out) out).map U) := by
  intro d
  induction d with
  | zero =>
    intro q out hq hd hs ho
    refine Ev.succ ?_
    simp only [petrinetref06_Minimal.l0, List.length_map]
    have c1 : ¬ (q : Int) < (l.length : Int) := by omega
    rw [List.drop_of_length_le (by omega)]
    simp only [c1, if_false]
    exact Ev.now _
  | succ d ih =>
    intro q out hq hd hs ho
    have hlt : q < l.length := by omega
    refine Ev.succ ?_
    simp only [petrinetref06_Minimal.l0, List.length_map]
    have c1 : (q : Int) < (l.length : Int) := by omega
    have c2 : (0 : Int) ≤ (q : Int) := by omega
    simp only [c1, c2, if_true, rdU l hlt]
    refine Ev.bind (rminimal l hl l[q]) ?_
    rw [List.drop_eq_getElem_cons hlt, List.foldl_cons]
    cases hb : smallV l l[q] with
    | true =>
      simp only [if_true]
      have hlen : (insV out l[q]).length ≤ q + 1 := by
        have h9 := insL_len (out.map U) (U l[q])
        rw [insL_U] at h9
        simp at h9; omega
      have h2 := ih (q + 1) (insV out l[q]) (by omega) (by omega) (sort_insV hs _) hlen
      have h3 := mins_l1 l hl out hs (by omega) q hlt _ h2 _ 0 (by omega) rfl
      have e1 : atV out l[q] 0 = 0 := rfl
      have e2 : decide (l[q] ∈ out.take 0) = false := by simp
      rw [e1, e2] at h3
      exact h3
    | false =>
      simp only [if_neg (show ¬ (false = true) by decide)]
      rw [wrap_succ (by omega)]
      exact ih (q + 1) out (by omega) (by omega) hs (by omega)
end

end Go.Proofs.Ytihjbomgbbfifaa.RMins

/- A datum that is read deep (the statements' reader) told as the walks tell it: rows of rows, texts, numbers. -/
namespace Go.Proofs.Ytihjbomgbbfifaa.Opens
set_option linter.unusedVariables false
open Go.RowKit Go.WideShapes Go.Deep Go.Proofs.YtihjbomgbbfifaaW.PrintWords

/-- What the statements' reader finds at cells of type t is what d tells of some a with ok. -/
structure Opens {α H : Type} (enc : TypeId × Value → H) (P : Program) (w : World) (base : Nat) (spare : Nat → Bool) (held : Bool) (d : Kd α) (t : TypeId) (ok : α → Prop) : Prop where
  cells : P.cellsOf t = d.sz
  opens : ∀ (fuel : Nat) (cs : List Value) (x : DataW H × List MemPlace), DataW.trod enc P w base spare held fuel t cs = some x → ∃ a, d.K w a cs ∧ ok a

section
variable {H : Type} {enc : TypeId × Value → H} {P : Program} {w : World} {base : Nat} {spare : Nat → Bool} {held : Bool}
theorem string {t : TypeId} (ht : P.underlying t = some .string) (hc : P.cellsOf t = 1) : Opens enc P w base spare held Kd.string t (fun s => s.size ≤ maxLen) :=
  ⟨hc, fun fuel cs x h => by obtain ⟨s, rfl, _, hs⟩ := DataW.trod_string ht h; exact ⟨s, rfl, hs⟩⟩
theorem bool {t : TypeId} (ht : P.underlying t = some .bool) (hc : P.cellsOf t = 1) : Opens enc P w base spare held Kd.bool t (fun _ => True) :=
  ⟨hc, fun fuel cs x h => by obtain ⟨s, rfl, _⟩ := DataW.trod_bool ht h; exact ⟨s, rfl, trivial⟩⟩
theorem int {t : TypeId} {k : IntKind} (ht : P.underlying t = some (.int k)) (hc : P.cellsOf t = 1) : Opens enc P w base spare held (Kd.int k) t (fun n => (Lit.int k n).wf = true) :=
  ⟨hc, fun fuel cs x h => by obtain ⟨s, rfl, _, hs⟩ := DataW.trod_int ht h; exact ⟨s, rfl, hs⟩⟩
theorem list_of {α : Type} {p : Nat → α → Prop} : ∀ (n : Nat), (∀ i, i < n → ∃ a, p i a) → ∃ xs : List α, xs.length = n ∧ ∀ i a, xs[i]? = some a → p i a
  | 0, _ => ⟨[], rfl, fun i a h => by simp at h⟩
  | n + 1, h => by
    obtain ⟨xs, hl, hx⟩ := list_of n (fun i hi => h i (by omega))
    obtain ⟨a, ha⟩ := h n (by omega)
    refine ⟨xs ++ [a], by simp [hl], fun i b hb => ?_⟩
    by_cases hi : i < xs.length
    · rw [List.getElem?_append_left hi] at hb; exact hx i b hb
    · have hlt := (List.getElem?_eq_some_iff.1 hb).1
      simp only [List.length_append, List.length_cons, List.length_nil] at hlt
      obtain rfl : i = n := by omega
      rw [List.getElem?_append_right (by omega)] at hb
      simp [hl] at hb
      rw [← hb]; exact ha
theorem slice {α : Type} {d : Kd α} {t e : TypeId} {ok : α → Prop} (h : Opens enc P w base spare held d e ok) (ht : P.underlying t = some (.slice e)) (hc : P.cellsOf t = 1) :
    Opens enc P w base spare held (Kd.slice e d) t (fun xs => xs.length ≤ maxLen ∧ ∀ x ∈ xs, ok x) := by
  refine ⟨hc, fun fuel cs x hx => ?_⟩
  rcases open_slice ht hx with ⟨rfl, _⟩ | ⟨a, len, cap, m, n, D, Pl, rfl, _, hl, hm, hmm, _, hi⟩
  · exact ⟨[], ⟨none, 0, rfl, Nat.le_refl _, Kd.C_nil _ _⟩, by simp, by simp⟩
  · have hlm : len ≤ m := by rw [hmm]; split <;> omega
    obtain ⟨xs, hxl, hxs⟩ := list_of (p := fun i b => ∃ c, c.length = d.sz ∧ d.K w b c ∧ ok b ∧ ∀ j u, c[j]? = some u → w.cell? (a.add (i * d.sz + j)) = some u) len (fun i hlt => by
      obtain ⟨cs', h1, h2⟩ := hi i (by omega)
      obtain ⟨b, hK, hok⟩ := h.opens _ _ _ h2
      obtain ⟨_, hlen, hcell⟩ := World.cells?_some h1
      refine ⟨b, cs', by rw [hlen, h.cells], hK, hok, fun j u hu => ?_⟩
      have hj := (List.getElem?_eq_some_iff.1 hu).1
      rw [← hu, ← hcell j (by omega), h.cells, Addr.add_add])
    subst hxl
    refine ⟨xs, ⟨some a, cap, rfl, hl, rfl, by unfold maxLen at hm; omega, fun _ => ⟨a, rfl, fun j p hp => ?_⟩⟩, by omega, fun y hy => ?_⟩
    · obtain ⟨c, h1, h2, _, h4⟩ := hxs j p hp
      exact ⟨c, h1, h2, h4⟩
    · obtain ⟨j, hj⟩ := List.mem_iff_getElem?.1 hy
      obtain ⟨c, _, _, h3, _⟩ := hxs j y hj
      exact h3
/-- A parameter that is a row. -/
theorem param {α : Type} {d : Kd α} {t e : TypeId} {ok : α → Prop} (h : Opens enc P w base spare held d e ok) (ht : P.underlying t = some (.slice e)) (hc : P.cellsOf t = 1) {a : Option Addr} {len cap : Nat} {D : DataW H} {ps : List MemPlace}
    (hd : DataW.Trod enc P w base spare held t (.slice a len cap) D ps) : ∃ xs : List α, len = xs.length ∧ xs.length ≤ cap ∧ d.C w a xs.length xs ∧ xs.length ≤ maxLen ∧ ∀ x ∈ xs, ok x := by
  obtain ⟨fuel, hf⟩ := hd
  obtain ⟨xs, ⟨A, c, he, hcap, hC⟩, hl, hx⟩ := (slice h ht hc).opens _ _ _ hf
  have he' : [Value.slice a len cap] = [.slice A xs.length c] := he
  simp only [List.cons.injEq, Value.slice.injEq, and_true] at he'
  obtain ⟨rfl, rfl, rfl⟩ := he'
  exact ⟨xs, rfl, hcap, hC, hl, hx⟩
/-! ### Structs -/
/-- The fields of a struct, from some place of its cells on. -/
structure OpensL {α H : Type} (enc : TypeId × Value → H) (P : Program) (w : World) (base : Nat) (spare : Nat → Bool) (held : Bool) (d : Kd α) (fs : List Field) (o : Nat) (ok : α → Prop) : Prop where
  opens : ∀ (n : Nat) (cs : List Value), (∀ f ∈ fs, ∃ y, DataW.trod enc P w base spare held n f.type ((cs.drop f.offset).take (P.cellsOf f.type)) = some y) → ∃ a, d.K w a ((cs.drop o).take d.sz) ∧ ok a
theorem one {α : Type} {d : Kd α} {f : Field} {o : Nat} {ok : α → Prop} (h : Opens enc P w base spare held d f.type ok) (ho : f.offset = o) : OpensL enc P w base spare held d [f] o ok :=
  ⟨fun n cs hf => by
    obtain ⟨y, hy⟩ := hf f List.mem_cons_self
    obtain ⟨a, hK, hok⟩ := h.opens _ _ _ hy
    rw [h.cells, ho] at hK
    exact ⟨a, hK, hok⟩⟩
theorem cons {α β : Type} {d1 : Kd α} {d2 : Kd β} {f : Field} {fs : List Field} {o o2 : Nat} {ok1 : α → Prop} {ok2 : β → Prop} (h : Opens enc P w base spare held d1 f.type ok1) (ho : f.offset = o) (ho2 : o + d1.sz = o2) (h2 : OpensL enc P w base spare held d2 fs o2 ok2) :
    OpensL enc P w base spare held (Kd.pair d1 d2) (f :: fs) o (fun a => ok1 a.1 ∧ ok2 a.2) :=
  ⟨fun n cs hf => by
    obtain ⟨y, hy⟩ := hf f List.mem_cons_self
    obtain ⟨a, hK, hok⟩ := h.opens _ _ _ hy
    rw [h.cells, ho] at hK
    obtain ⟨b, hK2, hok2⟩ := h2.opens n cs (fun g hg => hf g (List.mem_cons_of_mem _ hg))
    refine ⟨(a, b), ⟨_, _, ?_, hK, hK2⟩, hok, hok2⟩
    rw [← ho2, ← List.drop_drop]
    exact List.take_add⟩
theorem tuple {α : Type} {d : Kd α} {t : TypeId} {fs : Array Field} {ok : α → Prop} (ht : P.underlying t = some (.struct fs)) (hc : P.cellsOf t = d.sz) (h : OpensL enc P w base spare held d fs.toList 0 ok) : Opens enc P w base spare held d t ok := by
  refine ⟨hc, fun fuel cs x hx => ?_⟩
  obtain ⟨xs, n, rfl, rfl, hl, hlen, hf⟩ := DataW.trod_struct ht hx
  obtain ⟨a, hK, hok⟩ := h.opens n cs (fun f hm => by
    obtain ⟨i, hi⟩ := List.mem_iff_getElem?.1 hm
    have hi' : fs[i]? = some f := by simpa using hi
    have hlt : i < xs.length := by rw [hlen]; exact (Array.getElem?_eq_some_iff.1 hi').1
    exact ⟨xs[i], by rw [hf i f hi', List.getElem?_eq_getElem hlt]⟩)
  rw [List.drop_zero, List.take_of_length_le (by rw [hl, hc]; exact Nat.le_refl _)] at hK
  exact ⟨a, hK, hok⟩
theorem struct {α β : Type} {d : Kd α} {t : TypeId} {fs : Array Field} {ok : α → Prop} {f : β → α} (g : α → β) (hg : ∀ a, f (g a) = a) (ht : P.underlying t = some (.struct fs)) (hc : P.cellsOf t = d.sz) (h : OpensL enc P w base spare held d fs.toList 0 ok) :
    Opens enc P w base spare held (Kd.iso d f) t (fun b => ok (f b)) := by
  refine ⟨hc, fun fuel cs x hx => ?_⟩
  obtain ⟨a, hK, hok⟩ := (tuple ht hc h).opens fuel cs x hx
  exact ⟨g a, by show d.K w (f (g a)) cs; rw [hg]; exact hK, by rw [hg]; exact hok⟩
/-- A parameter that is a struct. -/
theorem value {α : Type} {d : Kd α} {t : TypeId} {ok : α → Prop} (h : Opens enc P w base spare held d t ok) {cs : Array Value} {D : DataW H} {ps : List MemPlace}
    (hd : DataW.Trod enc P w base spare held t (.agg cs) D ps) : ∃ a, d.K w a cs.toList ∧ ok a := by
  obtain ⟨fuel, hf⟩ := hd
  obtain ⟨a, hK, hok⟩ := h.opens _ _ _ hf
  exact ⟨a, by simpa [Value.cells] using hK, hok⟩
end
end Go.Proofs.Ytihjbomgbbfifaa.Opens

/- Systems: what the checks, the signs and the regions of program and reference answer. -/
namespace Go.Proofs.Ytihjbomgbbfifaa.Sys
open Go.RowKit Go.Proofs.Ytihjbomgbbfifaa.Pr Go.Proofs.Ytihjbomgbbfifaa.Evs Go.Proofs.Ytihjbomgbbfifaa.Names Go.Proofs.Ytihjbomgbbfifaa.RName Go.Proofs.Ytihjbomgbbfifaa.Bits Go.Proofs.Ytihjbomgbbfifaa.Sets Go.Proofs.Ytihjbomgbbfifaa.Refs Go.Proofs.YtihjbomgbbfifaaW.PrintWords Go.Proofs.YtihjbomgbbfifaaW.PrintLast Go.Proofs.YtihjbomgbbfifaaW.PrintMore
set_option linter.unusedVariables false
set_option linter.unusedSimpArgs false

abbrev E := S45
abbrev z0 : E := z45
theorem rd_T {l : List E} {i : Nat} : rd_T45 l (i : Int) = l.getD i z0 := by simp [rd_T45]
def dup (l : List ByteArray) (i : Nat) : Bool := (List.range i).any fun j => decide (l.getD j ByteArray.empty = l.getD i ByteArray.empty)
def namesGo (l : List ByteArray) : Nat → Nat → Option (Int × Int)
  | 0, _ => none
  | d + 1, i => if nameB (l.getD i ByteArray.empty) then (if dup l i then some (6, (i : Int)) else namesGo l d (i + 1)) else some (5, (i : Int))
def inR (a0 ne : Int) (x : E) : Bool := decide (0 ≤ x.f0 ∧ x.f0 < a0) && decide (0 ≤ x.f2 ∧ x.f2 < a0) && decide (0 ≤ x.f1 ∧ x.f1 < ne)
def ltE (x y : E) : Bool := if x.f0 = y.f0 then (if x.f1 = y.f1 then decide (x.f2 < y.f2) else decide (x.f1 < y.f1)) else decide (x.f0 < y.f0)
def arcsGo (a0 ne : Int) (l : List E) : Nat → Nat → Int × Int
  | 0, _ => (0, 0)
  | d + 1, i => if inR a0 ne (l.getD i z0) then (if 0 < i ∧ ltE (l.getD (i - 1) z0) (l.getD i z0) = false then (8, (i : Int)) else arcsGo a0 ne l d (i + 1)) else (1, (i : Int))
def checkS (a0 : Int) (l1 : List ByteArray) (l2 : List E) : Int × Int :=
  if a0 < 1 ∨ 200 < a0 ∨ 24 < l1.length then (2, 0) else match namesGo l1 l1.length 0 with
    | some e => e
    | none => arcsGo a0 l1.length l2 l2.length 0

theorem rdE {l : List ByteArray} {i : Nat} : rdOf ByteArray.empty l (i : Int) = l.getD i ByteArray.empty := by simp [rdOf]
theorem inside_f (v n : Int) : system_Check_1.f v n = some (decide (0 ≤ v ∧ v < n)) := by
  unfold system_Check_1.f
  by_cases h : v ≥ 0
  · rw [if_pos h]; simp [show 0 ≤ v from h]
  · rw [if_neg h]; simp [show ¬ 0 ≤ v from h]
theorem before_E (x y : E) : system_before.f x.f0 x.f1 x.f2 y.f0 y.f1 y.f2 = some (ltE x y) := by
  unfold system_before.f ltE
  split
  · split <;> rfl
  · rfl
theorem echeck_l2 (a0 : Int) (l1 : List ByteArray) (l2 : List E) (hl : l2.length ≤ 400) : ∀ (d i : Nat), i ≤ l2.length → l2.length - i = d → Ev (fun k => system_Check.l2 k l2 (l2.length : Int) (i : Int) a0 l1 l2) (arcsGo a0 l1.length l2 d i) := by
  intro d
  induction d with
  | zero =>
    intro i hi hd
    refine Ev.succ ?_
    simp only [system_Check.l2]
    exact Ev.neg (by omega) (Ev.now _)
  | succ d ih =>
    intro i hi hd
    have hlt : i < l2.length := by omega
    have hih := ih (i + 1) (by omega) (by omega)
    refine Ev.succ ?_
    simp only [system_Check.l2, inside_f, Option.bind_some, rd_T, arcsGo]
    have hj : ∀ b : Bool, b = !inR a0 l1.length (l2.getD i z0) → Ev (fun k => system_Check.j4 k (i : Int) l2 (l2.length : Int) (i : Int) b a0 l1 l2 (l2.getD i z0).f0 (l2.getD i z0).f1 (l2.getD i z0).f2) (if inR a0 l1.length (l2.getD i z0) then (if 0 < i ∧ ltE (l2.getD (i - 1) z0) (l2.getD i z0) = false then (8, (i : Int)) else arcsGo a0 l1.length l2 d (i + 1)) else (1, (i : Int))) := by
      intro b hb
      refine Ev.succ ?_
      simp only [system_Check.j4]
      cases hr : inR a0 l1.length (l2.getD i z0) with
      | false => rw [hr] at hb; exact Ev.pos hb (Ev.now _)
      | true =>
        rw [hr] at hb
        refine Ev.neg (by simp [hb]) ?_
        refine Ev.ite (fun h => ?_) (fun h => ?_)
        · rw [wrap_pred (by omega) (by omega)]
          refine Ev.pos (by omega) (Ev.pos (by omega) ?_)
          simp only [rd_T, before_E, Option.bind_some]
          rw [wrap_succ (by omega)]
          cases hlt2 : ltE (l2.getD (i - 1) z0) (l2.getD i z0) with
          | true => exact Ev.pos rfl (by simpa using hih)
          | false => exact Ev.neg (by simp) (Ev.val (by simp; omega))
        · rw [wrap_succ (by omega)]
          have : ¬ (0 < i) := by omega
          simpa [this] using hih
    refine Ev.pos (by omega) (Ev.pos (by omega) (Ev.pos (by omega) ?_))
    refine Ev.ite (fun h0 => Ev.ite (fun h2 => hj _ ?_) (fun h2 => hj _ ?_)) (fun h0 => hj _ ?_)
    · unfold inR; rw [h0, h2]; rfl
    · unfold inR; rw [h0, show decide (0 ≤ (l2.getD i z0).f2 ∧ (l2.getD i z0).f2 < a0) = false from by simpa using h2]; rfl
    · unfold inR; rw [show decide (0 ≤ (l2.getD i z0).f0 ∧ (l2.getD i z0).f0 < a0) = false from by simpa using h0]; rfl
theorem any_range_succ (q : Nat) (f : Nat → Bool) : (List.range (q + 1)).any f = ((List.range q).any f || f q) := by simp [List.range_succ]
theorem echeck_l1 (a0 : Int) (l1 : List ByteArray) (l2 : List E) (i : Nat) (hi : i < l1.length) (hl : l1.length ≤ 400) (R : Int × Int) (hyes : dup l1 i = true → R = (6, (i : Int))) (hno : dup l1 i = false → Ev (fun k => system_Check.l0 k l1 (l1.length : Int) (wrap64 ((i : Int) + 1)) a0 l1 l2) R) :
    ∀ (d q : Nat), q ≤ i → i - q = d → ((List.range q).any fun j => decide (l1.getD j ByteArray.empty = l1.getD i ByteArray.empty)) = false → Ev (fun k => system_Check.l1 k (i : Int) (l1.getD i ByteArray.empty) l1 (l1.length : Int) (i : Int) (l1.take i) (i : Int) (q : Int) a0 l1 l2) R := by
  intro d
  induction d with
  | zero =>
    intro q hq hd hn
    obtain rfl : q = i := by omega
    refine Ev.succ ?_
    simp only [system_Check.l1]
    exact Ev.neg (by omega) (hno hn)
  | succ d ih =>
    intro q hq hd hn
    refine Ev.succ ?_
    simp only [system_Check.l1]
    have hlen : (l1.take i).length = i := by rw [List.length_take]; omega
    refine Ev.pos (by omega) (Ev.pos (by omega) (Ev.pos (by omega) ?_))
    have hrd : rdOf ByteArray.empty (l1.take i) (q : Int) = l1.getD q ByteArray.empty := by
      rw [rdE, List.getD_eq_getElem?_getD, List.getElem?_take, if_pos (by omega), ← List.getD_eq_getElem?_getD]
    rw [hrd]
    refine Ev.ite (fun h => Ev.val (hyes ?_).symm) (fun h => ?_)
    · rw [bytes_eq] at h
      unfold dup
      rw [List.any_eq_true]
      exact ⟨q, List.mem_range.2 (by omega), by rw [h]; simp⟩
    · rw [bytes_eq] at h
      rw [wrap_succ (by omega)]
      exact ih (q + 1) (by omega) (by omega) (by rw [any_range_succ, hn]; simp; exact fun e => h e.symm)
theorem echeck_l0 (a0 : Int) (l1 : List ByteArray) (l2 : List E) (hl1 : l1.length ≤ 400) (hl2 : l2.length ≤ 400) : ∀ (d i : Nat), i ≤ l1.length → l1.length - i = d → Ev (fun k => system_Check.l0 k l1 (l1.length : Int) (i : Int) a0 l1 l2) (match namesGo l1 d i with | some e => e | none => arcsGo a0 l1.length l2 l2.length 0) := by
  intro d
  induction d with
  | zero =>
    intro i hi hd
    refine Ev.succ ?_
    simp only [system_Check.l0]
    exact Ev.neg (by omega) (echeck_l2 a0 l1 l2 hl2 _ 0 (by omega) rfl)
  | succ d ih =>
    intro i hi hd
    have hlt : i < l1.length := by omega
    have hih := ih (i + 1) (by omega) (by omega)
    refine Ev.succ ?_
    simp only [system_Check.l0, system_name.f, Option.bind_some, rdE, namesGo, Int.toNat_natCast]
    have hlen : (l1.take i).length = i := by rw [List.length_take]; omega
    refine Ev.pos (by omega) (Ev.pos (by omega) (Ev.pos (by omega) ?_))
    refine Ev.ite (fun h => Ev.pos (by omega) ?_) (fun h => Ev.val ?_)
    · rw [hlen]
      refine echeck_l1 a0 l1 l2 i hlt hl1 _ (fun h2 => ?_) (fun h2 => ?_) _ 0 (by omega) rfl rfl
      · simp only [h, h2, if_true]
      · simp only [h, h2, if_true]
        rw [wrap_succ (by omega)]
        exact hih
    · simp only [h]; rfl
theorem echeck (a0 : Int) (l1 : List ByteArray) (l2 : List E) (hl1 : l1.length ≤ 400) (hl2 : l2.length ≤ 400) : Ev (fun k => system_Check.f k a0 l1 l2) (checkS a0 l1 l2) := by
  unfold system_Check.f checkS
  have hj : ∀ b : Bool, b = decide (a0 < 1 ∨ 200 < a0 ∨ 24 < l1.length) → Ev (fun k => system_Check.j0 k b a0 l1 l2) (if a0 < 1 ∨ 200 < a0 ∨ 24 < l1.length then (2, 0) else match namesGo l1 l1.length 0 with | some e => e | none => arcsGo a0 l1.length l2 l2.length 0) := by
    intro b hb
    refine Ev.succ ?_
    simp only [system_Check.j0]
    by_cases h : a0 < 1 ∨ 200 < a0 ∨ 24 < l1.length
    · rw [if_pos h]; exact Ev.pos (by rw [hb]; exact decide_eq_true h) (Ev.now _)
    · rw [if_neg h]; exact Ev.neg (by rw [hb, decide_eq_false h]; simp) (echeck_l0 a0 l1 l2 hl1 hl2 _ 0 (by omega) rfl)
  refine Ev.ite (fun h => hj _ ?_) (fun h => Ev.ite (fun h2 => hj _ ?_) (fun h2 => hj _ ?_))
  · exact (decide_eq_true (.inl h)).symm
  · exact (decide_eq_true (.inr (.inl h2))).symm
  · exact decide_eq_decide.2 (by omega)

/-! ### the reference's check -/
theorem cmp_step {A B : List Int} {i : Nat} (hA : i < A.length) (hB : i < B.length) (hl : A.length ≤ 1000) {R : Int} (h1 : A.getD i 0 < B.getD i 0 → R = -1) (h2 : B.getD i 0 < A.getD i 0 → R = 1) (h3 : A.getD i 0 = B.getD i 0 → Ev (fun k => petrinetref04_Compare.l0 k A B ((i + 1 : Nat) : Int)) R) : Ev (fun k => petrinetref04_Compare.l0 k A B (i : Int)) R := by
  have ea : rd A (i : Int) = A.getD i 0 := by simp [rd]
  have eb : rd B (i : Int) = B.getD i 0 := by simp [rd]
  refine Ev.succ ?_
  simp only [petrinetref04_Compare.l0]
  refine Ev.pos (by omega) ?_
  rw [decide_eq_true (show (i : Int) < (B.length : Int) by omega)]
  refine Ev.succ ?_
  simp only [petrinetref04_Compare.j1, ea, eb]
  rw [wrap_succ (by omega)]
  refine Ev.pos trivial (Ev.pos (by omega) (Ev.pos (by omega) (Ev.pos (by omega) ?_)))
  refine Ev.ite (fun h => Ev.val (h1 h).symm) (fun h => Ev.ite (fun h' => Ev.val (h2 h').symm) (fun h' => h3 (by omega)))
theorem cmp_end {A B : List Int} {i : Nat} (hA : A.length = i) (hB : B.length = i) : Ev (fun k => petrinetref04_Compare.l0 k A B (i : Int)) 0 := by
  refine Ev.succ ?_
  simp only [petrinetref04_Compare.l0]
  refine Ev.neg (by omega) (Ev.succ ?_)
  simp only [petrinetref04_Compare.j1]
  exact Ev.neg (by simp) (Ev.neg (by omega) (Ev.neg (by omega) (Ev.now _)))
theorem cmp3 (a b c x y z : Int) : ∃ r, Ev (fun k => petrinetref04_Compare.f k [a, b, c] [x, y, z]) r ∧ (r < 0 ↔ (a < x ∨ a = x ∧ (b < y ∨ b = y ∧ c < z))) := by
  let r : Int := if a < x then -1 else if x < a then 1 else if b < y then -1 else if y < b then 1 else if c < z then -1 else if z < c then 1 else 0
  refine ⟨r, ?_, ?_⟩
  · unfold petrinetref04_Compare.f
    refine cmp_step (i := 0) (by simp) (by simp) (by simp) (fun h => ?_) (fun h => ?_) (fun h => cmp_step (i := 1) (by simp) (by simp) (by simp) (fun h' => ?_) (fun h' => ?_) (fun h' => cmp_step (i := 2) (by simp) (by simp) (by simp) (fun h'' => ?_) (fun h'' => ?_) (fun h'' => ?_)))
    all_goals simp at *
    · simp [r, h]
    · have : ¬ a < x := by omega
      simp [r, h, this]
    · simp [r, h, h']
    · have : ¬ b < y := by omega
      simp [r, h, h', this]
    · simp [r, h, h', h'']
    · have : ¬ c < z := by omega
      simp [r, h, h', h'', this]
    · have e : r = 0 := by simp [r, h, h', h'']
      rw [e]; exact cmp_end (i := 3) rfl rfl
  · simp only [r]
    repeat' split
    all_goals omega
theorem rafter (x y : E) : Ev (fun k => petrinetref45_after.f k x.f0 x.f1 x.f2 y.f0 y.f1 y.f2) (ltE y x) := by
  unfold petrinetref45_after.f
  obtain ⟨r, h1, h2⟩ := cmp3 y.f0 y.f1 y.f2 x.f0 x.f1 x.f2
  refine Ev.bind h1 (Ev.val ?_)
  have e : (r < 0) ↔ ltE y x = true := by
    rw [h2]; unfold ltE
    split
    · split
      · simp; omega
      · simp; omega
    · simp; omega
  cases hl : ltE y x with
  | true => exact decide_eq_true (e.2 hl)
  | false => exact decide_eq_false (fun h => by rw [e.1 h] at hl; cases hl)
theorem rcheck_l1 (a0 : Int) (l1 : List ByteArray) (l2 : List E) (hl : l2.length ≤ 400) : ∀ (d i : Nat), i ≤ l2.length → l2.length - i = d → Ev (fun k => petrinetref45_Check.l1 k (i : Int) a0 l1 l2) (arcsGo a0 l1.length l2 d i) := by
  intro d
  induction d with
  | zero =>
    intro i hi hd
    refine Ev.succ ?_
    simp only [petrinetref45_Check.l1]
    exact Ev.neg (by omega) (Ev.now _)
  | succ d ih =>
    intro i hi hd
    have hlt : i < l2.length := by omega
    have hih := ih (i + 1) (by omega) (by omega)
    refine Ev.succ ?_
    simp only [petrinetref45_Check.l1, rd_T, arcsGo]
    have hj : ∀ b : Bool, b = !inR a0 l1.length (l2.getD i z0) → Ev (fun k => petrinetref45_Check.j3 k (i : Int) b a0 l1 l2 (l2.getD i z0).f0 (l2.getD i z0).f1 (l2.getD i z0).f2) (if inR a0 l1.length (l2.getD i z0) then (if 0 < i ∧ ltE (l2.getD (i - 1) z0) (l2.getD i z0) = false then (8, (i : Int)) else arcsGo a0 l1.length l2 d (i + 1)) else (1, (i : Int))) := by
      intro b hb
      refine Ev.succ ?_
      simp only [petrinetref45_Check.j3]
      cases hr : inR a0 l1.length (l2.getD i z0) with
      | false => rw [hr] at hb; exact Ev.pos hb (Ev.now _)
      | true =>
        rw [hr] at hb
        refine Ev.neg (by simp [hb]) ?_
        refine Ev.ite (fun h => ?_) (fun h => ?_)
        · rw [wrap_pred (by omega) (by omega)]
          refine Ev.pos (by omega) (Ev.pos (by omega) ?_)
          simp only [rd_T]
          refine Ev.bind (rafter _ _) ?_
          rw [wrap_succ (by omega)]
          cases hlt2 : ltE (l2.getD (i - 1) z0) (l2.getD i z0) with
          | true => exact Ev.pos rfl (by simpa using hih)
          | false => exact Ev.neg (by simp) (Ev.val (by simp; omega))
        · rw [wrap_succ (by omega)]
          have : ¬ (0 < i) := by omega
          simpa [this] using hih
    have hbad : ¬ (0 ≤ (l2.getD i z0).f0 ∧ (l2.getD i z0).f0 < a0 ∧ 0 ≤ (l2.getD i z0).f2 ∧ (l2.getD i z0).f2 < a0 ∧ 0 ≤ (l2.getD i z0).f1 ∧ (l2.getD i z0).f1 < (l1.length : Int)) → true = !inR a0 l1.length (l2.getD i z0) := by
      intro h
      have : inR a0 l1.length (l2.getD i z0) = false := by
        cases hr : inR a0 l1.length (l2.getD i z0) with
        | false => rfl
        | true => exfalso; unfold inR at hr; simp at hr; exact h ⟨hr.1.1.1, hr.1.1.2, hr.1.2.1, hr.1.2.2, hr.2.1, hr.2.2⟩
      rw [this]; rfl
    refine Ev.pos (by omega) (Ev.pos (by omega) ?_)
    refine Ev.ite (fun h => hj _ (hbad (by omega))) (fun h => Ev.ite (fun h2 => hj _ (hbad (by omega))) (fun h2 => Ev.ite (fun h3 => hj _ (hbad (by omega))) (fun h3 => Ev.ite (fun h4 => hj _ (hbad (by omega))) (fun h4 => Ev.ite (fun h5 => hj _ (hbad (by omega))) (fun h5 => hj _ ?_)))))
    unfold inR
    rw [decide_eq_true (show 0 ≤ (l2.getD i z0).f0 ∧ (l2.getD i z0).f0 < a0 by omega), decide_eq_true (show 0 ≤ (l2.getD i z0).f2 ∧ (l2.getD i z0).f2 < a0 by omega), Bool.true_and, Bool.true_and, ← decide_not]
    exact decide_eq_decide.2 (by omega)
theorem rat_l0 (l : List ByteArray) (hl : l.length ≤ 400) (i : Nat) (hi : i < l.length) : ∀ (d q : Nat), q ≤ i → i - q = d → ((List.range q).any fun j => decide (l.getD j ByteArray.empty = l.getD i ByteArray.empty)) = false → ∃ r : Int, Ev (fun k => petrinetref45_at.l0 k l (l.getD i ByteArray.empty) (q : Int)) r ∧ (r < (i : Int) ↔ dup l i = true) := by
  intro d
  induction d with
  | zero =>
    intro q hq hd hn
    obtain rfl : q = i := by omega
    refine ⟨(q : Int), ?_, ?_⟩
    · refine Ev.succ ?_
      simp only [petrinetref45_at.l0, rdE]
      exact Ev.pos (by omega) (Ev.pos (by omega) (Ev.pos (by trivial) (Ev.now _)))
    · unfold dup; rw [hn]; simp
  | succ d ih =>
    intro q hq hd hn
    by_cases h : (l.getD q ByteArray.empty).toList = (l.getD i ByteArray.empty).toList
    · refine ⟨(q : Int), ?_, ?_⟩
      · refine Ev.succ ?_
        simp only [petrinetref45_at.l0, rdE]
        exact Ev.pos (by omega) (Ev.pos (by omega) (Ev.pos h (Ev.now _)))
      · rw [bytes_eq] at h
        refine ⟨fun _ => ?_, fun _ => by omega⟩
        unfold dup
        rw [List.any_eq_true]
        exact ⟨q, List.mem_range.2 (by omega), by rw [h]; simp⟩
    · obtain ⟨r, h1, h2⟩ := ih (q + 1) (by omega) (by omega) (by rw [any_range_succ, hn]; rw [bytes_eq] at h; simp; exact h)
      refine ⟨r, ?_, h2⟩
      refine Ev.succ ?_
      simp only [petrinetref45_at.l0, rdE]
      rw [wrap_succ (by omega)]
      exact Ev.pos (by omega) (Ev.pos (by omega) (Ev.neg h h1))
theorem rcheck_l0 (a0 : Int) (l1 : List ByteArray) (l2 : List E) (hl1 : l1.length ≤ 400) (hl2 : l2.length ≤ 400) : ∀ (d i : Nat), i ≤ l1.length → l1.length - i = d → Ev (fun k => petrinetref45_Check.l0 k (i : Int) a0 l1 l2) (match namesGo l1 d i with | some e => e | none => arcsGo a0 l1.length l2 l2.length 0) := by
  intro d
  induction d with
  | zero =>
    intro i hi hd
    refine Ev.succ ?_
    simp only [petrinetref45_Check.l0]
    exact Ev.neg (by omega) (rcheck_l1 a0 l1 l2 hl2 _ 0 (by omega) rfl)
  | succ d ih =>
    intro i hi hd
    have hlt : i < l1.length := by omega
    have hih := ih (i + 1) (by omega) (by omega)
    refine Ev.succ ?_
    simp only [petrinetref45_Check.l0, rdE, namesGo]
    refine Ev.pos (by omega) (Ev.pos (by omega) (Ev.bind (rname _) ?_))
    refine Ev.ite (fun h => ?_) (fun h => Ev.val ?_)
    · obtain ⟨r, h1, h2⟩ := rat_l0 l1 hl1 i hlt _ 0 (by omega) rfl rfl
      refine Ev.bind h1 ?_
      rw [wrap_succ (by omega)]
      cases hdp : dup l1 i with
      | true => exact Ev.pos (h2.2 hdp) (Ev.val (by simp only [h, if_true]))
      | false => exact Ev.neg (fun h3 => by rw [h2.1 h3] at hdp; cases hdp) (by simp only [h, if_true, Bool.false_eq_true, if_false]; exact hih)
    · simp only [h]; rfl
theorem rcheck (a0 : Int) (l1 : List ByteArray) (l2 : List E) (hl1 : l1.length ≤ 400) (hl2 : l2.length ≤ 400) : Ev (fun k => petrinetref45_Check.f k a0 l1 l2) (checkS a0 l1 l2) := by
  unfold petrinetref45_Check.f checkS
  have hj : ∀ b : Bool, b = decide (a0 < 1 ∨ 200 < a0 ∨ 24 < l1.length) → Ev (fun k => petrinetref45_Check.j0 k b a0 l1 l2) (if a0 < 1 ∨ 200 < a0 ∨ 24 < l1.length then (2, 0) else match namesGo l1 l1.length 0 with | some e => e | none => arcsGo a0 l1.length l2 l2.length 0) := by
    intro b hb
    refine Ev.succ ?_
    simp only [petrinetref45_Check.j0]
    by_cases h : a0 < 1 ∨ 200 < a0 ∨ 24 < l1.length
    · rw [if_pos h]; exact Ev.pos (by rw [hb]; exact decide_eq_true h) (Ev.now _)
    · rw [if_neg h]; exact Ev.neg (by rw [hb, decide_eq_false h]; simp) (rcheck_l0 a0 l1 l2 hl1 hl2 _ 0 (by omega) rfl)
  refine Ev.ite (fun h => hj _ ?_) (fun h => Ev.ite (fun h2 => hj _ ?_) (fun h2 => hj _ ?_))
  · exact (decide_eq_true (.inl h)).symm
  · exact (decide_eq_true (.inr (.inl h2))).symm
  · exact decide_eq_decide.2 (by omega)
end Go.Proofs.Ytihjbomgbbfifaa.Sys

/- Signs of events, and which sets are regions. -/
namespace Go.Proofs.Ytihjbomgbbfifaa.Sys
open Go.RowKit Go.Proofs.Ytihjbomgbbfifaa.Pr Go.Proofs.Ytihjbomgbbfifaa.Evs Go.Proofs.Ytihjbomgbbfifaa.Names Go.Proofs.Ytihjbomgbbfifaa.RName Go.Proofs.Ytihjbomgbbfifaa.Bits Go.Proofs.Ytihjbomgbbfifaa.Sets Go.Proofs.Ytihjbomgbbfifaa.Refs Go.Proofs.YtihjbomgbbfifaaW.PrintWords Go.Proofs.YtihjbomgbbfifaaW.PrintLast Go.Proofs.YtihjbomgbbfifaaW.PrintMore
set_option linter.unusedVariables false
set_option linter.unusedSimpArgs false

theorem lives_now : petrinetlaw46_exampleHolds.f 100 = some true := by decide +kernel
theorem lives : Ev (fun k => petrinetlaw46_exampleHolds.f k) true := Ev.of petrinetlaw46_exampleHolds.mono lives_now
theorem lives' : Ev (fun k => (petrinetlaw46_exampleHolds.f k).bind fun t => some t) true := Ev.bind lives (Ev.now _)

def hasB (s : BitVec 64) (i : Int) : Bool := decide (0 ≤ i) && s.getLsbD i.toNat
def arcV (s : BitVec 64) (x : E) : Int := if hasB s x.f0 then (if hasB s x.f2 then 0 else -1) else (if hasB s x.f2 then 1 else 0)
def signGo (s : BitVec 64) (ev : Int) : List E → Option Int → Int × Bool
  | [], o => (o.getD 0, true)
  | a :: r, o => if a.f1 = ev then (if o = none ∨ o = some (arcV s a) then signGo s ev r (some (arcV s a)) else (0, false)) else signGo s ev r o
theorem earc (s : BitVec 64) (x : E) : Ev (fun k => region_arc.f k x.f0 x.f1 x.f2 (U s)) (arcV s x) := by
  unfold region_arc.f
  simp only [has_U, Option.bind_some]
  unfold arcV hasB
  cases h0 : (decide (0 ≤ x.f0) && s.getLsbD x.f0.toNat) <;> cases h2 : (decide (0 ≤ x.f2) && s.getLsbD x.f2.toNat)
  all_goals
    first
      | refine Ev.pos (by trivial) (Ev.succ ?_)
      | refine Ev.neg (by simp) (Ev.succ ?_)
    simp only [region_arc.j0]
    exact Ev.val (by simp)
theorem rcross (s : BitVec 64) (x : E) : Ev (fun k => petrinetref46_cross.f k (U s) x.f0 x.f1 x.f2) (arcV s x) := by
  unfold petrinetref46_cross.f
  refine Ev.bind (rhas s x.f0) (Ev.bind (rhas s x.f2) ?_)
  unfold arcV hasB
  cases h0 : (decide (0 ≤ x.f0) && s.getLsbD x.f0.toNat) <;> cases h2 : (decide (0 ≤ x.f2) && s.getLsbD x.f2.toNat)
  all_goals
    first
      | refine Ev.pos (by trivial) (Ev.succ ?_)
      | refine Ev.neg (by simp) (Ev.succ ?_)
    simp only [petrinetref46_cross.j0]
    exact Ev.val (by simp)
theorem drop_cons {α : Type} {l : List α} {i : Nat} (h : i < l.length) (d : α) : l.drop i = l.getD i d :: l.drop (i + 1) := by
  rw [List.drop_eq_getElem_cons h, List.getD_eq_getElem?_getD, List.getElem?_eq_getElem h]; rfl
theorem esign_l0 (s : BitVec 64) (ev : Int) (l : List E) (hl : l.length ≤ 400) : ∀ (d i : Nat) (o : Option Int), i ≤ l.length → l.length - i = d → Ev (fun k => region_sign.l0 k (U s) ev (o.getD 0) o.isNone l (l.length : Int) (i : Int)) (signGo s ev (l.drop i) o) := by
  intro d
  induction d with
  | zero =>
    intro i o hi hd
    refine Ev.succ ?_
    simp only [region_sign.l0]
    rw [List.drop_of_length_le (by omega)]
    exact Ev.neg (by omega) (Ev.now _)
  | succ d ih =>
    intro i o hi hd
    have hlt : i < l.length := by omega
    refine Ev.succ ?_
    simp only [region_sign.l0, rd_T]
    rw [drop_cons hlt z0, signGo, wrap_succ (by omega)]
    refine Ev.pos (by omega) (Ev.pos (by omega) (Ev.pos (by omega) ?_))
    by_cases he : (l.getD i z0).f1 = ev
    · rw [if_pos he]
      refine Ev.pos he (Ev.bind (earc s _) ?_)
      cases o with
      | none => rw [if_pos (.inl rfl)]; exact Ev.pos rfl (ih (i + 1) (some _) (by omega) (by omega))
      | some y =>
        refine Ev.neg (by simp) ?_
        by_cases hy : arcV s (l.getD i z0) = y
        · rw [if_pos (.inr (by rw [hy]))]
          exact Ev.pos hy (ih (i + 1) (some _) (by omega) (by omega))
        · rw [if_neg (by simp; exact fun e => hy e.symm)]
          exact Ev.neg hy (Ev.now _)
    · rw [if_neg he]
      exact Ev.neg he (ih (i + 1) o (by omega) (by omega))
theorem esign (a0 : Int) (l1 : List ByteArray) (l2 : List E) (hl : l2.length ≤ 400) (s : BitVec 64) (ev : Int) : Ev (fun k => region_sign.f k a0 l1 l2 (U s) ev) (signGo s ev l2 none) := esign_l0 s ev l2 hl _ 0 none (by omega) rfl
theorem rsign_l0 (a0 : Int) (l1 : List ByteArray) (s : BitVec 64) (ev : Int) (l : List E) (hl : l.length ≤ 400) : ∀ (d i : Nat) (o : Option Int), i ≤ l.length → l.length - i = d → Ev (fun k => petrinetref46_sign.l0 k (U s) ev o.isSome (o.getD 0) (i : Int) a0 l1 l) (signGo s ev (l.drop i) o) := by
  intro d
  induction d with
  | zero =>
    intro i o hi hd
    refine Ev.succ ?_
    simp only [petrinetref46_sign.l0]
    rw [List.drop_of_length_le (by omega)]
    exact Ev.neg (by omega) (Ev.now _)
  | succ d ih =>
    intro i o hi hd
    have hlt : i < l.length := by omega
    refine Ev.succ ?_
    simp only [petrinetref46_sign.l0, rd_T]
    rw [drop_cons hlt z0, signGo, wrap_succ (by omega)]
    refine Ev.pos (by omega) (Ev.pos (by omega) ?_)
    by_cases he : (l.getD i z0).f1 = ev
    · rw [if_pos he]
      refine Ev.pos he (Ev.bind (rcross s _) ?_)
      cases o with
      | none => rw [if_pos (.inl rfl)]; exact Ev.neg (by simp) (ih (i + 1) (some _) (by omega) (by omega))
      | some y =>
        refine Ev.pos rfl ?_
        by_cases hy : arcV s (l.getD i z0) = y
        · rw [if_pos (.inr (by rw [hy]))]
          exact Ev.pos hy (ih (i + 1) (some _) (by omega) (by omega))
        · rw [if_neg (by simp; exact fun e => hy e.symm)]
          exact Ev.neg hy (Ev.now _)
    · rw [if_neg he]
      exact Ev.neg he (ih (i + 1) o (by omega) (by omega))
theorem rsign (a0 : Int) (l1 : List ByteArray) (l2 : List E) (hl : l2.length ≤ 400) (s : BitVec 64) (ev : Int) : Ev (fun k => petrinetref46_sign.f k a0 l1 l2 (U s) ev) (signGo s ev l2 none) := rsign_l0 a0 l1 s ev l2 hl _ 0 none (by omega) rfl

/-! ### valid, and the sign -/
def validV (a0 : Int) (l1 : List ByteArray) (l2 : List E) (s : BitVec 64) : Bool := decide ((checkS a0 l1 l2).1 = 0) && (decide (a0 ≤ 64) && subS s (allTo (min a0.toNat 64)))
structure Few (l1 : List ByteArray) (l2 : List E) : Prop where
  ev : l1.length ≤ 70
  arcs : l2.length ≤ 400
theorem evalid {a0 : Int} {l1 : List ByteArray} {l2 : List E} (h : Few l1 l2) (s : BitVec 64) : Ev (fun k => region_valid.f k a0 l1 l2 (U s)) (validV a0 l1 l2 s) := by
  unfold region_valid.f validV
  have h1 := h.ev
  refine Ev.bind (echeck a0 l1 l2 (by omega) h.arcs) (Ev.ite (fun h => Ev.ite (fun h2 => Ev.bind (all_U a0) ?_) (fun h2 => Ev.val ?_)) (fun h => Ev.val ?_))
  · simp only [subset_U, Option.bind_some]
    exact Ev.val (by simp [h, h2])
  · simp [h2]
  · simp [h]
theorem rvalid {a0 : Int} {l1 : List ByteArray} {l2 : List E} (h : Few l1 l2) (s : BitVec 64) : Ev (fun k => petrinetref46_good.f k a0 l1 l2 (U s)) (validV a0 l1 l2 s) := by
  unfold petrinetref46_good.f petrinetref45_Valid.f validV
  have h1 := h.ev
  refine Ev.bind (Ev.bind (rcheck a0 l1 l2 (by omega) h.arcs) (Ev.now _)) (Ev.ite (fun h => Ev.ite (fun h2 => Ev.bind (rall a0) (Ev.bind (rsubset _ _) (Ev.val ?_))) (fun h2 => Ev.val ?_)) (fun h => Ev.val ?_))
  · simp at h; simp [h, h2]
  · simp [h2]
  · simp at h; simp [h]
def SignV (a0 : Int) (l1 : List ByteArray) (l2 : List E) (s : BitVec 64) (ev : Int) : Int × Bool := if validV a0 l1 l2 s = true ∧ 0 ≤ ev ∧ ev < l1.length then signGo s ev l2 none else (0, false)
theorem eSign {a0 : Int} {l1 : List ByteArray} {l2 : List E} (h : Few l1 l2) (s : BitVec 64) (ev : Int) : Ev (fun k => region_Sign.f k a0 l1 l2 (U s) ev) (SignV a0 l1 l2 s ev) := by
  unfold region_Sign.f SignV
  refine Ev.bind (evalid h s) (Ev.ite (fun h1 => Ev.ite (fun h2 => Ev.val ?_) (fun h2 => Ev.ite (fun h3 => Ev.val ?_) (fun h3 => Ev.bind (esign a0 l1 l2 h.arcs s ev) (Ev.val ?_)))) (fun h1 => Ev.val ?_))
  · rw [if_neg (by omega)]
  · rw [if_neg (by omega)]
  · rw [if_pos ⟨h1, by omega, by omega⟩]
  · rw [if_neg (fun h => h1 h.1)]
theorem rSign {a0 : Int} {l1 : List ByteArray} {l2 : List E} (h : Few l1 l2) (s : BitVec 64) (ev : Int) : Ev (fun k => petrinetref46_Sign.f k a0 l1 l2 (U s) ev) (SignV a0 l1 l2 s ev) := by
  unfold petrinetref46_Sign.f SignV
  refine Ev.bind (rvalid h s) (Ev.ite (fun h1 => Ev.ite (fun h2 => Ev.val ?_) (fun h2 => Ev.ite (fun h3 => Ev.val ?_) (fun h3 => Ev.bind (rsign a0 l1 l2 h.arcs s ev) (Ev.val ?_)))) (fun h1 => Ev.val ?_))
  · rw [if_neg (by omega)]
  · rw [if_neg (by omega)]
  · rw [if_pos ⟨h1, by omega, by omega⟩]
  · rw [if_neg (fun h => h1 h.1)]

/-! ### regions -/
/-- All events from i on have a sign. -/
def isGo (s : BitVec 64) (l2 : List E) : Nat → Nat → Bool
  | 0, _ => true
  | d + 1, i => (signGo s (i : Int) l2 none).2 && isGo s l2 d (i + 1)
theorem isGo_iff {s : BitVec 64} {l2 : List E} : ∀ {d i : Nat}, isGo s l2 d i = true ↔ ∀ e, i ≤ e → e < i + d → (signGo s (e : Int) l2 none).2 = true := by
  intro d
  induction d with
  | zero => intro i; simp [isGo]; intro e h1 h2; omega
  | succ d ih =>
    intro i
    rw [isGo, Bool.and_eq_true, ih]
    constructor
    · rintro ⟨h1, h2⟩ e he hl
      by_cases e1 : e = i
      · rw [e1]; exact h1
      · exact h2 e (by omega) (by omega)
    · intro h
      exact ⟨h i (by omega) (by omega), fun e h1 h2 => h e (by omega) (by omega)⟩
def isV (s : BitVec 64) (l1 : List ByteArray) (l2 : List E) : Bool := isGo s l2 l1.length 0
theorem eis_l0 (a0 : Int) (l1 : List ByteArray) (l2 : List E) (h : Few l1 l2) (s : BitVec 64) : ∀ (d i : Nat), i ≤ l1.length → l1.length - i = d → Ev (fun k => region_is.l0 k (U s) (l1.length : Int) (i : Int) a0 l1 l2) (isGo s l2 d i) := by
  have h1 := h.ev
  intro d
  induction d with
  | zero =>
    intro i hi hd
    refine Ev.succ ?_
    simp only [region_is.l0]
    exact Ev.neg (by omega) (Ev.now _)
  | succ d ih =>
    intro i hi hd
    have hih := ih (i + 1) (by omega) (by omega)
    refine Ev.succ ?_
    simp only [region_is.l0, isGo]
    rw [wrap_succ (by omega)]
    refine Ev.pos (by omega) (Ev.bind (esign a0 l1 l2 h.arcs s _) (Ev.ite (fun h2 => ?_) (fun h2 => Ev.val ?_)))
    · rw [h2, Bool.true_and]; exact hih
    · rw [Bool.eq_false_iff.2 h2]; rfl
theorem eis {a0 : Int} {l1 : List ByteArray} {l2 : List E} (h : Few l1 l2) (s : BitVec 64) : Ev (fun k => region_is.f k a0 l1 l2 (U s)) (isV s l1 l2) := eis_l0 a0 l1 l2 h s _ 0 (by omega) rfl
theorem ris_l0 (a0 : Int) (l1 : List ByteArray) (l2 : List E) (h : Few l1 l2) (s : BitVec 64) : ∀ (d i : Nat), i ≤ l1.length → l1.length - i = d → Ev (fun k => petrinetref46_region.l0 k (U s) (i : Int) a0 l1 l2) (isGo s l2 d i) := by
  have h1 := h.ev
  intro d
  induction d with
  | zero =>
    intro i hi hd
    refine Ev.succ ?_
    simp only [petrinetref46_region.l0]
    exact Ev.neg (by omega) (Ev.now _)
  | succ d ih =>
    intro i hi hd
    have hih := ih (i + 1) (by omega) (by omega)
    refine Ev.succ ?_
    simp only [petrinetref46_region.l0, isGo]
    rw [wrap_succ (by omega)]
    refine Ev.pos (by omega) (Ev.bind (rsign a0 l1 l2 h.arcs s _) (Ev.ite (fun h2 => ?_) (fun h2 => Ev.val ?_)))
    · rw [h2, Bool.true_and]; exact hih
    · rw [Bool.eq_false_iff.2 h2]; rfl
theorem ris {a0 : Int} {l1 : List ByteArray} {l2 : List E} (h : Few l1 l2) (s : BitVec 64) : Ev (fun k => petrinetref46_region.f k a0 l1 l2 (U s)) (isV s l1 l2) := ris_l0 a0 l1 l2 h s _ 0 (by omega) rfl
def IsV (a0 : Int) (l1 : List ByteArray) (l2 : List E) (s : BitVec 64) : Bool := validV a0 l1 l2 s && isV s l1 l2
theorem eIs {a0 : Int} {l1 : List ByteArray} {l2 : List E} (h : Few l1 l2) (s : BitVec 64) : Ev (fun k => region_Is.f k a0 l1 l2 (U s)) (IsV a0 l1 l2 s) := by
  unfold region_Is.f IsV
  refine Ev.bind (evalid h s) (Ev.ite (fun h1 => Ev.bind (eis h s) (Ev.val ?_)) (fun h1 => Ev.val ?_))
  · rw [h1]; rfl
  · rw [Bool.eq_false_iff.2 h1]; rfl
theorem rIs {a0 : Int} {l1 : List ByteArray} {l2 : List E} (h : Few l1 l2) (s : BitVec 64) : Ev (fun k => petrinetref46_Is.f k a0 l1 l2 (U s)) (IsV a0 l1 l2 s) := by
  unfold petrinetref46_Is.f IsV
  refine Ev.bind (rvalid h s) (Ev.ite (fun h1 => Ev.bind (ris h s) (Ev.val ?_)) (fun h1 => Ev.val ?_))
  · rw [h1]; rfl
  · rw [Bool.eq_false_iff.2 h1]; rfl

/-! ### the events with a sign -/
def withGo (s : BitVec 64) (l2 : List E) (want : Int) : Nat → Nat → List Int → List Int
  | 0, _, out => out
  | d + 1, i, out => withGo s l2 want d (i + 1) (if (signGo s (i : Int) l2 none).1 = want then out ++ [(i : Int)] else out)
def WithV (a0 : Int) (l1 : List ByteArray) (l2 : List E) (s : BitVec 64) (want : Int) : List Int := if IsV a0 l1 l2 s then withGo s l2 want l1.length 0 [] else []
theorem withGo_len {s : BitVec 64} {l2 : List E} {want : Int} : ∀ {d i : Nat} {out : List Int}, (withGo s l2 want d i out).length ≤ out.length + d
  | 0, _, _ => by simp [withGo]
  | d + 1, i, out => by
    rw [withGo]
    refine Nat.le_trans withGo_len ?_
    split
    · simp; omega
    · omega
theorem esigned_l0 (a0 : Int) (l1 : List ByteArray) (l2 : List E) (h : Few l1 l2) (s : BitVec 64) (want : Int) : ∀ (d i : Nat) (out : List Int), i ≤ l1.length → l1.length - i = d → out.length ≤ i → Ev (fun k => region_signed.l0 k (U s) want out (l1.length : Int) (i : Int) a0 l1 l2) (withGo s l2 want d i out) := by
  have h1 := h.ev
  intro d
  induction d with
  | zero =>
    intro i out hi hd ho
    refine Ev.succ ?_
    simp only [region_signed.l0]
    exact Ev.neg (by omega) (Ev.now _)
  | succ d ih =>
    intro i out hi hd ho
    refine Ev.succ ?_
    simp only [region_signed.l0, withGo]
    rw [wrap_succ (by omega)]
    refine Ev.pos (by omega) (Ev.bind (esign a0 l1 l2 h.arcs s _) (Ev.ite (fun h2 => Ev.pos (by omega) ?_) (fun h2 => ?_)))
    · rw [if_pos h2]; exact ih (i + 1) _ (by omega) (by omega) (by simp; omega)
    · rw [if_neg h2]; exact ih (i + 1) _ (by omega) (by omega) (by omega)
theorem esigned {a0 : Int} {l1 : List ByteArray} {l2 : List E} (h : Few l1 l2) (s : BitVec 64) (want : Int) : Ev (fun k => region_signed.f k a0 l1 l2 (U s) want) (WithV a0 l1 l2 s want) := by
  unfold region_signed.f WithV
  refine Ev.bind (eIs h s) (Ev.ite (fun h1 => ?_) (fun h1 => Ev.val ?_))
  · rw [if_pos h1]; exact esigned_l0 a0 l1 l2 h s want _ 0 [] (by omega) rfl (by simp)
  · rw [if_neg h1]
theorem ePre {a0 : Int} {l1 : List ByteArray} {l2 : List E} (h : Few l1 l2) (s : BitVec 64) : Ev (fun k => region_Pre.f k a0 l1 l2 (U s)) (WithV a0 l1 l2 s (-1)) := Ev.bind (esigned h s (-1)) (Ev.now _)
theorem ePost {a0 : Int} {l1 : List ByteArray} {l2 : List E} (h : Few l1 l2) (s : BitVec 64) : Ev (fun k => region_Post.f k a0 l1 l2 (U s)) (WithV a0 l1 l2 s 1) := Ev.bind (esigned h s 1) (Ev.now _)
theorem rwith_l0 (a0 : Int) (l1 : List ByteArray) (l2 : List E) (h : Few l1 l2) (s : BitVec 64) (want : Int) (hI : IsV a0 l1 l2 s = true) : ∀ (d i : Nat) (out : List Int), i ≤ l1.length → l1.length - i = d → out.length ≤ i → Ev (fun k => petrinetref46_With.l0 k (U s) want out (i : Int) a0 l1 l2) (withGo s l2 want d i out) := by
  have h1 := h.ev
  intro d
  induction d with
  | zero =>
    intro i out hi hd ho
    refine Ev.succ ?_
    simp only [petrinetref46_With.l0]
    refine Ev.neg (by omega) (Ev.succ ?_)
    simp only [petrinetref46_With.j1]
    exact Ev.neg (by simp) (Ev.now _)
  | succ d ih =>
    intro i out hi hd ho
    refine Ev.succ ?_
    simp only [petrinetref46_With.l0, withGo]
    refine Ev.pos (by omega) (Ev.bind (rIs h s) (Ev.succ ?_))
    simp only [petrinetref46_With.j1]
    rw [wrap_succ (by omega)]
    refine Ev.pos hI (Ev.bind (rsign a0 l1 l2 h.arcs s _) (Ev.ite (fun h2 => Ev.pos (by omega) ?_) (fun h2 => ?_)))
    · rw [if_pos h2]; exact ih (i + 1) _ (by omega) (by omega) (by simp; omega)
    · rw [if_neg h2]; exact ih (i + 1) _ (by omega) (by omega) (by omega)
theorem rWith {a0 : Int} {l1 : List ByteArray} {l2 : List E} (h : Few l1 l2) (s : BitVec 64) (want : Int) : Ev (fun k => petrinetref46_With.f k a0 l1 l2 (U s) want) (WithV a0 l1 l2 s want) := by
  unfold petrinetref46_With.f WithV
  have h1 := h.ev
  by_cases hI : IsV a0 l1 l2 s = true
  · rw [if_pos hI]; exact rwith_l0 a0 l1 l2 h s want hI _ 0 [] (by omega) rfl (by simp)
  · rw [if_neg hI]
    refine Ev.succ ?_
    simp only [petrinetref46_With.l0]
    refine Ev.ite (fun _ => Ev.bind (rIs h s) (Ev.succ ?_)) (fun _ => Ev.succ ?_)
    · simp only [petrinetref46_With.j1]
      exact Ev.neg hI (Ev.now _)
    · simp only [petrinetref46_With.j1]
      exact Ev.neg (by simp) (Ev.now _)
theorem with_len {a0 : Int} {l1 : List ByteArray} {l2 : List E} (h : Few l1 l2) (s : BitVec 64) (want : Int) : (WithV a0 l1 l2 s want).length ≤ 70 := by
  have h1 := h.ev
  unfold WithV
  split
  · have := withGo_len (s := s) (l2 := l2) (want := want) (d := l1.length) (i := 0) (out := [])
    simp at this; omega
  · simp
theorem large (a0 : Int) (l1 : List ByteArray) (l2 : List E) : ∃ b, petrinetref46_Large.f a0 l1 l2 = some b ∧ (b = false → Few l1 l2) := by
  unfold petrinetref46_Large.f
  by_cases h1 : (l1.length : Int) > 70
  · rw [if_pos h1]; exact ⟨_, rfl, fun h => by cases h⟩
  · rw [if_neg h1]; exact ⟨_, rfl, fun h => ⟨by omega, by have := of_decide_eq_false h; omega⟩⟩
end Go.Proofs.Ytihjbomgbbfifaa.Sys

/- Regions: complements, unions, differences. -/
namespace Go.Proofs.Ytihjbomgbbfifaa.Sys
open Go.RowKit Go.Proofs.Ytihjbomgbbfifaa.Pr Go.Proofs.Ytihjbomgbbfifaa.Evs Go.Proofs.Ytihjbomgbbfifaa.Names Go.Proofs.Ytihjbomgbbfifaa.RName Go.Proofs.Ytihjbomgbbfifaa.Bits Go.Proofs.Ytihjbomgbbfifaa.Sets Go.Proofs.Ytihjbomgbbfifaa.Refs Go.Proofs.YtihjbomgbbfifaaW.PrintWords Go.Proofs.YtihjbomgbbfifaaW.PrintLast Go.Proofs.YtihjbomgbbfifaaW.PrintMore
set_option linter.unusedVariables false
set_option linter.unusedSimpArgs false

theorem sign_of {s : BitVec 64} {ev v : Int} : ∀ {l : List E} {o : Option Int}, (∀ x ∈ l, x.f1 = ev → arcV s x = v) → (o = none ∨ o = some v) → signGo s ev l o = (if o = none ∧ (∀ x ∈ l, x.f1 ≠ ev) then 0 else v, true) := by
  intro l
  induction l with
  | nil =>
    intro o _ ho
    rcases ho with rfl | rfl <;> simp [signGo]
  | cons a r ih =>
    intro o h ho
    rw [signGo]
    by_cases he : a.f1 = ev
    · have hv := h a List.mem_cons_self he
      rw [if_pos he, hv, if_pos ho, ih (fun x hx => h x (List.mem_cons_of_mem _ hx)) (.inr rfl)]
      have h2 : ¬ (∀ x ∈ a :: r, x.f1 ≠ ev) := fun h => h a List.mem_cons_self he
      simp [he]
    · rw [if_neg he, ih (fun x hx => h x (List.mem_cons_of_mem _ hx)) ho]
      simp [he]
theorem sign_ex {s : BitVec 64} {ev : Int} : ∀ {l : List E} {o : Option Int}, (signGo s ev l o).2 = true → ∃ v, (o = none ∨ o = some v) ∧ ∀ x ∈ l, x.f1 = ev → arcV s x = v := by
  intro l
  induction l with
  | nil => intro o _; cases o with
    | none => exact ⟨0, .inl rfl, by simp⟩
    | some y => exact ⟨y, .inr rfl, by simp⟩
  | cons a r ih =>
    intro o h
    rw [signGo] at h
    by_cases he : a.f1 = ev
    · rw [if_pos he] at h
      by_cases ho : o = none ∨ o = some (arcV s a)
      · rw [if_pos ho] at h
        obtain ⟨v, hv, hr⟩ := ih h
        rcases hv with hv | hv
        · cases hv
        · obtain rfl := Option.some.inj hv
          refine ⟨arcV s a, ho, fun x hx hxe => ?_⟩
          rcases List.mem_cons.1 hx with rfl | hx
          · rfl
          · exact hr x hx hxe
      · rw [if_neg ho] at h; cases h
    · rw [if_neg he] at h
      obtain ⟨v, hv, hr⟩ := ih h
      refine ⟨v, hv, fun x hx hxe => ?_⟩
      rcases List.mem_cons.1 hx with rfl | hx
      · exact absurd hxe he
      · exact hr x hx hxe
/-- Each event has a sign. -/
def Reg (s : BitVec 64) (n : Nat) (l2 : List E) : Prop := ∀ e : Nat, e < n → ∃ v, ∀ x ∈ l2, x.f1 = (e : Int) → arcV s x = v
theorem isV_iff {s : BitVec 64} {l1 : List ByteArray} {l2 : List E} : isV s l1 l2 = true ↔ Reg s l1.length l2 := by
  unfold isV
  rw [isGo_iff]
  constructor
  · intro h e he
    obtain ⟨v, _, hv⟩ := sign_ex (h e (by omega) (by omega))
    exact ⟨v, hv⟩
  · intro h e _ he
    obtain ⟨v, hv⟩ := h e (by omega)
    rw [sign_of hv (.inl rfl)]

/-! ### what a valid system tells -/
theorem namesGo_bad {l : List ByteArray} : ∀ {d i : Nat} {e : Int × Int}, namesGo l d i = some e → e.1 ≠ 0 := by
  intro d
  induction d with
  | zero => intro i e h; cases h
  | succ d ih =>
    intro i e h
    rw [namesGo] at h
    split at h
    · split at h
      · cases h; simp
      · exact ih h
    · cases h; simp
theorem arcsGo_ok {a0 ne : Int} {l : List E} : ∀ {d i : Nat}, (arcsGo a0 ne l d i).1 = 0 → ∀ j, i ≤ j → j < i + d → inR a0 ne (l.getD j z0) = true := by
  intro d
  induction d with
  | zero => intro i _ j h1 h2; omega
  | succ d ih =>
    intro i h j h1 h2
    rw [arcsGo] at h
    split at h
    · rename_i hin
      split at h
      · simp at h
      · by_cases e : j = i
        · rw [e]; exact hin
        · exact ih h j (by omega) (by omega)
    · simp at h
structure Good (a0 : Int) (n : Nat) (l2 : List E) : Prop where
  lo : 1 ≤ a0
  hi : a0 ≤ 200
  ends : ∀ x ∈ l2, (0 ≤ x.f0 ∧ x.f0 < a0) ∧ (0 ≤ x.f2 ∧ x.f2 < a0) ∧ 0 ≤ x.f1 ∧ x.f1 < (n : Int)
theorem good_of {a0 : Int} {l1 : List ByteArray} {l2 : List E} (h : (checkS a0 l1 l2).1 = 0) : Good a0 l1.length l2 := by
  unfold checkS at h
  split at h
  · simp at h
  · rename_i hb
    split at h
    · rename_i e he
      exact absurd h (namesGo_bad he)
    · refine ⟨by omega, by omega, fun x hx => ?_⟩
      obtain ⟨j, hj, rfl⟩ := List.mem_iff_getElem.1 hx
      have h1 := arcsGo_ok h j (by omega) (by omega)
      have e : l2.getD j z0 = l2[j] := by rw [List.getD_eq_getElem?_getD, List.getElem?_eq_getElem hj]; rfl
      rw [e] at h1
      unfold inR at h1
      simp at h1
      exact ⟨h1.1.1, h1.1.2, h1.2⟩

/-! ### arcs as differences -/
def bI (b : Bool) : Int := if b then 1 else 0
theorem arcV_bI (s : BitVec 64) (x : E) : arcV s x = bI (hasB s x.f2) - bI (hasB s x.f0) := by
  unfold arcV bI
  cases hasB s x.f0 <;> cases hasB s x.f2 <;> rfl
theorem sub_of {a b : BitVec 64} (h : subS a b = true) : b - a = b &&& ~~~a := by
  have h0 : (b &&& ~~~a) + a = b := by
    rw [add_or]
    · apply ext_bit
      intro j hj
      rw [BitVec.getLsbD_or, BitVec.getLsbD_and, BitVec.getLsbD_not]
      have := subS_iff.1 h j
      cases ha : a.getLsbD j <;> cases hb : b.getLsbD j <;> simp_all
    · apply ext_bit
      intro j hj
      rw [BitVec.getLsbD_and, BitVec.getLsbD_and, BitVec.getLsbD_not]
      cases a.getLsbD j <;> simp
  have h1 := congrArg (· - a) h0
  simp only [BitVec.add_sub_cancel] at h1
  exact h1.symm
theorem has_sub {a b : BitVec 64} (h : subS a b = true) (i : Int) : bI (hasB (b - a) i) = bI (hasB b i) - bI (hasB a i) := by
  rw [sub_of h]
  unfold hasB bI
  have h1 := subS_iff.1 h i.toNat
  rw [BitVec.getLsbD_and, BitVec.getLsbD_not]
  by_cases hi : i.toNat < 64
  · cases ha : a.getLsbD i.toNat <;> cases hb : b.getLsbD i.toNat <;> cases hd : decide (0 ≤ i) <;> simp_all
  · have e1 : a.getLsbD i.toNat = false := BitVec.getLsbD_of_ge _ _ (by omega)
    have e2 : b.getLsbD i.toNat = false := BitVec.getLsbD_of_ge _ _ (by omega)
    simp [e1, e2]
theorem has_or {a b : BitVec 64} (h : a &&& b = 0#64) (i : Int) : bI (hasB (a ||| b) i) = bI (hasB a i) + bI (hasB b i) := by
  unfold hasB bI
  have h1 : (a &&& b).getLsbD i.toNat = false := by rw [h]; simp
  rw [BitVec.getLsbD_and] at h1
  rw [BitVec.getLsbD_or]
  cases ha : a.getLsbD i.toNat <;> cases hb : b.getLsbD i.toNat <;> cases hd : decide (0 ≤ i) <;> simp_all
theorem reg_sub {a b : BitVec 64} {n : Nat} {l2 : List E} (h : subS a b = true) (ha : Reg a n l2) (hb : Reg b n l2) : Reg (b - a) n l2 := by
  intro e he
  obtain ⟨va, ka⟩ := ha e he
  obtain ⟨vb, kb⟩ := hb e he
  refine ⟨vb - va, fun x hx hxe => ?_⟩
  have h1 := ka x hx hxe
  have h2 := kb x hx hxe
  rw [arcV_bI] at h1 h2 ⊢
  rw [has_sub h, has_sub h]
  omega
theorem reg_or {a b : BitVec 64} {n : Nat} {l2 : List E} (h : a &&& b = 0#64) (ha : Reg a n l2) (hb : Reg b n l2) : Reg (a ||| b) n l2 := by
  intro e he
  obtain ⟨va, ka⟩ := ha e he
  obtain ⟨vb, kb⟩ := hb e he
  refine ⟨va + vb, fun x hx hxe => ?_⟩
  have h1 := ka x hx hxe
  have h2 := kb x hx hxe
  rw [arcV_bI] at h1 h2 ⊢
  rw [has_or h, has_or h]
  omega
theorem IsV_iff {a0 : Int} {l1 : List ByteArray} {l2 : List E} {s : BitVec 64} : IsV a0 l1 l2 s = true ↔ (checkS a0 l1 l2).1 = 0 ∧ a0 ≤ 64 ∧ subS s (allTo (min a0.toNat 64)) = true ∧ Reg s l1.length l2 := by
  unfold IsV validV
  rw [Bool.and_eq_true, Bool.and_eq_true, Bool.and_eq_true, isV_iff]
  simp [and_assoc]
theorem sub_andNot {a b c : BitVec 64} (h : subS b c = true) : subS (b &&& ~~~a) c = true := subS_iff.2 fun i hi => by
  rw [BitVec.getLsbD_and, Bool.and_eq_true] at hi
  exact subS_iff.1 h i hi.1
theorem sub_or {a b c : BitVec 64} (h : subS a c = true) (k : subS b c = true) : subS (a ||| b) c = true := subS_iff.2 fun i hi => by
  rw [BitVec.getLsbD_or, Bool.or_eq_true] at hi
  rcases hi with hi | hi
  · exact subS_iff.1 h i hi
  · exact subS_iff.1 k i hi
theorem sub_refl' (a : BitVec 64) : subS a a = true := subS_iff.2 (fun _ h => h)
/-- The whole set is a region without signs. -/
theorem has_all {a0 : Int} (h64 : a0 ≤ 64) {i : Int} (h : 0 ≤ i ∧ i < a0) : hasB (allTo (min a0.toNat 64)) i = true := by
  unfold hasB
  rw [allTo_bit]
  simp; omega
theorem reg_all {a0 : Int} {n : Nat} {l2 : List E} (h64 : a0 ≤ 64) (hg : Good a0 n l2) : Reg (allTo (min a0.toNat 64)) n l2 := fun e he => ⟨0, fun x hx _ => by
  have h := hg.ends x hx
  rw [arcV_bI, has_all h64 h.1, has_all h64 h.2.1]; rfl⟩
theorem arc_compl {a0 : Int} {n : Nat} {l2 : List E} (h64 : a0 ≤ 64) (hg : Good a0 n l2) {s : BitVec 64} (hs : subS s (allTo (min a0.toNat 64)) = true) {x : E} (hx : x ∈ l2) : arcV (allTo (min a0.toNat 64) - s) x = - arcV s x := by
  have h := hg.ends x hx
  rw [arcV_bI, arcV_bI, has_sub hs, has_sub hs, has_all h64 h.1, has_all h64 h.2.1]
  omega
theorem sign_compl {a0 : Int} {n : Nat} {l2 : List E} (h64 : a0 ≤ 64) (hg : Good a0 n l2) {s : BitVec 64} (hs : subS s (allTo (min a0.toNat 64)) = true) (hr : Reg s n l2) {e : Nat} (he : e < n) : (signGo (allTo (min a0.toNat 64) - s) (e : Int) l2 none).1 = - (signGo s (e : Int) l2 none).1 := by
  obtain ⟨v, hv⟩ := hr e he
  rw [sign_of hv (.inl rfl), sign_of (v := -v) (fun x hx hxe => by rw [arc_compl h64 hg hs hx, hv x hx hxe]) (.inl rfl)]
  simp only
  split <;> rfl
theorem withGo_compl {s t : BitVec 64} {l2 : List E} {n : Nat} {w : Int} (h : ∀ e : Nat, e < n → (signGo t (e : Int) l2 none).1 = - (signGo s (e : Int) l2 none).1) : ∀ {d i : Nat} {out : List Int}, i + d ≤ n → withGo t l2 (-w) d i out = withGo s l2 w d i out := by
  intro d
  induction d with
  | zero => intro i out _; rfl
  | succ d ih =>
    intro i out hn
    rw [withGo, withGo, ih (by omega), h i (by omega)]
    congr 1
    by_cases e : (signGo s (i : Int) l2 none).1 = w
    · rw [if_pos e, if_pos (by omega)]
    · rw [if_neg e, if_neg (by omega)]
end Go.Proofs.Ytihjbomgbbfifaa.Sys

/- The lists of all regions and of the minimal ones. -/
namespace Go.Proofs.Ytihjbomgbbfifaa.Sys
open Go.RowKit Go.Proofs.Ytihjbomgbbfifaa.Pr Go.Proofs.Ytihjbomgbbfifaa.Evs Go.Proofs.Ytihjbomgbbfifaa.Names Go.Proofs.Ytihjbomgbbfifaa.RName Go.Proofs.Ytihjbomgbbfifaa.Bits Go.Proofs.Ytihjbomgbbfifaa.Sets Go.Proofs.Ytihjbomgbbfifaa.Mins Go.Proofs.Ytihjbomgbbfifaa.RMins Go.Proofs.Ytihjbomgbbfifaa.Refs Go.Proofs.YtihjbomgbbfifaaW.PrintWords Go.Proofs.YtihjbomgbbfifaaW.PrintLast Go.Proofs.YtihjbomgbbfifaaW.PrintMore
set_option linter.unusedVariables false
set_option linter.unusedSimpArgs false

/-- Finitely many functions with rounds, from some round on at once. -/
theorem Ev.many {α : Type} {g : Nat → Nat → Option α} {r : Nat → α} : ∀ (n : Nat), (∀ x, x < n → Ev (g x) (r x)) → ∃ K, ∀ k, K ≤ k → ∀ x, x < n → g x k = some (r x)
  | 0, _ => ⟨0, fun k _ x hx => by omega⟩
  | n + 1, h => by
    obtain ⟨K, hK⟩ := Ev.many n (fun x hx => h x (by omega))
    obtain ⟨L, hL⟩ := h n (by omega)
    refine ⟨max K L, fun k hk x hx => ?_⟩
    by_cases e : x = n
    · rw [e]; exact hL k (by omega)
    · exact hK k (by omega) x (by omega)
theorem U_ofNat {x : Nat} (h : x < 18446744073709551616) : U (BitVec.ofNat 64 x) = (x : Int) := by unfold U; rw [BitVec.toNat_ofNat]; omega
theorem allTo_small (a : Nat) (h : a ≤ 12) : allTo a = BitVec.ofNat 64 (2 ^ a - 1) := by
  have h : ∀ a : Fin 13, allTo a.val = BitVec.ofNat 64 (2 ^ a.val - 1) := by decide +kernel
  exact h ⟨a, by omega⟩
theorem pow_small {a : Nat} (h : a ≤ 12) : 2 ^ a ≤ 4096 := Nat.pow_le_pow_right (by decide) h
/-- The regions among the numbers below n. -/
def regsTo (l1 : List ByteArray) (l2 : List E) (n : Nat) : List (BitVec 64) := ((List.range n).map (BitVec.ofNat 64)).filter (fun s => isV s l1 l2)
def allV (a0 : Int) (l1 : List ByteArray) (l2 : List E) : List (BitVec 64) × Int :=
  if (checkS a0 l1 l2).1 = 0 then (if a0 > 12 then ([], 2) else if 512 < (regsTo l1 l2 (2 ^ a0.toNat)).length then ([], 14) else (regsTo l1 l2 (2 ^ a0.toNat), 0)) else ([], 15)
theorem regsTo_len (l1 : List ByteArray) (l2 : List E) (n : Nat) : (regsTo l1 l2 n).length ≤ n := by
  unfold regsTo
  refine Nat.le_trans (List.length_filter_le _ _) ?_
  simp
theorem eAll {a0 : Int} {l1 : List ByteArray} {l2 : List E} (h : Few l1 l2) : Ev (fun k => region_All.f k a0 l1 l2) ((allV a0 l1 l2).1.map U, (allV a0 l1 l2).2) := by
  have h70 := h.ev
  unfold region_All.f allV
  refine Ev.bind (echeck a0 l1 l2 (by omega) h.arcs) (Ev.ite (fun hc => ?_) (fun hc => Ev.val ?_))
  · rw [if_pos hc]
    have hg := good_of hc
    refine Ev.ite (fun h12 => Ev.val ?_) (fun h12 => Ev.pos (by have := hg.lo; omega) ?_)
    · rw [if_pos h12]; rfl
    · rw [if_neg h12]
      have hp := pow_small (a := a0.toNat) (by omega)
      obtain ⟨K, hK⟩ := Ev.many (g := fun x k => region_is.f k a0 l1 l2 (x : Int)) (r := fun x => isV (BitVec.ofNat 64 x) l1 l2) (2 ^ a0.toNat) (fun x hx => by
        have := eis (a0 := a0) h (BitVec.ofNat 64 x)
        rw [U_ofNat (by omega)] at this
        exact this)
      refine ⟨K, fun k hk => ?_⟩
      have h1 : regOk k a0 l1 l2 = true := List.all_eq_true.2 fun x hx => by rw [hK k hk x (List.mem_range.1 hx)]; rfl
      show (if regOk k a0 l1 l2 = true then some (regList k a0 l1 l2) else none) = _
      rw [if_pos h1]
      have h2 : (List.range (2 ^ a0.toNat)).filter (isB k a0 l1 l2) = (List.range (2 ^ a0.toNat)).filter (fun x => isV (BitVec.ofNat 64 x) l1 l2) := List.filter_congr fun x hx => by unfold isB; rw [hK k hk x (List.mem_range.1 hx)]; rfl
      have h3 : regsTo l1 l2 (2 ^ a0.toNat) = ((List.range (2 ^ a0.toNat)).filter (fun x => isV (BitVec.ofNat 64 x) l1 l2)).map (BitVec.ofNat 64) := by unfold regsTo; rw [List.filter_map]; rfl
      unfold regList
      rw [h2, h3, List.length_map]
      split
      · rfl
      · rw [List.map_map]
        refine congrArg some (Prod.ext (List.map_congr_left fun x hx => ?_) rfl)
        have hx' := List.mem_range.1 (List.mem_filter.1 hx).1
        show Int.ofNat x = U (BitVec.ofNat 64 x)
        rw [U_ofNat (by omega)]; rfl
  · rw [if_neg hc]; rfl
theorem rall_l0' {a0 : Int} {l1 : List ByteArray} {l2 : List E} (h : Few l1 l2) (ha : 1 ≤ a0) (ha2 : a0 ≤ 12) : ∀ (d i : Nat), i ≤ 2 ^ a0.toNat → 2 ^ a0.toNat - i = d → Ev (fun k => petrinetref46_All.l0 k ((regsTo l1 l2 i).map U) (i : Int) a0 l1 l2) (if 512 < (regsTo l1 l2 (2 ^ a0.toNat)).length then ([], 14) else ((regsTo l1 l2 (2 ^ a0.toNat)).map U, 0)) := by
  have hp := pow_small (a := a0.toNat) (by omega)
  have hp1 : 1 ≤ 2 ^ a0.toNat := Nat.one_le_two_pow
  have hall : U (allTo (min a0.toNat 64)) = ((2 ^ a0.toNat - 1 : Nat) : Int) := by
    rw [show min a0.toNat 64 = a0.toNat by omega, allTo_small _ (by omega), U_ofNat (by omega)]
  intro d
  induction d with
  | zero =>
    intro i hi hd
    obtain rfl : i = 2 ^ a0.toNat := by omega
    refine Ev.succ ?_
    simp only [petrinetref46_All.l0]
    refine Ev.bind (rall a0) (Ev.neg (by rw [hall]; omega) ?_)
    simp only [List.length_map]
    refine Ev.ite (fun h5 => Ev.val ?_) (fun h5 => Ev.val ?_)
    · rw [if_pos (by omega)]
    · rw [if_neg (by omega)]
  | succ d ih =>
    intro i hi hd
    have hih := ih (i + 1) (by omega) (by omega)
    have hlen := regsTo_len l1 l2 i
    refine Ev.succ ?_
    simp only [petrinetref46_All.l0]
    refine Ev.bind (rall a0) (Ev.pos (by rw [hall]; omega) ?_)
    have hw : IntKind.u64.wrap ((i : Int) + 1) = ((i + 1 : Nat) : Int) := by rw [IntKind.wrap_u64]; omega
    have hs : Ev (fun k => petrinetref46_region.f k a0 l1 l2 (i : Int)) (isV (BitVec.ofNat 64 i) l1 l2) := by
      have := ris (a0 := a0) h (BitVec.ofNat 64 i)
      rw [U_ofNat (by omega)] at this
      exact this
    rw [hw]
    have hstep : regsTo l1 l2 (i + 1) = if isV (BitVec.ofNat 64 i) l1 l2 then regsTo l1 l2 i ++ [BitVec.ofNat 64 i] else regsTo l1 l2 i := by
      unfold regsTo
      rw [List.range_succ, List.map_append, List.filter_append]
      cases hv : isV (BitVec.ofNat 64 i) l1 l2 <;> simp [hv]
    rw [hstep] at hih
    refine Ev.bind hs (Ev.ite (fun hv => Ev.pos (by rw [List.length_map]; omega) ?_) (fun hv => ?_))
    · rw [if_pos hv, List.map_append, List.map_cons, List.map_nil, U_ofNat (by omega)] at hih
      exact hih
    · rw [if_neg hv] at hih
      exact hih
theorem rAll {a0 : Int} {l1 : List ByteArray} {l2 : List E} (h : Few l1 l2) : Ev (fun k => petrinetref46_All.f k a0 l1 l2) ((allV a0 l1 l2).1.map U, (allV a0 l1 l2).2) := by
  have h70 := h.ev
  unfold petrinetref46_All.f petrinetref45_Valid.f allV
  refine Ev.bind (Ev.bind (rcheck a0 l1 l2 (by omega) h.arcs) (Ev.now _)) (Ev.ite (fun hc => ?_) (fun hc => Ev.val ?_))
  · have hc : (checkS a0 l1 l2).1 = 0 := by simpa using hc
    rw [if_pos hc]
    have hg := good_of hc
    refine Ev.ite (fun h12 => Ev.val ?_) (fun h12 => ?_)
    · rw [if_pos h12]; rfl
    · rw [if_neg h12]
      have := rall_l0' (a0 := a0) h hg.lo (by omega) _ 0 (Nat.zero_le _) rfl
      have e : regsTo l1 l2 0 = [] := rfl
      rw [e] at this
      by_cases h5 : 512 < (regsTo l1 l2 (2 ^ a0.toNat)).length
      · rw [if_pos h5] at this ⊢; exact this
      · rw [if_neg h5] at this ⊢; exact this
  · rw [if_neg (by simpa using hc)]; rfl
theorem allV_len (a0 : Int) (l1 : List ByteArray) (l2 : List E) : (allV a0 l1 l2).1.length ≤ 512 := by
  unfold allV
  split
  · split
    · simp
    · split
      · simp
      · show (regsTo l1 l2 (2 ^ a0.toNat)).length ≤ 512
        omega
  · simp

/-! ### the minimal ones -/
def ownV (a0 : Int) (l : List (BitVec 64)) : List (BitVec 64) := l.filter fun s => !decide (s = 0#64) && !decide (s = allTo (min a0.toNat 64))
def minimalV (a0 : Int) (l1 : List ByteArray) (l2 : List E) : List (BitVec 64) × Int := if (allV a0 l1 l2).2 = 0 then (minV (ownV a0 (allV a0 l1 l2).1), 0) else ([], (allV a0 l1 l2).2)
theorem ownV_snoc (a0 : Int) (l : List (BitVec 64)) (s : BitVec 64) : ownV a0 (l ++ [s]) = if s = 0#64 then ownV a0 l else if s = allTo (min a0.toNat 64) then ownV a0 l else ownV a0 l ++ [s] := by
  unfold ownV
  rw [List.filter_append]
  by_cases h1 : s = 0#64
  · simp [h1]
  · by_cases h2 : s = allTo (min a0.toNat 64)
    · rw [if_neg h1, if_pos h2]; simp [h2]
    · simp [h1, h2]
theorem ownV_len (a0 : Int) (l : List (BitVec 64)) : (ownV a0 l).length ≤ l.length := List.length_filter_le _ _
theorem eMin_l0 (a0 : Int) (l1 : List ByteArray) (l2 : List E) (l : List (BitVec 64)) (hl : l.length ≤ 512) : ∀ (d i : Nat), i ≤ l.length → l.length - i = d → Ev (fun k => region_Minimal.l0 k ((ownV a0 (l.take i)).map U) (l.map U) (l.length : Int) (i : Int) a0 l1 l2) ((minV (ownV a0 l)).map U, 0) := by
  intro d
  induction d with
  | zero =>
    intro i hi hd
    obtain rfl : i = l.length := by omega
    have hol := ownV_len a0 l
    refine Ev.succ ?_
    simp only [region_Minimal.l0]
    rw [List.take_length, minimal_U _ (by omega)]
    exact Ev.neg (by omega) (Ev.now _)
  | succ d ih =>
    intro i hi hd
    have hlt : i < l.length := by omega
    have hih := ih (i + 1) (by omega) (by omega)
    have hol := ownV_len a0 (l.take i)
    rw [List.length_take] at hol
    rw [List.take_succ_eq_append_getElem hlt, ownV_snoc] at hih
    refine Ev.succ ?_
    simp only [region_Minimal.l0, List.length_map, rdU l hlt, U_eq_zero]
    rw [wrap_succ (by omega)]
    refine Ev.pos (by omega) (Ev.pos (by omega) (Ev.pos (by omega) (Ev.ite (fun h0 => ?_) (fun h0 => Ev.bind (all_U a0) ?_))))
    · rw [if_pos h0] at hih; exact hih
    · rw [if_neg h0] at hih
      simp only [U_inj]
      refine Ev.ite (fun h1 => ?_) (fun h1 => Ev.pos (by omega) ?_)
      · rw [if_pos h1] at hih; exact hih
      · rw [if_neg h1, List.map_append] at hih; exact hih
theorem eMin {a0 : Int} {l1 : List ByteArray} {l2 : List E} (h : Few l1 l2) : Ev (fun k => region_Minimal.f k a0 l1 l2) ((minimalV a0 l1 l2).1.map U, (minimalV a0 l1 l2).2) := by
  unfold region_Minimal.f minimalV
  have hl := allV_len a0 l1 l2
  refine Ev.bind (eAll h) (Ev.ite (fun h0 => ?_) (fun h0 => Ev.val ?_))
  · rw [if_pos h0]
    have := eMin_l0 a0 l1 l2 (allV a0 l1 l2).1 hl _ 0 (by omega) rfl
    simpa [ownV] using this
  · rw [if_neg h0]; rfl
theorem rMin_l0 (a0 : Int) (l1 : List ByteArray) (l2 : List E) (l : List (BitVec 64)) (hl : l.length ≤ 512) : ∀ (d i : Nat), i ≤ l.length → l.length - i = d → Ev (fun k => petrinetref46_Minimal.l0 k (l.map U) ((ownV a0 (l.take i)).map U) (i : Int) a0 l1 l2) ((minV (ownV a0 l)).map U, 0) := by
  intro d
  induction d with
  | zero =>
    intro i hi hd
    obtain rfl : i = l.length := by omega
    have hol := ownV_len a0 l
    refine Ev.succ ?_
    simp only [petrinetref46_Minimal.l0, List.length_map]
    rw [List.take_length]
    exact Ev.neg (by omega) (Ev.bind (mins_l0 _ (by omega) _ 0 [] (by omega) rfl List.Pairwise.nil (by simp)) (Ev.now _))
  | succ d ih =>
    intro i hi hd
    have hlt : i < l.length := by omega
    have hih := ih (i + 1) (by omega) (by omega)
    have hol := ownV_len a0 (l.take i)
    rw [List.length_take] at hol
    rw [List.take_succ_eq_append_getElem hlt, ownV_snoc] at hih
    refine Ev.succ ?_
    simp only [petrinetref46_Minimal.l0, List.length_map, rdU l hlt, U_eq_zero]
    rw [wrap_succ (by omega)]
    refine Ev.pos (by omega) (Ev.pos (by omega) (Ev.ite (fun h0 => ?_) (fun h0 => Ev.bind (rall a0) ?_)))
    · rw [if_pos h0] at hih; exact hih
    · rw [if_neg h0] at hih
      simp only [U_inj]
      refine Ev.ite (fun h1 => ?_) (fun h1 => Ev.pos (by omega) ?_)
      · rw [if_pos h1] at hih; exact hih
      · rw [if_neg h1, List.map_append] at hih; exact hih
theorem rMin {a0 : Int} {l1 : List ByteArray} {l2 : List E} (h : Few l1 l2) : Ev (fun k => petrinetref46_Minimal.f k a0 l1 l2) ((minimalV a0 l1 l2).1.map U, (minimalV a0 l1 l2).2) := by
  unfold petrinetref46_Minimal.f minimalV
  have hl := allV_len a0 l1 l2
  refine Ev.bind (rAll h) (Ev.ite (fun h0 => ?_) (fun h0 => Ev.val ?_))
  · rw [if_pos h0]
    have := rMin_l0 a0 l1 l2 (allV a0 l1 l2).1 hl _ 0 (by omega) rfl
    simpa [ownV] using this
  · rw [if_neg h0]; rfl
theorem minimalV_len (a0 : Int) (l1 : List ByteArray) (l2 : List E) : (minimalV a0 l1 l2).1.length ≤ 512 := by
  unfold minimalV
  split
  · have h1 := minV_len (ownV a0 (allV a0 l1 l2).1)
    have h2 := ownV_len a0 (allV a0 l1 l2).1
    have h3 := allV_len a0 l1 l2
    show (minV _).length ≤ 512
    omega
  · simp
end Go.Proofs.Ytihjbomgbbfifaa.Sys

/- Minimal of package region returns what the reference returns, for systems of at most 6 states (and where it refuses). -/
namespace Go.Proofs.Ytihjbomgbbfifaa.Pure
open Go.RowKit Go.Proofs.Ytihjbomgbbfifaa.Pr Go.Proofs.Ytihjbomgbbfifaa.Evs Go.Proofs.Ytihjbomgbbfifaa.Sys Go.Proofs.Ytihjbomgbbfifaa.Bits Go.Proofs.Ytihjbomgbbfifaa.Sets Go.Proofs.Ytihjbomgbbfifaa.Refs Go.Proofs.YtihjbomgbbfifaaW.PrintWords Go.Proofs.YtihjbomgbbfifaaW.PrintLast Go.Proofs.YtihjbomgbbfifaaW.PrintMore
set_option linter.unusedVariables false
theorem RegionMinimals (a : Int × List ByteArray × List E) {P : Prop} (ha : P) : ∃ k, petrinetlaw46_RegionMinimals.f k a.1 a.2.1 a.2.2 = some true := by
  obtain ⟨b, hb, hF⟩ := large a.1 a.2.1 a.2.2
  apply Ev.rounds
  unfold petrinetlaw46_RegionMinimals.f
  simp only [hb, Option.bind_some]
  have hyes : Ev (fun k => petrinetlaw46_RegionMinimals.j0 k true a.1 a.2.1 a.2.2) true := by
    refine Ev.succ ?_
    simp only [petrinetlaw46_RegionMinimals.j0]
    exact Ev.pos trivial lives'
  refine Ev.ite (fun _ => hyes) (fun h => ?_)
  have hf := hF (by simpa using h)
  have hno : Ev (fun k => petrinetlaw46_RegionMinimals.j0 k false a.1 a.2.1 a.2.2) true := by
    refine Ev.succ ?_
    simp only [petrinetlaw46_RegionMinimals.j0]
    have hl := minimalV_len a.1 a.2.1 a.2.2
    exact Ev.neg (by simp) (Ev.bind (eMin hf) (Ev.bind (rMin hf) (Ev.bind (rsame _ (by rw [List.length_map]; omega)) (Ev.pos rfl (Ev.pos rfl lives')))))
  refine Ev.ite (fun _ => ?_) (fun _ => hno)
  cases decide (a.1 ≤ 12)
  · exact hno
  · exact hyes
end Go.Proofs.Ytihjbomgbbfifaa.Pure
