/- The empty places of a deadlock form a siphon. -/
import Derived.Test.YtaphehdbjbogaaaQSiphonDeadlocks0
import Derived.Test.YtaphehdbjbogaaaQSiphonDeadlocks1
import Derived.Test.YtaphehdbjbogaaaQSiphonDeadlocks2
import Derived.Test.YtaphehdbjbogaaaQSiphonDeadlocks3
import Derived.Test.YtaphehdbjbogaaaQSiphonDeadlocks4
import Derived.Test.YtaphehdbjbogaaaBSiphonDeadlocks
import Derived.Test.YtaphehdbjbogaaaVSiphonDeadlocks
import Derived.Deep.Slices
import Derived.ChangeArms
/- General lemmas of this seat's proofs, in one text. -/
/- What the references' Name answers: the same of bytes as Names.nameB. -/
namespace Go.Proofs.Ytaphehdbjbogaaa.RName
open Go.RowKit Go.Proofs.Ytaphehdbjbogaaa.Pr Go.Proofs.Ytaphehdbjbogaaa.Evs Go.Proofs.Ytaphehdbjbogaaa.Names Go.Proofs.YtaphehdbjbogaaaW.PrintWords Go.Proofs.YtaphehdbjbogaaaW.PrintLast Go.Proofs.YtaphehdbjbogaaaW.PrintMore
set_option linter.unusedVariables false
set_option linter.unusedSimpArgs false

theorem bt_byte {s : ByteArray} {i : Nat} (h : i < s.size) : bt s (i : Int) = (byteAt s i : Int) := by
  rw [byteAt_get s i h]
  simp [bt, h]
set_option maxHeartbeats 2000000 in
theorem name_l0 (s : ByteArray) (h1 : 1 ≤ s.size) (h16 : s.size ≤ 16) : ∀ (d i : Nat), i ≤ s.size → s.size - i = d → (∀ j, j < i → okB j (byteAt s j) = true) → Ev (fun k => petrinetref09_Name.l0 k s (i : Int)) (nameB s) := by
  intro d
  induction d with
  | zero =>
    intro i hi hd hok
    obtain rfl : i = s.size := by omega
    refine Ev.succ ?_
    simp only [petrinetref09_Name.l0]
    exact Ev.neg (by omega) (Ev.val (nameB_true h1 h16 hok).symm)
  | succ d ih =>
    intro i hi hd hok
    have hlt : i < s.size := by omega
    have hb := bt_byte hlt
    obtain ⟨c, hc⟩ : ∃ c, byteAt s i = c := ⟨_, rfl⟩
    rw [hc] at hb
    have hgo : okB i c = true → Ev (fun k => petrinetref09_Name.l0 k s (wrap64 ((i : Int) + 1))) (nameB s) := by
      intro hk
      rw [wrap_succ (by omega)]
      refine ih (i + 1) (by omega) (by omega) (fun j hj => ?_)
      by_cases hji : j = i
      · subst hji; rw [hc]; exact hk
      · exact hok j (by omega)
    have hstop : okB i c = false → Ev (fun _ : Nat => some false) (nameB s) := fun hk => Ev.val (nameB_false hlt (by rw [hc]; exact hk)).symm
    refine Ev.succ ?_
    simp only [petrinetref09_Name.l0, hb]
    refine Ev.pos (by omega) (Ev.pos (by omega) ?_)
    repeat' (refine Ev.ite (fun _ => ?_) (fun _ => ?_))
    all_goals first
      | exact hgo (okB_of (by omega))
      | exact hstop (okB_not (by omega))
      | (exfalso; omega)
theorem rname (s : ByteArray) : Ev (fun k => petrinetref09_Name.f k s) (nameB s) := by
  unfold petrinetref09_Name.f
  have hj : ∀ b : Bool, (b = true → nameB s = false) → (b = false → 1 ≤ s.size ∧ s.size ≤ 16) → Ev (fun k => petrinetref09_Name.j0 k s b) (nameB s) := by
    intro b ht hf
    refine Ev.succ ?_
    simp only [petrinetref09_Name.j0]
    refine Ev.ite (fun h => Ev.val (ht h).symm) (fun h => ?_)
    obtain ⟨h1, h2⟩ := hf (by simpa using h)
    exact name_l0 s h1 h2 _ 0 (by omega) rfl (fun j hj => by omega)
  refine Ev.ite (fun h => hj true (fun _ => ?_) (fun h => by cases h)) (fun h => hj _ (fun h2 => ?_) (fun h2 => ?_))
  · unfold nameB; rw [decide_eq_false (show ¬ 1 ≤ s.size by omega)]; rfl
  · have h3 := of_decide_eq_true h2
    unfold nameB; rw [decide_eq_false (show ¬ s.size ≤ 16 by omega)]; simp
  · have h3 := of_decide_eq_false h2
    omega
end Go.Proofs.Ytaphehdbjbogaaa.RName

/- What the functions of package bitset answer, told of vectors of bits. -/
namespace Go.Proofs.Ytaphehdbjbogaaa.Sets
open Go.RowKit Go.Proofs.Ytaphehdbjbogaaa.Evs Go.Proofs.Ytaphehdbjbogaaa.Pr Go.Proofs.Ytaphehdbjbogaaa.Bits Go.Proofs.YtaphehdbjbogaaaW.PrintWords Go.Proofs.YtaphehdbjbogaaaW.PrintLast Go.Proofs.YtaphehdbjbogaaaW.PrintMore
set_option linter.unusedVariables false
set_option linter.unusedSimpArgs false


theorem has_U (a : BitVec 64) (i : Int) : bitset_Has.f (U a) i = some (decide (0 ≤ i) && a.getLsbD i.toNat) := by
  unfold bitset_Has.f
  by_cases h0 : 0 ≤ i
  · rw [if_pos h0]
    by_cases h1 : i < 64
    · obtain ⟨n, rfl⟩ := Int.eq_ofNat_of_zero_le h0
      rw [if_pos h1, wrap_idx h0 h1, if_pos h0, shr_at (by omega), bit_at]
      simp
    · rw [if_neg h1, BitVec.getLsbD_of_ge _ _ (by omega)]
      simp
  · rw [if_neg h0]; simp [h0]
def withB (a : BitVec 64) (i : Int) : BitVec 64 := if i < 0 then a else a ||| tp i.toNat
def withoutB (a : BitVec 64) (i : Int) : BitVec 64 := if i < 0 then a else a &&& ~~~ tp i.toNat
theorem tp_big {i : Nat} (h : 64 ≤ i) : tp i = 0#64 := by
  apply ext_bit
  intro j hj
  rw [tp_bit]
  simp
  omega
theorem with_U (a : BitVec 64) (i : Int) : bitset_With.f (U a) i = some (U (withB a i)) := by
  unfold bitset_With.f withB
  by_cases h0 : i < 0
  · rw [if_pos h0, if_pos h0]
  · rw [if_neg h0, if_neg h0]
    obtain ⟨n, rfl⟩ := Int.eq_ofNat_of_zero_le (show 0 ≤ i by omega)
    by_cases h1 : (n : Int) > 63
    · rw [if_pos h1, tp_big (by omega)]; simp
    · rw [if_neg h1, wrap_idx (by omega) (by omega), if_pos (by omega), shl_one (by omega), bits_or]; simp
theorem elemsTo_U (a : BitVec 64) (k : Nat) : elemsTo (U a) k = els a k := by
  unfold elemsTo els
  congr 1
  funext i
  unfold bitAt
  exact bit_at a i
theorem len_U (a : BitVec 64) : bitset_Len.f (U a) = some ((els a 64).length : Int) := by unfold bitset_Len.f; rw [elemsTo_U]
def subS (a b : BitVec 64) : Bool := decide (a &&& ~~~b = 0#64)
theorem subB_U (a b : BitVec 64) : subB (U a) (U b) = subS a b := by
  unfold subB subS
  rw [bits_andNot, Bool.eq_iff_iff]
  simp [U_eq_zero]
theorem subset_U (a b : BitVec 64) : bitset_Subset.f (U a) (U b) = some (subS a b) := by
  rw [← subB_U]; rfl
theorem subS_iff {a b : BitVec 64} : subS a b = true ↔ ∀ i, a.getLsbD i = true → b.getLsbD i = true := by
  unfold subS
  rw [decide_eq_true_iff]
  constructor
  · intro h i hi
    have h2 : (a &&& ~~~b).getLsbD i = (0#64).getLsbD i := by rw [h]
    have hlt := BitVec.lt_of_getLsbD hi
    cases hb : b.getLsbD i with
    | true => rfl
    | false =>
      rw [BitVec.getLsbD_and, BitVec.getLsbD_not, BitVec.getLsbD_zero, hi, hb] at h2
      simp [hlt] at h2
  · intro h
    apply ext_bit
    intro i hi
    rw [BitVec.getLsbD_and, BitVec.getLsbD_not]
    cases ha : a.getLsbD i with
    | false => simp
    | true => simp [h i ha]
def nextB (s o : BitVec 64) : BitVec 64 × Bool := if s &&& ~~~o = 0#64 then (if s = o then (0#64, false) else ((s - o) &&& o, true)) else (0#64, false)
theorem next_U (s o : BitVec 64) : bitset_Next.f (U s) (U o) = some (U (nextB s o).1, (nextB s o).2) := by
  unfold bitset_Next.f nextB
  rw [bits_andNot]
  by_cases h : s &&& ~~~o = 0#64
  · rw [if_pos h, if_pos (U_eq_zero.2 h)]
    by_cases e : s = o
    · rw [if_pos e, if_pos (by rw [e])]; rfl
    · rw [if_neg e, if_neg (fun h2 => e (U_inj.1 h2)), wrap_sub, bits_and]
  · rw [if_neg h, if_neg (fun h2 => h (U_eq_zero.1 h2))]; rfl
/-- The numbers below k. -/
def allTo : Nat → BitVec 64
  | 0 => 0#64
  | k + 1 => allTo k ||| tp k
theorem allTo_bit (k i : Nat) : (allTo k).getLsbD i = (decide (i < k) && decide (i < 64)) := by
  induction k with
  | zero => simp [allTo]
  | succ k ih =>
    rw [allTo, BitVec.getLsbD_or, ih, tp_bit, Bool.eq_iff_iff]
    simp
    omega
theorem all_l0 (n : Int) : ∀ (d i : Nat), i ≤ 64 → (i : Int) ≤ max 0 n → (min n.toNat 64) - i = d → Ev (fun k => bitset_All.l0 k n (U (allTo i)) (i : Int)) (U (allTo (min n.toNat 64))) := by
  intro d
  induction d with
  | zero =>
    intro i h64 hi hd
    refine Ev.succ ?_
    simp only [bitset_All.l0]
    have e : min n.toNat 64 = i := by omega
    rw [e]
    refine Ev.same (funext fun k => ?_)
    by_cases h : (i : Int) < n
    · rw [if_pos h, if_neg (by omega)]
    · rw [if_neg h]
  | succ d ih =>
    intro i h64 hi hd
    refine Ev.succ ?_
    simp only [bitset_All.l0]
    have h2 := ih (i + 1) (by omega) (by omega) (by omega)
    refine Ev.congr (fun k => ?_) h2
    have hw : wrap64 ((i : Int) + 1) = ((i + 1 : Nat) : Int) := by unfold wrap64; omega
    rw [if_pos (by omega), if_pos (by omega), wrap_idx (by omega) (by omega), if_pos (by omega), shl_one (by omega), bits_or, hw]
    rfl
theorem all_U (n : Int) : Ev (fun k => bitset_All.f k n) (U (allTo (min n.toNat 64))) := by
  have := all_l0 n _ 0 (by omega) (by omega) rfl
  exact this
end Go.Proofs.Ytaphehdbjbogaaa.Sets

/- What the functions of the reference of bitset answer, told of vectors of bits. -/
namespace Go.Proofs.Ytaphehdbjbogaaa.Refs
open Go.RowKit Go.Proofs.Ytaphehdbjbogaaa.Evs Go.Proofs.Ytaphehdbjbogaaa.Pr Go.Proofs.Ytaphehdbjbogaaa.Bits Go.Proofs.Ytaphehdbjbogaaa.Sets Go.Proofs.YtaphehdbjbogaaaW.PrintWords Go.Proofs.YtaphehdbjbogaaaW.PrintLast Go.Proofs.YtaphehdbjbogaaaW.PrintMore
set_option linter.unusedVariables false
set_option linter.unusedSimpArgs false

theorem tp_double {i : Nat} (h : i + 1 < 64) : IntKind.u64.wrap (U (tp i) * 2) = U (tp (i + 1)) := by
  rw [U_tp (by omega), U_tp h, IntKind.wrap_u64, Int.pow_succ]
  have h1 : (2 : Int) ^ (i + 1) < 2 ^ 64 := by
    have : 2 ^ (i + 1) < 2 ^ 64 := Nat.pow_lt_pow_right (by decide) h
    have := (Int.ofNat_lt).2 this
    simpa using this
  have h0 : (0 : Int) < 2 ^ i := Int.pow_pos (by decide)
  rw [Int.pow_succ] at h1
  omega
theorem bit_l0 (n : Nat) (hn : n < 64) : ∀ (d i : Nat), i ≤ n → n - i = d → Ev (fun k => petrinetref06_bit.l0 k (n : Int) (U (tp i)) (i : Int)) (U (tp n)) := by
  intro d
  induction d with
  | zero =>
    intro i hi hd
    obtain rfl : i = n := by omega
    refine Ev.succ ?_
    simp only [petrinetref06_bit.l0]
    exact Ev.same (funext fun k => by rw [if_neg (by omega)])
  | succ d ih =>
    intro i hi hd
    refine Ev.succ ?_
    simp only [petrinetref06_bit.l0]
    refine Ev.congr (fun k => ?_) (ih (i + 1) (by omega) (by omega))
    rw [if_pos (by omega), tp_double (by omega), wrap_succ (by omega)]
theorem tp_zero : U (tp 0) = 1 := by rw [U_tp (by decide)]; rfl
theorem rbit {n : Nat} (hn : n < 64) : Ev (fun k => petrinetref06_bit.f k (n : Int)) (U (tp n)) := by
  have h := bit_l0 n hn _ 0 (by omega) rfl
  rw [tp_zero] at h
  exact h
theorem rhas (a : BitVec 64) (i : Int) : Ev (fun k => petrinetref06_Has.f k (U a) i) (decide (0 ≤ i) && a.getLsbD i.toNat) := by
  unfold petrinetref06_Has.f
  by_cases h0 : 0 ≤ i
  · by_cases h1 : i < 64
    · obtain ⟨n, rfl⟩ := Int.eq_ofNat_of_zero_le h0
      simp only [ge_iff_le, h0, h1, if_true]
      refine Ev.bind (rbit (by omega)) ?_
      have hne : ¬ U (tp n) = 0 := by
        rw [U_tp (by omega)]
        exact Int.ne_of_gt (Int.pow_pos (by decide))
      refine Ev.same (funext fun k => ?_)
      rw [if_neg hne]
      congr 1
      have e1 : Int.tdiv (U a) (U (tp n)) = U a / 2 ^ n := by
        rw [Int.tdiv_eq_ediv_of_nonneg (U_nonneg _), U_tp (by omega)]
      have e2 : IntKind.u64.wrap (U a / 2 ^ n) = U a / 2 ^ n := by
        rw [div_U, IntKind.wrap_u64]
        have := U_nonneg (a >>> n); have := U_lt (a >>> n); omega
      rw [e1, e2, Int.tmod_eq_emod_of_nonneg (by rw [div_U]; exact U_nonneg _), div_bit]
      cases hb : a.getLsbD n <;> simp [hb]
    · simp only [ge_iff_le, h0, h1, if_true, if_false]
      rw [BitVec.getLsbD_of_ge _ _ (by omega), Bool.and_false]
      exact Ev.now _
  · simp only [ge_iff_le, h0, if_false]
    exact Ev.same (funext fun k => by simp [h0])
theorem rwith (a : BitVec 64) (i : Int) : Ev (fun k => petrinetref06_With.f k (U a) i) (U (withB a i)) := by
  unfold petrinetref06_With.f withB
  by_cases h0 : i < 0
  · simp only [h0, if_true]; exact Ev.now _
  · obtain ⟨n, rfl⟩ := Int.eq_ofNat_of_zero_le (show 0 ≤ i by omega)
    by_cases h1 : (n : Int) > 63
    · simp only [h0, h1, if_true, if_false]
      rw [tp_big (by omega)]
      exact Ev.same (funext fun k => by simp)
    · simp only [h0, h1, if_false]
      refine Ev.bind (rhas a n) ?_
      cases hb : a.getLsbD n with
      | true =>
        refine Ev.same (funext fun k => ?_)
        simp [hb]
        congr 1
        apply ext_bit
        intro j hj
        rw [BitVec.getLsbD_or, tp_bit]
        by_cases e : n = j
        · subst e; simp [hb]
        · simp [e]
      | false =>
        simp [hb]
        refine Ev.bind (rbit (by omega)) ?_
        refine Ev.same (funext fun k => ?_)
        rw [wrap_add, add_tp hb]
theorem rwithout (a : BitVec 64) (i : Int) : Ev (fun k => petrinetref06_Without.f k (U a) i) (U (withoutB a i)) := by
  unfold petrinetref06_Without.f withoutB
  refine Ev.bind (rhas a i) ?_
  by_cases h0 : i < 0
  · rw [if_pos h0]
    exact Ev.same (funext fun k => by have : ¬ 0 ≤ i := by omega
                                      simp [this])
  · obtain ⟨n, rfl⟩ := Int.eq_ofNat_of_zero_le (show 0 ≤ i by omega)
    rw [if_neg h0]
    cases hb : a.getLsbD n with
    | true =>
      have hn : n < 64 := BitVec.lt_of_getLsbD hb
      simp [hb]
      refine Ev.bind (rbit hn) ?_
      exact Ev.same (funext fun k => by rw [wrap_sub, sub_tp hb])
    | false =>
      refine Ev.same (funext fun k => ?_)
      simp [hb]
      congr 1
      apply ext_bit
      intro j hj
      rw [BitVec.getLsbD_and, BitVec.getLsbD_not, tp_bit]
      by_cases e : n = j
      · subst e; simp [hb]
      · simp [e, hj]
theorem rlist_l0 (a : BitVec 64) : ∀ (d i : Nat), i ≤ 64 → 64 - i = d → Ev (fun k => petrinetref06_List.l0 k (U a) ((els a i).map Int.ofNat) (i : Int)) ((els a 64).map Int.ofNat) := by
  intro d
  induction d with
  | zero =>
    intro i hi hd
    obtain rfl : i = 64 := by omega
    refine Ev.succ ?_
    simp only [petrinetref06_List.l0]
    exact Ev.same (funext fun k => by rw [if_neg (by omega)])
  | succ d ih =>
    intro i hi hd
    refine Ev.succ ?_
    simp only [petrinetref06_List.l0]
    have c1 : (i : Int) < 64 := by omega
    simp only [c1, if_true]
    refine Ev.bind (rhas a i) ?_
    have h2 := ih (i + 1) (by omega) (by omega)
    rw [wrap_succ (by omega)]
    cases hb : a.getLsbD i with
    | true =>
      have hl := els_len a i
      rw [els_hit hb, List.map_append] at h2
      refine Ev.congr (fun k => ?_) h2
      simp [hb]
      intro h9
      omega
    | false =>
      rw [els_miss hb] at h2
      refine Ev.congr (fun k => ?_) h2
      simp [hb]
theorem rlist (a : BitVec 64) : Ev (fun k => petrinetref06_List.f k (U a)) ((els a 64).map Int.ofNat) := by
  have := rlist_l0 a _ 0 (by omega) rfl
  exact this
theorem rlen (a : BitVec 64) : Ev (fun k => petrinetref06_Len.f k (U a)) ((els a 64).length : Int) := by
  unfold petrinetref06_Len.f
  refine Ev.bind (rlist a) ?_
  exact Ev.same (funext fun k => by simp)
theorem rsubset_l0 (a b : BitVec 64) : ∀ (d i : Nat), i ≤ (els a 64).length → (els a 64).length - i = d → Ev (fun k => petrinetref06_Subset.l0 k (U b) ((els a 64).map Int.ofNat) (i : Int)) (((els a 64).drop i).all fun x => b.getLsbD x) := by
  have hl := els_len a 64
  intro d
  induction d with
  | zero =>
    intro i hi hd
    refine Ev.succ ?_
    simp only [petrinetref06_Subset.l0]
    rw [List.drop_of_length_le (by omega)]
    exact Ev.same (funext fun k => by rw [if_neg (by simp; omega)]; rfl)
  | succ d ih =>
    intro i hi hd
    have hlt : i < (els a 64).length := by omega
    have hrd : rd ((els a 64).map Int.ofNat) (i : Int) = (((els a 64)[i] : Nat) : Int) := by simp [rd, hlt]
    refine Ev.succ ?_
    simp only [petrinetref06_Subset.l0, List.length_map]
    have c1 : (i : Int) < ((els a 64).length : Int) := by omega
    have c2 : (0 : Int) ≤ (i : Int) := by omega
    simp only [c1, c2, if_true, hrd]
    refine Ev.bind (rhas b _) ?_
    rw [List.drop_eq_getElem_cons hlt, List.all_cons, wrap_succ (by omega)]
    have h2 := ih (i + 1) (by omega) (by omega)
    cases hb : b.getLsbD (els a 64)[i] with
    | true =>
      refine Ev.congr (fun k => ?_) (by simpa using h2)
      simp [hb]
    | false =>
      exact Ev.same (funext fun k => by simp [hb])
theorem subS_all (a b : BitVec 64) : ((els a 64).all fun x => b.getLsbD x) = subS a b := by
  rw [Bool.eq_iff_iff, List.all_eq_true, subS_iff]
  constructor
  · intro h i hi
    exact h i (mem_els.2 ⟨BitVec.lt_of_getLsbD hi, hi⟩)
  · intro h i hi
    exact h i (mem_els.1 hi).2
theorem rsubset (a b : BitVec 64) : Ev (fun k => petrinetref06_Subset.f k (U a) (U b)) (subS a b) := by
  unfold petrinetref06_Subset.f
  refine Ev.bind (rlist a) ?_
  have h := rsubset_l0 a b _ 0 (by omega) rfl
  rw [List.drop_zero, subS_all] at h
  exact h
theorem rall_l0 (n : Int) : ∀ (d i : Nat), i ≤ 64 → (i : Int) ≤ max 0 n → (min n.toNat 64) - i = d → Ev (fun k => petrinetref06_All.l0 k n (U (allTo i)) (i : Int)) (U (allTo (min n.toNat 64))) := by
  intro d
  induction d with
  | zero =>
    intro i h64 hi hd
    refine Ev.succ ?_
    simp only [petrinetref06_All.l0]
    have e : min n.toNat 64 = i := by omega
    rw [e]
    refine Ev.same (funext fun k => ?_)
    by_cases h : (i : Int) < 64
    · rw [if_pos h, if_neg (by omega)]
    · rw [if_neg h]
  | succ d ih =>
    intro i h64 hi hd
    refine Ev.succ ?_
    simp only [petrinetref06_All.l0]
    have h2 := ih (i + 1) (by omega) (by omega) (by omega)
    have c1 : (i : Int) < 64 := by omega
    have c2 : (i : Int) < n := by omega
    simp only [c1, c2, if_true]
    refine Ev.bind (rbit (by omega)) ?_
    have hz : (allTo i).getLsbD i = false := by rw [allTo_bit]; simp
    rw [wrap_succ (by omega), wrap_add, add_tp hz]
    exact h2
theorem rall (n : Int) : Ev (fun k => petrinetref06_All.f k n) (U (allTo (min n.toNat 64))) := by
  have := rall_l0 n _ 0 (by omega) (by omega) rfl
  exact this
theorem rsame_l0 (l : List Int) (hl : l.length ≤ 9223372036854775806) : ∀ (d i : Nat), i ≤ l.length → l.length - i = d → Ev (fun k => petrinetref06_Same.l0 k l l (i : Int)) true := by
  intro d
  induction d with
  | zero =>
    intro i hi hd
    refine Ev.succ ?_
    simp only [petrinetref06_Same.l0]
    exact Ev.same (funext fun k => by rw [if_neg (by omega)])
  | succ d ih =>
    intro i hi hd
    refine Ev.succ ?_
    simp only [petrinetref06_Same.l0]
    have c1 : (i : Int) < (l.length : Int) := by omega
    have c2 : (0 : Int) ≤ (i : Int) := by omega
    simp only [c1, c2, if_true]
    rw [wrap_succ (by omega)]
    exact ih (i + 1) (by omega) (by omega)
theorem rsame (l : List Int) (hl : l.length ≤ 9223372036854775806) : Ev (fun k => petrinetref06_Same.f k l l) true := by
  unfold petrinetref06_Same.f
  have h := rsame_l0 l hl _ 0 (by omega) rfl
  refine Ev.congr (fun k => ?_) h
  simp

end Go.Proofs.Ytaphehdbjbogaaa.Refs

/- What package bitset's Minimal and Next answer: order, members, the next subset. -/
namespace Go.Proofs.Ytaphehdbjbogaaa.Mins
open Go.RowKit Go.Proofs.Ytaphehdbjbogaaa.Evs Go.Proofs.Ytaphehdbjbogaaa.Pr Go.Proofs.Ytaphehdbjbogaaa.Bits Go.Proofs.Ytaphehdbjbogaaa.Sets Go.Proofs.YtaphehdbjbogaaaW.PrintWords Go.Proofs.YtaphehdbjbogaaaW.PrintLast Go.Proofs.YtaphehdbjbogaaaW.PrintMore
set_option linter.unusedVariables false
set_option linter.unusedSimpArgs false

/-! ### the order -/
def lenV (a : BitVec 64) : Nat := (els a 64).length
def befV (a b : BitVec 64) : Bool := if lenV a = lenV b then decide (a.toNat < b.toNat) else decide (lenV a < lenV b)
theorem befV_iff {a b : BitVec 64} : befV a b = true ↔ lenV a < lenV b ∨ (lenV a = lenV b ∧ a.toNat < b.toNat) := by
  unfold befV
  split <;> simp <;> omega
theorem befV_irr (a : BitVec 64) : befV a a = false := by simp [befV]
theorem befV_trans {a b c : BitVec 64} (h : befV a b = true) (k : befV b c = true) : befV a c = true := by rw [befV_iff] at *; omega
theorem befV_tri {a b : BitVec 64} (h : befV a b = false) (k : befV b a = false) : a = b := by
  have h' : ¬ befV a b = true := by simp [h]
  have k' : ¬ befV b a = true := by simp [k]
  rw [befV_iff] at h' k'
  apply BitVec.eq_of_toNat_eq
  omega
theorem beforeB_U (a b : BitVec 64) : beforeB (U a) (U b) = befV a b := by
  unfold beforeB befV lenV
  rw [elemsTo_U, elemsTo_U]
  by_cases h : (els a 64).length = (els b 64).length
  · rw [if_pos h, if_pos (by omega), Bool.eq_iff_iff]; simp [U]
  · rw [if_neg h, if_neg (by omega), Bool.eq_iff_iff]; simp

/-! ### Minimal -/
def smallV (l : List (BitVec 64)) (s : BitVec 64) : Bool := l.all fun t => decide (t = s) || !subS t s
theorem smallestB_U (l : List (BitVec 64)) (s : BitVec 64) : smallestB (l.map U) (U s) = smallV l s := by
  unfold smallestB smallV
  rw [List.all_map]
  congr 1
  funext t
  simp only [Function.comp_apply, subB_U]
  congr 1
  rw [Bool.eq_iff_iff]; simp [U_inj]
def posV (out : List (BitVec 64)) (s : BitVec 64) : Nat := (out.takeWhile (befV · s)).length
theorem posOf_U (out : List (BitVec 64)) (s : BitVec 64) : posOf (out.map U) (U s) = posV out s := by
  unfold posOf posV
  rw [List.takeWhile_map, List.length_map]
  congr 2
  funext t
  exact beforeB_U t s
def insV (out : List (BitVec 64)) (s : BitVec 64) : List (BitVec 64) := if out[posV out s]? = some s then out else out.take (posV out s) ++ s :: out.drop (posV out s)
theorem insL_U (out : List (BitVec 64)) (s : BitVec 64) : insL (out.map U) (U s) = (insV out s).map U := by
  unfold insL insV
  rw [posOf_U]
  by_cases h : out[posV out s]? = some s
  · rw [if_pos h, if_pos (by rw [List.getElem?_map, h]; rfl)]
  · rw [if_neg h, if_neg]
    · simp
    · rw [List.getElem?_map]
      intro e
      apply h
      cases ho : out[posV out s]? with
      | none => rw [ho] at e; cases e
      | some x => rw [ho] at e; simp at e; rw [U_inj.1 e]
def minV (l : List (BitVec 64)) : List (BitVec 64) := l.foldl (fun out s => if smallV l s then insV out s else out) []
theorem minimalL_U (l : List (BitVec 64)) : minimalL (l.map U) = (minV l).map U := by
  unfold minimalL minV
  suffices h : ∀ (m : List (BitVec 64)) (out : List (BitVec 64)), (m.map U).foldl (stepL (l.map U)) (out.map U) = (m.foldl (fun out s => if smallV l s then insV out s else out) out).map U by
    exact h l []
  intro m
  induction m with
  | nil => intro out; rfl
  | cons s m ih =>
    intro out
    rw [List.map_cons, List.foldl_cons, List.foldl_cons]
    have e : stepL (l.map U) (out.map U) (U s) = (if smallV l s then insV out s else out).map U := by
      unfold stepL
      rw [smallestB_U]
      split
      · exact insL_U out s
      · rfl
    rw [e]
    exact ih _
theorem minimal_U (l : List (BitVec 64)) (hl : l.length ≤ 1099511627776) : bitset_Minimal.f (l.map U) = some ((minV l).map U) := by
  unfold bitset_Minimal.f
  rw [if_pos (by simpa using hl), minimalL_U]

def SortV (out : List (BitVec 64)) : Prop := out.Pairwise (fun a b => befV a b = true)
theorem mem_insV {out : List (BitVec 64)} {s x : BitVec 64} : x ∈ insV out s ↔ x ∈ out ∨ x = s := by
  unfold insV
  split
  · rename_i h
    constructor
    · exact .inl
    · rintro (h' | rfl)
      · exact h'
      · exact List.mem_of_getElem? h
  · rw [List.mem_append, List.mem_cons]
    have h : x ∈ out ↔ x ∈ out.take (posV out s) ∨ x ∈ out.drop (posV out s) := by
      rw [← List.mem_append, List.take_append_drop]
    rw [h]
    constructor
    · rintro (h | h | h)
      · exact .inl (.inl h)
      · exact .inr h
      · exact .inl (.inr h)
    · rintro ((h | h) | h)
      · exact .inl h
      · exact .inr (.inr h)
      · exact .inr (.inl h)
theorem tw_take {α : Type} (p : α → Bool) : ∀ l : List α, l.take (l.takeWhile p).length = l.takeWhile p
  | [] => rfl
  | x :: l => by
    rw [List.takeWhile_cons]
    split
    · rw [List.length_cons, List.take_succ_cons, tw_take p l]
    · rfl
theorem tw_all {α : Type} (p : α → Bool) {x : α} : ∀ l : List α, x ∈ l.takeWhile p → p x = true
  | [], h => by cases h
  | y :: l, h => by
    rw [List.takeWhile_cons] at h
    split at h
    · rcases List.mem_cons.1 h with rfl | h
      · assumption
      · exact tw_all p l h
    · cases h
theorem tw_stop {α : Type} (p : α → Bool) : ∀ (l : List α) {x : α}, l[(l.takeWhile p).length]? = some x → p x = false
  | [], x, h => by simp at h
  | y :: l, x, h => by
    rw [List.takeWhile_cons] at h
    split at h
    · rw [List.length_cons, List.getElem?_cons_succ] at h
      exact tw_stop p l h
    · simp at h
      subst h
      rename_i hy
      simpa using hy
theorem take_bef {out : List (BitVec 64)} {s x : BitVec 64} (h : x ∈ out.take (posV out s)) : befV x s = true := by
  unfold posV at h
  rw [tw_take] at h
  exact tw_all (befV · s) _ h
/-- Behind the place of s nothing of a sorted list comes before s. -/
theorem drop_bef {out : List (BitVec 64)} (hs : SortV out) {s x : BitVec 64} (h : x ∈ out.drop (posV out s)) : befV x s = false := by
  obtain ⟨i, hi, rfl⟩ := List.mem_iff_getElem.1 h
  rw [List.getElem_drop]
  simp at hi
  have h0 : posV out s < out.length := by omega
  have hst : befV out[posV out s] s = false := tw_stop (befV · s) out (show out[(out.takeWhile (befV · s)).length]? = some out[posV out s] from List.getElem?_eq_getElem h0)
  by_cases e : i = 0
  · subst e; simpa using hst
  · have hlt := List.pairwise_iff_getElem.1 hs (posV out s) (posV out s + i) h0 (by omega) (by omega)
    cases hb : befV out[posV out s + i] s with
    | false => rfl
    | true => rw [befV_trans hlt hb] at hst; cases hst
theorem sort_insV {out : List (BitVec 64)} (hs : SortV out) (s : BitVec 64) : SortV (insV out s) := by
  unfold insV
  split
  · exact hs
  · rename_i h
    unfold SortV
    rw [List.pairwise_append]
    refine ⟨List.Pairwise.sublist (List.take_sublist _ _) hs, ?_, ?_⟩
    · rw [List.pairwise_cons]
      refine ⟨fun x hx => ?_, List.Pairwise.sublist (List.drop_sublist _ _) hs⟩
      have h1 := drop_bef hs hx
      cases hb : befV s x with
      | true => rfl
      | false =>
        exfalso
        have e := befV_tri h1 hb
        subst e
        obtain ⟨i, hi, hx'⟩ := List.mem_iff_getElem.1 hx
        simp at hi
        rw [List.getElem_drop] at hx'
        by_cases e0 : i = 0
        · subst e0
          apply h
          rw [List.getElem?_eq_getElem (by omega)]
          simpa using hx'
        · have hlt := List.pairwise_iff_getElem.1 hs (posV out x) (posV out x + i) (by omega) (by omega) (by omega)
          rw [hx'] at hlt
          have := tw_stop (befV · x) out (show out[(out.takeWhile (befV · x)).length]? = some out[posV out x] from by rw [List.getElem?_eq_getElem]; rfl)
          rw [this] at hlt; cases hlt
    · intro x hx y hy
      have h1 := take_bef hx
      rcases List.mem_cons.1 hy with rfl | hy
      · exact h1
      · rw [← List.take_append_drop (posV out s) out] at hs
        exact (List.pairwise_append.1 hs).2.2 x hx y hy
theorem sort_minV (l : List (BitVec 64)) : SortV (minV l) := by
  unfold minV
  suffices h : ∀ (m out : List (BitVec 64)), SortV out → SortV (m.foldl (fun out s => if smallV l s then insV out s else out) out) from h l [] List.Pairwise.nil
  intro m
  induction m with
  | nil => intro out h; exact h
  | cons s m ih =>
    intro out h
    rw [List.foldl_cons]
    apply ih
    split
    · exact sort_insV h s
    · exact h
theorem mem_minV {l : List (BitVec 64)} {x : BitVec 64} : x ∈ minV l ↔ x ∈ l ∧ smallV l x = true := by
  unfold minV
  suffices h : ∀ (m out : List (BitVec 64)), x ∈ m.foldl (fun out s => if smallV l s then insV out s else out) out ↔ x ∈ out ∨ (x ∈ m ∧ smallV l x = true) by
    rw [h]; simp
  intro m
  induction m with
  | nil => intro out; simp
  | cons s m ih =>
    intro out
    rw [List.foldl_cons, ih]
    by_cases hs : smallV l s = true
    · rw [if_pos hs, mem_insV, List.mem_cons]
      constructor
      · rintro ((h | rfl) | ⟨h, k⟩)
        · exact .inl h
        · exact .inr ⟨.inl rfl, hs⟩
        · exact .inr ⟨.inr h, k⟩
      · rintro (h | ⟨rfl | h, k⟩)
        · exact .inl (.inl h)
        · exact .inl (.inr rfl)
        · exact .inr ⟨h, k⟩
    · rw [if_neg hs, List.mem_cons]
      constructor
      · rintro (h | ⟨h, k⟩)
        · exact .inl h
        · exact .inr ⟨.inr h, k⟩
      · rintro (h | ⟨rfl | h, k⟩)
        · exact .inl h
        · exact absurd k hs
        · exact .inr ⟨h, k⟩
theorem sort_nodup {l : List (BitVec 64)} (h : SortV l) : l.Nodup := by
  refine List.Pairwise.imp ?_ h
  intro a b hab e
  subst e
  rw [befV_irr] at hab; cases hab
theorem minV_len (l : List (BitVec 64)) : (minV l).length ≤ l.length := by
  have h := minimalTo_len (l.map U) (l.map U) []
  have e : (l.map U).foldl (stepL (l.map U)) [] = (minV l).map U := minimalL_U l
  rw [e] at h
  simpa using h
theorem smallV_iff {l : List (BitVec 64)} {s : BitVec 64} : smallV l s = true ↔ ∀ t ∈ l, subS t s = true → t = s := by
  unfold smallV
  rw [List.all_eq_true]
  constructor
  · intro h t ht hs
    have := h t ht
    simpa [hs] using this
  · intro h t ht
    cases hs : subS t s with
    | false => simp
    | true => simp [h t ht hs]
/-- A subset that is another set is a smaller number. -/
theorem sub_lt {a b : BitVec 64} (h : subS a b = true) (hne : a ≠ b) : a.toNat < b.toNat := by
  have hle : a.toNat ≤ b.toNat := by
    have e : a = a &&& b := by
      apply ext_bit
      intro i hi
      rw [BitVec.getLsbD_and]
      cases ha : a.getLsbD i with
      | false => simp
      | true => simp [subS_iff.1 h i ha]
    rw [e, BitVec.toNat_and]
    exact Nat.and_le_right
  rcases Nat.lt_or_eq_of_le hle with h2 | h2
  · exact h2
  · exact absurd (BitVec.eq_of_toNat_eq h2) hne
theorem subS_trans {a b c : BitVec 64} (h : subS a b = true) (k : subS b c = true) : subS a c = true := subS_iff.2 (fun i hi => subS_iff.1 k i (subS_iff.1 h i hi))
theorem subS_refl (a : BitVec 64) : subS a a = true := subS_iff.2 (fun _ h => h)
/-- Every set of the list has a subset among the minimal ones. -/
theorem minV_covers {l : List (BitVec 64)} : ∀ (n : Nat) (x : BitVec 64), x ∈ l → x.toNat ≤ n → ∃ m ∈ minV l, subS m x = true := by
  intro n
  induction n with
  | zero =>
    intro x hx hn
    refine ⟨x, mem_minV.2 ⟨hx, smallV_iff.2 (fun t ht hs => ?_)⟩, subS_refl x⟩
    apply Classical.byContradiction
    intro hne
    have := sub_lt hs hne
    omega
  | succ n ih =>
    intro x hx hn
    by_cases hs : smallV l x = true
    · exact ⟨x, mem_minV.2 ⟨hx, hs⟩, subS_refl x⟩
    · rw [smallV_iff] at hs
      have : ∃ t, t ∈ l ∧ subS t x = true ∧ t ≠ x := by
        apply Classical.byContradiction
        intro hno
        apply hs
        intro t ht hst
        apply Classical.byContradiction
        intro hne
        exact hno ⟨t, ht, hst, hne⟩
      obtain ⟨t, ht, hst, hne⟩ := this
      have hlt := sub_lt hst hne
      obtain ⟨m, hm, hmt⟩ := ih t ht (by omega)
      exact ⟨m, hm, subS_trans hmt hst⟩
theorem minV_anti {l : List (BitVec 64)} {a b : BitVec 64} (ha : a ∈ minV l) (hb : b ∈ minV l) (h : subS a b = true) : a = b :=
  smallV_iff.1 (mem_minV.1 hb).2 a (mem_minV.1 ha).1 h

/-! ### Next -/
/-- m is the least number of o that s lacks. -/
def Lacks (s o : BitVec 64) (m : Nat) : Prop := o.getLsbD m = true ∧ s.getLsbD m = false ∧ ∀ j, j < m → o.getLsbD j = true → s.getLsbD j = true
theorem lacks_of {s o : BitVec 64} (h : subS s o = true) (hne : s ≠ o) : ∃ m, Lacks s o m := by
  have hex : ∃ m, o.getLsbD m = true ∧ s.getLsbD m = false := by
    apply Classical.byContradiction
    intro hno
    apply hne
    apply ext_bit
    intro i hi
    cases hs : s.getLsbD i with
    | true => exact (subS_iff.1 h i hs).symm
    | false =>
      cases ho : o.getLsbD i with
      | false => rfl
      | true => exact absurd ⟨i, ho, hs⟩ hno
  obtain ⟨m, hm⟩ := hex
  have key : ∀ n, (∃ m, m ≤ n ∧ o.getLsbD m = true ∧ s.getLsbD m = false) → ∃ m, Lacks s o m := by
    intro n
    induction n with
    | zero =>
      rintro ⟨m, hm, h1, h2⟩
      exact ⟨m, h1, h2, fun j hj => absurd hj (by omega)⟩
    | succ n ih =>
      rintro ⟨m, hm, h1, h2⟩
      by_cases hl : ∃ j, j ≤ n ∧ o.getLsbD j = true ∧ s.getLsbD j = false
      · exact ih hl
      · refine ⟨m, h1, h2, fun j hj ho => ?_⟩
        cases hs : s.getLsbD j with
        | true => rfl
        | false => exact absurd ⟨j, by omega, ho, hs⟩ hl
  exact key m ⟨m, Nat.le_refl _, hm⟩
theorem neg_bits {t : BitVec 64} {m : Nat} (hlow : ∀ i, i < m → t.getLsbD i = false) (hm : t.getLsbD m = true) (j : Nat) (hj : j < 64) : (-t).getLsbD j = (if j < m then false else if j = m then true else !t.getLsbD j) := by
  rw [BitVec.getLsbD_neg, decide_eq_true hj, Bool.true_and]
  by_cases c1 : j < m
  · rw [if_pos c1, hlow j c1, decide_eq_false]
    · rfl
    · rintro ⟨i, hi, hb⟩
      rw [hlow i (by omega)] at hb; cases hb
  · rw [if_neg c1]
    by_cases c2 : j = m
    · subst c2
      rw [if_pos rfl, hm, decide_eq_false]
      · rfl
      · rintro ⟨i, hi, hb⟩
        rw [hlow i hi] at hb; cases hb
    · rw [if_neg c2, decide_eq_true (⟨m, by omega, hm⟩ : ∃ i, i < j ∧ t.getLsbD i = true), Bool.xor_true]
theorem next_bit {s o : BitVec 64} (h : subS s o = true) {m : Nat} (hm : Lacks s o m) (j : Nat) (hj : j < 64) : ((s - o) &&& o).getLsbD j = (if j < m then false else if j = m then true else s.getLsbD j) := by
  obtain ⟨h1, h2, h3⟩ := hm
  have hlt : m < 64 := BitVec.lt_of_getLsbD h1
  have tb : ∀ i, i < 64 → (o &&& ~~~s).getLsbD i = (o.getLsbD i && !s.getLsbD i) := by
    intro i hi
    rw [BitVec.getLsbD_and, BitVec.getLsbD_not, decide_eq_true hi, Bool.true_and]
  have ht : s + (o &&& ~~~s) = o := by
    rw [add_or]
    · apply ext_bit
      intro i hi
      rw [BitVec.getLsbD_or, tb i hi]
      cases hs : s.getLsbD i with
      | true => simp [subS_iff.1 h i hs]
      | false => simp
    · apply ext_bit
      intro i hi
      rw [BitVec.getLsbD_and, tb i hi]
      cases s.getLsbD i <;> simp
  have e : s - o = -(o &&& ~~~s) := by
    have h9 : s - (s + (o &&& ~~~s)) = -(o &&& ~~~s) := by
      rw [BitVec.sub_eq_add_neg, BitVec.neg_add, BitVec.sub_eq_add_neg, ← BitVec.add_assoc, ← BitVec.sub_eq_add_neg s s, BitVec.sub_self, BitVec.zero_add]
    rwa [ht] at h9
  rw [e, BitVec.getLsbD_and, neg_bits (m := m) _ _ j hj]
  · by_cases c1 : j < m
    · rw [if_pos c1, if_pos c1]; rfl
    · rw [if_neg c1, if_neg c1]
      by_cases c2 : j = m
      · subst c2; rw [if_pos rfl, if_pos rfl, h1]; rfl
      · rw [if_neg c2, if_neg c2, tb j hj]
        cases hs : s.getLsbD j with
        | true => simp [subS_iff.1 h j hs]
        | false => cases o.getLsbD j <;> simp
  · intro i hi
    rw [tb i (by omega)]
    cases ho : o.getLsbD i with
    | false => rfl
    | true => rw [h3 i hi ho]; rfl
  · rw [tb m hlt, h1, h2]; rfl

end Go.Proofs.Ytaphehdbjbogaaa.Mins

/- What the reference's Minimal answers. -/
namespace Go.Proofs.Ytaphehdbjbogaaa.RMins
set_option linter.unusedVariables false
set_option linter.unusedSimpArgs false
open Go.RowKit Go.Proofs.Ytaphehdbjbogaaa.Evs Go.Proofs.Ytaphehdbjbogaaa.Pr Go.Proofs.Ytaphehdbjbogaaa.Bits Go.Proofs.Ytaphehdbjbogaaa.Sets Go.Proofs.Ytaphehdbjbogaaa.Mins Go.Proofs.Ytaphehdbjbogaaa.Refs Go.Proofs.YtaphehdbjbogaaaW.PrintWords Go.Proofs.YtaphehdbjbogaaaW.PrintLast Go.Proofs.YtaphehdbjbogaaaW.PrintMore

theorem map_U {l : List Int} (h : ∀ x ∈ l, (Lit.int .u64 x).wf = true) : ∃ v : List (BitVec 64), l = v.map U := by
  induction l with
  | nil => exact ⟨[], rfl⟩
  | cons x l ih =>
    obtain ⟨v, rfl⟩ := ih (fun y hy => h y (List.mem_cons_of_mem _ hy))
    obtain ⟨a, rfl⟩ := U_of (h x List.mem_cons_self)
    exact ⟨a :: v, rfl⟩
theorem rdU (v : List (BitVec 64)) {i : Nat} (h : i < v.length) : rd (v.map U) (i : Int) = U v[i] := by simp [rd, h]
theorem rbefore (a b : BitVec 64) : Ev (fun k => petrinetref06_before.f k (U a) (U b)) (befV a b) := by
  unfold petrinetref06_before.f
  refine Ev.bind (rlen a) ?_
  refine Ev.bind (rlen b) ?_
  by_cases h : ((els a 64).length : Int) < ((els b 64).length : Int)
  · simp only [h, if_true]
    have : befV a b = true := befV_iff.2 (.inl (by unfold lenV; omega))
    rw [this]; exact Ev.now _
  · simp only [h, if_false]
    refine Ev.bind (rlen a) ?_
    refine Ev.bind (rlen b) ?_
    refine Ev.same (funext fun k => ?_)
    unfold befV lenV
    by_cases e : (els a 64).length = (els b 64).length
    · rw [if_pos (by omega), if_pos e]
      congr 1
      rw [Bool.eq_iff_iff]; simp [U]
    · rw [if_neg (by omega), if_neg e]
      congr 1
      symm
      simp; omega
theorem rminimal_l0 (l : List (BitVec 64)) (hl : l.length ≤ 100000) (s : BitVec 64) : ∀ (d i : Nat), i ≤ l.length → l.length - i = d → Ev (fun k => petrinetref06_minimal.l0 k (l.map U) (U s) (i : Int)) (smallV (l.drop i) s) := by
  intro d
  induction d with
  | zero =>
    intro i hi hd
    refine Ev.succ ?_
    simp only [petrinetref06_minimal.l0, List.length_map]
    rw [List.drop_of_length_le (by omega)]
    exact Ev.same (funext fun k => by rw [if_neg (by omega)]; rfl)
  | succ d ih =>
    intro i hi hd
    have hlt : i < l.length := by omega
    refine Ev.succ ?_
    simp only [petrinetref06_minimal.l0, List.length_map]
    have c1 : (i : Int) < (l.length : Int) := by omega
    have c2 : (0 : Int) ≤ (i : Int) := by omega
    simp only [c1, c2, if_true, rdU l hlt, wrap_succ (show i < 9223372036854775807 by omega)]
    have h2 := ih (i + 1) (by omega) (by omega)
    have e : smallV (l.drop i) s = ((decide (l[i] = s) || !subS l[i] s) && smallV (l.drop (i + 1)) s) := by
      rw [List.drop_eq_getElem_cons hlt]; rfl
    rw [e]
    by_cases hs : l[i] = s
    · simp only [hs, if_true, decide_true, Bool.true_or, Bool.true_and]
      exact h2
    · have hs' : ¬ U l[i] = U s := fun h => hs (U_inj.1 h)
      simp only [hs', if_false, decide_eq_false hs, Bool.false_or]
      refine Ev.bind (rsubset _ _) ?_
      cases hb : subS l[i] s with
      | true =>
        simp only [if_true, Bool.not_true, Bool.false_and]
        exact Ev.now _
      | false =>
        simp only [if_neg (show ¬ (false = true) by decide), Bool.not_false, Bool.true_and]
        exact h2
theorem rminimal (l : List (BitVec 64)) (hl : l.length ≤ 100000) (s : BitVec 64) : Ev (fun k => petrinetref06_minimal.f k (l.map U) (U s)) (smallV l s) := by
  have h := rminimal_l0 l hl s _ 0 (by omega) rfl
  rw [List.drop_zero] at h
  exact h
/-- Where s stands among the first i of a sorted list. -/
def atV (out : List (BitVec 64)) (s : BitVec 64) (i : Nat) : Nat := ((out.take i).takeWhile (befV · s)).length
theorem sort_take {out : List (BitVec 64)} (h : SortV out) (i : Nat) : SortV (out.take i) := List.Pairwise.sublist (List.take_sublist _ _) h
theorem atV_step {out : List (BitVec 64)} (hs : SortV out) {s : BitVec 64} {i : Nat} (hi : i < out.length) : atV out s (i + 1) = if befV out[i] s = true then i + 1 else atV out s i := by
  unfold atV
  rw [List.take_succ_eq_append_getElem hi]
  have hall : befV out[i] s = true → ∀ x ∈ out.take i, befV x s = true := by
    intro hb x hx
    obtain ⟨q, hq, rfl⟩ := List.mem_iff_getElem.1 hx
    simp at hq
    rw [List.getElem_take]
    exact befV_trans (List.pairwise_iff_getElem.1 hs q i (by omega) hi (by omega)) hb
  split
  · rename_i hb
    have h2 : (out.take i ++ [out[i]]).takeWhile (befV · s) = out.take i ++ [out[i]] := by
      rw [List.takeWhile_append_of_pos (hall hb)]
      simp [hb]
    rw [h2]; simp; omega
  · rename_i hb
    have hb' : befV out[i] s = false := by simpa using hb
    rw [List.takeWhile_append]
    split
    · rename_i h9
      rw [List.length_append, List.length_take, ← Nat.add_zero (List.length (List.takeWhile (befV · s) (List.take i out)))]
      rw [List.length_take] at h9
      rw [h9]
      simp [hb', List.takeWhile]
    · rfl
theorem atV_end {out : List (BitVec 64)} {s : BitVec 64} : atV out s out.length = posV out s := by unfold atV posV; rw [List.take_length]
theorem ins_twice {out : List (BitVec 64)} (hs : SortV out) {s : BitVec 64} : out[posV out s]? = some s ↔ s ∈ out := by
  constructor
  · exact fun h => List.mem_of_getElem? h
  · intro hm
    rw [← List.take_append_drop (posV out s) out, List.mem_append] at hm
    rcases hm with hm | hm
    · have := take_bef hm
      rw [befV_irr] at this; cases this
    · obtain ⟨i, hi, hx⟩ := List.mem_iff_getElem.1 hm
      simp at hi
      rw [List.getElem_drop] at hx
      by_cases e0 : i = 0
      · subst e0
        rw [List.getElem?_eq_getElem (by omega)]
        simpa using hx
      · exfalso
        have hlt := List.pairwise_iff_getElem.1 hs (posV out s) (posV out s + i) (by omega) (by omega) (by omega)
        rw [hx] at hlt
        have := tw_stop (befV · s) out (show out[(out.takeWhile (befV · s)).length]? = some out[posV out s] from by rw [List.getElem?_eq_getElem]; rfl)
        rw [this] at hlt; cases hlt

section
variable (l : List (BitVec 64)) (hl : l.length ≤ 100000)
include hl
theorem mins_l1 (out : List (BitVec 64)) (hs : SortV out) (ho : out.length ≤ 100000) (q : Nat) (hq : q < l.length) (r : List (BitVec 64))
    (rest : Ev (fun k => petrinetref06_Minimal.l0 k (l.map U) ((insV out l[q]).map U) ((q + 1 : Nat) : Int)) (r.map U)) : ∀ (d i : Nat), i ≤ out.length → out.length - i = d →
    Ev (fun k => petrinetref06_Minimal.l1 k (l.map U) (out.map U) (q : Int) ((atV out l[q] i : Nat) : Int) (decide (l[q] ∈ out.take i)) (i : Int)) (r.map U) := by
  intro d
  induction d with
  | zero =>
    intro i hi hd
    obtain rfl : i = out.length := by omega
    refine Ev.succ ?_
    simp only [petrinetref06_Minimal.l1, List.length_map, Int.lt_irrefl, if_false]
    rw [atV_end, List.take_length]
    have hp : posV out l[q] ≤ out.length := by unfold posV; exact (List.takeWhile_sublist _).length_le
    by_cases hm : l[q] ∈ out
    · simp only [hm, decide_true, if_true]
      rw [wrap_succ (by omega)]
      have e : insV out l[q] = out := by unfold insV; rw [if_pos ((ins_twice hs).2 hm)]
      rw [e] at rest
      exact rest
    · simp only [hm, decide_false, if_neg (show ¬ (false = true) by decide)]
      have e : insV out l[q] = out.take (posV out l[q]) ++ l[q] :: out.drop (posV out l[q]) := by unfold insV; rw [if_neg (fun h => hm ((ins_twice hs).1 h))]
      rw [e] at rest
      have c1 : (0 : Int) ≤ ((posV out l[q] : Nat) : Int) := by omega
      have c2 : ((posV out l[q] : Nat) : Int) ≤ (out.length : Int) := by omega
      have c3 : (0 : Int) ≤ (q : Int) := by omega
      have c4 : (q : Int) < (l.length : Int) := by omega
      simp only [c1, c2, c3, c4, if_true, Option.bind_some, List.length_nil, List.length_take, List.length_map, Int.toNat_natCast, List.nil_append, rdU l hq, List.length_append, List.length_cons, List.length_drop]
      have d1 : 0 + min (posV out l[q]) out.length < 17592186044416 := by omega
      have d2 : min (posV out l[q]) out.length < 17592186044416 := by omega
      have d3 : min (posV out l[q]) out.length + (0 + 1) + (out.length - posV out l[q]) < 17592186044416 := by omega
      simp only [d1, d2, d3, if_true]
      rw [wrap_succ (by omega)]
      have e2 : (out.map U).take (posV out l[q]) ++ [U l[q]] ++ (out.map U).drop (posV out l[q]) = (out.take (posV out l[q]) ++ l[q] :: out.drop (posV out l[q])).map U := by simp
      rw [e2]
      exact rest
  | succ d ih =>
    intro i hi hd
    have hlt : i < out.length := by omega
    have c1 : (i : Int) < (out.length : Int) := by omega
    have c2 : (0 : Int) ≤ (i : Int) := by omega
    have c3 : (0 : Int) ≤ (q : Int) := by omega
    have c4 : (q : Int) < (l.length : Int) := by omega
    have h2 := ih (i + 1) (by omega) (by omega)
    rw [atV_step hs hlt, List.take_succ_eq_append_getElem hlt] at h2
    refine Ev.succ ?_
    simp only [petrinetref06_Minimal.l1, List.length_map, c1, c2, c3, c4, if_true, rdU l hq, rdU out hlt, wrap_succ (show i < 9223372036854775807 by omega)]
    by_cases e : out[i] = l[q]
    · have hmem : decide (l[q] ∈ out.take i ++ [out[i]]) = true := by simp [e]
      rw [hmem] at h2
      simp only [e, if_true]
      refine Ev.bind (rbefore _ _) ?_
      rw [befV_irr]
      simp only [if_neg (show ¬ (false = true) by decide)]
      rw [e, befV_irr, if_neg (by decide)] at h2
      exact h2
    · have e' : ¬ U out[i] = U l[q] := fun h => e (U_inj.1 h)
      have hmem : decide (l[q] ∈ out.take i ++ [out[i]]) = decide (l[q] ∈ out.take i) := by
        have h9 : ¬ l[q] = out[i] := fun h => e h.symm
        rw [Bool.eq_iff_iff, decide_eq_true_iff, decide_eq_true_iff, List.mem_append, List.mem_singleton]
        exact ⟨fun h => h.elim id (fun h => absurd h h9), .inl⟩
      rw [hmem] at h2
      simp only [e', if_false]
      refine Ev.bind (rbefore _ _) ?_
      cases hb : befV out[i] l[q] with
      | true =>
        rw [hb, if_pos rfl] at h2
        simp only [if_true]
        exact h2
      | false =>
        rw [hb, if_neg (by decide)] at h2
        simp only [if_neg (show ¬ (false = true) by decide)]
        exact h2
theorem mins_l0 : ∀ (d q : Nat) (out : List (BitVec 64)), q ≤ l.length → l.length - q = d → SortV out → out.length ≤ q →
    Ev (fun k => petrinetref06_Minimal.l0 k (l.map U) (out.map U) (q : Int)) (((l.drop q).foldl (fun out s => if smallV l s then insV out s else out) out).map U) := by
  intro d
  induction d with
  | zero =>
    intro q out hq hd hs ho
    refine Ev.succ ?_
    simp only [petrinetref06_Minimal.l0, List.length_map]
    have c1 : ¬ (q : Int) < (l.length : Int) := by omega
    rw [List.drop_of_length_le (by omega)]
    simp only [c1, if_false]
    exact Ev.now _
  | succ d ih =>
    intro q out hq hd hs ho
    have hlt : q < l.length := by omega
    refine Ev.succ ?_
    simp only [petrinetref06_Minimal.l0, List.length_map]
    have c1 : (q : Int) < (l.length : Int) := by omega
    have c2 : (0 : Int) ≤ (q : Int) := by omega
    simp only [c1, c2, if_true, rdU l hlt]
    refine Ev.bind (rminimal l hl l[q]) ?_
    rw [List.drop_eq_getElem_cons hlt, List.foldl_cons]
    cases hb : smallV l l[q] with
    | true =>
      simp only [if_true]
      have hlen : (insV out l[q]).length ≤ q + 1 := by
        have h9 := insL_len (out.map U) (U l[q])
        rw [insL_U] at h9
        simp at h9; omega
      have h2 := ih (q + 1) (insV out l[q]) (by omega) (by omega) (sort_insV hs _) hlen
      have h3 := mins_l1 l hl out hs (by omega) q hlt _ h2 _ 0 (by omega) rfl
      have e1 : atV out l[q] 0 = 0 := rfl
      have e2 : decide (l[q] ∈ out.take 0) = false := by simp
      rw [e1, e2] at h3
      exact h3
    | false =>
      simp only [if_neg (show ¬ (false = true) by decide)]
      rw [wrap_succ (by omega)]
      exact ih (q + 1) out (by omega) (by omega) hs (by omega)
end

end Go.Proofs.Ytaphehdbjbogaaa.RMins

/- A datum that is read deep (the statements' reader) told as the walks tell it: rows of rows, texts, numbers. -/
namespace Go.Proofs.Ytaphehdbjbogaaa.Opens
set_option linter.unusedVariables false
open Go.RowKit Go.WideShapes Go.Deep Go.Proofs.YtaphehdbjbogaaaW.PrintWords

/-- What the statements' reader finds at cells of type t is what d tells of some a with ok. -/
structure Opens {α H : Type} (enc : TypeId × Value → H) (P : Program) (w : World) (base : Nat) (spare : Nat → Bool) (held : Bool) (d : Kd α) (t : TypeId) (ok : α → Prop) : Prop where
  cells : P.cellsOf t = d.sz
  opens : ∀ (fuel : Nat) (cs : List Value) (x : DataW H × List MemPlace), DataW.trod enc P w base spare held fuel t cs = some x → ∃ a, d.K w a cs ∧ ok a

section
variable {H : Type} {enc : TypeId × Value → H} {P : Program} {w : World} {base : Nat} {spare : Nat → Bool} {held : Bool}
theorem string {t : TypeId} (ht : P.underlying t = some .string) (hc : P.cellsOf t = 1) : Opens enc P w base spare held Kd.string t (fun s => s.size ≤ maxLen) :=
  ⟨hc, fun fuel cs x h => by obtain ⟨s, rfl, _, hs⟩ := DataW.trod_string ht h; exact ⟨s, rfl, hs⟩⟩
theorem bool {t : TypeId} (ht : P.underlying t = some .bool) (hc : P.cellsOf t = 1) : Opens enc P w base spare held Kd.bool t (fun _ => True) :=
  ⟨hc, fun fuel cs x h => by obtain ⟨s, rfl, _⟩ := DataW.trod_bool ht h; exact ⟨s, rfl, trivial⟩⟩
theorem int {t : TypeId} {k : IntKind} (ht : P.underlying t = some (.int k)) (hc : P.cellsOf t = 1) : Opens enc P w base spare held (Kd.int k) t (fun n => (Lit.int k n).wf = true) :=
  ⟨hc, fun fuel cs x h => by obtain ⟨s, rfl, _, hs⟩ := DataW.trod_int ht h; exact ⟨s, rfl, hs⟩⟩
theorem list_of {α : Type} {p : Nat → α → Prop} : ∀ (n : Nat), (∀ i, i < n → ∃ a, p i a) → ∃ xs : List α, xs.length = n ∧ ∀ i a, xs[i]? = some a → p i a
  | 0, _ => ⟨[], rfl, fun i a h => by simp at h⟩
  | n + 1, h => by
    obtain ⟨xs, hl, hx⟩ := list_of n (fun i hi => h i (by omega))
    obtain ⟨a, ha⟩ := h n (by omega)
    refine ⟨xs ++ [a], by simp [hl], fun i b hb => ?_⟩
    by_cases hi : i < xs.length
    · rw [List.getElem?_append_left hi] at hb; exact hx i b hb
    · have hlt := (List.getElem?_eq_some_iff.1 hb).1
      simp only [List.length_append, List.length_cons, List.length_nil] at hlt
      obtain rfl : i = n := by omega
      rw [List.getElem?_append_right (by omega)] at hb
      simp [hl] at hb
      rw [← hb]; exact ha
theorem slice {α : Type} {d : Kd α} {t e : TypeId} {ok : α → Prop} (h : Opens enc P w base spare held d e ok) (ht : P.underlying t = some (.slice e)) (hc : P.cellsOf t = 1) :
    Opens enc P w base spare held (Kd.slice e d) t (fun xs => xs.length ≤ maxLen ∧ ∀ x ∈ xs, ok x) := by
  refine ⟨hc, fun fuel cs x hx => ?_⟩
  rcases open_slice ht hx with ⟨rfl, _⟩ | ⟨a, len, cap, m, n, D, Pl, rfl, _, hl, hm, hmm, _, hi⟩
  · exact ⟨[], ⟨none, 0, rfl, Nat.le_refl _, Kd.C_nil _ _⟩, by simp, by simp⟩
  · have hlm : len ≤ m := by rw [hmm]; split <;> omega
    obtain ⟨xs, hxl, hxs⟩ := list_of (p := fun i b => ∃ c, c.length = d.sz ∧ d.K w b c ∧ ok b ∧ ∀ j u, c[j]? = some u → w.cell? (a.add (i * d.sz + j)) = some u) len (fun i hlt => by
      obtain ⟨cs', h1, h2⟩ := hi i (by omega)
      obtain ⟨b, hK, hok⟩ := h.opens _ _ _ h2
      obtain ⟨_, hlen, hcell⟩ := World.cells?_some h1
      refine ⟨b, cs', by rw [hlen, h.cells], hK, hok, fun j u hu => ?_⟩
      have hj := (List.getElem?_eq_some_iff.1 hu).1
      rw [← hu, ← hcell j (by omega), h.cells, Addr.add_add])
    subst hxl
    refine ⟨xs, ⟨some a, cap, rfl, hl, rfl, by unfold maxLen at hm; omega, fun _ => ⟨a, rfl, fun j p hp => ?_⟩⟩, by omega, fun y hy => ?_⟩
    · obtain ⟨c, h1, h2, _, h4⟩ := hxs j p hp
      exact ⟨c, h1, h2, h4⟩
    · obtain ⟨j, hj⟩ := List.mem_iff_getElem?.1 hy
      obtain ⟨c, _, _, h3, _⟩ := hxs j y hj
      exact h3
/-- A parameter that is a row. -/
theorem param {α : Type} {d : Kd α} {t e : TypeId} {ok : α → Prop} (h : Opens enc P w base spare held d e ok) (ht : P.underlying t = some (.slice e)) (hc : P.cellsOf t = 1) {a : Option Addr} {len cap : Nat} {D : DataW H} {ps : List MemPlace}
    (hd : DataW.Trod enc P w base spare held t (.slice a len cap) D ps) : ∃ xs : List α, len = xs.length ∧ xs.length ≤ cap ∧ d.C w a xs.length xs ∧ xs.length ≤ maxLen ∧ ∀ x ∈ xs, ok x := by
  obtain ⟨fuel, hf⟩ := hd
  obtain ⟨xs, ⟨A, c, he, hcap, hC⟩, hl, hx⟩ := (slice h ht hc).opens _ _ _ hf
  have he' : [Value.slice a len cap] = [.slice A xs.length c] := he
  simp only [List.cons.injEq, Value.slice.injEq, and_true] at he'
  obtain ⟨rfl, rfl, rfl⟩ := he'
  exact ⟨xs, rfl, hcap, hC, hl, hx⟩
/-! ### Structs -/
/-- The fields of a struct, from some place of its cells on. -/
structure OpensL {α H : Type} (enc : TypeId × Value → H) (P : Program) (w : World) (base : Nat) (spare : Nat → Bool) (held : Bool) (d : Kd α) (fs : List Field) (o : Nat) (ok : α → Prop) : Prop where
  opens : ∀ (n : Nat) (cs : List Value), (∀ f ∈ fs, ∃ y, DataW.trod enc P w base spare held n f.type ((cs.drop f.offset).take (P.cellsOf f.type)) = some y) → ∃ a, d.K w a ((cs.drop o).take d.sz) ∧ ok a
theorem one {α : Type} {d : Kd α} {f : Field} {o : Nat} {ok : α → Prop} (h : Opens enc P w base spare held d f.type ok) (ho : f.offset = o) : OpensL enc P w base spare held d [f] o ok :=
  ⟨fun n cs hf => by
    obtain ⟨y, hy⟩ := hf f List.mem_cons_self
    obtain ⟨a, hK, hok⟩ := h.opens _ _ _ hy
    rw [h.cells, ho] at hK
    exact ⟨a, hK, hok⟩⟩
theorem cons {α β : Type} {d1 : Kd α} {d2 : Kd β} {f : Field} {fs : List Field} {o o2 : Nat} {ok1 : α → Prop} {ok2 : β → Prop} (h : Opens enc P w base spare held d1 f.type ok1) (ho : f.offset = o) (ho2 : o + d1.sz = o2) (h2 : OpensL enc P w base spare held d2 fs o2 ok2) :
    OpensL enc P w base spare held (Kd.pair d1 d2) (f :: fs) o (fun a => ok1 a.1 ∧ ok2 a.2) :=
  ⟨fun n cs hf => by
    obtain ⟨y, hy⟩ := hf f List.mem_cons_self
    obtain ⟨a, hK, hok⟩ := h.opens _ _ _ hy
    rw [h.cells, ho] at hK
    obtain ⟨b, hK2, hok2⟩ := h2.opens n cs (fun g hg => hf g (List.mem_cons_of_mem _ hg))
    refine ⟨(a, b), ⟨_, _, ?_, hK, hK2⟩, hok, hok2⟩
    rw [← ho2, ← List.drop_drop]
    exact List.take_add⟩
theorem tuple {α : Type} {d : Kd α} {t : TypeId} {fs : Array Field} {ok : α → Prop} (ht : P.underlying t = some (.struct fs)) (hc : P.cellsOf t = d.sz) (h : OpensL enc P w base spare held d fs.toList 0 ok) : Opens enc P w base spare held d t ok := by
  refine ⟨hc, fun fuel cs x hx => ?_⟩
  obtain ⟨xs, n, rfl, rfl, hl, hlen, hf⟩ := DataW.trod_struct ht hx
  obtain ⟨a, hK, hok⟩ := h.opens n cs (fun f hm => by
    obtain ⟨i, hi⟩ := List.mem_iff_getElem?.1 hm
    have hi' : fs[i]? = some f := by simpa using hi
    have hlt : i < xs.length := by rw [hlen]; exact (Array.getElem?_eq_some_iff.1 hi').1
    exact ⟨xs[i], by rw [hf i f hi', List.getElem?_eq_getElem hlt]⟩)
  rw [List.drop_zero, List.take_of_length_le (by rw [hl, hc]; exact Nat.le_refl _)] at hK
  exact ⟨a, hK, hok⟩
theorem struct {α β : Type} {d : Kd α} {t : TypeId} {fs : Array Field} {ok : α → Prop} {f : β → α} (g : α → β) (hg : ∀ a, f (g a) = a) (ht : P.underlying t = some (.struct fs)) (hc : P.cellsOf t = d.sz) (h : OpensL enc P w base spare held d fs.toList 0 ok) :
    Opens enc P w base spare held (Kd.iso d f) t (fun b => ok (f b)) := by
  refine ⟨hc, fun fuel cs x hx => ?_⟩
  obtain ⟨a, hK, hok⟩ := (tuple ht hc h).opens fuel cs x hx
  exact ⟨g a, by show d.K w (f (g a)) cs; rw [hg]; exact hK, by rw [hg]; exact hok⟩
/-- A parameter that is a struct. -/
theorem value {α : Type} {d : Kd α} {t : TypeId} {ok : α → Prop} (h : Opens enc P w base spare held d t ok) {cs : Array Value} {D : DataW H} {ps : List MemPlace}
    (hd : DataW.Trod enc P w base spare held t (.agg cs) D ps) : ∃ a, d.K w a cs.toList ∧ ok a := by
  obtain ⟨fuel, hf⟩ := hd
  obtain ⟨a, hK, hok⟩ := h.opens _ _ _ hf
  exact ⟨a, by simpa [Value.cells] using hK, hok⟩
end
end Go.Proofs.Ytaphehdbjbogaaa.Opens

/- Nets: what the checks of program and reference answer. -/
namespace Go.Proofs.Ytaphehdbjbogaaa.Nets
open Go.RowKit Go.Proofs.Ytaphehdbjbogaaa.Pr Go.Proofs.Ytaphehdbjbogaaa.Evs Go.Proofs.Ytaphehdbjbogaaa.Names Go.Proofs.Ytaphehdbjbogaaa.RName Go.Proofs.Ytaphehdbjbogaaa.Bits Go.Proofs.Ytaphehdbjbogaaa.Sets Go.Proofs.Ytaphehdbjbogaaa.Refs Go.Proofs.YtaphehdbjbogaaaW.PrintWords Go.Proofs.YtaphehdbjbogaaaW.PrintLast Go.Proofs.YtaphehdbjbogaaaW.PrintMore
set_option linter.unusedVariables false
set_option linter.unusedSimpArgs false

abbrev Pl := S56
abbrev Ar := S58
abbrev Tr := S40
theorem rdP {l : List Pl} {i : Nat} : rd_T56 l (i : Int) = l.getD i z56 := by simp [rd_T56]
theorem rdA {l : List Ar} {i : Nat} : rd_T58 l (i : Int) = l.getD i z58 := by simp [rd_T58]
theorem rdT {l : List Tr} {i : Nat} : rd_T40 l (i : Int) = l.getD i z40 := by simp [rd_T40]
def plE (p : Pl) : Int := if p.f2 < 0 ∨ 1048576 < p.f2 then 1 else if p.f1 < 0 ∨ 1048576 < p.f1 then 10 else if p.f2 = 0 then 0 else if p.f2 < p.f1 then 10 else 0
def arcE (np : Int) (l : List Ar) (i : Nat) : Int := if (l.getD i z58).f0 < 0 ∨ np ≤ (l.getD i z58).f0 then 7 else if 0 < i ∧ (l.getD i z58).f0 ≤ (l.getD (i - 1) z58).f0 then 8 else if (l.getD i z58).f1 < 1 ∨ 99 < (l.getD i z58).f1 then 9 else 0
def arcsE (np : Int) (l : List Ar) : Nat → Nat → Int
  | 0, _ => 0
  | d + 1, i => if arcE np l i = 0 then arcsE np l d (i + 1) else arcE np l i
theorem arcsE_go {np : Int} {l : List Ar} {d i : Nat} (h : arcE np l i = 0) : arcsE np l (d + 1) i = arcsE np l d (i + 1) := by rw [arcsE, if_pos h]
theorem arcsE_no {np : Int} {l : List Ar} {d i : Nat} {e : Int} (h : arcE np l i = e) (he : ¬ e = 0) : arcsE np l (d + 1) i = e := by rw [arcsE, h, if_neg he]
theorem arcE_7 {np : Int} {l : List Ar} {i : Nat} (h : (l.getD i z58).f0 < 0 ∨ np ≤ (l.getD i z58).f0) : arcE np l i = 7 := by rw [arcE, if_pos h]
theorem arcE_8 {np : Int} {l : List Ar} {i : Nat} (h : ¬ ((l.getD i z58).f0 < 0 ∨ np ≤ (l.getD i z58).f0)) (h2 : 0 < i ∧ (l.getD i z58).f0 ≤ (l.getD (i - 1) z58).f0) : arcE np l i = 8 := by rw [arcE, if_neg h, if_pos h2]
theorem arcE_9 {np : Int} {l : List Ar} {i : Nat} (h : ¬ ((l.getD i z58).f0 < 0 ∨ np ≤ (l.getD i z58).f0)) (h2 : ¬ (0 < i ∧ (l.getD i z58).f0 ≤ (l.getD (i - 1) z58).f0)) (h3 : (l.getD i z58).f1 < 1 ∨ 99 < (l.getD i z58).f1) : arcE np l i = 9 := by rw [arcE, if_neg h, if_neg h2, if_pos h3]
theorem arcE_0 {np : Int} {l : List Ar} {i : Nat} (h : ¬ ((l.getD i z58).f0 < 0 ∨ np ≤ (l.getD i z58).f0)) (h2 : ¬ (0 < i ∧ (l.getD i z58).f0 ≤ (l.getD (i - 1) z58).f0)) (h3 : ¬ ((l.getD i z58).f1 < 1 ∨ 99 < (l.getD i z58).f1)) : arcE np l i = 0 := by rw [arcE, if_neg h, if_neg h2, if_neg h3]
def arcsV (np : Int) (l : List Ar) : Int := arcsE np l l.length 0
def trE (np : Int) (t : Tr) : Int := if t.f4 < 0 ∨ 9 < t.f4 then 1 else if arcsV np t.f1 = 0 then (if arcsV np t.f2 = 0 then arcsV np t.f3 else arcsV np t.f2) else arcsV np t.f1
def nmE (names : List ByteArray) (s : ByteArray) : Int := (addB names s).1
theorem addB_ok {names : List ByteArray} {s : ByteArray} (h : nmE names s = 0) : (addB names s).2 = names ++ [s] := by
  unfold nmE at h
  unfold addB at h ⊢
  by_cases h1 : nameB s = true
  · by_cases h2 : (names.any fun y => y.toList == s.toList) = true
    · rw [if_pos h1, if_pos h2] at h; cases h
    · rw [if_pos h1, if_neg h2]
  · rw [if_neg h1] at h; cases h
theorem plE_1 {p : Pl} (h : p.f2 < 0 ∨ 1048576 < p.f2) : plE p = 1 := by unfold plE; rw [if_pos h]
theorem plE_2 {p : Pl} (h : ¬ (p.f2 < 0 ∨ 1048576 < p.f2)) (h1 : p.f1 < 0 ∨ 1048576 < p.f1) : plE p = 10 := by unfold plE; rw [if_neg h, if_pos h1]
theorem plE_3 {p : Pl} (h : ¬ (p.f2 < 0 ∨ 1048576 < p.f2)) (h1 : ¬ (p.f1 < 0 ∨ 1048576 < p.f1)) (h2 : p.f2 = 0) : plE p = 0 := by unfold plE; rw [if_neg h, if_neg h1, if_pos h2]
theorem plE_4 {p : Pl} (h : ¬ (p.f2 < 0 ∨ 1048576 < p.f2)) (h1 : ¬ (p.f1 < 0 ∨ 1048576 < p.f1)) (h2 : ¬ p.f2 = 0) (h3 : p.f2 < p.f1) : plE p = 10 := by unfold plE; rw [if_neg h, if_neg h1, if_neg h2, if_pos h3]
theorem plE_5 {p : Pl} (h : ¬ (p.f2 < 0 ∨ 1048576 < p.f2)) (h1 : ¬ (p.f1 < 0 ∨ 1048576 < p.f1)) (h2 : ¬ p.f2 = 0) (h3 : ¬ p.f2 < p.f1) : plE p = 0 := by unfold plE; rw [if_neg h, if_neg h1, if_neg h2, if_neg h3]
def chkPV : List Pl → Nat → List ByteArray → (Int × Int) ⊕ List ByteArray
  | [], _, names => .inr names
  | p :: ps, i, names => if nmE names p.f0 = 0 then (if plE p = 0 then chkPV ps (i + 1) (names ++ [p.f0]) else .inl (plE p, (i : Int))) else .inl (nmE names p.f0, (i : Int))
def chkTV (np : Nat) : List Tr → Nat → List ByteArray → Int × Int
  | [], _, names => (0, 0)
  | t :: ts, i, names => if nmE names t.f0 = 0 then (if trE np t = 0 then chkTV np ts (i + 1) (names ++ [t.f0]) else (trE np t, ((np + i : Nat) : Int))) else (nmE names t.f0, ((np + i : Nat) : Int))
def checkV (a : ByteArray) (l1 : List Pl) (l2 : List Tr) : Int × Int :=
  if nameB a then (if l1.length < 1 ∨ 24 < l1.length ∨ 24 < l2.length then (2, 0) else match chkPV l1 0 [] with | .inl e => e | .inr names => chkTV l1.length l2 0 names) else (5, 0)
def Short (l2 : List Tr) : Prop := ∀ t ∈ l2, t.f1.length ≤ 26 ∧ t.f2.length ≤ 26 ∧ t.f3.length ≤ 26

/-! ### the program's check -/
theorem mValid1 (x : Int) : Ev (fun k => marking_Valid.f k [x] 1) (decide (0 ≤ x ∧ x ≤ 1048576)) := by
  unfold marking_Valid.f
  refine Ev.pos (by simp) ?_
  refine Ev.succ ?_
  simp only [marking_Valid.l0]
  refine Ev.pos (by simp) (Ev.pos (by omega) (Ev.pos (by simp) ?_))
  rw [show rd [x] 0 = x from rfl]
  refine Ev.ite (fun h => Ev.val (by simp; omega)) (fun h => Ev.ite (fun h2 => Ev.val (by simp; omega)) (fun h2 => ?_))
  refine Ev.succ ?_
  simp only [marking_Valid.l0]
  exact Ev.neg (by rw [show wrap64 ((0 : Int) + 1) = 1 by unfold wrap64; omega]; simp) (Ev.val (by simp; omega))
theorem pPlace (p : Pl) : Ev (fun k => net_checkPlace.f k p.f0 p.f1 p.f2) (plE p) := by
  unfold net_checkPlace.f
  have hj : ∀ b : Bool, b = decide (p.f2 < 0 ∨ 1048576 < p.f2) → Ev (fun k => net_checkPlace.j0 k b p.f0 p.f1 p.f2) (plE p) := by
    intro b hb
    refine Ev.succ ?_
    simp only [net_checkPlace.j0]
    refine Ev.ite (fun h => Ev.val ?_) (fun h => ?_)
    · rw [hb] at h; exact (plE_1 (of_decide_eq_true h)).symm
    · have hn : ¬ (p.f2 < 0 ∨ 1048576 < p.f2) := by rw [hb] at h; intro hh; exact h (decide_eq_true hh)
      refine Ev.bind (mValid1 _) ?_
      by_cases h1 : 0 ≤ p.f1 ∧ p.f1 ≤ 1048576
      · have hn1 : ¬ (p.f1 < 0 ∨ 1048576 < p.f1) := by omega
        exact Ev.pos (decide_eq_true h1) (Ev.ite (fun h2 => Ev.val (plE_3 hn hn1 h2).symm) (fun h2 => Ev.ite (fun h3 => Ev.val (plE_4 hn hn1 h2 h3).symm) (fun h3 => Ev.val (plE_5 hn hn1 h2 h3).symm)))
      · exact Ev.neg (by simpa using h1) (Ev.val (plE_2 hn (by omega)).symm)
  refine Ev.ite (fun h => hj _ ?_) (fun h => hj _ ?_)
  · exact (decide_eq_true (.inl h)).symm
  · exact decide_eq_decide.2 (by omega)
theorem pArcs_l0 (np : Int) (l : List Ar) (hl : l.length ≤ 1000) : ∀ (d i : Nat), i ≤ l.length → l.length - i = d → Ev (fun k => net_checkArcs.l0 k l np l (l.length : Int) (i : Int)) (arcsE np l d i) := by
  intro d
  induction d with
  | zero =>
    intro i hi hd
    refine Ev.succ ?_
    simp only [net_checkArcs.l0]
    exact Ev.neg (by omega) (Ev.now _)
  | succ d ih =>
    intro i hi hd
    have hih := ih (i + 1) (by omega) (by omega)
    refine Ev.succ ?_
    simp only [net_checkArcs.l0, rdA]
    have hj2 : ∀ b : Bool, ¬ ((l.getD i z58).f0 < 0 ∨ np ≤ (l.getD i z58).f0) → b = decide (0 < i ∧ (l.getD i z58).f0 ≤ (l.getD (i - 1) z58).f0) → Ev (fun k => net_checkArcs.j2 k l np l (l.length : Int) (i : Int) b (l.getD i z58).f0 (l.getD i z58).f1) (arcsE np l (d + 1) i) := by
      intro b h7 hb
      refine Ev.succ ?_
      simp only [net_checkArcs.j2]
      refine Ev.ite (fun h => ?_) (fun h => ?_)
      · rw [hb] at h
        exact Ev.val (arcsE_no (arcE_8 h7 (of_decide_eq_true h)) (by decide)).symm
      · have h8 : ¬ (0 < i ∧ (l.getD i z58).f0 ≤ (l.getD (i - 1) z58).f0) := by rw [hb] at h; intro hh; exact h (decide_eq_true hh)
        refine (Ev.ite (fun h2 => Ev.val (arcsE_no (arcE_9 h7 h8 (.inl h2)) (by decide)).symm) (fun h2 => Ev.ite (fun h3 => Ev.val (arcsE_no (arcE_9 h7 h8 (.inr h3)) (by decide)).symm) (fun h3 => ?_)))
        rw [arcsE_go (arcE_0 h7 h8 (by omega)), wrap_succ (by omega)]
        exact hih
    have hj1 : ∀ b : Bool, b = decide ((l.getD i z58).f0 < 0 ∨ np ≤ (l.getD i z58).f0) → Ev (fun k => net_checkArcs.j1 k l np (i : Int) l (l.length : Int) (i : Int) b (l.getD i z58).f0 (l.getD i z58).f1) (arcsE np l (d + 1) i) := by
      intro b hb
      refine Ev.succ ?_
      simp only [net_checkArcs.j1]
      refine Ev.ite (fun h => ?_) (fun h => ?_)
      · rw [hb] at h
        exact Ev.val (arcsE_no (arcE_7 (of_decide_eq_true h)) (by decide)).symm
      · rw [hb] at h
        have h7 : ¬ ((l.getD i z58).f0 < 0 ∨ np ≤ (l.getD i z58).f0) := fun hh => h (decide_eq_true hh)
        refine Ev.ite (fun h2 => ?_) (fun h2 => hj2 _ h7 ?_)
        · rw [wrap_pred (by omega) (by omega)]
          refine Ev.pos (by omega) (Ev.pos (by omega) ?_)
          rw [rdA]
          exact hj2 _ h7 (decide_eq_decide.2 (by omega))
        · exact (decide_eq_false (by omega)).symm
    refine Ev.pos (by omega) (Ev.pos (by omega) (Ev.pos (by omega) ?_))
    refine Ev.ite (fun h => hj1 _ ?_) (fun h => hj1 _ ?_)
    · exact (decide_eq_true (.inl h)).symm
    · exact decide_eq_decide.2 (by omega)
theorem pArcs (np : Int) (l : List Ar) (hl : l.length ≤ 1000) : Ev (fun k => net_checkArcs.f k l np) (arcsV np l) := pArcs_l0 np l hl _ 0 (by omega) rfl
theorem pTrans (np : Int) (t : Tr) (h1 : t.f1.length ≤ 1000) (h2 : t.f2.length ≤ 1000) (h3 : t.f3.length ≤ 1000) : Ev (fun k => net_checkTrans.f k t.f0 t.f1 t.f2 t.f3 t.f4 np) (trE np t) := by
  unfold net_checkTrans.f
  have hj : ∀ b : Bool, b = decide (t.f4 < 0 ∨ 9 < t.f4) → Ev (fun k => net_checkTrans.j0 k np b t.f0 t.f1 t.f2 t.f3 t.f4) (trE np t) := by
    intro b hb
    refine Ev.succ ?_
    simp only [net_checkTrans.j0, Option.bind_some]
    unfold trE
    refine Ev.ite (fun h => Ev.val ?_) (fun h => ?_)
    · rw [hb] at h; rw [if_pos (of_decide_eq_true h)]
    · rw [if_neg (show ¬ (t.f4 < 0 ∨ 9 < t.f4) by rw [hb] at h; intro hh; exact h (decide_eq_true hh))]
      have w1 : wrap64 ((0 : Int) + 1) = 1 := by unfold wrap64; omega
      have w2 : wrap64 ((1 : Int) + 1) = 2 := by unfold wrap64; omega
      have w3 : wrap64 ((2 : Int) + 1) = 3 := by unfold wrap64; omega
      have hn : (([t.f1, t.f2, t.f3] : List (List Ar)).length : Int) = 3 := rfl
      rw [hn]
      refine Ev.succ ?_
      simp only [net_checkTrans.l0, hn, w1]
      refine Ev.pos (by decide) (Ev.pos (by decide) (Ev.pos (by decide) (Ev.bind (a := arcsV np t.f1) (pArcs np t.f1 h1) (Ev.ite (fun e1 => ?_) (fun e1 => Ev.val (by rw [if_neg e1]))))))
      rw [if_pos e1]
      refine Ev.succ ?_
      simp only [net_checkTrans.l0, hn, w2]
      refine Ev.pos (by decide) (Ev.pos (by decide) (Ev.pos (by decide) (Ev.bind (a := arcsV np t.f2) (pArcs np t.f2 h2) (Ev.ite (fun e2 => ?_) (fun e2 => Ev.val (by rw [if_neg e2]))))))
      rw [if_pos e2]
      refine Ev.succ ?_
      simp only [net_checkTrans.l0, hn, w3]
      refine Ev.pos (by decide) (Ev.pos (by decide) (Ev.pos (by decide) (Ev.bind (a := arcsV np t.f3) (pArcs np t.f3 h3) (Ev.ite (fun e3 => ?_) (fun e3 => Ev.now _)))))
      refine Ev.succ ?_
      simp only [net_checkTrans.l0]
      exact Ev.neg (by decide) (Ev.val e3.symm)
  refine Ev.ite (fun h => hj _ ?_) (fun h => hj _ ?_)
  · exact (decide_eq_true (.inl h)).symm
  · exact decide_eq_decide.2 (by omega)
theorem pchkP : ∀ (l : List Pl) (i : Nat) (names : List ByteArray), Ev (fun k => chkP k l i names) (chkPV l i names)
  | [], i, names => Ev.now _
  | p :: ps, i, names => by
    simp only [chkP, chkPV]
    refine Ev.ite (fun h => ?_) (fun h => Ev.val (by rw [if_neg (show ¬ nmE names p.f0 = 0 from h)]; rfl))
    rw [if_pos (show nmE names p.f0 = 0 from h), addB_ok h]
    exact Ev.bind (pPlace p) (Ev.ite (fun e => by rw [if_pos e]; exact pchkP ps _ _) (fun e => Ev.val (by rw [if_neg e])))
theorem pchkT (np : Nat) : ∀ (l : List Tr), Short l → ∀ (i : Nat) (names : List ByteArray), Ev (fun k => chkT k np l i names) (chkTV np l i names)
  | [], _, i, names => Ev.now _
  | t :: ts, hs, i, names => by
    have h0 := hs t (List.mem_cons_self)
    simp only [chkT, chkTV]
    refine Ev.ite (fun h => ?_) (fun h => Ev.val (by rw [if_neg (show ¬ nmE names t.f0 = 0 from h)]; rfl))
    rw [if_pos (show nmE names t.f0 = 0 from h), addB_ok h]
    exact Ev.bind (pTrans np t (by omega) (by omega) (by omega)) (Ev.ite (fun e => by rw [if_pos e]; exact pchkT np ts (fun x hx => hs x (List.mem_cons_of_mem _ hx)) _ _) (fun e => Ev.val (by rw [if_neg e])))
theorem pCheck (a : ByteArray) (l1 : List Pl) (l2 : List Tr) (hs : Short l2) : Ev (fun k => net_Check.f k a l1 l2) (checkV a l1 l2) := by
  unfold net_Check.f checkV
  refine Ev.ite (fun h => ?_) (fun h => Ev.val (by rw [if_neg h]))
  rw [if_pos h]
  refine Ev.ite (fun h2 => Ev.val (by rw [if_pos h2])) (fun h2 => ?_)
  rw [if_neg h2]
  refine Ev.bind (pchkP l1 0 []) ?_
  cases chkPV l1 0 [] with
  | inl e => exact Ev.now _
  | inr names => exact pchkT _ l2 hs 0 names

/-! ### the reference's check -/
theorem rArcs_l0 (a : ByteArray) (l1 : List Pl) (l2 : List Tr) (l : List Ar) (hl : l.length ≤ 1000) : ∀ (d i : Nat), i ≤ l.length → l.length - i = d → Ev (fun k => petrinetref09_arcs.l0 k l (i : Int) a l1 l2) (arcsE l1.length l d i) := by
  intro d
  induction d with
  | zero =>
    intro i hi hd
    refine Ev.succ ?_
    simp only [petrinetref09_arcs.l0]
    exact Ev.neg (by omega) (Ev.now _)
  | succ d ih =>
    intro i hi hd
    have hih := ih (i + 1) (by omega) (by omega)
    refine Ev.succ ?_
    simp only [petrinetref09_arcs.l0, rdA]
    have hj2 : ∀ b : Bool, ¬ ((l.getD i z58).f0 < 0 ∨ (l1.length : Int) ≤ (l.getD i z58).f0) → b = decide (0 < i ∧ (l.getD i z58).f0 ≤ (l.getD (i - 1) z58).f0) → Ev (fun k => petrinetref09_arcs.j2 k l (i : Int) b a l1 l2) (arcsE l1.length l (d + 1) i) := by
      intro b h7 hb
      refine Ev.succ ?_
      simp only [petrinetref09_arcs.j2, rdA]
      refine Ev.ite (fun h => ?_) (fun h => ?_)
      · rw [hb] at h
        exact Ev.val (arcsE_no (arcE_8 h7 (of_decide_eq_true h)) (by decide)).symm
      · have h8 : ¬ (0 < i ∧ (l.getD i z58).f0 ≤ (l.getD (i - 1) z58).f0) := by rw [hb] at h; intro hh; exact h (decide_eq_true hh)
        refine Ev.pos (by omega) (Ev.pos (by omega) (Ev.ite (fun h2 => Ev.val (arcsE_no (arcE_9 h7 h8 (.inl h2)) (by decide)).symm) (fun h2 => Ev.ite (fun h3 => Ev.val (arcsE_no (arcE_9 h7 h8 (.inr h3)) (by decide)).symm) (fun h3 => ?_))))
        rw [arcsE_go (arcE_0 h7 h8 (by omega)), wrap_succ (by omega)]
        exact hih
    have hj1 : ∀ b : Bool, b = decide ((l.getD i z58).f0 < 0 ∨ (l1.length : Int) ≤ (l.getD i z58).f0) → Ev (fun k => petrinetref09_arcs.j1 k l (i : Int) b a l1 l2) (arcsE l1.length l (d + 1) i) := by
      intro b hb
      refine Ev.succ ?_
      simp only [petrinetref09_arcs.j1]
      refine Ev.ite (fun h => ?_) (fun h => ?_)
      · rw [hb] at h
        exact Ev.val (arcsE_no (arcE_7 (of_decide_eq_true h)) (by decide)).symm
      · rw [hb] at h
        have h7 : ¬ ((l.getD i z58).f0 < 0 ∨ (l1.length : Int) ≤ (l.getD i z58).f0) := fun hh => h (decide_eq_true hh)
        refine Ev.ite (fun h2 => ?_) (fun h2 => hj2 _ h7 ?_)
        · rw [wrap_pred (by omega) (by omega)]
          refine Ev.pos (by omega) (Ev.pos (by omega) (Ev.pos (by omega) (Ev.pos (by omega) ?_)))
          rw [rdA, rdA]
          exact hj2 _ h7 (decide_eq_decide.2 (by omega))
        · exact (decide_eq_false (by omega)).symm
    refine Ev.pos (by omega) (Ev.pos (by omega) ?_)
    refine Ev.ite (fun h => hj1 _ ?_) (fun h => hj1 _ ?_)
    · exact (decide_eq_true (.inl h)).symm
    · exact decide_eq_decide.2 (by omega)
theorem rArcs (a : ByteArray) (l1 : List Pl) (l2 : List Tr) (l : List Ar) (hl : l.length ≤ 1000) : Ev (fun k => petrinetref09_arcs.f k a l1 l2 l) (arcsV l1.length l) := rArcs_l0 a l1 l2 l hl _ 0 (by omega) rfl
theorem nmE_names {names : List ByteArray} {s : ByteArray} : nmE names s = if nameB s then (if (names.any fun y => y.toList == s.toList) then 6 else 0) else 5 := by
  unfold nmE addB
  split
  · split <;> rfl
  · rfl
theorem namesP (l1 : List Pl) (i : Nat) (s : ByteArray) : (((l1.take i).map fun p => p.f0).any fun y => y.toList == s.toList) = ((l1.take i).any fun y => y.f0.toList == s.toList) := by
  rw [List.any_map]
  rfl
theorem rPlace (a : ByteArray) (l1 : List Pl) (l2 : List Tr) (i : Nat) (hi : i < l1.length) (hl : l1.length ≤ 1000) : Ev (fun k => petrinetref09_place.f k a l1 l2 (i : Int)) (if nmE ((l1.take i).map fun p => p.f0) (l1.getD i z56).f0 = 0 then plE (l1.getD i z56) else nmE ((l1.take i).map fun p => p.f0) (l1.getD i z56).f0) := by
  unfold petrinetref09_place.f placeF
  rw [nmE_names, namesP]
  refine Ev.pos ⟨by omega, by omega, hl⟩ ?_
  rw [rdP, Int.toNat_natCast]
  refine Ev.bind (rname _) (Ev.ite (fun h => ?_) (fun h => Ev.val (by rw [if_neg h]; rfl)))
  rw [if_pos h]
  refine Ev.ite (fun hm => Ev.val (by rw [if_pos hm]; rfl)) (fun hm => Ev.val (by rw [if_neg hm, if_pos rfl]; rfl))
theorem namesT (l1 : List Pl) (l2 : List Tr) (i : Nat) (s : ByteArray) : (((l1.map fun p => p.f0) ++ ((l2.take i).map fun t => t.f0)).any fun y => y.toList == s.toList) = ((l1.any fun y => y.f0.toList == s.toList) || ((l2.take i).any fun y => y.f0.toList == s.toList)) := by
  rw [List.any_append, List.any_map, List.any_map]
  rfl
theorem rTrans (a : ByteArray) (l1 : List Pl) (l2 : List Tr) (hs : Short l2) (i : Nat) (hi : i < l2.length) (hl : l2.length ≤ 1000) (hl1 : l1.length ≤ 1000) : Ev (fun k => petrinetref09_trans.f k a l1 l2 (i : Int)) (if nmE ((l1.map fun p => p.f0) ++ ((l2.take i).map fun t => t.f0)) (l2.getD i z40).f0 = 0 then trE l1.length (l2.getD i z40) else nmE ((l1.map fun p => p.f0) ++ ((l2.take i).map fun t => t.f0)) (l2.getD i z40).f0) := by
  have hb : (l2.getD i z40).f1.length ≤ 26 ∧ (l2.getD i z40).f2.length ≤ 26 ∧ (l2.getD i z40).f3.length ≤ 26 := by
    rw [show l2.getD i z40 = l2[i] by simp [hi]]
    exact hs _ (List.getElem_mem hi)
  unfold petrinetref09_trans.f transF
  rw [nmE_names, namesT]
  refine Ev.pos ⟨by omega, by omega, hl1, hl⟩ ?_
  rw [rdT, Int.toNat_natCast]
  refine Ev.bind (rname _) (Ev.ite (fun h => ?_) (fun h => Ev.val (by rw [if_neg h]; rfl)))
  rw [if_pos h]
  refine Ev.ite (fun hm => Ev.val (by rw [if_pos hm]; rfl)) (fun hm => ?_)
  rw [if_neg hm, if_pos rfl]
  unfold trE
  refine Ev.ite (fun h4 => Ev.val (by rw [if_pos h4])) (fun h4 => ?_)
  rw [if_neg h4]
  refine Ev.bind (rArcs a l1 l2 _ (by omega)) (Ev.ite (fun e1 => ?_) (fun e1 => Ev.val (by rw [if_neg e1])))
  rw [if_pos e1]
  refine Ev.bind (rArcs a l1 l2 _ (by omega)) (Ev.ite (fun e2 => ?_) (fun e2 => Ev.val (by rw [if_neg e2])))
  rw [if_pos e2]
  exact rArcs a l1 l2 _ (by omega)
theorem rCheck_l1 (a : ByteArray) (l1 : List Pl) (l2 : List Tr) (hs : Short l2) (hl : l2.length ≤ 1000) (hl1 : l1.length ≤ 1000) : ∀ (d i : Nat), i ≤ l2.length → l2.length - i = d → Ev (fun k => petrinetref09_Check.l1 k (i : Int) a l1 l2) (chkTV l1.length (l2.drop i) i ((l1.map fun p => p.f0) ++ ((l2.take i).map fun t => t.f0))) := by
  intro d
  induction d with
  | zero =>
    intro i hi hd
    refine Ev.succ ?_
    simp only [petrinetref09_Check.l1]
    exact Ev.neg (by omega) (Ev.val (by rw [List.drop_eq_nil_of_le (by omega)]; rfl))
  | succ d ih =>
    intro i hi hd
    have hlt : i < l2.length := by omega
    have hih := ih (i + 1) (by omega) (by omega)
    have e : l2.getD i z40 = l2[i] := by simp [hlt]
    have hr := rTrans a l1 l2 hs i hlt hl hl1
    rw [e] at hr
    rw [List.take_succ_eq_append_getElem hlt, List.map_append, ← List.append_assoc, List.map_singleton] at hih
    refine Ev.succ ?_
    simp only [petrinetref09_Check.l1]
    rw [List.drop_eq_getElem_cons hlt, chkTV]
    refine Ev.pos (by omega) (Ev.bind hr ?_)
    by_cases h1 : nmE ((l1.map fun p => p.f0) ++ ((l2.take i).map fun t => t.f0)) l2[i].f0 = 0
    · rw [if_pos h1, if_pos h1]
      refine Ev.ite (fun h2 => ?_) (fun h2 => Ev.val ?_)
      · rw [if_pos h2, wrap_succ (by omega)]; exact hih
      · rw [if_neg h2, show wrap64 ((l1.length : Int) + (i : Int)) = ((l1.length + i : Nat) : Int) by unfold wrap64; omega]
    · rw [if_neg h1, if_neg h1]
      exact Ev.neg h1 (Ev.val (by rw [show wrap64 ((l1.length : Int) + (i : Int)) = ((l1.length + i : Nat) : Int) by unfold wrap64; omega]))
theorem rCheck_l0 (a : ByteArray) (l1 : List Pl) (l2 : List Tr) (hs : Short l2) (hl : l2.length ≤ 1000) (hl1 : l1.length ≤ 1000) : ∀ (d i : Nat), i ≤ l1.length → l1.length - i = d → Ev (fun k => petrinetref09_Check.l0 k (i : Int) a l1 l2) (match chkPV (l1.drop i) i ((l1.take i).map fun p => p.f0) with | .inl e => e | .inr names => chkTV l1.length l2 0 names) := by
  intro d
  induction d with
  | zero =>
    intro i hi hd
    obtain rfl : i = l1.length := by omega
    refine Ev.succ ?_
    simp only [petrinetref09_Check.l0]
    rw [List.drop_length, List.take_length, chkPV]
    have := rCheck_l1 a l1 l2 hs hl hl1 _ 0 (by omega) rfl
    rw [List.drop_zero, List.take_zero, List.map_nil, List.append_nil] at this
    exact Ev.neg (by omega) this
  | succ d ih =>
    intro i hi hd
    have hlt : i < l1.length := by omega
    have hih := ih (i + 1) (by omega) (by omega)
    have e : l1.getD i z56 = l1[i] := by simp [hlt]
    have hr := rPlace a l1 l2 i hlt hl1
    rw [e] at hr
    rw [List.take_succ_eq_append_getElem hlt, List.map_append, List.map_singleton] at hih
    refine Ev.succ ?_
    simp only [petrinetref09_Check.l0]
    rw [List.drop_eq_getElem_cons hlt, chkPV]
    refine Ev.pos (by omega) (Ev.bind hr ?_)
    by_cases h1 : nmE ((l1.take i).map fun p => p.f0) l1[i].f0 = 0
    · rw [if_pos h1, if_pos h1]
      refine Ev.ite (fun h2 => ?_) (fun h2 => Ev.val ?_)
      · rw [if_pos h2, wrap_succ (by omega)]; exact hih
      · rw [if_neg h2]
    · rw [if_neg h1, if_neg h1]
      exact Ev.neg h1 (Ev.now _)
theorem rCheck (a : ByteArray) (l1 : List Pl) (l2 : List Tr) (hs : Short l2) (hl : l2.length ≤ 1000) (hl1 : l1.length ≤ 1000) : Ev (fun k => petrinetref09_Check.f k a l1 l2) (checkV a l1 l2) := by
  unfold petrinetref09_Check.f checkV
  refine Ev.bind (rname a) (Ev.ite (fun h => ?_) (fun h => Ev.val (by rw [if_neg h])))
  rw [if_pos h]
  have hj : ∀ b : Bool, b = decide (l1.length < 1 ∨ 24 < l1.length ∨ 24 < l2.length) → Ev (fun k => petrinetref09_Check.j0 k b a l1 l2) (if l1.length < 1 ∨ 24 < l1.length ∨ 24 < l2.length then (2, 0) else match chkPV l1 0 [] with | .inl e => e | .inr names => chkTV l1.length l2 0 names) := by
    intro b hb
    refine Ev.succ ?_
    simp only [petrinetref09_Check.j0]
    by_cases h2 : l1.length < 1 ∨ 24 < l1.length ∨ 24 < l2.length
    · rw [if_pos h2]; exact Ev.pos (by rw [hb]; exact decide_eq_true h2) (Ev.now _)
    · rw [if_neg h2]
      refine Ev.neg (by rw [hb, decide_eq_false h2]; simp) ?_
      have := rCheck_l0 a l1 l2 hs hl hl1 _ 0 (by omega) rfl
      rw [List.drop_zero, List.take_zero, List.map_nil] at this
      exact this
  refine Ev.ite (fun h2 => hj _ ?_) (fun h2 => Ev.ite (fun h3 => hj _ ?_) (fun h3 => hj _ ?_))
  · exact (decide_eq_true (.inl (by omega))).symm
  · exact (decide_eq_true (.inr (.inl (by omega)))).symm
  · exact decide_eq_decide.2 (by omega)
theorem rValid (a : ByteArray) (l1 : List Pl) (l2 : List Tr) (hs : Short l2) (hl1 : l1.length ≤ 1000) (hl : l2.length ≤ 1000) : Ev (fun k => petrinetref09_Valid.f k a l1 l2) (decide ((checkV a l1 l2).1 = 0)) := by
  unfold petrinetref09_Valid.f
  exact Ev.bind (rCheck a l1 l2 hs hl hl1) (Ev.val (by rw [Bool.eq_iff_iff, beq_iff_eq, decide_eq_true_eq]))
/-- What Small lets in. -/
theorem small_of {a : ByteArray} {l1 : List Pl} {l2 : List Tr} (h : petrinetref09_Small.f a l1 l2 = some true) : l1.length ≤ 26 ∧ l2.length ≤ 26 ∧ Short l2 := by
  unfold petrinetref09_Small.f at h
  simp only [Option.some.injEq, Bool.and_eq_true, decide_eq_true_eq, List.all_eq_true] at h
  obtain ⟨⟨h1, h2, _⟩, _, h4⟩ := h
  exact ⟨h1, h2, fun t ht => by have := h4 t ht; unfold smallT at this; simp only [decide_eq_true_eq] at this; omega⟩
theorem small_some (a : ByteArray) (l1 : List Pl) (l2 : List Tr) : ∃ b, petrinetref09_Small.f a l1 l2 = some b := ⟨_, rfl⟩
end Go.Proofs.Ytaphehdbjbogaaa.Nets

/- Siphons and traps: what the functions of program and reference answer, told of vectors of bits. -/
namespace Go.Proofs.Ytaphehdbjbogaaa.Siph
open Go.RowKit Go.Proofs.Ytaphehdbjbogaaa.Pr Go.Proofs.Ytaphehdbjbogaaa.Evs Go.Proofs.Ytaphehdbjbogaaa.Nets Go.Proofs.Ytaphehdbjbogaaa.Names Go.Proofs.Ytaphehdbjbogaaa.Bits Go.Proofs.Ytaphehdbjbogaaa.Sets Go.Proofs.Ytaphehdbjbogaaa.Refs Go.Proofs.YtaphehdbjbogaaaW.PrintWords Go.Proofs.YtaphehdbjbogaaaW.PrintLast Go.Proofs.YtaphehdbjbogaaaW.PrintMore
set_option linter.unusedVariables false
set_option linter.unusedSimpArgs false

theorem lives_now : petrinetlaw33_exampleHolds.f 100 = some true := by decide +kernel
theorem lives : Ev (fun k => petrinetlaw33_exampleHolds.f k) true := Ev.of petrinetlaw33_exampleHolds.mono lives_now
theorem lives' : Ev (fun k => (petrinetlaw33_exampleHolds.f k).bind fun t => some t) true := Ev.bind lives (Ev.now _)

def inL (l : List Ar) (i : Nat) : Bool := l.any fun a => decide (0 ≤ a.f0 ∧ a.f0.toNat = i)
def meetB (l : List Ar) (v : BitVec 64) : Bool := l.any fun a => decide (0 ≤ a.f0) && v.getLsbD a.f0.toNat
def plsV (l : List Ar) : BitVec 64 := l.foldl (fun s a => withB s a.f0) 0#64
def remB (l : List Ar) (v : BitVec 64) : BitVec 64 := l.foldl (fun s a => withoutB s a.f0) v
theorem meet_iff {l : List Ar} {v : BitVec 64} : meetB l v = true ↔ ∃ i, v.getLsbD i = true ∧ inL l i = true := by
  unfold meetB inL
  simp only [List.any_eq_true, Bool.and_eq_true, decide_eq_true_eq]
  constructor
  · rintro ⟨a, ha, h0, hv⟩; exact ⟨a.f0.toNat, hv, a, ha, h0, rfl⟩
  · rintro ⟨i, hv, a, ha, h0, rfl⟩; exact ⟨a, ha, h0, hv⟩
theorem withB_bit (s : BitVec 64) (x : Int) (i : Nat) : (withB s x).getLsbD i = (s.getLsbD i || (decide (0 ≤ x ∧ x.toNat = i) && decide (i < 64))) := by
  unfold withB
  by_cases h : x < 0
  · rw [if_pos h, decide_eq_false (show ¬ (0 ≤ x ∧ x.toNat = i) by omega)]; simp
  · rw [if_neg h, BitVec.getLsbD_or, tp_bit]
    congr 1
    by_cases e : x.toNat = i
    · subst e; rw [decide_eq_true (show 0 ≤ x ∧ x.toNat = x.toNat from ⟨by omega, rfl⟩)]; simp
    · rw [decide_eq_false (show ¬ (0 ≤ x ∧ x.toNat = i) by omega), decide_eq_false e]; simp
theorem withoutB_bit (s : BitVec 64) (x : Int) (i : Nat) (hi : i < 64) : (withoutB s x).getLsbD i = (s.getLsbD i && !decide (0 ≤ x ∧ x.toNat = i)) := by
  unfold withoutB
  by_cases h : x < 0
  · rw [if_pos h, decide_eq_false (show ¬ (0 ≤ x ∧ x.toNat = i) by omega)]; simp
  · rw [if_neg h, BitVec.getLsbD_and, BitVec.getLsbD_not, tp_bit, decide_eq_true hi]
    by_cases e : x.toNat = i
    · subst e; rw [decide_eq_true (show 0 ≤ x ∧ x.toNat = x.toNat from ⟨by omega, rfl⟩), decide_eq_true hi]; simp
    · rw [decide_eq_false (show ¬ (0 ≤ x ∧ x.toNat = i) by omega), decide_eq_false e]; simp
theorem pls_go (i : Nat) : ∀ (l : List Ar) (s : BitVec 64), (l.foldl (fun s a => withB s a.f0) s).getLsbD i = (s.getLsbD i || (inL l i && decide (i < 64)))
  | [], s => by simp [inL]
  | a :: tl, s => by
    rw [List.foldl_cons, pls_go i tl, withB_bit]
    unfold inL
    rw [List.any_cons]
    cases s.getLsbD i <;> cases decide (0 ≤ a.f0 ∧ a.f0.toNat = i) <;> simp
theorem pls_bit (l : List Ar) (i : Nat) : (plsV l).getLsbD i = (inL l i && decide (i < 64)) := by unfold plsV; rw [pls_go]; simp
theorem rem_bit (i : Nat) (hi : i < 64) : ∀ (l : List Ar) (s : BitVec 64), (remB l s).getLsbD i = (s.getLsbD i && !inL l i)
  | [], s => by simp [inL, remB]
  | a :: tl, s => by
    have := rem_bit i hi tl (withoutB s a.f0)
    unfold remB at *
    rw [List.foldl_cons, this, withoutB_bit _ _ _ hi]
    unfold inL
    rw [List.any_cons]
    cases s.getLsbD i <;> cases decide (0 ≤ a.f0 ∧ a.f0.toNat = i) <;> simp
theorem rem_pls (l : List Ar) (v : BitVec 64) : v &&& ~~~plsV l = remB l v := by
  apply ext_bit
  intro i hi
  rw [rem_bit i hi, BitVec.getLsbD_and, BitVec.getLsbD_not, pls_bit, decide_eq_true hi]
  simp
theorem lt_bit {v : BitVec 64} {i : Nat} (h : v.getLsbD i = true) : i < 64 := by
  by_cases hi : i < 64
  · exact hi
  · rw [BitVec.getLsbD_of_ge _ _ (by omega)] at h; cases h
theorem pls_meet (l : List Ar) (v : BitVec 64) : (plsV l &&& v = 0#64) ↔ meetB l v = false := by
  constructor
  · intro h
    rw [Bool.eq_false_iff]
    intro hm
    obtain ⟨i, hv, hi⟩ := meet_iff.1 hm
    have e := congrArg (fun z => z.getLsbD i) h
    simp only [BitVec.getLsbD_and, pls_bit, hv, hi, decide_eq_true (lt_bit hv)] at e
    simp at e
  · intro h
    apply ext_bit
    intro i hi
    rw [BitVec.getLsbD_and, pls_bit]
    cases hv : v.getLsbD i with
    | false => simp
    | true =>
      cases hl : inL l i with
      | false => simp
      | true => rw [meet_iff.2 ⟨i, hv, hl⟩] at h; cases h

def markGo (v : BitVec 64) (l : List Int) : Nat → Nat → Bool
  | 0, _ => false
  | d + 1, i => if l.getD i 0 > 0 ∧ v.getLsbD i = true then true else markGo v l d (i + 1)
theorem rd_nat {l : List Int} {i : Nat} : rd l (i : Int) = l.getD i 0 := by simp [rd]
/-! ### the program -/
theorem pPlaces_l0 (l : List Ar) (hl : l.length ≤ 1000) : ∀ (d i : Nat) (s : BitVec 64), i ≤ l.length → l.length - i = d → Ev (fun k => siphon_places.l0 k (U s) l (l.length : Int) (i : Int)) (U ((l.drop i).foldl (fun s a => withB s a.f0) s)) := by
  intro d
  induction d with
  | zero =>
    intro i s hi hd
    refine Ev.succ ?_
    simp only [siphon_places.l0]
    exact Ev.neg (by omega) (Ev.val (by rw [List.drop_eq_nil_of_le (by omega)]; rfl))
  | succ d ih =>
    intro i s hi hd
    have hlt : i < l.length := by omega
    refine Ev.succ ?_
    simp only [siphon_places.l0, rdA, with_U, Option.bind_some]
    refine Ev.pos (by omega) (Ev.pos (by omega) (Ev.pos (by omega) ?_))
    rw [wrap_succ (by omega), List.drop_eq_getElem_cons hlt, List.foldl_cons]
    have e : l.getD i z58 = l[i] := by simp [hlt]
    rw [e]
    exact ih (i + 1) _ (by omega) (by omega)
theorem pPlaces (l : List Ar) (hl : l.length ≤ 1000) : Ev (fun k => siphon_places.f k l) (U (plsV l)) := pPlaces_l0 l hl _ 0 0#64 (by omega) rfl
def fromL (trap : Bool) (t : Tr) : List Ar := if trap then t.f1 else t.f2
def toL (trap : Bool) (t : Tr) : List Ar := if trap then t.f2 else t.f1
theorem pSide (trap : Bool) (t : Tr) (h1 : t.f1.length ≤ 1000) (h2 : t.f2.length ≤ 1000) : Ev (fun k => siphon_side.f k t.f0 t.f1 t.f2 t.f3 t.f4 trap) (U (plsV (fromL trap t)), U (plsV (toL trap t))) := by
  unfold siphon_side.f
  cases trap with
  | true => exact Ev.pos rfl (Ev.bind (pPlaces _ h1) (Ev.bind (pPlaces _ h2) (Ev.now _)))
  | false => exact Ev.neg (by simp) (Ev.bind (pPlaces _ h2) (Ev.bind (pPlaces _ h1) (Ev.now _)))
def okT (trap : Bool) (v : BitVec 64) (t : Tr) : Bool := !meetB (fromL trap t) v || meetB (toL trap t) v
def holdsV (trap : Bool) (l2 : List Tr) (v : BitVec 64) : Bool := l2.all (okT trap v)
theorem and_zero (l : List Ar) (v : BitVec 64) : (Go.bits .and .u64 (U (plsV l)) (U v) = 0) ↔ meetB l v = false := by rw [bits_and, U_eq_zero, pls_meet]
theorem mem_drop {α : Type} {l : List α} {i : Nat} (h : i < l.length) : l.drop i = l[i] :: l.drop (i + 1) := List.drop_eq_getElem_cons h
theorem pHolds_l0 (trap : Bool) (l2 : List Tr) (hs : Short l2) (hl : l2.length ≤ 1000) (v : BitVec 64) : ∀ (d i : Nat), i ≤ l2.length → l2.length - i = d → Ev (fun k => siphon_holds.l0 k (U v) trap l2 (l2.length : Int) (i : Int)) ((l2.drop i).all (okT trap v)) := by
  intro d
  induction d with
  | zero =>
    intro i hi hd
    refine Ev.succ ?_
    simp only [siphon_holds.l0]
    exact Ev.neg (by omega) (Ev.val (by rw [List.drop_eq_nil_of_le (by omega)]; rfl))
  | succ d ih =>
    intro i hi hd
    have hlt : i < l2.length := by omega
    have hih := ih (i + 1) (by omega) (by omega)
    have e : l2.getD i z40 = l2[i] := by simp [hlt]
    obtain ⟨b1, b2, b3⟩ := hs l2[i] (List.getElem_mem hlt)
    refine Ev.succ ?_
    simp only [siphon_holds.l0, rdT]
    rw [e, wrap_succ (by omega), mem_drop hlt, List.all_cons]
    refine Ev.pos (by omega) (Ev.pos (by omega) (Ev.pos (by omega) (Ev.bind (pSide trap l2[i] (by omega) (by omega)) ?_)))
    dsimp only
    refine Ev.ite (fun h => ?_) (fun h => Ev.ite (fun h2 => ?_) (fun h2 => ?_))
    · have hm := (and_zero _ _).1 h
      rw [show okT trap v l2[i] = true by unfold okT; rw [hm]; rfl, Bool.true_and]
      exact hih
    · have hm : meetB (fromL trap l2[i]) v = true := by rw [← Bool.not_eq_false]; exact fun hf => h ((and_zero _ _).2 hf)
      have hm2 := (and_zero _ _).1 h2
      exact Ev.val (by unfold okT; rw [hm, hm2]; rfl)
    · have hm2 : meetB (toL trap l2[i]) v = true := by rw [← Bool.not_eq_false]; exact fun hf => h2 ((and_zero _ _).2 hf)
      rw [show okT trap v l2[i] = true by unfold okT; rw [hm2]; simp, Bool.true_and]
      exact hih
theorem pHolds (trap : Bool) (a : ByteArray) (l1 : List Pl) (l2 : List Tr) (hs : Short l2) (hl : l2.length ≤ 1000) (v : BitVec 64) : Ev (fun k => siphon_holds.f k a l1 l2 (U v) trap) (holdsV trap l2 v) := pHolds_l0 trap l2 hs hl v _ 0 (by omega) rfl
def isV (trap : Bool) (a : ByteArray) (l1 : List Pl) (l2 : List Tr) (v : BitVec 64) : Bool := decide ((checkV a l1 l2).1 = 0) && (subS v (allTo (min l1.length 64)) && holdsV trap l2 v)
theorem pIs (trap : Bool) (a : ByteArray) (l1 : List Pl) (l2 : List Tr) (hs : Short l2) (hl : l2.length ≤ 1000) (v : BitVec 64) : Ev (fun k => siphon_is.f k a l1 l2 (U v) trap) (isV trap a l1 l2 v) := by
  unfold siphon_is.f isV
  refine Ev.bind (pCheck a l1 l2 hs) (Ev.ite (fun h => ?_) (fun h => Ev.val (by rw [decide_eq_false h]; rfl)))
  rw [decide_eq_true h, Bool.true_and]
  refine Ev.bind (all_U _) ?_
  rw [Int.toNat_natCast]
  simp only [subset_U, Option.bind_some]
  refine Ev.ite (fun h2 => ?_) (fun h2 => Ev.val (by rw [Bool.not_eq_true] at h2; rw [h2]; rfl))
  rw [h2, Bool.true_and]
  exact Ev.bind (pHolds trap a l1 l2 hs hl v) (Ev.now _)

/-! ### the reference -/
theorem rMeets_l0 (l : List Ar) (hl : l.length ≤ 1000) (v : BitVec 64) : ∀ (d i : Nat), i ≤ l.length → l.length - i = d → Ev (fun k => petrinetref33_meets.l0 k l (U v) (i : Int)) (meetB (l.drop i) v) := by
  intro d
  induction d with
  | zero =>
    intro i hi hd
    refine Ev.succ ?_
    simp only [petrinetref33_meets.l0]
    exact Ev.neg (by omega) (Ev.val (by rw [List.drop_eq_nil_of_le (by omega)]; rfl))
  | succ d ih =>
    intro i hi hd
    have hlt : i < l.length := by omega
    have e : l.getD i z58 = l[i] := by simp [hlt]
    refine Ev.succ ?_
    simp only [petrinetref33_meets.l0, rdA]
    rw [e, wrap_succ (by omega), mem_drop hlt]
    unfold meetB
    rw [List.any_cons]
    refine Ev.pos (by omega) (Ev.pos (by omega) (Ev.bind (rhas v _) (Ev.ite (fun h => Ev.val ?_) (fun h => ?_))))
    · rw [h]; rfl
    · rw [Bool.not_eq_true] at h; rw [h, Bool.false_or]; exact ih (i + 1) (by omega) (by omega)
theorem rMeets (l : List Ar) (hl : l.length ≤ 1000) (v : BitVec 64) : Ev (fun k => petrinetref33_meets.f k l (U v)) (meetB l v) := rMeets_l0 l hl v _ 0 (by omega) rfl
theorem rClosed_l0 (sip : Bool) (a : ByteArray) (l1 : List Pl) (l2 : List Tr) (hs : Short l2) (hl : l2.length ≤ 1000) (v : BitVec 64) : ∀ (d i : Nat), i ≤ l2.length → l2.length - i = d → Ev (fun k => petrinetref33_closed.l0 k (U v) sip (i : Int) a l1 l2) ((l2.drop i).all (okT (!sip) v)) := by
  intro d
  induction d with
  | zero =>
    intro i hi hd
    refine Ev.succ ?_
    simp only [petrinetref33_closed.l0]
    exact Ev.neg (by omega) (Ev.val (by rw [List.drop_eq_nil_of_le (by omega)]; rfl))
  | succ d ih =>
    intro i hi hd
    have hlt : i < l2.length := by omega
    have hih := ih (i + 1) (by omega) (by omega)
    have e : l2.getD i z40 = l2[i] := by simp [hlt]
    obtain ⟨b1, b2, b3⟩ := hs l2[i] (List.getElem_mem hlt)
    refine Ev.succ ?_
    simp only [petrinetref33_closed.l0, rdT]
    rw [e, wrap_succ (by omega), mem_drop hlt, List.all_cons]
    refine Ev.pos (by omega) (Ev.pos (by omega) (Ev.bind (rMeets l2[i].f1 (by omega) v) (Ev.bind (rMeets l2[i].f2 (by omega) v) ?_)))
    have hgo : okT (!sip) v l2[i] = true → Ev (fun k => petrinetref33_closed.l0 k (U v) sip ((i + 1 : Nat) : Int) a l1 l2) (okT (!sip) v l2[i] && (l2.drop (i + 1)).all (okT (!sip) v)) := fun h => by rw [h, Bool.true_and]; exact hih
    have hno : okT (!sip) v l2[i] = false → Ev (fun _ : Nat => some false) (okT (!sip) v l2[i] && (l2.drop (i + 1)).all (okT (!sip) v)) := fun h => Ev.val (by rw [h]; rfl)
    have hk : okT (!sip) v l2[i] = (if sip then (!meetB l2[i].f2 v || meetB l2[i].f1 v) else (!meetB l2[i].f1 v || meetB l2[i].f2 v)) := by cases sip <;> rfl
    cases sip with
    | true =>
      refine Ev.pos rfl (Ev.ite (fun h2 => Ev.ite (fun h1 => hgo ?_) (fun h1 => hno ?_)) (fun h2 => hgo ?_))
      · rw [hk, h1]; simp
      · rw [Bool.not_eq_true] at h1; rw [hk, h1, h2]; rfl
      · rw [Bool.not_eq_true] at h2; rw [hk, h2]; rfl
    | false =>
      refine Ev.neg (by simp) (Ev.ite (fun h1 => Ev.ite (fun h2 => hgo ?_) (fun h2 => hno ?_)) (fun h1 => hgo ?_))
      · rw [hk, h2]; simp
      · rw [Bool.not_eq_true] at h2; rw [hk, h1, h2]; rfl
      · rw [Bool.not_eq_true] at h1; rw [hk, h1]; rfl
theorem rClosed (sip : Bool) (a : ByteArray) (l1 : List Pl) (l2 : List Tr) (hs : Short l2) (hl : l2.length ≤ 1000) (v : BitVec 64) : Ev (fun k => petrinetref33_closed.f k a l1 l2 (U v) sip) (holdsV (!sip) l2 v) := rClosed_l0 sip a l1 l2 hs hl v _ 0 (by omega) rfl
theorem rIs (sip : Bool) (a : ByteArray) (l1 : List Pl) (l2 : List Tr) (hs : Short l2) (hl1 : l1.length ≤ 1000) (hl : l2.length ≤ 1000) (v : BitVec 64) : Ev (fun k => petrinetref33_Is.f k a l1 l2 (U v) sip) (isV (!sip) a l1 l2 v) := by
  unfold petrinetref33_Is.f isV
  refine Ev.bind (rValid a l1 l2 hs hl1 hl) (Ev.ite (fun h => ?_) (fun h => Ev.val (by rw [Bool.not_eq_true] at h; rw [h]; rfl)))
  rw [h, Bool.true_and]
  refine Ev.bind (rall _) ?_
  rw [Int.toNat_natCast]
  refine Ev.bind (rsubset v _) (Ev.ite (fun h2 => ?_) (fun h2 => Ev.val (by rw [Bool.not_eq_true] at h2; rw [h2]; rfl)))
  rw [h2, Bool.true_and]
  exact Ev.bind (rClosed sip a l1 l2 hs hl v) (Ev.now _)
end Go.Proofs.Ytaphehdbjbogaaa.Siph

/- The greatest siphon or trap within a set: the loops of program and reference find the same. -/
namespace Go.Proofs.Ytaphehdbjbogaaa.Great
open Go.RowKit Go.Proofs.Ytaphehdbjbogaaa.Pr Go.Proofs.Ytaphehdbjbogaaa.Evs Go.Proofs.Ytaphehdbjbogaaa.Nets Go.Proofs.Ytaphehdbjbogaaa.Siph Go.Proofs.Ytaphehdbjbogaaa.Bits Go.Proofs.Ytaphehdbjbogaaa.Sets Go.Proofs.Ytaphehdbjbogaaa.Refs Go.Proofs.YtaphehdbjbogaaaW.PrintWords Go.Proofs.YtaphehdbjbogaaaW.PrintLast Go.Proofs.YtaphehdbjbogaaaW.PrintMore
set_option linter.unusedVariables false
set_option linter.unusedSimpArgs false

def Sub (a b : BitVec 64) : Prop := ∀ i, a.getLsbD i = true → b.getLsbD i = true
theorem Sub.refl (a : BitVec 64) : Sub a a := fun _ h => h
theorem Sub.trans {a b c : BitVec 64} (h : Sub a b) (k : Sub b c) : Sub a c := fun i hi => k i (h i hi)
theorem Sub.anti {a b : BitVec 64} (h : Sub a b) (k : Sub b a) : a = b := by
  apply ext_bit
  intro i _
  rw [Bool.eq_iff_iff]
  exact ⟨h i, k i⟩
theorem sub_or {a b c : BitVec 64} (h : Sub a c) (k : Sub b c) : Sub (a ||| b) c := fun i hi => by
  rw [BitVec.getLsbD_or, Bool.or_eq_true] at hi
  exact hi.elim (h i) (k i)
theorem or_left (a b : BitVec 64) : Sub a (a ||| b) := fun i hi => by rw [BitVec.getLsbD_or, hi]; rfl
theorem or_right (a b : BitVec 64) : Sub b (a ||| b) := fun i hi => by rw [BitVec.getLsbD_or, hi]; simp
theorem and_left (a b : BitVec 64) : Sub (a &&& b) a := fun i hi => by rw [BitVec.getLsbD_and, Bool.and_eq_true] at hi; exact hi.1
theorem and_right (a b : BitVec 64) : Sub (a &&& b) b := fun i hi => by rw [BitVec.getLsbD_and, Bool.and_eq_true] at hi; exact hi.2
theorem sub_and {a b c : BitVec 64} (h : Sub c a) (k : Sub c b) : Sub c (a &&& b) := fun i hi => by rw [BitVec.getLsbD_and, h i hi, k i hi]; rfl
theorem rem_sub (l : List Ar) (v : BitVec 64) : Sub (remB l v) v := fun i hi => by
  rw [rem_bit i (lt_bit hi), Bool.and_eq_true] at hi
  exact hi.1
theorem meet_mono {l : List Ar} {a b : BitVec 64} (h : Sub a b) (hm : meetB l a = true) : meetB l b = true := by
  obtain ⟨i, hi, hl⟩ := meet_iff.1 hm
  exact meet_iff.2 ⟨i, h i hi, hl⟩
theorem meet_or (l : List Ar) (a b : BitVec 64) : meetB l (a ||| b) = (meetB l a || meetB l b) := by
  rw [Bool.eq_iff_iff, Bool.or_eq_true, meet_iff, meet_iff, meet_iff]
  constructor
  · rintro ⟨i, hi, hl⟩
    rw [BitVec.getLsbD_or, Bool.or_eq_true] at hi
    exact hi.elim (fun h => .inl ⟨i, h, hl⟩) (fun h => .inr ⟨i, h, hl⟩)
  · rintro (⟨i, hi, hl⟩ | ⟨i, hi, hl⟩)
    · exact ⟨i, or_left a b i hi, hl⟩
    · exact ⟨i, or_right a b i hi, hl⟩
theorem holds_or {tr : Bool} {l2 : List Tr} {a b : BitVec 64} (h : holdsV tr l2 a = true) (k : holdsV tr l2 b = true) : holdsV tr l2 (a ||| b) = true := by
  rw [holdsV, List.all_eq_true] at *
  intro t ht
  have h1 := h t ht
  have h2 := k t ht
  unfold okT at *
  rw [meet_or, meet_or]
  revert h1 h2
  cases meetB (fromL tr t) a <;> cases meetB (fromL tr t) b <;> cases meetB (toL tr t) a <;> cases meetB (toL tr t) b <;> simp
/-- A closed set keeps out of what a violating transition removes. -/
theorem closed_rem {tr : Bool} {t : Tr} {c v : BitVec 64} (hc : okT tr c t = true) (hcv : Sub c v) (hto : meetB (toL tr t) v = false) : Sub c (remB (fromL tr t) v) := by
  intro i hi
  rw [rem_bit i (lt_bit hi), hcv i hi, Bool.true_and, Bool.not_eq_true']
  cases hl : inL (fromL tr t) i with
  | false => rfl
  | true =>
    have hf := meet_iff.2 ⟨i, hi, hl⟩
    unfold okT at hc
    rw [hf, Bool.not_true, Bool.false_or] at hc
    rw [meet_mono hcv hc] at hto
    cases hto
/-- r is the greatest closed set within v. -/
def Gr (tr : Bool) (l2 : List Tr) (v r : BitVec 64) : Prop := Sub r v ∧ holdsV tr l2 r = true ∧ ∀ c, holdsV tr l2 c = true → Sub c v → Sub c r
theorem Gr.uniq {tr : Bool} {l2 : List Tr} {v r r' : BitVec 64} (h : Gr tr l2 v r) (k : Gr tr l2 v r') : r = r' := Sub.anti (k.2.2 r h.2.1 h.1) (h.2.2 r' k.2.1 k.1)
theorem Gr.of_sub {tr : Bool} {l2 : List Tr} {v w r : BitVec 64} (hs : Sub w v) (hk : ∀ c, holdsV tr l2 c = true → Sub c v → Sub c w) (h : Gr tr l2 w r) : Gr tr l2 v r := ⟨h.1.trans hs, h.2.1, fun c hc hcv => h.2.2 c hc (hk c hc hcv)⟩
theorem Gr.self {tr : Bool} {l2 : List Tr} {v : BitVec 64} (h : holdsV tr l2 v = true) : Gr tr l2 v v := ⟨Sub.refl v, h, fun _ _ h => h⟩
def cnt (v : BitVec 64) : Nat := (els v 64).length
theorem cnt_lt {a b : BitVec 64} (h : Sub a b) {i : Nat} (hb : b.getLsbD i = true) (ha : a.getLsbD i = false) : cnt a < cnt b := by
  have hs : (els a 64).Sublist (els b 64) := by
    unfold els
    have e : (List.range 64).filter (fun i => a.getLsbD i) = ((List.range 64).filter (fun i => b.getLsbD i)).filter (fun i => a.getLsbD i) := by
      rw [List.filter_filter]
      exact List.filter_congr fun x _ => by
        cases hx : a.getLsbD x with
        | false => rfl
        | true => rw [h x hx]; rfl
    rw [e]
    exact List.filter_sublist
  have hne : els a 64 ≠ els b 64 := fun e => by
    have h1 : i ∈ els b 64 := mem_els.2 ⟨lt_bit hb, hb⟩
    rw [← e, mem_els, ha] at h1
    exact absurd h1.2 (by simp)
  unfold cnt
  rcases Nat.lt_or_ge (els a 64).length (els b 64).length with h1 | h1
  · exact h1
  · exact absurd (hs.eq_of_length_le h1) hne
theorem cnt_rem {l : List Ar} {v : BitVec 64} (h : meetB l v = true) : cnt (remB l v) < cnt v := by
  obtain ⟨i, hi, hl⟩ := meet_iff.1 h
  exact cnt_lt (rem_sub l v) hi (by rw [rem_bit i (lt_bit hi), hl]; simp)

/-! ### the program -/
theorem pGreat (tr : Bool) (a : ByteArray) (l1 : List Pl) (l2 : List Tr) (hs : Short l2) (hl : l2.length ≤ 1000) : ∀ (n : Nat) (v : BitVec 64), cnt v ≤ n → ∃ r, Gr tr l2 v r ∧ Ev (fun k => siphon_greatest.l0 k tr (U v) a l1 l2) (U r) := by
  intro n
  induction n using Nat.strongRecOn with
  | _ n ihn =>
    intro v hv
    have loop : ∀ (d i : Nat), i ≤ l2.length → l2.length - i = d → (l2.take i).all (okT tr v) = true → ∃ r, Gr tr l2 v r ∧ Ev (fun k => siphon_greatest.l1 k tr (U v) l2 (l2.length : Int) (i : Int) a l1 l2) (U r) := by
      intro d
      induction d with
      | zero =>
        intro i hi hd hok
        obtain rfl : i = l2.length := by omega
        rw [List.take_length] at hok
        refine ⟨v, Gr.self hok, Ev.succ ?_⟩
        simp only [siphon_greatest.l1]
        exact Ev.neg (by omega) (Ev.now _)
      | succ d ih =>
        intro i hi hd hok
        have hlt : i < l2.length := by omega
        have e : l2.getD i z40 = l2[i] := by simp [hlt]
        obtain ⟨b1, b2, b3⟩ := hs l2[i] (List.getElem_mem hlt)
        have hside := pSide tr l2[i] (show l2[i].f1.length ≤ 1000 by omega) (show l2[i].f2.length ≤ 1000 by omega)
        have hnext : okT tr v l2[i] = true → ∃ r, Gr tr l2 v r ∧ Ev (fun k => siphon_greatest.l1 k tr (U v) l2 (l2.length : Int) ((i + 1 : Nat) : Int) a l1 l2) (U r) := fun h => ih (i + 1) (by omega) (by omega) (by rw [List.take_succ_eq_append_getElem hlt, List.all_append, hok]; simp [h])
        cases hf : meetB (fromL tr l2[i]) v with
        | false =>
          obtain ⟨r, hr, he⟩ := hnext (by unfold okT; rw [hf]; rfl)
          refine ⟨r, hr, Ev.succ ?_⟩
          simp only [siphon_greatest.l1, rdT]
          rw [e, wrap_succ (by omega)]
          exact Ev.pos (by omega) (Ev.pos (by omega) (Ev.pos (by omega) (Ev.bind hside (Ev.pos ((and_zero _ _).2 hf) he))))
        | true =>
          cases ht : meetB (toL tr l2[i]) v with
          | true =>
            obtain ⟨r, hr, he⟩ := hnext (by unfold okT; rw [ht]; simp)
            refine ⟨r, hr, Ev.succ ?_⟩
            simp only [siphon_greatest.l1, rdT]
            rw [e, wrap_succ (by omega)]
            exact Ev.pos (by omega) (Ev.pos (by omega) (Ev.pos (by omega) (Ev.bind hside (Ev.neg (fun hz => by rw [(and_zero _ _).1 hz] at hf; cases hf) (Ev.neg (fun hz => by rw [(and_zero _ _).1 hz] at ht; cases ht) he)))))
          | false =>
            obtain ⟨r, hr, he⟩ := ihn (cnt (remB (fromL tr l2[i]) v)) (Nat.lt_of_lt_of_le (cnt_rem hf) hv) _ (Nat.le_refl _)
            refine ⟨r, hr.of_sub (rem_sub _ _) (fun c hc hcv => closed_rem (List.all_eq_true.1 hc _ (List.getElem_mem hlt)) hcv ht), Ev.succ ?_⟩
            simp only [siphon_greatest.l1, rdT]
            rw [e, wrap_succ (by omega)]
            refine Ev.pos (by omega) (Ev.pos (by omega) (Ev.pos (by omega) (Ev.bind hside (Ev.neg (fun hz => by rw [(and_zero _ _).1 hz] at hf; cases hf) (Ev.pos ((and_zero _ _).2 ht) ?_)))))
            rw [bits_andNot, rem_pls]
            exact he
    obtain ⟨r, hr, he⟩ := loop _ 0 (by omega) rfl rfl
    refine ⟨r, hr, Ev.succ ?_⟩
    simp only [siphon_greatest.l0]
    exact he
theorem gr_exists (tr : Bool) (l2 : List Tr) (hs : Short l2) (hl : l2.length ≤ 1000) (v : BitVec 64) : ∃ r, Gr tr l2 v r := by
  obtain ⟨r, hr, _⟩ := pGreat tr ByteArray.empty [] l2 hs hl (cnt v) v (Nat.le_refl _)
  exact ⟨r, hr⟩
theorem pMax (tr : Bool) (a : ByteArray) (l1 : List Pl) (l2 : List Tr) (hs : Short l2) (hl : l2.length ≤ 1000) (v r : BitVec 64) (h0 : (checkV a l1 l2).1 = 0) (hr : Gr tr l2 (v &&& allTo (min l1.length 64)) r) : Ev (fun k => siphon_greatest.f k a l1 l2 (U v) tr) (U r) := by
  unfold siphon_greatest.f
  refine Ev.bind (pCheck a l1 l2 hs) (Ev.pos h0 ?_)
  refine Ev.bind (all_U _) ?_
  rw [Int.toNat_natCast, bits_and]
  obtain ⟨r', hr', he⟩ := pGreat tr a l1 l2 hs hl _ (v &&& allTo (min l1.length 64)) (Nat.le_refl _)
  rw [hr.uniq hr']
  exact he
theorem pMax0 (tr : Bool) (a : ByteArray) (l1 : List Pl) (l2 : List Tr) (hs : Short l2) (v : BitVec 64) (h0 : ¬ (checkV a l1 l2).1 = 0) : Ev (fun k => siphon_greatest.f k a l1 l2 (U v) tr) 0 := by
  unfold siphon_greatest.f
  exact Ev.bind (pCheck a l1 l2 hs) (Ev.neg h0 (Ev.now _))

/-! ### the reference -/
theorem rW : ∀ (l : List Ar) (v : BitVec 64), Ev (fun k => gW k l (U v)) (U (remB l v))
  | [], v => Ev.now _
  | a :: tl, v => by
    simp only [gW]
    exact Ev.bind (rwithout v a.f0) (rW tl _)
def passV (tr : Bool) : List Tr → BitVec 64 → BitVec 64
  | [], v => v
  | t :: ts, v => passV tr ts (if meetB (toL tr t) v then v else remB (fromL tr t) v)
theorem rT (sip : Bool) : ∀ (l : List Tr), (∀ t ∈ l, t.f1.length ≤ 1000 ∧ t.f2.length ≤ 1000) → ∀ v : BitVec 64, Ev (fun k => gT k sip l (U v)) (U (passV (!sip) l v))
  | [], _, v => Ev.now _
  | t :: ts, h, v => by
    obtain ⟨b1, b2⟩ := h t List.mem_cons_self
    have hts := fun x hx => h x (List.mem_cons_of_mem t hx)
    have e1 : (if sip then t.f1 else t.f2) = toL (!sip) t := by cases sip <;> rfl
    have e2 : (if sip then t.f2 else t.f1) = fromL (!sip) t := by cases sip <;> rfl
    have hb : (toL (!sip) t).length ≤ 1000 := by cases sip; exact b2; exact b1
    simp only [gT, passV]
    rw [e1, e2]
    refine Ev.bind (rMeets _ hb v) (Ev.ite (fun hm => ?_) (fun hm => ?_))
    · rw [if_pos hm]; exact rT sip ts hts v
    · rw [if_neg hm]; exact Ev.bind (rW _ v) (rT sip ts hts _)
def roundsV (tr : Bool) (l : List Tr) : Nat → BitVec 64 → BitVec 64
  | 0, v => v
  | n + 1, v => roundsV tr l n (passV tr l v)
theorem rR (sip : Bool) (l : List Tr) (h : ∀ t ∈ l, t.f1.length ≤ 1000 ∧ t.f2.length ≤ 1000) : ∀ (n : Nat) (v : BitVec 64), Ev (fun k => gR k sip l n (U v)) (U (roundsV (!sip) l n v))
  | 0, v => Ev.now _
  | n + 1, v => by simp only [gR, roundsV]; exact Ev.bind (rT sip l h v) (rR sip l h n _)
theorem pass_sub (tr : Bool) : ∀ (l : List Tr) (v : BitVec 64), Sub (passV tr l v) v
  | [], v => Sub.refl v
  | t :: ts, v => by
    rw [passV]
    split
    · exact pass_sub tr ts v
    · exact (pass_sub tr ts _).trans (rem_sub _ _)
theorem pass_keeps {tr : Bool} {c : BitVec 64} : ∀ (l : List Tr), (∀ t ∈ l, okT tr c t = true) → ∀ v, Sub c v → Sub c (passV tr l v)
  | [], _, v, h => h
  | t :: ts, hc, v, h => by
    rw [passV]
    refine pass_keeps ts (fun x hx => hc x (List.mem_cons_of_mem t hx)) _ ?_
    split
    · exact h
    · rename_i hm
      exact closed_rem (hc t List.mem_cons_self) h (by simpa using hm)
theorem pass_fix {tr : Bool} {v : BitVec 64} : ∀ (l : List Tr), passV tr l v = v → ∀ t ∈ l, okT tr v t = true
  | [], _, t, ht => by cases ht
  | x :: ts, h, t, ht => by
    rw [passV] at h
    by_cases hm : meetB (toL tr x) v = true
    · rw [if_pos hm] at h
      rcases List.mem_cons.1 ht with rfl | ht
      · unfold okT; rw [hm]; simp
      · exact pass_fix ts h t ht
    · rw [if_neg hm] at h
      have hv : remB (fromL tr x) v = v := Sub.anti (rem_sub _ _) (by
        have := pass_sub tr ts (remB (fromL tr x) v)
        rwa [h] at this)
      rw [hv] at h
      rcases List.mem_cons.1 ht with rfl | ht
      · unfold okT
        have : meetB (fromL tr t) v = false := by
          rw [Bool.eq_false_iff]
          intro hf
          have := cnt_rem hf
          rw [hv] at this
          omega
        rw [this]; rfl
      · exact pass_fix ts h t ht
theorem rounds_gr {tr : Bool} {l2 : List Tr} : ∀ (n : Nat) (v : BitVec 64), cnt v < n → Gr tr l2 v (roundsV tr l2 n v)
  | 0, v, h => absurd h (by omega)
  | n + 1, v, h => by
    rw [roundsV]
    by_cases he : passV tr l2 v = v
    · have hc : holdsV tr l2 v = true := List.all_eq_true.2 (pass_fix l2 he)
      have hfix : ∀ m, roundsV tr l2 m v = v := fun m => by
        induction m with
        | zero => rfl
        | succ m ih => rw [roundsV, he, ih]
      rw [he, hfix]
      exact Gr.self hc
    · have hlt : cnt (passV tr l2 v) < cnt v := by
        have hs := pass_sub tr l2 v
        by_cases hall : ∀ i, v.getLsbD i = true → (passV tr l2 v).getLsbD i = true
        · exact absurd (Sub.anti hs hall) he
        · obtain ⟨i, hi⟩ := Classical.not_forall.1 hall
          obtain ⟨h1, h2⟩ := Classical.not_imp.1 hi
          exact cnt_lt hs h1 (by simpa using h2)
      exact (rounds_gr n _ (by omega)).of_sub (pass_sub tr l2 v) (fun c hc hcv => pass_keeps l2 (fun t ht => List.all_eq_true.1 hc t ht) v hcv)
theorem cnt_all (v : BitVec 64) (n : Nat) : cnt (v &&& allTo n) ≤ n := by
  have hsub : (els (v &&& allTo n) 64).Sublist (List.range n) := by
    have e : els (v &&& allTo n) 64 = ((List.range 64).filter fun i => decide (i < n)).filter fun i => (v &&& allTo n).getLsbD i := by
      unfold els
      rw [List.filter_filter]
      refine List.filter_congr fun x hx => ?_
      cases hb : (v &&& allTo n).getLsbD x with
      | false => rfl
      | true =>
        have := and_right v (allTo n) x hb
        rw [allTo_bit, Bool.and_eq_true] at this
        rw [this.1]; rfl
    rw [e]
    refine List.filter_sublist.trans ?_
    by_cases h : n ≤ 64
    · obtain ⟨d, hd⟩ : ∃ d, 64 = n + d := ⟨64 - n, by omega⟩
      rw [hd, List.range_add, List.filter_append]
      have e2 : (List.filter (fun i => decide (i < n)) (List.map (fun x => n + x) (List.range d))) = [] := by
        rw [List.filter_eq_nil_iff]
        intro x hx
        obtain ⟨y, _, rfl⟩ := List.mem_map.1 hx
        simp
      rw [e2, List.append_nil]
      exact List.filter_sublist
    · exact List.filter_sublist.trans (List.range_sublist.2 (by omega))
  have := hsub.length_le
  rwa [List.length_range] at this
theorem rGreat (sip : Bool) (a : ByteArray) (l1 : List Pl) (l2 : List Tr) (hs : Short l2) (hl1 : l1.length ≤ 26) (hl : l2.length ≤ 26) (v r : BitVec 64) (h0 : (checkV a l1 l2).1 = 0) (hr : Gr (!sip) l2 (v &&& allTo (min l1.length 64)) r) : Ev (fun k => petrinetref33_Greatest.f k a l1 l2 (U v) sip) (U r) := by
  unfold petrinetref33_Greatest.f
  have hb : ∀ t ∈ l2, t.f1.length ≤ 1000 ∧ t.f2.length ≤ 1000 := fun t ht => by have := hs t ht; omega
  refine Ev.bind (rValid a l1 l2 hs (by omega) (by omega)) (Ev.pos (decide_eq_true h0) (Ev.pos ?_ ?_))
  · unfold grSmall
    rw [decide_eq_true (by omega), Bool.true_and, List.all_eq_true]
    exact fun t ht => decide_eq_true (hb t ht)
  · refine Ev.bind (rall _) ?_
    rw [Int.toNat_natCast, bits_and, hr.uniq (rounds_gr (l1.length + 1) _ (by have := cnt_all v (min l1.length 64); omega))]
    exact rR sip l2 hb _ _
theorem rGreat0 (sip : Bool) (a : ByteArray) (l1 : List Pl) (l2 : List Tr) (hs : Short l2) (hl1 : l1.length ≤ 26) (hl : l2.length ≤ 26) (v : BitVec 64) (h0 : ¬ (checkV a l1 l2).1 = 0) : Ev (fun k => petrinetref33_Greatest.f k a l1 l2 (U v) sip) 0 := by
  unfold petrinetref33_Greatest.f
  exact Ev.bind (rValid a l1 l2 hs (by omega) (by omega)) (Ev.neg (by simpa using h0) (Ev.now _))
end Go.Proofs.Ytaphehdbjbogaaa.Great

/- Firing, told of the reference: weights, enabled transitions, the next marking; and what a valid net says of its arcs. -/
namespace Go.Proofs.Ytaphehdbjbogaaa.Fires
open Go.RowKit Go.Proofs.Ytaphehdbjbogaaa.Pr Go.Proofs.Ytaphehdbjbogaaa.Evs Go.Proofs.Ytaphehdbjbogaaa.Names Go.Proofs.Ytaphehdbjbogaaa.Nets Go.Proofs.YtaphehdbjbogaaaW.PrintWords Go.Proofs.YtaphehdbjbogaaaW.PrintLast Go.Proofs.YtaphehdbjbogaaaW.PrintMore
set_option linter.unusedVariables false
set_option linter.unusedSimpArgs false

theorem rdN {l : List Int} {i : Nat} : rd l (i : Int) = l.getD i 0 := by simp [rd]
theorem getT {l2 : List Tr} {j : Nat} (h : j < l2.length) : l2.getD j z40 = l2[j] := by simp [h]
theorem getP {l1 : List Pl} {j : Nat} (h : j < l1.length) : l1.getD j z56 = l1[j] := by simp [h]
/-! ### what a valid net says -/
theorem arcsE_zero {np : Int} {l : List Ar} : ∀ {d i : Nat}, arcsE np l d i = 0 → ∀ j, i ≤ j → j < i + d → arcE np l j = 0
  | 0, i, _, j, h1, h2 => by omega
  | d + 1, i, h, j, h1, h2 => by
    rw [arcsE] at h
    by_cases e : arcE np l i = 0
    · rw [if_pos e] at h
      by_cases hj : j = i
      · rw [hj]; exact e
      · exact arcsE_zero h j (by omega) (by omega)
    · rw [if_neg e] at h; exact absurd h e
theorem arcs_ok {np : Int} {l : List Ar} (h : arcsV np l = 0) : ∀ a ∈ l, 0 ≤ a.f0 ∧ a.f0 < np ∧ 1 ≤ a.f1 ∧ a.f1 ≤ 99 := by
  intro a ha
  obtain ⟨j, hj, rfl⟩ := List.mem_iff_getElem.1 ha
  have e := arcsE_zero h j (Nat.zero_le _) (by omega)
  have eg : l.getD j z58 = l[j] := by simp [hj]
  unfold arcE at e
  rw [eg] at e
  by_cases c1 : l[j].f0 < 0 ∨ np ≤ l[j].f0
  · rw [if_pos c1] at e; cases e
  · rw [if_neg c1] at e
    split at e
    · cases e
    · by_cases c3 : l[j].f1 < 1 ∨ 99 < l[j].f1
      · rw [if_pos c3] at e; cases e
      · omega
theorem trE_zero {np : Int} {t : Tr} (h : trE np t = 0) : arcsV np t.f1 = 0 ∧ arcsV np t.f2 = 0 ∧ arcsV np t.f3 = 0 ∧ 0 ≤ t.f4 := by
  unfold trE at h
  by_cases c : t.f4 < 0 ∨ 9 < t.f4
  · rw [if_pos c] at h; cases h
  · rw [if_neg c] at h
    by_cases c1 : arcsV np t.f1 = 0
    · rw [if_pos c1] at h
      by_cases c2 : arcsV np t.f2 = 0
      · rw [if_pos c2] at h; exact ⟨c1, c2, h, by omega⟩
      · rw [if_neg c2] at h; exact absurd h c2
    · rw [if_neg c1] at h; exact absurd h c1
theorem chkTV_zero {np : Nat} : ∀ {l : List Tr} {i : Nat} {names : List ByteArray}, (chkTV np l i names).1 = 0 → ∀ t ∈ l, trE np t = 0
  | [], _, _, _, t, ht => by cases ht
  | x :: l, i, names, h, t, ht => by
    rw [chkTV] at h
    by_cases c1 : nmE names x.f0 = 0
    · rw [if_pos c1] at h
      by_cases c2 : trE np x = 0
      · rw [if_pos c2] at h
        rcases List.mem_cons.1 ht with rfl | ht
        · exact c2
        · exact chkTV_zero h t ht
      · rw [if_neg c2] at h; exact absurd h c2
    · rw [if_neg c1] at h; exact absurd h c1
theorem chkPV_places : ∀ {l : List Pl} {i : Nat} {names names' : List ByteArray}, chkPV l i names = .inr names' → ∀ p ∈ l, plE p = 0
  | [], _, _, _, _, p, hp => by cases hp
  | x :: l, i, names, names', h, p, hp => by
    rw [chkPV] at h
    by_cases c1 : nmE names x.f0 = 0
    · rw [if_pos c1] at h
      by_cases c2 : plE x = 0
      · rw [if_pos c2] at h
        rcases List.mem_cons.1 hp with rfl | hp
        · exact c2
        · exact chkPV_places h p hp
      · rw [if_neg c2] at h; cases h
    · rw [if_neg c1] at h; cases h
theorem chkPV_err : ∀ {l : List Pl} {i : Nat} {names : List ByteArray} {e : Int × Int}, chkPV l i names = .inl e → ¬ e.1 = 0
  | [], _, _, _, h => by cases h
  | x :: l, i, names, e, h => by
    rw [chkPV] at h
    by_cases c1 : nmE names x.f0 = 0
    · rw [if_pos c1] at h
      by_cases c2 : plE x = 0
      · rw [if_pos c2] at h; exact chkPV_err h
      · rw [if_neg c2] at h; cases h; exact c2
    · rw [if_neg c1] at h; cases h; exact c1
structure Net0 (l1 : List Pl) (l2 : List Tr) : Prop where
  places : 1 ≤ l1.length ∧ l1.length ≤ 24
  count : l2.length ≤ 24
  pls : ∀ p ∈ l1, plE p = 0
  trs : ∀ t ∈ l2, trE l1.length t = 0
theorem net_ok {a : ByteArray} {l1 : List Pl} {l2 : List Tr} (h : (checkV a l1 l2).1 = 0) : Net0 l1 l2 := by
  unfold checkV at h
  by_cases c : nameB a = true
  · rw [if_pos c] at h
    by_cases c2 : l1.length < 1 ∨ 24 < l1.length ∨ 24 < l2.length
    · rw [if_pos c2] at h; cases h
    · rw [if_neg c2] at h
      cases hp : chkPV l1 0 [] with
      | inl e => rw [hp] at h; exact absurd h (chkPV_err hp)
      | inr names => rw [hp] at h; exact ⟨by omega, by omega, chkPV_places hp, chkTV_zero h⟩
  · rw [if_neg c] at h; cases h
theorem Net0.pre {l1 : List Pl} {l2 : List Tr} (h : Net0 l1 l2) {t : Tr} (ht : t ∈ l2) : ∀ a ∈ t.f1, 0 ≤ a.f0 ∧ a.f0 < (l1.length : Int) ∧ 1 ≤ a.f1 ∧ a.f1 ≤ 99 := arcs_ok (trE_zero (h.trs t ht)).1
theorem Net0.post {l1 : List Pl} {l2 : List Tr} (h : Net0 l1 l2) {t : Tr} (ht : t ∈ l2) : ∀ a ∈ t.f2, 0 ≤ a.f0 ∧ a.f0 < (l1.length : Int) ∧ 1 ≤ a.f1 ∧ a.f1 ≤ 99 := arcs_ok (trE_zero (h.trs t ht)).2.1
theorem Net0.place {l1 : List Pl} {l2 : List Tr} (h : Net0 l1 l2) {p : Pl} (hp : p ∈ l1) : 0 ≤ p.f1 ∧ p.f1 ≤ 1048576 ∧ 0 ≤ p.f2 := by
  have e := h.pls p hp
  unfold plE at e
  by_cases c1 : p.f2 < 0 ∨ 1048576 < p.f2
  · rw [if_pos c1] at e; cases e
  · rw [if_neg c1] at e
    by_cases c2 : p.f1 < 0 ∨ 1048576 < p.f1
    · rw [if_pos c2] at e; cases e
    · omega

/-! ### weights -/
def wt : List Ar → Nat → Int
  | [], _ => 0
  | a :: l, p => if a.f0 = (p : Int) then a.f1 else wt l p
theorem wt_range {np : Int} : ∀ {l : List Ar}, (∀ a ∈ l, 0 ≤ a.f0 ∧ a.f0 < np ∧ 1 ≤ a.f1 ∧ a.f1 ≤ 99) → ∀ p, 0 ≤ wt l p ∧ wt l p ≤ 99
  | [], _, p => by simp [wt]
  | a :: l, h, p => by
    rw [wt]
    split
    · have := h a List.mem_cons_self; omega
    · exact wt_range (fun b hb => h b (List.mem_cons_of_mem _ hb)) p
theorem wt_pos {np : Int} : ∀ {l : List Ar}, (∀ a ∈ l, 0 ≤ a.f0 ∧ a.f0 < np ∧ 1 ≤ a.f1 ∧ a.f1 ≤ 99) → ∀ p, (1 ≤ wt l p ↔ ∃ a ∈ l, a.f0 = (p : Int))
  | [], _, p => by simp [wt]
  | a :: l, h, p => by
    rw [wt]
    have ih := wt_pos (fun b hb => h b (List.mem_cons_of_mem _ hb)) p
    by_cases e : a.f0 = (p : Int)
    · rw [if_pos e]
      have := h a List.mem_cons_self
      exact ⟨fun _ => ⟨a, List.mem_cons_self, e⟩, fun _ => by omega⟩
    · rw [if_neg e, ih]
      constructor
      · rintro ⟨b, hb, e⟩; exact ⟨b, List.mem_cons_of_mem _ hb, e⟩
      · rintro ⟨b, hb, e2⟩
        rcases List.mem_cons.1 hb with rfl | hb
        · exact absurd e2 e
        · exact ⟨b, hb, e2⟩
theorem wt_ones : ∀ {l : List Ar}, (∀ a ∈ l, a.f1 = 1) → ∀ p, wt l p ≤ 1
  | [], _, p => by simp [wt]
  | a :: l, h, p => by
    rw [wt]
    split
    · rw [h a List.mem_cons_self]; decide
    · exact wt_ones (fun b hb => h b (List.mem_cons_of_mem _ hb)) p
theorem rWeight_l0 (l : List Ar) (hl : l.length ≤ 1000) (p : Nat) : ∀ (d i : Nat), i ≤ l.length → l.length - i = d → Ev (fun k => petrinetref11_weight.l0 k l (p : Int) (i : Int)) (wt (l.drop i) p) := by
  intro d
  induction d with
  | zero =>
    intro i hi hd
    refine Ev.succ ?_
    simp only [petrinetref11_weight.l0]
    exact Ev.neg (by omega) (Ev.val (by rw [List.drop_eq_nil_of_le (by omega)]; rfl))
  | succ d ih =>
    intro i hi hd
    have hlt : i < l.length := by omega
    have hih := ih (i + 1) (by omega) (by omega)
    have e : l.getD i z58 = l[i] := by simp [hlt]
    refine Ev.succ ?_
    simp only [petrinetref11_weight.l0, rdA]
    rw [e, wrap_succ (by omega), List.drop_eq_getElem_cons hlt, wt]
    refine Ev.pos (by omega) (Ev.pos (by omega) (Ev.ite (fun h => Ev.val (by rw [if_pos h])) (fun h => ?_)))
    rw [if_neg h]
    exact hih
theorem rWeight (l : List Ar) (hl : l.length ≤ 1000) (p : Nat) : Ev (fun k => petrinetref11_weight.f k l (p : Int)) (wt l p) := rWeight_l0 l hl p _ 0 (by omega) rfl

/-! ### markings -/
def okN (x : Int) : Bool := decide (0 ≤ x ∧ x ≤ 1048576)
def okM (m : List Int) : Bool := m.all okN
theorem okM_at {m : List Int} (h : okM m = true) (p : Nat) (hp : p < m.length) : 0 ≤ m.getD p 0 ∧ m.getD p 0 ≤ 1048576 := by
  have := List.all_eq_true.1 h m[p] (List.getElem_mem hp)
  rw [show m.getD p 0 = m[p] by simp [hp]]
  exact of_decide_eq_true this
theorem rMValid_l0 (m : List Int) (hm : m.length ≤ 9223372036854775807) (n : Int) : ∀ (d i : Nat), i ≤ m.length → m.length - i = d → Ev (fun k => petrinetref04_Valid.l0 k m n (i : Int)) (okM (m.drop i) && decide ((m.length : Int) = n)) := by
  intro d
  induction d with
  | zero =>
    intro i hi hd
    refine Ev.succ ?_
    simp only [petrinetref04_Valid.l0]
    exact Ev.neg (by omega) (Ev.val (by rw [List.drop_eq_nil_of_le (by omega), Bool.eq_iff_iff]; simp [okM]))
  | succ d ih =>
    intro i hi hd
    have hlt : i < m.length := by omega
    have hih := ih (i + 1) (by omega) (by omega)
    have e : m.getD i 0 = m[i] := by simp [hlt]
    refine Ev.succ ?_
    simp only [petrinetref04_Valid.l0, rdN]
    rw [e, wrap_succ (by omega), List.drop_eq_getElem_cons hlt, okM, List.all_cons]
    refine Ev.pos (by omega) (Ev.pos (by omega) (Ev.ite (fun h => Ev.val ?_) (fun h => Ev.ite (fun h2 => Ev.val ?_) (fun h2 => ?_))))
    · rw [show okN m[i] = false from decide_eq_false (by omega)]; rfl
    · rw [show okN m[i] = false from decide_eq_false (by omega)]; rfl
    · rw [show okN m[i] = true from decide_eq_true (by omega), Bool.true_and]; exact hih
theorem rMValid (m : List Int) (hm : m.length ≤ 9223372036854775807) (n : Int) : Ev (fun k => petrinetref04_Valid.f k m n) (okM m && decide ((m.length : Int) = n)) := rMValid_l0 m hm n _ 0 (by omega) rfl
def goodV (a : ByteArray) (l1 : List Pl) (l2 : List Tr) (m : List Int) : Bool := decide ((checkV a l1 l2).1 = 0) && (okM m && decide ((m.length : Int) = (l1.length : Int)))
theorem rGood (a : ByteArray) (l1 : List Pl) (l2 : List Tr) (hs : Short l2) (hl1 : l1.length ≤ 1000) (hl : l2.length ≤ 1000) (m : List Int) (hm : m.length ≤ 9223372036854775807) : Ev (fun k => petrinetref11_Good.f k a l1 l2 m) (goodV a l1 l2 m) := by
  unfold petrinetref11_Good.f goodV
  refine Ev.bind (rCheck a l1 l2 hs hl hl1) (Ev.ite (fun h => ?_) (fun h => Ev.val (by rw [decide_eq_false h]; rfl)))
  rw [decide_eq_true h, Bool.true_and]
  exact Ev.bind (rMValid m hm _) (Ev.now _)
theorem good_iff {a : ByteArray} {l1 : List Pl} {l2 : List Tr} {m : List Int} : goodV a l1 l2 m = true ↔ (checkV a l1 l2).1 = 0 ∧ okM m = true ∧ m.length = l1.length := by
  unfold goodV
  simp only [Bool.and_eq_true, decide_eq_true_eq]
  constructor
  · rintro ⟨h1, h2, h3⟩; exact ⟨h1, h2, by omega⟩
  · rintro ⟨h1, h2, h3⟩; exact ⟨h1, h2, by omega⟩

/-! ### enabled transitions -/
def newAt (t : Tr) (m : List Int) (p : Nat) : Int := wrap64 (wrap64 (m.getD p 0 - wt t.f1 p) + wt t.f2 p)
def okAt (l1 : List Pl) (t : Tr) (m : List Int) (p : Nat) : Prop := ¬ m.getD p 0 < wt t.f1 p ∧ ¬ (wt t.f3 p > 0 ∧ m.getD p 0 ≥ wt t.f3 p) ∧ ¬ ((l1.getD p z56).f2 > 0 ∧ newAt t m p > (l1.getD p z56).f2)
instance (l1 : List Pl) (t : Tr) (m : List Int) (p : Nat) : Decidable (okAt l1 t m p) := by unfold okAt; exact inferInstance
def readyV (l1 : List Pl) (t : Tr) (m : List Int) : Bool := decide (∀ p, p < l1.length → okAt l1 t m p)
theorem rReady_l0 (a : ByteArray) (l1 : List Pl) (l2 : List Tr) (t : Tr) (h1 : t.f1.length ≤ 1000) (h2 : t.f2.length ≤ 1000) (h3 : t.f3.length ≤ 1000) (m : List Int) (hm : m.length = l1.length) (hl : l1.length ≤ 1000) : ∀ (d i : Nat), i ≤ l1.length → l1.length - i = d → (∀ p, p < i → okAt l1 t m p) → Ev (fun k => petrinetref11_Ready.l0 k m (i : Int) a l1 l2 t.f0 t.f1 t.f2 t.f3 t.f4) (readyV l1 t m) := by
  intro d
  induction d with
  | zero =>
    intro i hi hd hok
    refine Ev.succ ?_
    simp only [petrinetref11_Ready.l0]
    exact Ev.neg (by omega) (Ev.val (decide_eq_true (fun p hp => hok p (by omega))).symm)
  | succ d ih =>
    intro i hi hd hok
    have hlt : i < l1.length := by omega
    have hno : ¬ okAt l1 t m i → Ev (fun _ : Nat => some false) (readyV l1 t m) := fun hn => Ev.val (decide_eq_false (fun hall => hn (hall i hlt))).symm
    have hgo : okAt l1 t m i → Ev (fun k => petrinetref11_Ready.l0 k m ((i + 1 : Nat) : Int) a l1 l2 t.f0 t.f1 t.f2 t.f3 t.f4) (readyV l1 t m) := fun ho => ih (i + 1) (by omega) (by omega) (fun p hp => by
      by_cases e : p = i
      · rw [e]; exact ho
      · exact hok p (by omega))
    refine Ev.succ ?_
    simp only [petrinetref11_Ready.l0, rdN, rdP]
    rw [wrap_succ (by omega)]
    refine Ev.pos (by omega) (Ev.bind (rWeight t.f3 h3 i) (Ev.pos (by omega) (Ev.pos (by omega) (Ev.bind (rWeight t.f1 h1 i) (Ev.bind (rWeight t.f2 h2 i) (Ev.bind (rWeight t.f1 h1 i) (Ev.ite (fun c => hno (fun h => h.1 c)) (fun c => ?_))))))))
    refine Ev.ite (fun c2 => Ev.ite (fun c3 => hno (fun h => h.2.1 ⟨c2, c3⟩)) (fun c3 => ?_)) (fun c2 => ?_)
    · refine Ev.ite (fun c4 => Ev.ite (fun c5 => hno (fun h => h.2.2 ⟨c4, c5⟩)) (fun c5 => hgo ⟨c, fun h => c3 h.2, fun h => c5 h.2⟩)) (fun c4 => hgo ⟨c, fun h => c3 h.2, fun h => c4 h.1⟩)
    · refine Ev.ite (fun c4 => Ev.ite (fun c5 => hno (fun h => h.2.2 ⟨c4, c5⟩)) (fun c5 => hgo ⟨c, fun h => c2 h.1, fun h => c5 h.2⟩)) (fun c4 => hgo ⟨c, fun h => c2 h.1, fun h => c4 h.1⟩)
theorem rReady (a : ByteArray) (l1 : List Pl) (l2 : List Tr) (hs : Short l2) (m : List Int) (hm : m.length = l1.length) (hl : l1.length ≤ 1000) (j : Nat) (hj : j < l2.length) : Ev (fun k => petrinetref11_Ready.f k a l1 l2 m (j : Int)) (readyV l1 l2[j] m) := by
  obtain ⟨b1, b2, b3⟩ := hs l2[j] (List.getElem_mem hj)
  unfold petrinetref11_Ready.f
  refine Ev.pos (by omega) (Ev.pos (by omega) ?_)
  rw [rdT, getT hj]
  exact rReady_l0 a l1 l2 l2[j] (by omega) (by omega) (by omega) m hm hl _ 0 (by omega) rfl (fun p hp => by omega)

/-! ### the transitions that may fire -/
def rdyL (l1 : List Pl) (l2 : List Tr) (m : List Int) (i : Nat) : List Int := ((List.range i).filter fun j => readyV l1 (l2.getD j z40) m).map Int.ofNat
def mostV (l1 : List Pl) (l2 : List Tr) (m : List Int) : Nat → Int
  | 0 => 0
  | i + 1 => if readyV l1 (l2.getD i z40) m = true then mx (mostV l1 l2 m i) (l2.getD i z40).f4 else mostV l1 l2 m i
def firesV (l1 : List Pl) (l2 : List Tr) (m : List Int) : List Int := (rdyL l1 l2 m l2.length).filter fun j => decide ((l2.getD j.toNat z40).f4 = mostV l1 l2 m l2.length)
theorem rdyL_mem {l1 : List Pl} {l2 : List Tr} {m : List Int} {i : Nat} {x : Int} : x ∈ rdyL l1 l2 m i ↔ ∃ j : Nat, x = (j : Int) ∧ j < i ∧ readyV l1 (l2.getD j z40) m = true := by
  unfold rdyL
  simp only [List.mem_map, List.mem_filter, List.mem_range]
  constructor
  · rintro ⟨j, ⟨h1, h2⟩, rfl⟩; exact ⟨j, rfl, h1, h2⟩
  · rintro ⟨j, rfl, h1, h2⟩; exact ⟨j, ⟨h1, h2⟩, rfl⟩
theorem rdyL_len (l1 : List Pl) (l2 : List Tr) (m : List Int) (i : Nat) : (rdyL l1 l2 m i).length ≤ i := by
  unfold rdyL
  rw [List.length_map]
  exact Nat.le_trans (List.length_filter_le _ _) (by rw [List.length_range]; exact Nat.le_refl _)
theorem rFires_l1 (a : ByteArray) (l1 : List Pl) (l2 : List Tr) (R : List Int) (most : Int) (hR : ∀ x ∈ R, ∃ j : Nat, x = (j : Int) ∧ j < l2.length) (hl : R.length ≤ 1000) : ∀ (d i : Nat), i ≤ R.length → R.length - i = d → Ev (fun k => petrinetref11_Fires.l1 k R most ((R.take i).filter fun j => decide ((l2.getD j.toNat z40).f4 = most)) (i : Int) a l1 l2) (R.filter fun j => decide ((l2.getD j.toNat z40).f4 = most)) := by
  intro d
  induction d with
  | zero =>
    intro i hi hd
    obtain rfl : i = R.length := by omega
    refine Ev.succ ?_
    simp only [petrinetref11_Fires.l1]
    exact Ev.neg (by omega) (Ev.val (by rw [List.take_length]))
  | succ d ih =>
    intro i hi hd
    have hlt : i < R.length := by omega
    have hih := ih (i + 1) (by omega) (by omega)
    have e : R.getD i 0 = R[i] := by simp [hlt]
    obtain ⟨j, hj, hjl⟩ := hR R[i] (List.getElem_mem hlt)
    have hlen : ((R.take i).filter fun j => decide ((l2.getD j.toNat z40).f4 = most)).length ≤ 1000 := Nat.le_trans (List.length_filter_le _ _) (by rw [List.length_take]; omega)
    rw [List.take_succ_eq_append_getElem hlt, List.filter_append] at hih
    refine Ev.succ ?_
    simp only [petrinetref11_Fires.l1, rdN]
    rw [e, wrap_succ (by omega), hj]
    refine Ev.pos (by omega) (Ev.pos (by omega) (Ev.pos (by omega) (Ev.pos (by omega) ?_)))
    rw [rdT]
    refine Ev.ite (fun h => Ev.pos (by omega) ?_) (fun h => ?_)
    · rw [hj, show List.filter (fun j => decide ((l2.getD j.toNat z40).f4 = most)) [(j : Int)] = [(j : Int)] from List.filter_cons_of_pos (by rw [Int.toNat_natCast]; exact decide_eq_true h)] at hih
      exact hih
    · rw [hj, show List.filter (fun j => decide ((l2.getD j.toNat z40).f4 = most)) [(j : Int)] = [] from List.filter_cons_of_neg (by rw [Int.toNat_natCast]; simpa using h), List.append_nil] at hih
      exact hih
theorem rFires_l0 (a : ByteArray) (l1 : List Pl) (l2 : List Tr) (hs : Short l2) (m : List Int) (hm : m.length = l1.length) (hl1 : l1.length ≤ 1000) (hl : l2.length ≤ 1000) : ∀ (d i : Nat), i ≤ l2.length → l2.length - i = d → Ev (fun k => petrinetref11_Fires.l0 k m (rdyL l1 l2 m i) (mostV l1 l2 m i) (i : Int) a l1 l2) (firesV l1 l2 m) := by
  intro d
  induction d with
  | zero =>
    intro i hi hd
    obtain rfl : i = l2.length := by omega
    refine Ev.succ ?_
    simp only [petrinetref11_Fires.l0]
    refine Ev.neg (by omega) ?_
    have := rFires_l1 a l1 l2 (rdyL l1 l2 m l2.length) (mostV l1 l2 m l2.length) (fun x hx => by obtain ⟨j, e, h, _⟩ := rdyL_mem.1 hx; exact ⟨j, e, h⟩) (Nat.le_trans (rdyL_len _ _ _ _) hl) _ 0 (by omega) rfl
    rw [List.take_zero] at this
    exact this
  | succ d ih =>
    intro i hi hd
    have hlt : i < l2.length := by omega
    have hih := ih (i + 1) (by omega) (by omega)
    have hlen := rdyL_len l1 l2 m i
    have hr := rReady a l1 l2 hs m hm hl1 i hlt
    have e := getT hlt
    have hR : rdyL l1 l2 m (i + 1) = if readyV l1 l2[i] m = true then rdyL l1 l2 m i ++ [(i : Int)] else rdyL l1 l2 m i := by
      unfold rdyL
      rw [List.range_succ, List.filter_append, List.map_append]
      by_cases hv : readyV l1 l2[i] m = true
      · rw [if_pos hv, List.filter_cons_of_pos (by rw [e]; exact hv)]; rfl
      · rw [if_neg hv, List.filter_cons_of_neg (by rw [e]; exact hv)]; simp
    rw [hR, mostV, e] at hih
    refine Ev.succ ?_
    simp only [petrinetref11_Fires.l0, rdT]
    rw [e, wrap_succ (by omega)]
    refine Ev.pos (by omega) (Ev.bind hr (Ev.ite (fun h => Ev.pos (by omega) (Ev.pos (by omega) ?_)) (fun h => ?_)))
    · rw [if_pos h, if_pos h] at hih; exact hih
    · rw [if_neg h, if_neg h] at hih; exact hih
theorem rFires (a : ByteArray) (l1 : List Pl) (l2 : List Tr) (hs : Short l2) (m : List Int) (hm : m.length = l1.length) (hl1 : l1.length ≤ 1000) (hl : l2.length ≤ 1000) : Ev (fun k => petrinetref11_Fires.f k a l1 l2 m) (firesV l1 l2 m) := rFires_l0 a l1 l2 hs m hm hl1 hl _ 0 (by omega) rfl
theorem fires_mem {l1 : List Pl} {l2 : List Tr} {m : List Int} {x : Int} (h : x ∈ firesV l1 l2 m) : ∃ j : Nat, ∃ hj : j < l2.length, x = (j : Int) ∧ readyV l1 l2[j] m = true := by
  obtain ⟨j, e, hj, hr⟩ := rdyL_mem.1 (List.mem_filter.1 h).1
  rw [getT hj] at hr
  exact ⟨j, hj, e, hr⟩
theorem most_zero {l1 : List Pl} {l2 : List Tr} {m : List Int} (h : ∀ t ∈ l2, t.f4 = 0) : ∀ i, i ≤ l2.length → mostV l1 l2 m i = 0
  | 0, _ => rfl
  | i + 1, hi => by
    have hlt : i < l2.length := by omega
    rw [mostV, most_zero h i (by omega), getT hlt, h _ (List.getElem_mem hlt)]
    split <;> rfl
theorem fires_nil {l1 : List Pl} {l2 : List Tr} {m : List Int} (h : ∀ t ∈ l2, t.f4 = 0) (hn : firesV l1 l2 m = []) : ∀ t ∈ l2, readyV l1 t m = false := by
  intro t ht
  obtain ⟨j, hj, rfl⟩ := List.mem_iff_getElem.1 ht
  rw [Bool.eq_false_iff]
  intro hr
  have : (j : Int) ∈ firesV l1 l2 m := by
    refine List.mem_filter.2 ⟨rdyL_mem.2 ⟨j, rfl, hj, by rw [getT hj]; exact hr⟩, ?_⟩
    rw [Int.toNat_natCast, getT hj, most_zero h _ (Nat.le_refl _), h _ (List.getElem_mem hj)]
    rfl
  rw [hn] at this
  cases this
theorem rDead (a : ByteArray) (l1 : List Pl) (l2 : List Tr) (hs : Short l2) (hl1 : l1.length ≤ 1000) (hl : l2.length ≤ 1000) (m : List Int) (hm : m.length ≤ 9223372036854775807) : Ev (fun k => petrinetref11_Dead.f k a l1 l2 m) (goodV a l1 l2 m && decide (firesV l1 l2 m = [])) := by
  unfold petrinetref11_Dead.f
  refine Ev.bind (rGood a l1 l2 hs hl1 hl m hm) (Ev.ite (fun h => ?_) (fun h => Ev.val (by rw [Bool.not_eq_true] at h; rw [h]; rfl)))
  rw [h, Bool.true_and]
  refine Ev.bind (rFires a l1 l2 hs m (good_iff.1 h).2.2 hl1 hl) (Ev.val ?_)
  rw [Bool.eq_iff_iff, beq_iff_eq, decide_eq_true_eq, ← List.length_eq_zero_iff]
  omega

/-! ### plain and ordinary nets -/
def plainT (t : Tr) : Bool := decide (t.f3 = []) && decide (t.f4 = 0)
def plainV (a : ByteArray) (l1 : List Pl) (l2 : List Tr) : Bool := decide ((checkV a l1 l2).1 = 0) && ((l1.all fun p => decide (p.f2 = 0)) && l2.all plainT)
theorem plain_iff {a : ByteArray} {l1 : List Pl} {l2 : List Tr} : plainV a l1 l2 = true ↔ (checkV a l1 l2).1 = 0 ∧ (∀ p ∈ l1, p.f2 = 0) ∧ ∀ t ∈ l2, t.f3 = [] ∧ t.f4 = 0 := by
  unfold plainV plainT
  simp only [Bool.and_eq_true, decide_eq_true_eq, List.all_eq_true]
theorem rPlain_l1 (a : ByteArray) (l1 : List Pl) (l2 : List Tr) (hl : l2.length ≤ 1000) : ∀ (d i : Nat), i ≤ l2.length → l2.length - i = d → Ev (fun k => petrinetref09_Plain.l1 k (i : Int) a l1 l2) ((l2.drop i).all plainT) := by
  intro d
  induction d with
  | zero =>
    intro i hi hd
    refine Ev.succ ?_
    simp only [petrinetref09_Plain.l1]
    exact Ev.neg (by omega) (Ev.val (by rw [List.drop_eq_nil_of_le (by omega)]; rfl))
  | succ d ih =>
    intro i hi hd
    have hlt : i < l2.length := by omega
    have hih := ih (i + 1) (by omega) (by omega)
    refine Ev.succ ?_
    simp only [petrinetref09_Plain.l1, rdT]
    rw [getT hlt, wrap_succ (by omega), List.drop_eq_getElem_cons hlt, List.all_cons]
    refine Ev.pos (by omega) (Ev.pos (by omega) (Ev.ite (fun h => Ev.val ?_) (fun h => Ev.ite (fun h2 => ?_) (fun h2 => Ev.val ?_))))
    · unfold plainT
      rw [decide_eq_false (show ¬ l2[i].f3 = [] from fun hh => by rw [hh] at h; simp at h)]; rfl
    · rw [show plainT l2[i] = true by unfold plainT; rw [decide_eq_true (show l2[i].f3 = [] from List.length_eq_zero_iff.1 (by omega)), decide_eq_true h2]; rfl, Bool.true_and]
      exact hih
    · unfold plainT
      rw [decide_eq_false h2]; simp
theorem rPlain_l0 (a : ByteArray) (l1 : List Pl) (l2 : List Tr) (hl1 : l1.length ≤ 1000) (hl : l2.length ≤ 1000) : ∀ (d i : Nat), i ≤ l1.length → l1.length - i = d → Ev (fun k => petrinetref09_Plain.l0 k (i : Int) a l1 l2) (((l1.drop i).all fun p => decide (p.f2 = 0)) && l2.all plainT) := by
  intro d
  induction d with
  | zero =>
    intro i hi hd
    refine Ev.succ ?_
    simp only [petrinetref09_Plain.l0]
    rw [List.drop_eq_nil_of_le (by omega), List.all_nil, Bool.true_and]
    exact Ev.neg (by omega) (rPlain_l1 a l1 l2 hl _ 0 (by omega) rfl)
  | succ d ih =>
    intro i hi hd
    have hlt : i < l1.length := by omega
    have hih := ih (i + 1) (by omega) (by omega)
    refine Ev.succ ?_
    simp only [petrinetref09_Plain.l0, rdP]
    rw [getP hlt, wrap_succ (by omega), List.drop_eq_getElem_cons hlt, List.all_cons]
    refine Ev.pos (by omega) (Ev.pos (by omega) (Ev.ite (fun h => ?_) (fun h => Ev.val ?_)))
    · rw [decide_eq_true h, Bool.true_and]; exact hih
    · rw [decide_eq_false h]; rfl
theorem rPlain (a : ByteArray) (l1 : List Pl) (l2 : List Tr) (hs : Short l2) (hl1 : l1.length ≤ 1000) (hl : l2.length ≤ 1000) : Ev (fun k => petrinetref09_Plain.f k a l1 l2) (plainV a l1 l2) := by
  unfold petrinetref09_Plain.f plainV
  refine Ev.bind (rValid a l1 l2 hs hl1 hl) (Ev.ite (fun h => ?_) (fun h => Ev.val (by rw [Bool.not_eq_true] at h; rw [h]; rfl)))
  rw [h, Bool.true_and]
  exact rPlain_l0 a l1 l2 hl1 hl _ 0 (by omega) rfl
def onesV (l : List Ar) : Bool := l.all fun a => decide (a.f1 = 1)
theorem ones_iff {l : List Ar} : onesV l = true ↔ ∀ a ∈ l, a.f1 = 1 := by unfold onesV; simp only [List.all_eq_true, decide_eq_true_eq]
theorem rOnes_l0 (l : List Ar) (hl : l.length ≤ 1000) : ∀ (d i : Nat), i ≤ l.length → l.length - i = d → Ev (fun k => petrinetref09_ones.l0 k l (i : Int)) (onesV (l.drop i)) := by
  intro d
  induction d with
  | zero =>
    intro i hi hd
    refine Ev.succ ?_
    simp only [petrinetref09_ones.l0]
    exact Ev.neg (by omega) (Ev.val (by rw [List.drop_eq_nil_of_le (by omega)]; rfl))
  | succ d ih =>
    intro i hi hd
    have hlt : i < l.length := by omega
    have hih := ih (i + 1) (by omega) (by omega)
    have e : l.getD i z58 = l[i] := by simp [hlt]
    refine Ev.succ ?_
    simp only [petrinetref09_ones.l0, rdA]
    rw [e, wrap_succ (by omega), List.drop_eq_getElem_cons hlt, onesV, List.all_cons]
    refine Ev.pos (by omega) (Ev.pos (by omega) (Ev.ite (fun h => ?_) (fun h => Ev.val ?_)))
    · rw [decide_eq_true h, Bool.true_and]; exact hih
    · rw [decide_eq_false h]; rfl
def ordT (t : Tr) : Bool := onesV t.f1 && onesV t.f2
def ordV (a : ByteArray) (l1 : List Pl) (l2 : List Tr) : Bool := decide ((checkV a l1 l2).1 = 0) && l2.all ordT
theorem rOrd_l0 (a : ByteArray) (l1 : List Pl) (l2 : List Tr) (hs : Short l2) (hl : l2.length ≤ 1000) : ∀ (d i : Nat), i ≤ l2.length → l2.length - i = d → Ev (fun k => petrinetref09_Ordinary.l0 k (i : Int) a l1 l2) ((l2.drop i).all ordT) := by
  intro d
  induction d with
  | zero =>
    intro i hi hd
    refine Ev.succ ?_
    simp only [petrinetref09_Ordinary.l0]
    exact Ev.neg (by omega) (Ev.val (by rw [List.drop_eq_nil_of_le (by omega)]; rfl))
  | succ d ih =>
    intro i hi hd
    have hlt : i < l2.length := by omega
    have hih := ih (i + 1) (by omega) (by omega)
    obtain ⟨b1, b2, b3⟩ := hs l2[i] (List.getElem_mem hlt)
    refine Ev.succ ?_
    simp only [petrinetref09_Ordinary.l0, rdT]
    rw [getT hlt, wrap_succ (by omega), List.drop_eq_getElem_cons hlt, List.all_cons]
    refine Ev.pos (by omega) (Ev.pos (by omega) (Ev.bind (rOnes_l0 l2[i].f1 (by omega) _ 0 (by omega) rfl) (Ev.ite (fun h => Ev.bind (rOnes_l0 l2[i].f2 (by omega) _ 0 (by omega) rfl) (Ev.ite (fun h2 => ?_) (fun h2 => Ev.val ?_))) (fun h => Ev.val ?_))))
    · rw [show ordT l2[i] = true by unfold ordT; rw [Bool.and_eq_true]; exact ⟨h, h2⟩, Bool.true_and]; exact hih
    · rw [show ordT l2[i] = false by unfold ordT; rw [Bool.and_eq_false_iff]; exact .inr (Bool.not_eq_true _ ▸ h2)]; rfl
    · rw [show ordT l2[i] = false by unfold ordT; rw [Bool.and_eq_false_iff]; exact .inl (Bool.not_eq_true _ ▸ h)]; rfl
theorem rOrd (a : ByteArray) (l1 : List Pl) (l2 : List Tr) (hs : Short l2) (hl1 : l1.length ≤ 1000) (hl : l2.length ≤ 1000) : Ev (fun k => petrinetref09_Ordinary.f k a l1 l2) (ordV a l1 l2) := by
  unfold petrinetref09_Ordinary.f ordV
  refine Ev.bind (rValid a l1 l2 hs hl1 hl) (Ev.ite (fun h => ?_) (fun h => Ev.val (by rw [Bool.not_eq_true] at h; rw [h]; rfl)))
  rw [h, Bool.true_and]
  exact rOrd_l0 a l1 l2 hs hl _ 0 (by omega) rfl
theorem ord_iff {a : ByteArray} {l1 : List Pl} {l2 : List Tr} (h : ordV a l1 l2 = true) : ∀ t ∈ l2, (∀ b ∈ t.f1, b.f1 = 1) ∧ ∀ b ∈ t.f2, b.f1 = 1 := by
  unfold ordV ordT at h
  simp only [Bool.and_eq_true, decide_eq_true_eq, List.all_eq_true] at h
  exact fun t ht => ⟨ones_iff.1 (h.2 t ht).1, ones_iff.1 (h.2 t ht).2⟩

end Go.Proofs.Ytaphehdbjbogaaa.Fires

/- The places without tokens, as a vector of bits; sets and their greatest closed part. -/
namespace Go.Proofs.Ytaphehdbjbogaaa.Empties
open Go.RowKit Go.Proofs.Ytaphehdbjbogaaa.Pr Go.Proofs.Ytaphehdbjbogaaa.Evs Go.Proofs.Ytaphehdbjbogaaa.Nets Go.Proofs.Ytaphehdbjbogaaa.Siph Go.Proofs.Ytaphehdbjbogaaa.Great Go.Proofs.Ytaphehdbjbogaaa.Fires Go.Proofs.Ytaphehdbjbogaaa.Bits Go.Proofs.Ytaphehdbjbogaaa.Sets Go.Proofs.YtaphehdbjbogaaaW.PrintWords Go.Proofs.YtaphehdbjbogaaaW.PrintLast Go.Proofs.YtaphehdbjbogaaaW.PrintMore
set_option linter.unusedVariables false
set_option linter.unusedSimpArgs false
def emptyB (m : List Int) : Nat → Nat → BitVec 64 → BitVec 64
  | 0, _, s => s
  | d + 1, i, s => emptyB m d (i + 1) (if m.getD i 0 = 0 then withB s (i : Int) else s)
theorem empty_bit (m : List Int) (b : Nat) (hb : b < 64) : ∀ (d i : Nat) (s : BitVec 64), (emptyB m d i s).getLsbD b = true ↔ (s.getLsbD b = true ∨ (i ≤ b ∧ b < i + d ∧ m.getD b 0 = 0))
  | 0, i, s => by
    rw [emptyB]
    exact ⟨.inl, fun h => h.resolve_right (fun h => by omega)⟩
  | d + 1, i, s => by
    rw [emptyB, empty_bit m b hb d (i + 1)]
    by_cases e : m.getD i 0 = 0
    · rw [if_pos e, withB_bit]
      simp only [Bool.or_eq_true, Bool.and_eq_true, decide_eq_true_eq]
      constructor
      · rintro ((h | h) | h)
        · exact .inl h
        · obtain rfl : i = b := by omega
          exact .inr ⟨by omega, by omega, e⟩
        · exact .inr ⟨by omega, by omega, h.2.2⟩
      · rintro (h | h)
        · exact .inl (.inl h)
        · by_cases eb : i = b
          · exact .inl (.inr (by omega))
          · exact .inr ⟨by omega, by omega, h.2.2⟩
    · rw [if_neg e]
      constructor
      · rintro (h | h)
        · exact .inl h
        · exact .inr ⟨by omega, by omega, h.2.2⟩
      · rintro (h | h)
        · exact .inl h
        · refine .inr ⟨?_, by omega, h.2.2⟩
          by_cases eb : i = b
          · rw [eb] at e; exact absurd h.2.2 e
          · omega
theorem meet_arc {l : List Ar} {v : BitVec 64} {np : Int} (hl : ∀ a ∈ l, 0 ≤ a.f0 ∧ a.f0 < np ∧ 1 ≤ a.f1 ∧ a.f1 ≤ 99) : meetB l v = true ↔ ∃ p : Nat, v.getLsbD p = true ∧ (p : Int) < np ∧ 1 ≤ wt l p := by
  rw [meet_iff]
  constructor
  · rintro ⟨i, hv, hi⟩
    obtain ⟨a, ha, hd⟩ := List.any_eq_true.1 hi
    have hd := of_decide_eq_true hd
    have h4 := hl a ha
    exact ⟨i, hv, by omega, (wt_pos hl i).2 ⟨a, ha, by omega⟩⟩
  · rintro ⟨i, hv, _, hw⟩
    obtain ⟨a, ha, e⟩ := (wt_pos hl i).1 hw
    exact ⟨i, hv, List.any_eq_true.2 ⟨a, ha, decide_eq_true (by omega)⟩⟩
theorem isV_self {tr : Bool} {a : ByteArray} {l1 : List Pl} {l2 : List Tr} {r : BitVec 64} (h : isV tr a l1 l2 r = true) : Gr tr l2 (r &&& allTo (min l1.length 64)) r := by
  unfold isV at h
  rw [Bool.and_eq_true, Bool.and_eq_true] at h
  have he : r &&& allTo (min l1.length 64) = r := Sub.anti (and_left _ _) (sub_and (Sub.refl r) (subS_iff.1 h.2.1))
  rw [he]
  exact Gr.self h.2.2
end Go.Proofs.Ytaphehdbjbogaaa.Empties

/- The empty places of a deadlock form a siphon. -/
namespace Go.Proofs.Ytaphehdbjbogaaa.Pure
open Go.RowKit Go.Proofs.Ytaphehdbjbogaaa.Pr Go.Proofs.Ytaphehdbjbogaaa.Evs Go.Proofs.Ytaphehdbjbogaaa.Nets Go.Proofs.Ytaphehdbjbogaaa.Siph Go.Proofs.Ytaphehdbjbogaaa.Great Go.Proofs.Ytaphehdbjbogaaa.Fires Go.Proofs.Ytaphehdbjbogaaa.Empties Go.Proofs.Ytaphehdbjbogaaa.Bits Go.Proofs.Ytaphehdbjbogaaa.Sets Go.Proofs.Ytaphehdbjbogaaa.Refs Go.Proofs.YtaphehdbjbogaaaW.PrintWords Go.Proofs.YtaphehdbjbogaaaW.PrintLast Go.Proofs.YtaphehdbjbogaaaW.PrintMore
set_option linter.unusedVariables false
theorem dead_isV {a : ByteArray} {l1 : List Pl} {l2 : List Tr} {m : List Int} (hp : plainV a l1 l2 = true) (ho : ordV a l1 l2 = true) (hg : goodV a l1 l2 m = true) (hd : firesV l1 l2 m = []) : isV false a l1 l2 (emptyB m m.length 0 0#64) = true := by
  obtain ⟨h0, hok, hlen⟩ := good_iff.1 hg
  obtain ⟨_, p1, p2⟩ := plain_iff.1 hp
  have hn := net_ok h0
  have hb : ∀ b, (emptyB m m.length 0 0#64).getLsbD b = true → b < m.length ∧ m.getD b 0 = 0 := by
    intro b h
    have := (empty_bit m b (lt_bit h) m.length 0 0#64).1 h
    rcases this with h | h
    · simp at h
    · omega
  unfold isV
  rw [Bool.and_eq_true, Bool.and_eq_true]
  refine ⟨decide_eq_true h0, subS_iff.2 fun i hi => ?_, List.all_eq_true.2 fun t ht => ?_⟩
  · have h1 := hn.places
    have h2 := hb i hi
    rw [allTo_bit, decide_eq_true (show i < min l1.length 64 by omega), decide_eq_true (lt_bit hi)]
    rfl
  · have hr := fires_nil (fun t ht => (p2 t ht).2) hd t ht
    obtain ⟨p, hpl, hno⟩ : ∃ p, p < l1.length ∧ ¬ okAt l1 t m p := by
      have := of_decide_eq_false hr
      exact Classical.byContradiction fun hc => this fun p hpp => Classical.byContradiction fun hno => hc ⟨p, hpp, hno⟩
    have hw := (ord_iff ho t ht).1
    have hw1 := wt_ones hw p
    have hm := okM_at hok p (by omega)
    have hcap : (l1.getD p z56).f2 = 0 := by rw [getP hpl]; exact p1 _ (List.getElem_mem hpl)
    have hinh : wt t.f3 p = 0 := by rw [(p2 t ht).1]; rfl
    have hlt : m.getD p 0 < wt t.f1 p := Classical.byContradiction fun hc => hno ⟨hc, fun h => by omega, fun h => by omega⟩
    have hmeet : meetB t.f1 (emptyB m m.length 0 0#64) = true := (meet_arc (hn.pre ht)).2 ⟨p, (empty_bit m p (by have := hn.places; omega) m.length 0 0#64).2 (.inr (by omega)), by omega, by omega⟩
    show (!meetB t.f2 _ || meetB t.f1 _) = true
    rw [hmeet]
    simp
theorem deadlocks_l1 (a : ByteArray) (l1 : List Pl) (l2 : List Tr) (hs : Short l2) (hl : l2.length ≤ 1000) (m : List Int) (hm : m.length ≤ 1000) (E : BitVec 64) (hE : isV false a l1 l2 E = true) : ∀ (d i : Nat) (s : BitVec 64), i ≤ m.length → m.length - i = d → emptyB m d i s = E → Ev (fun k => petrinetlaw33_SiphonDeadlocks.l1 k m (U s) (i : Int) a l1 l2) true := by
  have h0 : (checkV a l1 l2).1 = 0 := by
    unfold isV at hE
    rw [Bool.and_eq_true] at hE
    exact of_decide_eq_true hE.1
  intro d
  induction d with
  | zero =>
    intro i s hi hd he
    obtain rfl : s = E := he
    refine Ev.succ ?_
    simp only [petrinetlaw33_SiphonDeadlocks.l1]
    refine Ev.neg (by omega) (Ev.bind (a := isV false a l1 l2 s) (by unfold siphon_Siphon.f; exact Ev.bind (pIs false _ _ _ hs hl s) (Ev.now _)) (Ev.pos hE (Ev.bind (a := U s) (by unfold siphon_MaxSiphon.f; exact Ev.bind (pMax false _ _ _ hs hl s s h0 (isV_self hE)) (Ev.now _)) (Ev.pos rfl lives'))))
  | succ d ih =>
    intro i s hi hd he
    rw [emptyB] at he
    have hih := fun s => ih (i + 1) s (by omega) (by omega)
    refine Ev.succ ?_
    simp only [petrinetlaw33_SiphonDeadlocks.l1, rdN]
    rw [wrap_succ (by omega)]
    refine Ev.pos (by omega) (Ev.pos (by omega) (Ev.ite (fun h => ?_) (fun h => ?_)))
    · rw [if_pos h] at he
      exact Ev.bind (rwith s _) (hih _ he)
    · rw [if_neg h] at he
      exact hih _ he
theorem deadlocks_l0 (a : ByteArray) (l1 : List Pl) (l2 : List Tr) (hs : Short l2) (hl : l2.length ≤ 1000) (m : List Int) (hm : m.length ≤ 1000) (hE : isV false a l1 l2 (emptyB m m.length 0 0#64) = true) : ∀ (d i : Nat), i ≤ l2.length → l2.length - i = d → Ev (fun k => petrinetlaw33_SiphonDeadlocks.l0 k m (i : Int) a l1 l2) true := by
  intro d
  induction d with
  | zero =>
    intro i hi hd
    refine Ev.succ ?_
    simp only [petrinetlaw33_SiphonDeadlocks.l0]
    exact Ev.neg (by omega) (deadlocks_l1 a l1 l2 hs hl m hm _ hE m.length 0 0#64 (by omega) (by omega) rfl)
  | succ d ih =>
    intro i hi hd
    have hih := ih (i + 1) (by omega) (by omega)
    refine Ev.succ ?_
    simp only [petrinetlaw33_SiphonDeadlocks.l0]
    rw [wrap_succ (by omega)]
    exact Ev.pos (by omega) (Ev.pos (by omega) (Ev.ite (fun _ => lives') (fun _ => hih)))
theorem SiphonDeadlocks (a : ByteArray × List Pl × List Tr) (m : List Int) {P : Prop} (ha : P) {Q : Prop} (hm : m.length ≤ maxLen ∧ Q) : ∃ k, petrinetlaw33_SiphonDeadlocks.f k a.1 a.2.1 a.2.2 m = some true := by
  have hm2 : m.length ≤ 9223372036854775807 := Nat.le_trans hm.1 (by decide)
  obtain ⟨b, hb⟩ := small_some a.1 a.2.1 a.2.2
  apply Ev.rounds
  unfold petrinetlaw33_SiphonDeadlocks.f
  simp only [hb, Option.bind_some]
  refine Ev.ite (fun h => ?_) (fun _ => lives')
  rw [h] at hb
  obtain ⟨h1, h2, h3⟩ := small_of hb
  have hjt : Ev (fun k => petrinetlaw33_SiphonDeadlocks.j0 k m true a.1 a.2.1 a.2.2) true := by
    refine Ev.succ ?_
    simp only [petrinetlaw33_SiphonDeadlocks.j0]
    exact Ev.pos (by simp) lives'
  refine Ev.bind (rPlain _ _ _ h3 (by omega) (by omega)) (Ev.ite (fun hp => Ev.bind (rOrd _ _ _ h3 (by omega) (by omega)) (Ev.ite (fun ho => Ev.bind (rDead _ _ _ h3 (by omega) (by omega) m hm2) ?_) (fun _ => hjt))) (fun _ => hjt))
  cases hd : (goodV a.1 a.2.1 a.2.2 m && decide (firesV a.2.1 a.2.2 m = [])) with
  | false => exact hjt
  | true =>
    rw [Bool.and_eq_true] at hd
    have hlen := (good_iff.1 hd.1).2.2
    refine Ev.succ ?_
    simp only [petrinetlaw33_SiphonDeadlocks.j0]
    exact Ev.neg (by simp) (deadlocks_l0 _ _ _ h3 (by omega) m (by omega) (dead_isV hp ho hd.1 (of_decide_eq_true hd.2)) _ 0 (by omega) rfl)
end Go.Proofs.Ytaphehdbjbogaaa.Pure
