/- What package bitset's Minimal and Next answer: order, members, the next subset. -/
import Derived.Test.YtmopcjebjbdapaaSets
namespace Go.Proofs.Ytmopcjebjbdapaa.Mins
open Go.RowKit Go.Proofs.Ytmopcjebjbdapaa.Pr Go.Proofs.Ytmopcjebjbdapaa.Bits Go.Proofs.Ytmopcjebjbdapaa.Sets Go.Proofs.YtmopcjebjbdapaaW.PrintWords Go.Proofs.YtmopcjebjbdapaaW.PrintLast Go.Proofs.YtmopcjebjbdapaaW.PrintMore
set_option linter.unusedVariables false
set_option linter.unusedSimpArgs false

/-! ### the order -/
def lenV (a : BitVec 64) : Nat := (els a 64).length
def befV (a b : BitVec 64) : Bool := if lenV a = lenV b then decide (a.toNat < b.toNat) else decide (lenV a < lenV b)
theorem befV_iff {a b : BitVec 64} : befV a b = true ↔ lenV a < lenV b ∨ (lenV a = lenV b ∧ a.toNat < b.toNat) := by
  unfold befV
  split <;> simp <;> omega
theorem befV_irr (a : BitVec 64) : befV a a = false := by simp [befV]
theorem befV_trans {a b c : BitVec 64} (h : befV a b = true) (k : befV b c = true) : befV a c = true := by rw [befV_iff] at *; omega
theorem befV_tri {a b : BitVec 64} (h : befV a b = false) (k : befV b a = false) : a = b := by
  have h' : ¬ befV a b = true := by simp [h]
  have k' : ¬ befV b a = true := by simp [k]
  rw [befV_iff] at h' k'
  apply BitVec.eq_of_toNat_eq
  omega
theorem beforeB_U (a b : BitVec 64) : beforeB (U a) (U b) = befV a b := by
  unfold beforeB befV lenV
  rw [elemsTo_U, elemsTo_U]
  by_cases h : (els a 64).length = (els b 64).length
  · rw [if_pos h, if_pos (by omega), Bool.eq_iff_iff]; simp [U]
  · rw [if_neg h, if_neg (by omega), Bool.eq_iff_iff]; simp

/-! ### Minimal -/
def smallV (l : List (BitVec 64)) (s : BitVec 64) : Bool := l.all fun t => decide (t = s) || !subS t s
theorem smallestB_U (l : List (BitVec 64)) (s : BitVec 64) : smallestB (l.map U) (U s) = smallV l s := by
  unfold smallestB smallV
  rw [List.all_map]
  congr 1
  funext t
  simp only [Function.comp_apply, subB_U]
  congr 1
  rw [Bool.eq_iff_iff]; simp [U_inj]
def posV (out : List (BitVec 64)) (s : BitVec 64) : Nat := (out.takeWhile (befV · s)).length
theorem posOf_U (out : List (BitVec 64)) (s : BitVec 64) : posOf (out.map U) (U s) = posV out s := by
  unfold posOf posV
  rw [List.takeWhile_map, List.length_map]
  congr 2
  funext t
  exact beforeB_U t s
def insV (out : List (BitVec 64)) (s : BitVec 64) : List (BitVec 64) := if out[posV out s]? = some s then out else out.take (posV out s) ++ s :: out.drop (posV out s)
theorem insL_U (out : List (BitVec 64)) (s : BitVec 64) : insL (out.map U) (U s) = (insV out s).map U := by
  unfold insL insV
  rw [posOf_U]
  by_cases h : out[posV out s]? = some s
  · rw [if_pos h, if_pos (by rw [List.getElem?_map, h]; rfl)]
  · rw [if_neg h, if_neg]
    · simp
    · rw [List.getElem?_map]
      intro e
      apply h
      cases ho : out[posV out s]? with
      | none => rw [ho] at e; cases e
      | some x => rw [ho] at e; simp at e; rw [U_inj.1 e]
def minV (l : List (BitVec 64)) : List (BitVec 64) := l.foldl (fun out s => if smallV l s then insV out s else out) []
theorem minimalL_U (l : List (BitVec 64)) : minimalL (l.map U) = (minV l).map U := by
  unfold minimalL minV
  suffices h : ∀ (m : List (BitVec 64)) (out : List (BitVec 64)), (m.map U).foldl (stepL (l.map U)) (out.map U) = (m.foldl (fun out s => if smallV l s then insV out s else out) out).map U by
    exact h l []
  intro m
  induction m with
  | nil => intro out; rfl
  | cons s m ih =>
    intro out
    rw [List.map_cons, List.foldl_cons, List.foldl_cons]
    have e : stepL (l.map U) (out.map U) (U s) = (if smallV l s then insV out s else out).map U := by
      unfold stepL
      rw [smallestB_U]
      split
      · exact insL_U out s
      · rfl
    rw [e]
    exact ih _
theorem minimal_U (l : List (BitVec 64)) (hl : l.length ≤ 1099511627776) : bitset_Minimal.f (l.map U) = some ((minV l).map U) := by
  unfold bitset_Minimal.f
  rw [if_pos (by simpa using hl), minimalL_U]

def SortV (out : List (BitVec 64)) : Prop := out.Pairwise (fun a b => befV a b = true)
theorem mem_insV {out : List (BitVec 64)} {s x : BitVec 64} : x ∈ insV out s ↔ x ∈ out ∨ x = s := by
  unfold insV
  split
  · rename_i h
    constructor
    · exact .inl
    · rintro (h' | rfl)
      · exact h'
      · exact List.mem_of_getElem? h
  · rw [List.mem_append, List.mem_cons]
    have h : x ∈ out ↔ x ∈ out.take (posV out s) ∨ x ∈ out.drop (posV out s) := by
      rw [← List.mem_append, List.take_append_drop]
    rw [h]
    constructor
    · rintro (h | h | h)
      · exact .inl (.inl h)
      · exact .inr h
      · exact .inl (.inr h)
    · rintro ((h | h) | h)
      · exact .inl h
      · exact .inr (.inr h)
      · exact .inr (.inl h)
theorem tw_take {α : Type} (p : α → Bool) : ∀ l : List α, l.take (l.takeWhile p).length = l.takeWhile p
  | [] => rfl
  | x :: l => by
    rw [List.takeWhile_cons]
    split
    · rw [List.length_cons, List.take_succ_cons, tw_take p l]
    · rfl
theorem tw_all {α : Type} (p : α → Bool) {x : α} : ∀ l : List α, x ∈ l.takeWhile p → p x = true
  | [], h => by cases h
  | y :: l, h => by
    rw [List.takeWhile_cons] at h
    split at h
    · rcases List.mem_cons.1 h with rfl | h
      · assumption
      · exact tw_all p l h
    · cases h
theorem tw_stop {α : Type} (p : α → Bool) : ∀ (l : List α) {x : α}, l[(l.takeWhile p).length]? = some x → p x = false
  | [], x, h => by simp at h
  | y :: l, x, h => by
    rw [List.takeWhile_cons] at h
    split at h
    · rw [List.length_cons, List.getElem?_cons_succ] at h
      exact tw_stop p l h
    · simp at h
      subst h
      rename_i hy
      simpa using hy
theorem take_bef {out : List (BitVec 64)} {s x : BitVec 64} (h : x ∈ out.take (posV out s)) : befV x s = true := by
  unfold posV at h
  rw [tw_take] at h
  exact tw_all (befV · s) _ h
/-- Behind the place of s nothing of a sorted list comes before s. -/
theorem drop_bef {out : List (BitVec 64)} (hs : SortV out) {s x : BitVec 64} (h : x ∈ out.drop (posV out s)) : befV x s = false := by
  obtain ⟨i, hi, rfl⟩ := List.mem_iff_getElem.1 h
  rw [List.getElem_drop]
  simp at hi
  have h0 : posV out s < out.length := by omega
  have hst : befV out[posV out s] s = false := tw_stop (befV · s) out (show out[(out.takeWhile (befV · s)).length]? = some out[posV out s] from List.getElem?_eq_getElem h0)
  by_cases e : i = 0
  · subst e; simpa using hst
  · have hlt := List.pairwise_iff_getElem.1 hs (posV out s) (posV out s + i) h0 (by omega) (by omega)
    cases hb : befV out[posV out s + i] s with
    | false => rfl
    | true => rw [befV_trans hlt hb] at hst; cases hst
theorem sort_insV {out : List (BitVec 64)} (hs : SortV out) (s : BitVec 64) : SortV (insV out s) := by
  unfold insV
  split
  · exact hs
  · rename_i h
    unfold SortV
    rw [List.pairwise_append]
    refine ⟨List.Pairwise.sublist (List.take_sublist _ _) hs, ?_, ?_⟩
    · rw [List.pairwise_cons]
      refine ⟨fun x hx => ?_, List.Pairwise.sublist (List.drop_sublist _ _) hs⟩
      have h1 := drop_bef hs hx
      cases hb : befV s x with
      | true => rfl
      | false =>
        exfalso
        have e := befV_tri h1 hb
        subst e
        obtain ⟨i, hi, hx'⟩ := List.mem_iff_getElem.1 hx
        simp at hi
        rw [List.getElem_drop] at hx'
        by_cases e0 : i = 0
        · subst e0
          apply h
          rw [List.getElem?_eq_getElem (by omega)]
          simpa using hx'
        · have hlt := List.pairwise_iff_getElem.1 hs (posV out x) (posV out x + i) (by omega) (by omega) (by omega)
          rw [hx'] at hlt
          have := tw_stop (befV · x) out (show out[(out.takeWhile (befV · x)).length]? = some out[posV out x] from by rw [List.getElem?_eq_getElem]; rfl)
          rw [this] at hlt; cases hlt
    · intro x hx y hy
      have h1 := take_bef hx
      rcases List.mem_cons.1 hy with rfl | hy
      · exact h1
      · rw [← List.take_append_drop (posV out s) out] at hs
        exact (List.pairwise_append.1 hs).2.2 x hx y hy
theorem sort_minV (l : List (BitVec 64)) : SortV (minV l) := by
  unfold minV
  suffices h : ∀ (m out : List (BitVec 64)), SortV out → SortV (m.foldl (fun out s => if smallV l s then insV out s else out) out) from h l [] List.Pairwise.nil
  intro m
  induction m with
  | nil => intro out h; exact h
  | cons s m ih =>
    intro out h
    rw [List.foldl_cons]
    apply ih
    split
    · exact sort_insV h s
    · exact h
theorem mem_minV {l : List (BitVec 64)} {x : BitVec 64} : x ∈ minV l ↔ x ∈ l ∧ smallV l x = true := by
  unfold minV
  suffices h : ∀ (m out : List (BitVec 64)), x ∈ m.foldl (fun out s => if smallV l s then insV out s else out) out ↔ x ∈ out ∨ (x ∈ m ∧ smallV l x = true) by
    rw [h]; simp
  intro m
  induction m with
  | nil => intro out; simp
  | cons s m ih =>
    intro out
    rw [List.foldl_cons, ih]
    by_cases hs : smallV l s = true
    · rw [if_pos hs, mem_insV, List.mem_cons]
      constructor
      · rintro ((h | rfl) | ⟨h, k⟩)
        · exact .inl h
        · exact .inr ⟨.inl rfl, hs⟩
        · exact .inr ⟨.inr h, k⟩
      · rintro (h | ⟨rfl | h, k⟩)
        · exact .inl (.inl h)
        · exact .inl (.inr rfl)
        · exact .inr ⟨h, k⟩
    · rw [if_neg hs, List.mem_cons]
      constructor
      · rintro (h | ⟨h, k⟩)
        · exact .inl h
        · exact .inr ⟨.inr h, k⟩
      · rintro (h | ⟨rfl | h, k⟩)
        · exact .inl h
        · exact absurd k hs
        · exact .inr ⟨h, k⟩
theorem sort_nodup {l : List (BitVec 64)} (h : SortV l) : l.Nodup := by
  refine List.Pairwise.imp ?_ h
  intro a b hab e
  subst e
  rw [befV_irr] at hab; cases hab
theorem minV_len (l : List (BitVec 64)) : (minV l).length ≤ l.length := by
  have h := minimalTo_len (l.map U) (l.map U) []
  have e : (l.map U).foldl (stepL (l.map U)) [] = (minV l).map U := minimalL_U l
  rw [e] at h
  simpa using h
theorem smallV_iff {l : List (BitVec 64)} {s : BitVec 64} : smallV l s = true ↔ ∀ t ∈ l, subS t s = true → t = s := by
  unfold smallV
  rw [List.all_eq_true]
  constructor
  · intro h t ht hs
    have := h t ht
    simpa [hs] using this
  · intro h t ht
    cases hs : subS t s with
    | false => simp
    | true => simp [h t ht hs]
/-- A subset that is another set is a smaller number. -/
theorem sub_lt {a b : BitVec 64} (h : subS a b = true) (hne : a ≠ b) : a.toNat < b.toNat := by
  have hle : a.toNat ≤ b.toNat := by
    have e : a = a &&& b := by
      apply ext_bit
      intro i hi
      rw [BitVec.getLsbD_and]
      cases ha : a.getLsbD i with
      | false => simp
      | true => simp [subS_iff.1 h i ha]
    rw [e, BitVec.toNat_and]
    exact Nat.and_le_right
  rcases Nat.lt_or_eq_of_le hle with h2 | h2
  · exact h2
  · exact absurd (BitVec.eq_of_toNat_eq h2) hne
theorem subS_trans {a b c : BitVec 64} (h : subS a b = true) (k : subS b c = true) : subS a c = true := subS_iff.2 (fun i hi => subS_iff.1 k i (subS_iff.1 h i hi))
theorem subS_refl (a : BitVec 64) : subS a a = true := subS_iff.2 (fun _ h => h)
/-- Every set of the list has a subset among the minimal ones. -/
theorem minV_covers {l : List (BitVec 64)} : ∀ (n : Nat) (x : BitVec 64), x ∈ l → x.toNat ≤ n → ∃ m ∈ minV l, subS m x = true := by
  intro n
  induction n with
  | zero =>
    intro x hx hn
    refine ⟨x, mem_minV.2 ⟨hx, smallV_iff.2 (fun t ht hs => ?_)⟩, subS_refl x⟩
    apply Classical.byContradiction
    intro hne
    have := sub_lt hs hne
    omega
  | succ n ih =>
    intro x hx hn
    by_cases hs : smallV l x = true
    · exact ⟨x, mem_minV.2 ⟨hx, hs⟩, subS_refl x⟩
    · rw [smallV_iff] at hs
      have : ∃ t, t ∈ l ∧ subS t x = true ∧ t ≠ x := by
        apply Classical.byContradiction
        intro hno
        apply hs
        intro t ht hst
        apply Classical.byContradiction
        intro hne
        exact hno ⟨t, ht, hst, hne⟩
      obtain ⟨t, ht, hst, hne⟩ := this
      have hlt := sub_lt hst hne
      obtain ⟨m, hm, hmt⟩ := ih t ht (by omega)
      exact ⟨m, hm, subS_trans hmt hst⟩
theorem minV_anti {l : List (BitVec 64)} {a b : BitVec 64} (ha : a ∈ minV l) (hb : b ∈ minV l) (h : subS a b = true) : a = b :=
  smallV_iff.1 (mem_minV.1 hb).2 a (mem_minV.1 ha).1 h

/-! ### Next -/
/-- m is the least number of o that s lacks. -/
def Lacks (s o : BitVec 64) (m : Nat) : Prop := o.getLsbD m = true ∧ s.getLsbD m = false ∧ ∀ j, j < m → o.getLsbD j = true → s.getLsbD j = true
theorem lacks_of {s o : BitVec 64} (h : subS s o = true) (hne : s ≠ o) : ∃ m, Lacks s o m := by
  have hex : ∃ m, o.getLsbD m = true ∧ s.getLsbD m = false := by
    apply Classical.byContradiction
    intro hno
    apply hne
    apply ext_bit
    intro i hi
    cases hs : s.getLsbD i with
    | true => exact (subS_iff.1 h i hs).symm
    | false =>
      cases ho : o.getLsbD i with
      | false => rfl
      | true => exact absurd ⟨i, ho, hs⟩ hno
  obtain ⟨m, hm⟩ := hex
  have key : ∀ n, (∃ m, m ≤ n ∧ o.getLsbD m = true ∧ s.getLsbD m = false) → ∃ m, Lacks s o m := by
    intro n
    induction n with
    | zero =>
      rintro ⟨m, hm, h1, h2⟩
      exact ⟨m, h1, h2, fun j hj => absurd hj (by omega)⟩
    | succ n ih =>
      rintro ⟨m, hm, h1, h2⟩
      by_cases hl : ∃ j, j ≤ n ∧ o.getLsbD j = true ∧ s.getLsbD j = false
      · exact ih hl
      · refine ⟨m, h1, h2, fun j hj ho => ?_⟩
        cases hs : s.getLsbD j with
        | true => rfl
        | false => exact absurd ⟨j, by omega, ho, hs⟩ hl
  exact key m ⟨m, Nat.le_refl _, hm⟩
theorem neg_bits {t : BitVec 64} {m : Nat} (hlow : ∀ i, i < m → t.getLsbD i = false) (hm : t.getLsbD m = true) (j : Nat) (hj : j < 64) : (-t).getLsbD j = (if j < m then false else if j = m then true else !t.getLsbD j) := by
  rw [BitVec.getLsbD_neg, decide_eq_true hj, Bool.true_and]
  by_cases c1 : j < m
  · rw [if_pos c1, hlow j c1, decide_eq_false]
    · rfl
    · rintro ⟨i, hi, hb⟩
      rw [hlow i (by omega)] at hb; cases hb
  · rw [if_neg c1]
    by_cases c2 : j = m
    · subst c2
      rw [if_pos rfl, hm, decide_eq_false]
      · rfl
      · rintro ⟨i, hi, hb⟩
        rw [hlow i hi] at hb; cases hb
    · rw [if_neg c2, decide_eq_true (⟨m, by omega, hm⟩ : ∃ i, i < j ∧ t.getLsbD i = true), Bool.xor_true]
theorem next_bit {s o : BitVec 64} (h : subS s o = true) {m : Nat} (hm : Lacks s o m) (j : Nat) (hj : j < 64) : ((s - o) &&& o).getLsbD j = (if j < m then false else if j = m then true else s.getLsbD j) := by
  obtain ⟨h1, h2, h3⟩ := hm
  have hlt : m < 64 := BitVec.lt_of_getLsbD h1
  have tb : ∀ i, i < 64 → (o &&& ~~~s).getLsbD i = (o.getLsbD i && !s.getLsbD i) := by
    intro i hi
    rw [BitVec.getLsbD_and, BitVec.getLsbD_not, decide_eq_true hi, Bool.true_and]
  have ht : s + (o &&& ~~~s) = o := by
    rw [add_or]
    · apply ext_bit
      intro i hi
      rw [BitVec.getLsbD_or, tb i hi]
      cases hs : s.getLsbD i with
      | true => simp [subS_iff.1 h i hs]
      | false => simp
    · apply ext_bit
      intro i hi
      rw [BitVec.getLsbD_and, tb i hi]
      cases s.getLsbD i <;> simp
  have e : s - o = -(o &&& ~~~s) := by
    have h9 : s - (s + (o &&& ~~~s)) = -(o &&& ~~~s) := by
      rw [BitVec.sub_eq_add_neg, BitVec.neg_add, BitVec.sub_eq_add_neg, ← BitVec.add_assoc, ← BitVec.sub_eq_add_neg s s, BitVec.sub_self, BitVec.zero_add]
    rwa [ht] at h9
  rw [e, BitVec.getLsbD_and, neg_bits (m := m) _ _ j hj]
  · by_cases c1 : j < m
    · rw [if_pos c1, if_pos c1]; rfl
    · rw [if_neg c1, if_neg c1]
      by_cases c2 : j = m
      · subst c2; rw [if_pos rfl, if_pos rfl, h1]; rfl
      · rw [if_neg c2, if_neg c2, tb j hj]
        cases hs : s.getLsbD j with
        | true => simp [subS_iff.1 h j hs]
        | false => cases o.getLsbD j <;> simp
  · intro i hi
    rw [tb i (by omega)]
    cases ho : o.getLsbD i with
    | false => rfl
    | true => rw [h3 i hi ho]; rfl
  · rw [tb m hlt, h1, h2]; rfl

end Go.Proofs.Ytmopcjebjbdapaa.Mins
