/- How often one name follows another, and which logs are few. -/
import Derived.Test.YtaofommgdgmncaaPr7
import Derived.Test.YtaofommgdgmncaaPr8
import Derived.Test.YtaofommgdgmncaaPr15
import Derived.Test.YtaofommgdgmncaaPr16
import Derived.Test.YtaofommgdgmncaaPr17
import Derived.Test.YtaofommgdgmncaaLogs
namespace Go.Proofs.Ytaofommgdgmncaa.Logs
open Go.RowKit Go.Proofs.Ytaofommgdgmncaa.Pr Go.Proofs.Ytaofommgdgmncaa.Evs Go.Proofs.YtaofommgdgmncaaW.PrintWords Go.Proofs.YtaofommgdgmncaaW.PrintLast Go.Proofs.YtaofommgdgmncaaW.PrintMore
set_option linter.unusedVariables false
set_option linter.unusedSimpArgs false

/-! ### few -/
def total (l : List (List ByteArray)) : Nat := (l.map List.length).sum
structure Few (l : List (List ByteArray)) : Prop where
  len : l.length ≤ 80
  total : total l ≤ 400
  each : ∀ t ∈ l, t.length ≤ 80 ∧ ∀ s ∈ t, s.size ≤ 40
theorem total_snoc (l : List (List ByteArray)) (t : List ByteArray) : total (l ++ [t]) = total l + t.length := by simp [Logs.total]
theorem few_l1 (l : List (List ByteArray)) (i : Nat) (hi : i < l.length) (n : Int) (p : Prop) (hL : l.length ≤ 9223372036854775807)
    (hnext : l[i].length ≤ 80 → ∃ b, Ev (fun k => petrinetlaw48_few.l0 k l n ((i + 1 : Nat) : Int)) b ∧ (b = true → p)) : ∀ (d q : Nat), q ≤ l[i].length → l[i].length - q = d → ∃ b, Ev (fun k => petrinetlaw48_few.l1 k l n (i : Int) (q : Int)) b ∧ (b = true → (∀ s ∈ l[i].drop q, s.size ≤ 40) ∧ l[i].length ≤ 80 ∧ p) := by
  have hlast : ∀ q : Nat, (l[i].length ≤ q ∨ 81 ≤ q) → ∃ b, Ev (fun k => petrinetlaw48_few.j3 k l n (i : Int) (q : Int) false) b ∧ (b = true → l[i].length ≤ 80 ∧ p) := by
    intro q hq
    by_cases h80 : (l[i].length : Int) > 80
    · refine ⟨false, Ev.succ ?_, fun h => by cases h⟩
      simp only [petrinetlaw48_few.j3, rd_L1_get hi]
      exact Ev.neg (by decide) (Ev.pos (by omega) (Ev.pos (by omega) (Ev.pos h80 (Ev.now _))))
    · obtain ⟨b, hb, hp⟩ := hnext (by omega)
      refine ⟨b, Ev.succ ?_, fun h => ⟨by omega, hp h⟩⟩
      simp only [petrinetlaw48_few.j3, rd_L1_get hi]
      rw [wrap_succ (i := i) (by omega)]
      exact Ev.neg (by decide) (Ev.pos (by omega) (Ev.pos (by omega) (Ev.neg h80 hb)))
  intro d
  induction d with
  | zero =>
    intro q hq hd
    obtain ⟨b, hb, hp⟩ := hlast q (.inl (by omega))
    refine ⟨b, Ev.succ ?_, fun h => ⟨?_, hp h⟩⟩
    · simp only [petrinetlaw48_few.l1, rd_L1_get hi]
      exact Ev.pos (by omega) (Ev.pos (by omega) (Ev.neg (by omega) hb))
    · rw [List.drop_of_length_le (by omega)]; simp
  | succ d ih =>
    intro q hq hd
    have hqt : q < l[i].length := by omega
    by_cases h81 : q < 81
    · have hdec : decide ((q : Int) < 81) = true := decide_eq_true (by omega)
      by_cases hs : ((l[i][q].size : Nat) : Int) > 40
      · refine ⟨false, Ev.succ ?_, fun h => by cases h⟩
        simp only [petrinetlaw48_few.l1, rd_L1_get hi, hdec]
        refine Ev.pos (by omega) (Ev.pos (by omega) (Ev.pos (by omega) (Ev.succ ?_)))
        simp only [petrinetlaw48_few.j3, rd_L1_get hi, rdOf_get hqt]
        exact Ev.pos trivial (Ev.pos (by omega) (Ev.pos (by omega) (Ev.pos (by omega) (Ev.pos (by omega) (Ev.pos hs (Ev.now _))))))
      · obtain ⟨b, hb, hp⟩ := ih (q + 1) (by omega) (by omega)
        refine ⟨b, Ev.succ ?_, fun h => ⟨?_, (hp h).2⟩⟩
        · simp only [petrinetlaw48_few.l1, rd_L1_get hi, hdec]
          refine Ev.pos (by omega) (Ev.pos (by omega) (Ev.pos (by omega) (Ev.succ ?_)))
          simp only [petrinetlaw48_few.j3, rd_L1_get hi, rdOf_get hqt]
          rw [wrap_succ (i := q) (by omega)]
          exact Ev.pos trivial (Ev.pos (by omega) (Ev.pos (by omega) (Ev.pos (by omega) (Ev.pos (by omega) (Ev.neg hs hb)))))
        · intro s hs'
          rw [List.drop_eq_getElem_cons hqt] at hs'
          rcases List.mem_cons.1 hs' with rfl | h'
          · omega
          · exact (hp h).1 s h'
    · have hdec : decide ((q : Int) < 81) = false := decide_eq_false (by omega)
      obtain ⟨b, hb, hp⟩ := hlast q (.inr (by omega))
      refine ⟨b, Ev.succ ?_, fun h => ?_⟩
      · simp only [petrinetlaw48_few.l1, rd_L1_get hi, hdec]
        exact Ev.pos (by omega) (Ev.pos (by omega) (Ev.pos (by omega) hb))
      · have := (hp h).1; omega
theorem few_l0 (l : List (List ByteArray)) (hL : l.length ≤ 9223372036854775807) : ∀ (d i : Nat), i ≤ l.length → i ≤ 81 → l.length - i = d → total (l.take i) ≤ 80 * i →
    ∃ b, Ev (fun k => petrinetlaw48_few.l0 k l (total (l.take i) : Int) (i : Int)) b ∧ (b = true → l.length ≤ 80 ∧ total l ≤ 400 ∧ ∀ t ∈ l.drop i, t.length ≤ 80 ∧ ∀ s ∈ t, s.size ≤ 40) := by
  have hlast : ∀ i : Nat, i ≤ l.length → (l.length ≤ i ∨ 81 ≤ i) → ∃ b, Ev (fun k => petrinetlaw48_few.j1 k l (total (l.take i) : Int) (i : Int) false) b ∧ (b = true → l.length ≤ 80 ∧ total l ≤ 400 ∧ ∀ t ∈ l.drop i, t.length ≤ 80 ∧ ∀ s ∈ t, s.size ≤ 40) := by
    intro i hi hq
    by_cases h80 : (l.length : Int) ≤ 80
    · refine ⟨decide ((total (l.take i) : Int) ≤ 400), Ev.succ ?_, fun h => ?_⟩
      · simp only [petrinetlaw48_few.j1]
        exact Ev.neg (by decide) (Ev.pos h80 (Ev.now _))
      · obtain rfl : i = l.length := by omega
        rw [List.take_length] at h
        have := of_decide_eq_true h
        refine ⟨by omega, by omega, ?_⟩
        rw [List.drop_length]; simp
    · refine ⟨false, Ev.succ ?_, fun h => by cases h⟩
      simp only [petrinetlaw48_few.j1]
      exact Ev.neg (by decide) (Ev.neg h80 (Ev.now _))
  intro d
  induction d with
  | zero =>
    intro i hi h81 hd hn
    obtain ⟨b, hb, hp⟩ := hlast i hi (.inl (by omega))
    refine ⟨b, Ev.succ ?_, hp⟩
    simp only [petrinetlaw48_few.l0]
    exact Ev.neg (by omega) hb
  | succ d ih =>
    intro i hi h81 hd hn
    have hlt : i < l.length := by omega
    by_cases hi81 : i < 81
    · have hdec : decide ((i : Int) < 81) = true := decide_eq_true (by omega)
      have htk : total (l.take (i + 1)) = total (l.take i) + l[i].length := by rw [List.take_succ_eq_append_getElem hlt, total_snoc]
      obtain ⟨b, hb, hp⟩ := few_l1 l i hlt (wrap64 ((total (l.take i) : Int) + (l[i].length : Int))) (l.length ≤ 80 ∧ total l ≤ 400 ∧ ∀ t ∈ l.drop (i + 1), t.length ≤ 80 ∧ ∀ s ∈ t, s.size ≤ 40) hL (fun h => by
          rw [show wrap64 ((total (l.take i) : Int) + (l[i].length : Int)) = (total (l.take (i + 1)) : Int) by unfold wrap64; omega]
          exact ih (i + 1) (by omega) (by omega) (by omega) (by omega)) _ 0 (by omega) rfl
      refine ⟨b, Ev.succ ?_, fun h => ?_⟩
      · simp only [petrinetlaw48_few.l0, hdec]
        refine Ev.pos (by omega) (Ev.succ ?_)
        simp only [petrinetlaw48_few.j1, rd_L1_get hlt]
        exact Ev.pos trivial (Ev.pos (by omega) (Ev.pos (by omega) hb))
      · obtain ⟨h1, h2, h3, h4, h5⟩ := hp h
        refine ⟨h3, h4, fun t ht => ?_⟩
        rw [List.drop_eq_getElem_cons hlt] at ht
        rcases List.mem_cons.1 ht with rfl | ht
        · exact ⟨h2, fun s hs => h1 s (by rw [List.drop_zero]; exact hs)⟩
        · exact h5 t ht
    · have hdec : decide ((i : Int) < 81) = false := decide_eq_false (by omega)
      obtain ⟨b, hb, hp⟩ := hlast i hi (.inr (by omega))
      refine ⟨b, Ev.succ ?_, hp⟩
      simp only [petrinetlaw48_few.l0, hdec]
      exact Ev.pos (by omega) hb
/-- What the statements' reader tells of a log. -/
def LogOk (l : List (List ByteArray)) : Prop := l.length ≤ maxLen ∧ ∀ t ∈ l, t.length ≤ maxLen ∧ ∀ s ∈ t, s.size ≤ maxLen
theorem few (l : List (List ByteArray)) (hL : l.length ≤ 9223372036854775807) : ∃ b, Ev (fun k => petrinetlaw48_few.f k l) b ∧ (b = true → Few l) := by
  obtain ⟨b, hb, hp⟩ := few_l0 l hL _ 0 (by omega) (by omega) rfl (by simp [Logs.total])
  exact ⟨b, hb, fun h => ⟨(hp h).1, (hp h).2.1, (hp h).2.2⟩⟩

/-! ### Follows -/
/-- How often b comes directly after a in front of place j. -/
def fol (t : List ByteArray) (a b : ByteArray) : Nat → Nat
  | 0 => 0
  | j + 1 => fol t a b j + if 1 ≤ j ∧ t[j - 1]? = some a ∧ t[j]? = some b then 1 else 0
theorem fol_le (t : List ByteArray) (a b : ByteArray) : ∀ j, fol t a b j ≤ j
  | 0 => Nat.le_refl _
  | j + 1 => by have := fol_le t a b j; unfold fol; split <;> omega
theorem fol_stop (t : List ByteArray) (a b : ByteArray) : ∀ (d : Nat), fol t a b (t.length + d) = fol t a b t.length
  | 0 => rfl
  | d + 1 => by
    rw [← Nat.add_assoc, fol, fol_stop t a b d, if_neg, Nat.add_zero]
    rintro ⟨_, _, h⟩
    rw [List.getElem?_eq_none (by omega)] at h; cases h
def folL (l : List (List ByteArray)) (a b : ByteArray) : Nat → Nat
  | 0 => 0
  | i + 1 => folL l a b i + fol (l.getD i []) a b (l.getD i []).length
theorem folL_le {l : List (List ByteArray)} (h : ∀ t ∈ l, t.length ≤ 80) (a b : ByteArray) : ∀ i, folL l a b i ≤ 80 * i
  | 0 => by simp [folL]
  | i + 1 => by
    have h1 := folL_le h a b i
    have h2 := fol_le (l.getD i []) a b (l.getD i []).length
    have h3 : (l.getD i []).length ≤ 80 := by
      by_cases hi : i < l.length
      · rw [List.getD_eq_getElem?_getD, List.getElem?_eq_getElem hi]; exact h _ (List.getElem_mem hi)
      · rw [List.getD_eq_getElem?_getD, List.getElem?_eq_none (by omega)]; simp
    rw [folL]; omega
theorem fol_step {t : List ByteArray} {a b : ByteArray} {q : Nat} (h1 : 1 ≤ q) (hq : q < t.length) : fol t a b (q + 1) = fol t a b q + if (t[q - 1]'(by omega)).toList = a.toList ∧ t[q].toList = b.toList then 1 else 0 := by
  rw [fol, List.getElem?_eq_getElem hq, List.getElem?_eq_getElem (show q - 1 < t.length by omega)]
  simp only [Option.some.injEq, bytes_eq, h1, true_and]
theorem wrap_pred {q : Nat} (h1 : 1 ≤ q) (h : q < 9223372036854775807) : wrap64 ((q : Int) - 1) = ((q - 1 : Nat) : Int) := by unfold wrap64; omega
theorem efol_l1 (l : List (List ByteArray)) (a b : ByteArray) (i : Nat) (t : List ByteArray) (ht : t.length ≤ 80) (n : Nat) (hn : n ≤ 100000) (L : Int) (R : Int)
    (hnext : Ev (fun k => eventlog_Follows.l0 k a b ((n + fol t a b t.length : Nat) : Int) l L (wrap64 ((i : Int) + 1))) R) : ∀ (d q : Nat), 1 ≤ q → t.length - q = d → Ev (fun k => eventlog_Follows.l1 k a b ((n + fol t a b q : Nat) : Int) t (q : Int) l L (i : Int)) R := by
  intro d
  induction d with
  | zero =>
    intro q h1 hd
    refine Ev.succ ?_
    simp only [eventlog_Follows.l1]
    refine Ev.neg (by omega) ?_
    obtain ⟨d, rfl⟩ : ∃ d, q = t.length + d := ⟨q - t.length, by omega⟩
    rw [fol_stop]
    exact hnext
  | succ d ih =>
    intro q h1 hd
    have hq : q < t.length := by omega
    have hle := fol_le t a b q
    have hih := ih (q + 1) (by omega) (by omega)
    rw [fol_step h1 hq] at hih
    refine Ev.succ ?_
    simp only [eventlog_Follows.l1]
    rw [wrap_pred h1 (by omega), rdOf_get hq, rdOf_get (show q - 1 < t.length by omega), wrap_succ (i := q) (by omega)]
    refine Ev.pos (by omega) (Ev.pos (by omega) (Ev.pos (by omega) ?_))
    by_cases ha : (t[q - 1]'(by omega)).toList = a.toList
    · refine Ev.pos ha (Ev.pos (by omega) ?_)
      by_cases hb : t[q].toList = b.toList
      · rw [if_pos ⟨ha, hb⟩] at hih
        rw [wrap_succ (by omega)]
        exact Ev.pos hb hih
      · rw [if_neg (fun h => hb h.2)] at hih
        exact Ev.neg hb hih
    · rw [if_neg (fun h => ha h.1)] at hih
      exact Ev.neg ha hih
theorem efol_l0 (l : List (List ByteArray)) (a b : ByteArray) (hl : l.length ≤ 80) (ht : ∀ t ∈ l, t.length ≤ 80) : ∀ (d i : Nat), i ≤ l.length → l.length - i = d → Ev (fun k => eventlog_Follows.l0 k a b (folL l a b i : Int) l (l.length : Int) (i : Int)) (folL l a b l.length : Int) := by
  intro d
  induction d with
  | zero =>
    intro i hi hd
    obtain rfl : i = l.length := by omega
    refine Ev.succ ?_
    simp only [eventlog_Follows.l0]
    exact Ev.neg (by omega) (Ev.now _)
  | succ d ih =>
    intro i hi hd
    have hlt : i < l.length := by omega
    have hle := folL_le ht a b i
    have hih := ih (i + 1) (by omega) (by omega)
    have hg : l.getD i [] = l[i] := by rw [List.getD_eq_getElem?_getD, List.getElem?_eq_getElem hlt]; rfl
    rw [folL, hg] at hih
    refine Ev.succ ?_
    simp only [eventlog_Follows.l0]
    refine Ev.pos (by omega) (Ev.pos (by omega) (Ev.pos (by omega) ?_))
    rw [rd_L1_get hlt]
    exact efol_l1 l a b i l[i] (ht _ (List.getElem_mem hlt)) (folL l a b i) (by omega) _ _ (by rw [wrap_succ (by omega)]; exact hih) _ 1 (Nat.le_refl _) rfl
theorem efollows {l : List (List ByteArray)} (h : Few l) (a b : ByteArray) : Ev (fun k => eventlog_Follows.f k l a b) (folL l a b l.length : Int) := efol_l0 l a b h.len (fun t ht => (h.each t ht).1) _ 0 (by omega) rfl
theorem rfol_l1 (l : List (List ByteArray)) (a b : ByteArray) (i : Nat) (hi : i < l.length) (ht : l[i].length ≤ 80) (n : Nat) (hn : n ≤ 100000) (R : Int)
    (hnext : Ev (fun k => petrinetref48_Follows.l0 k l a b ((n + fol l[i] a b l[i].length : Nat) : Int) (wrap64 ((i : Int) + 1))) R) : ∀ (d q : Nat), 1 ≤ q → l[i].length - q = d → Ev (fun k => petrinetref48_Follows.l1 k l a b ((n + fol l[i] a b q : Nat) : Int) (i : Int) (q : Int)) R := by
  intro d
  induction d with
  | zero =>
    intro q h1 hd
    refine Ev.succ ?_
    simp only [petrinetref48_Follows.l1, rd_L1_get hi]
    refine Ev.pos (by omega) (Ev.pos (by omega) (Ev.neg (by omega) ?_))
    obtain ⟨d, rfl⟩ : ∃ d, q = l[i].length + d := ⟨q - l[i].length, by omega⟩
    rw [fol_stop]
    exact hnext
  | succ d ih =>
    intro q h1 hd
    have hq : q < l[i].length := by omega
    have hle := fol_le l[i] a b q
    have hih := ih (q + 1) (by omega) (by omega)
    rw [fol_step h1 hq] at hih
    refine Ev.succ ?_
    simp only [petrinetref48_Follows.l1, rd_L1_get hi]
    rw [wrap_pred h1 (by omega), rdOf_get hq, rdOf_get (show q - 1 < l[i].length by omega), wrap_succ (i := q) (by omega)]
    refine Ev.pos (by omega) (Ev.pos (by omega) (Ev.pos (by omega) (Ev.pos (by omega) (Ev.pos (by omega) ?_))))
    by_cases ha : (l[i][q - 1]'(by omega)).toList = a.toList
    · refine Ev.pos ha (Ev.pos (by omega) ?_)
      by_cases hb : l[i][q].toList = b.toList
      · rw [if_pos ⟨ha, hb⟩] at hih
        rw [wrap_succ (by omega)]
        exact Ev.pos hb hih
      · rw [if_neg (fun h => hb h.2)] at hih
        exact Ev.neg hb hih
    · rw [if_neg (fun h => ha h.1)] at hih
      exact Ev.neg ha hih
theorem rfol_l0 (l : List (List ByteArray)) (a b : ByteArray) (hl : l.length ≤ 80) (ht : ∀ t ∈ l, t.length ≤ 80) : ∀ (d i : Nat), i ≤ l.length → l.length - i = d → Ev (fun k => petrinetref48_Follows.l0 k l a b (folL l a b i : Int) (i : Int)) (folL l a b l.length : Int) := by
  intro d
  induction d with
  | zero =>
    intro i hi hd
    obtain rfl : i = l.length := by omega
    refine Ev.succ ?_
    simp only [petrinetref48_Follows.l0]
    exact Ev.neg (by omega) (Ev.now _)
  | succ d ih =>
    intro i hi hd
    have hlt : i < l.length := by omega
    have hle := folL_le ht a b i
    have hih := ih (i + 1) (by omega) (by omega)
    have hg : l.getD i [] = l[i] := by rw [List.getD_eq_getElem?_getD, List.getElem?_eq_getElem hlt]; rfl
    rw [folL, hg] at hih
    refine Ev.succ ?_
    simp only [petrinetref48_Follows.l0]
    refine Ev.pos (by omega) ?_
    exact rfol_l1 l a b i hlt (ht _ (List.getElem_mem hlt)) (folL l a b i) (by omega) _ (by rw [wrap_succ (by omega)]; exact hih) _ 1 (Nat.le_refl _) rfl
theorem rfollows {l : List (List ByteArray)} (h : Few l) (a b : ByteArray) : Ev (fun k => petrinetref48_Follows.f k l a b) (folL l a b l.length : Int) := rfol_l0 l a b h.len (fun t ht => (h.each t ht).1) _ 0 (by omega) rfl
theorem erelation {l : List (List ByteArray)} (h : Few l) (a b : ByteArray) : Ev (fun k => eventlog_Relation.f k l a b) (relOf (folL l a b l.length : Int) (folL l b a l.length : Int)) :=
  Ev.bind (efollows h a b) (Ev.bind (efollows h b a) (Ev.now _))
theorem rrelation {l : List (List ByteArray)} (h : Few l) (a b : ByteArray) : Ev (fun k => petrinetref48_Relation.f k l a b) (relOf (folL l a b l.length : Int) (folL l b a l.length : Int)) :=
  Ev.bind (rfollows h a b) (Ev.bind (rfollows h b a) (Ev.now _))
end Go.Proofs.Ytaofommgdgmncaa.Logs
