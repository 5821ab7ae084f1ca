/- The first fault of a log, and the text of a log. -/
import Derived.Test.YtaofommgdgmncaaPr24
import Derived.Test.YtaofommgdgmncaaPr25
import Derived.Test.YtaofommgdgmncaaPr26
import Derived.Test.YtaofommgdgmncaaPr27
import Derived.Test.YtaofommgdgmncaaPr28
import Derived.Test.YtaofommgdgmncaaFollows
namespace Go.Proofs.Ytaofommgdgmncaa.Logs
open Go.RowKit Go.Proofs.Ytaofommgdgmncaa.Pr Go.Proofs.Ytaofommgdgmncaa.Evs Go.Proofs.Ytaofommgdgmncaa.Names Go.Proofs.YtaofommgdgmncaaW.PrintWords Go.Proofs.YtaofommgdgmncaaW.PrintLast Go.Proofs.YtaofommgdgmncaaW.PrintMore
set_option linter.unusedVariables false
set_option linter.unusedSimpArgs false

/-! ### Check -/
def checkGo : List (List ByteArray) → Nat → Int × Int
  | [], _ => (0, 0)
  | t :: ts, i => if 64 < t.length then (2, (i : Int)) else if t.all nameB then checkGo ts (i + 1) else (5, (i : Int))
def checkB (l : List (List ByteArray)) : Int × Int := if 64 < l.length then (2, 0) else checkGo l 0
theorem echeck_l1 (l : List (List ByteArray)) (i : Nat) (t : List ByteArray) (ht : t.length ≤ 80) (L : Int) (R : Int × Int) (hno : t.all nameB = false → R = (5, (i : Int)))
    (hnext : t.all nameB = true → Ev (fun k => eventlog_Check.l0 k l L (wrap64 ((i : Int) + 1))) R) : ∀ (d q : Nat), q ≤ t.length → t.length - q = d → (t.take q).all nameB = true → Ev (fun k => eventlog_Check.l1 k (i : Int) l L (i : Int) t (t.length : Int) (q : Int)) R := by
  intro d
  induction d with
  | zero =>
    intro q hq hd hok
    obtain rfl : q = t.length := by omega
    rw [List.take_length] at hok
    refine Ev.succ ?_
    simp only [eventlog_Check.l1]
    exact Ev.neg (by omega) (hnext hok)
  | succ d ih =>
    intro q hq hd hok
    have hlt : q < t.length := by omega
    refine Ev.succ ?_
    simp only [eventlog_Check.l1]
    refine Ev.pos (by omega) (Ev.pos (by omega) (Ev.pos (by omega) ?_))
    rw [rdOf_get hlt, wrap_succ (i := q) (by omega)]
    simp only [eventlog_Name.f, Option.bind_some]
    cases hn : nameB t[q] with
    | true => exact Ev.pos rfl (ih (q + 1) (by omega) (by omega) (by rw [List.take_succ_eq_append_getElem hlt, List.all_append, hok]; simp [hn]))
    | false =>
      have hall : t.all nameB = false := by rw [List.all_eq_false]; exact ⟨_, List.getElem_mem hlt, by simp [hn]⟩
      rw [hno hall]
      exact Ev.neg (by decide) (Ev.now _)
theorem echeck_l0 (l : List (List ByteArray)) (hl : l.length ≤ 80) (ht : ∀ t ∈ l, t.length ≤ 80) : ∀ (d i : Nat), i ≤ l.length → l.length - i = d → Ev (fun k => eventlog_Check.l0 k l (l.length : Int) (i : Int)) (checkGo (l.drop i) i) := by
  intro d
  induction d with
  | zero =>
    intro i hi hd
    obtain rfl : i = l.length := by omega
    refine Ev.succ ?_
    simp only [eventlog_Check.l0]
    rw [List.drop_length]
    exact Ev.neg (by omega) (Ev.now _)
  | succ d ih =>
    intro i hi hd
    have hlt : i < l.length := by omega
    refine Ev.succ ?_
    simp only [eventlog_Check.l0]
    rw [List.drop_eq_getElem_cons hlt, rd_L1_get hlt, checkGo]
    refine Ev.pos (by omega) (Ev.pos (by omega) (Ev.pos (by omega) ?_))
    by_cases h64 : 64 < l[i].length
    · rw [if_pos h64]; exact Ev.pos (by omega) (Ev.now _)
    · rw [if_neg h64]
      refine Ev.neg (by omega) ?_
      refine echeck_l1 l i l[i] (ht _ (List.getElem_mem hlt)) _ _ (fun h => by rw [h]; rfl) (fun h => ?_) _ 0 (by omega) rfl rfl
      rw [if_pos h, wrap_succ (by omega)]
      exact ih (i + 1) (by omega) (by omega)
theorem echeck {l : List (List ByteArray)} (h : Few l) : Ev (fun k => eventlog_Check.f k l) (checkB l) := by
  unfold eventlog_Check.f checkB
  by_cases h64 : 64 < l.length
  · rw [if_pos h64]; exact Ev.pos (by omega) (Ev.now _)
  · rw [if_neg h64]; exact Ev.neg (by omega) (echeck_l0 l h.len (fun t ht => (h.each t ht).1) _ 0 (by omega) rfl)
theorem rcheck_l1 (l : List (List ByteArray)) (i : Nat) (hi : i < l.length) (ht : l[i].length ≤ 80) (hs : ∀ s ∈ l[i], s.size ≤ 40) (R : Int × Int) (hno : l[i].all nameB = false → R = (5, (i : Int)))
    (hnext : l[i].all nameB = true → Ev (fun k => petrinetref48_Check.l0 k l (wrap64 ((i : Int) + 1))) R) : ∀ (d q : Nat), q ≤ l[i].length → l[i].length - q = d → (l[i].take q).all nameB = true → Ev (fun k => petrinetref48_Check.l1 k l (i : Int) (q : Int)) R := by
  intro d
  induction d with
  | zero =>
    intro q hq hd hok
    obtain rfl : q = l[i].length := by omega
    rw [List.take_length] at hok
    refine Ev.succ ?_
    simp only [petrinetref48_Check.l1, rd_L1_get hi]
    exact Ev.pos (by omega) (Ev.pos (by omega) (Ev.neg (by omega) (hnext hok)))
  | succ d ih =>
    intro q hq hd hok
    have hlt : q < l[i].length := by omega
    refine Ev.succ ?_
    simp only [petrinetref48_Check.l1, rd_L1_get hi]
    refine Ev.pos (by omega) (Ev.pos (by omega) (Ev.pos (by omega) (Ev.pos (by omega) ?_)))
    rw [rdOf_get hlt, wrap_succ (i := q) (by omega)]
    refine Ev.bind (rname l[i][q] (by have := hs _ (List.getElem_mem hlt); omega)) ?_
    cases hn : nameB l[i][q] with
    | true => exact Ev.pos rfl (ih (q + 1) (by omega) (by omega) (by rw [List.take_succ_eq_append_getElem hlt, List.all_append, hok]; simp [hn]))
    | false =>
      have hall : l[i].all nameB = false := by rw [List.all_eq_false]; exact ⟨_, List.getElem_mem hlt, by simp [hn]⟩
      rw [hno hall]
      exact Ev.neg (by decide) (Ev.now _)
theorem rcheck_l0 (l : List (List ByteArray)) (hl : l.length ≤ 80) (ht : ∀ t ∈ l, t.length ≤ 80 ∧ ∀ s ∈ t, s.size ≤ 40) : ∀ (d i : Nat), i ≤ l.length → l.length - i = d → Ev (fun k => petrinetref48_Check.l0 k l (i : Int)) (checkGo (l.drop i) i) := by
  intro d
  induction d with
  | zero =>
    intro i hi hd
    obtain rfl : i = l.length := by omega
    refine Ev.succ ?_
    simp only [petrinetref48_Check.l0]
    rw [List.drop_length]
    exact Ev.neg (by omega) (Ev.now _)
  | succ d ih =>
    intro i hi hd
    have hlt : i < l.length := by omega
    have hti := ht _ (List.getElem_mem hlt)
    refine Ev.succ ?_
    simp only [petrinetref48_Check.l0]
    rw [List.drop_eq_getElem_cons hlt, rd_L1_get hlt, checkGo]
    refine Ev.pos (by omega) (Ev.pos (by omega) ?_)
    by_cases h64 : 64 < l[i].length
    · rw [if_pos h64]; exact Ev.pos (by omega) (Ev.now _)
    · rw [if_neg h64]
      refine Ev.neg (by omega) ?_
      refine rcheck_l1 l i hlt hti.1 hti.2 _ (fun h => by rw [h]; rfl) (fun h => ?_) _ 0 (by omega) rfl rfl
      rw [if_pos h, wrap_succ (by omega)]
      exact ih (i + 1) (by omega) (by omega)
theorem rcheck {l : List (List ByteArray)} (h : Few l) : Ev (fun k => petrinetref48_Check.f k l) (checkB l) := by
  unfold petrinetref48_Check.f checkB
  by_cases h64 : 64 < l.length
  · rw [if_pos h64]; exact Ev.pos (by omega) (Ev.now _)
  · rw [if_neg h64]; exact Ev.neg (by omega) (rcheck_l0 l h.len h.each _ 0 (by omega) rfl)

/-! ### Text -/
def spB : ByteArray := ⟨#[32]⟩
def nlB : ByteArray := ⟨#[10]⟩
def joinGo (o : ByteArray) (xs : List ByteArray) : ByteArray := xs.foldl (fun o s => o ++ (spB ++ s)) o
theorem joinGo_snoc (o : ByteArray) (xs : List ByteArray) (s : ByteArray) : joinGo o (xs ++ [s]) = joinGo o xs ++ (spB ++ s) := by simp [joinGo]
def textW : List ByteArray → ByteArray
  | [] => ⟨#[45]⟩
  | x :: xs => joinGo x xs
def logText (l : List (List ByteArray)) : ByteArray := l.foldl (fun o t => o ++ (textW t ++ nlB)) ⟨#[]⟩
theorem logText_snoc (l : List (List ByteArray)) (t : List ByteArray) : logText (l ++ [t]) = logText l ++ (textW t ++ nlB) := by simp [logText]
theorem spB_size : spB.size = 1 := rfl
theorem nlB_size : nlB.size = 1 := rfl
theorem joinGo_size : ∀ (xs : List ByteArray) (o : ByteArray), (∀ s ∈ xs, s.size ≤ 40) → (joinGo o xs).size ≤ o.size + 41 * xs.length
  | [], o, _ => by simp [joinGo]
  | s :: xs, o, h => by
    have h1 := joinGo_size xs (o ++ (spB ++ s)) (fun y hy => h y (List.mem_cons_of_mem _ hy))
    have h2 := h s List.mem_cons_self
    rw [ByteArray.size_append, ByteArray.size_append, spB_size] at h1
    show (joinGo (o ++ (spB ++ s)) xs).size ≤ _
    rw [List.length_cons]; omega
theorem textW_size {t : List ByteArray} (h : ∀ s ∈ t, s.size ≤ 40) : (textW t).size ≤ 41 * t.length + 1 := by
  cases t with
  | nil => exact Nat.le_refl 1
  | cons x xs =>
    have h1 := joinGo_size xs x (fun y hy => h y (List.mem_cons_of_mem _ hy))
    have h2 := h x List.mem_cons_self
    show (joinGo x xs).size ≤ _
    rw [List.length_cons]; omega
theorem logText_size (l : List (List ByteArray)) (h : ∀ t ∈ l, t.length ≤ 80 ∧ ∀ s ∈ t, s.size ≤ 40) : ∀ i, i ≤ l.length → (logText (l.take i)).size ≤ 41 * total (l.take i) + 2 * i := by
  intro i
  induction i with
  | zero => intro _; exact Nat.zero_le _
  | succ i ih =>
    intro hi
    have hlt : i < l.length := by omega
    have h1 := ih (by omega)
    have h2 := textW_size (h _ (List.getElem_mem hlt)).2
    rw [List.take_succ_eq_append_getElem hlt, logText_snoc, total_snoc, ByteArray.size_append, ByteArray.size_append, nlB_size]
    omega
theorem total_take {l : List (List ByteArray)} (i : Nat) (h : ∀ t ∈ l, t.length ≤ 80) : i ≤ l.length → total (l.take i) ≤ 80 * i := by
  induction i with
  | zero => intro _; simp [Logs.total]
  | succ i ih =>
    intro hi
    have hlt : i < l.length := by omega
    have h1 := ih (by omega)
    have h2 := h _ (List.getElem_mem hlt)
    rw [List.take_succ_eq_append_getElem hlt, total_snoc]; omega
theorem etext_l0 (x : ByteArray) (xs : List ByteArray) (hx : x.size ≤ 40) (hl : xs.length ≤ 80) (hs : ∀ s ∈ xs, s.size ≤ 40) : ∀ (d i : Nat), i ≤ xs.length → xs.length - i = d → Ev (fun k => eventlog_text.l0 k (joinGo x (xs.take i)) xs (xs.length : Int) (i : Int)) (joinGo x xs) := by
  intro d
  induction d with
  | zero =>
    intro i hi hd
    obtain rfl : i = xs.length := by omega
    refine Ev.succ ?_
    simp only [eventlog_text.l0]
    rw [List.take_length]
    exact Ev.neg (by omega) (Ev.now _)
  | succ d ih =>
    intro i hi hd
    have hlt : i < xs.length := by omega
    have hih := ih (i + 1) (by omega) (by omega)
    have hsz := joinGo_size (xs.take i) x (fun s h => hs s (List.mem_of_mem_take h))
    have hsi := hs _ (List.getElem_mem hlt)
    rw [List.length_take] at hsz
    rw [List.take_succ_eq_append_getElem hlt, joinGo_snoc] at hih
    refine Ev.succ ?_
    simp only [eventlog_text.l0]
    rw [rdOf_get hlt, wrap_succ (by omega)]
    refine Ev.pos (by omega) (Ev.pos (by omega) (Ev.pos (by omega) (Ev.pos (by omega) (Ev.pos ?_ hih))))
    show (joinGo x (xs.take i)).size + (spB ++ xs[i]).size ≤ _
    rw [ByteArray.size_append, spB_size]
    omega
theorem etext {t : List ByteArray} (hl : t.length ≤ 80) (hs : ∀ s ∈ t, s.size ≤ 40) : Ev (fun k => eventlog_text.f k t) (textW t) := by
  unfold eventlog_text.f
  cases t with
  | nil => exact Ev.pos rfl (Ev.now _)
  | cons x xs =>
    rw [List.length_cons] at hl
    refine Ev.neg (by rw [List.length_cons]; omega) (Ev.pos (by rw [List.length_cons]; omega) (Ev.pos (by rw [List.length_cons]; omega) ?_))
    exact etext_l0 x xs (hs x List.mem_cons_self) (by omega) (fun s h => hs s (List.mem_cons_of_mem _ h)) _ 0 (by omega) rfl
theorem eText_l0 {l : List (List ByteArray)} (h : Few l) : ∀ (d i : Nat), i ≤ l.length → l.length - i = d → Ev (fun k => eventlog_Text.l0 k (logText (l.take i)) l (l.length : Int) (i : Int)) (logText l, 0, 0) := by
  have hl := h.len
  intro d
  induction d with
  | zero =>
    intro i hi hd
    obtain rfl : i = l.length := by omega
    refine Ev.succ ?_
    simp only [eventlog_Text.l0]
    rw [List.take_length]
    exact Ev.neg (by omega) (Ev.now _)
  | succ d ih =>
    intro i hi hd
    have hlt : i < l.length := by omega
    have hih := ih (i + 1) (by omega) (by omega)
    have hti := h.each _ (List.getElem_mem hlt)
    have hsz := logText_size l h.each i (by omega)
    have htt := total_take i (fun t ht => (h.each t ht).1) (by omega)
    have hts := textW_size hti.2
    rw [List.take_succ_eq_append_getElem hlt, logText_snoc] at hih
    refine Ev.succ ?_
    simp only [eventlog_Text.l0]
    rw [rd_L1_get hlt, wrap_succ (by omega)]
    refine Ev.pos (by omega) (Ev.pos (by omega) (Ev.pos (by omega) ?_))
    refine Ev.bind (etext hti.1 hti.2) (Ev.pos (by omega) (Ev.pos ?_ hih))
    show (logText (l.take i)).size + (textW l[i] ++ nlB).size ≤ _
    rw [ByteArray.size_append, nlB_size]
    omega
/-- What Text tells. -/
def textB (l : List (List ByteArray)) : ByteArray × Int × Int := if (checkB l).1 = 0 then (logText l, 0, 0) else (⟨#[]⟩, (checkB l).1, (checkB l).2)
theorem eText {l : List (List ByteArray)} (h : Few l) : Ev (fun k => eventlog_Text.f k l) (textB l) := by
  unfold eventlog_Text.f textB
  refine Ev.bind (echeck h) ?_
  by_cases h0 : (checkB l).1 = 0
  · rw [if_pos h0]; exact Ev.pos h0 (eText_l0 h _ 0 (by omega) rfl)
  · rw [if_neg h0]; exact Ev.neg h0 (Ev.now _)
theorem rText_l1 {l : List (List ByteArray)} (h : Few l) (i : Nat) (hi : i < l.length) (o : ByteArray) (ho : o.size ≤ 100000000) (R : ByteArray × Int × Int)
    (hnext : Ev (fun k => petrinetref48_Text.l0 k l (o ++ (textW l[i] ++ nlB)) ((i + 1 : Nat) : Int)) R) (x : ByteArray) (xs : List ByteArray) (hx : l[i] = x :: xs) : ∀ (d q : Nat), q ≤ xs.length → xs.length - q = d → Ev (fun k => petrinetref48_Text.l1 k l (o ++ joinGo x (xs.take q)) (i : Int) ((q + 1 : Nat) : Int)) R := by
  have hl := h.len
  have hti := h.each _ (List.getElem_mem hi)
  have hxl : l[i].length = xs.length + 1 := by rw [hx, List.length_cons]
  have hxm : ∀ s ∈ xs, s.size ≤ 40 := fun s hs => hti.2 s (by rw [hx]; exact List.mem_cons_of_mem _ hs)
  have hx40 : x.size ≤ 40 := hti.2 x (by rw [hx]; exact List.mem_cons_self)
  intro d
  induction d with
  | zero =>
    intro q hq hd
    obtain rfl : q = xs.length := by omega
    refine Ev.succ ?_
    simp only [petrinetref48_Text.l1, rd_L1_get hi]
    rw [List.take_length, wrap_succ (i := i) (by omega)]
    have hz := joinGo_size xs x hxm
    rw [hx, ← ByteArray.append_assoc] at hnext
    refine Ev.pos (by omega) (Ev.pos (by omega) (Ev.neg (by omega) (Ev.pos ?_ hnext)))
    rw [ByteArray.size_append]
    omega
  | succ d ih =>
    intro q hq hd
    have hlt : q < xs.length := by omega
    have hih := ih (q + 1) (by omega) (by omega)
    have hz := joinGo_size (xs.take q) x (fun s hs => hxm s (List.mem_of_mem_take hs))
    have hsi := hxm _ (List.getElem_mem hlt)
    rw [List.length_take] at hz
    rw [List.take_succ_eq_append_getElem hlt, joinGo_snoc, ← ByteArray.append_assoc, ← ByteArray.append_assoc] at hih
    have hrd : rdOf ByteArray.empty l[i] ((q + 1 : Nat) : Int) = xs[q] := by
      rw [rdOf_get (show q + 1 < l[i].length by omega)]
      simp only [hx, List.getElem_cons_succ]
    refine Ev.succ ?_
    simp only [petrinetref48_Text.l1, rd_L1_get hi]
    rw [hrd, wrap_succ (i := q + 1) (by omega)]
    have e1 : (o ++ joinGo x (xs.take q)).size = o.size + (joinGo x (xs.take q)).size := ByteArray.size_append
    refine Ev.pos (by omega) (Ev.pos (by omega) (Ev.pos (by omega) (Ev.pos (by omega) (Ev.pos (by omega) (Ev.pos (by omega) (Ev.pos ?_ hih))))))
    show (o ++ joinGo x (xs.take q) ++ spB).size + _ ≤ _
    rw [ByteArray.size_append, e1, spB_size]
    omega
theorem rText_l0 {l : List (List ByteArray)} (h : Few l) : ∀ (d i : Nat), i ≤ l.length → l.length - i = d → Ev (fun k => petrinetref48_Text.l0 k l (logText (l.take i)) (i : Int)) (logText l, 0, 0) := by
  have hl := h.len
  intro d
  induction d with
  | zero =>
    intro i hi hd
    obtain rfl : i = l.length := by omega
    refine Ev.succ ?_
    simp only [petrinetref48_Text.l0]
    rw [List.take_length]
    exact Ev.neg (by omega) (Ev.now _)
  | succ d ih =>
    intro i hi hd
    have hlt : i < l.length := by omega
    have hih := ih (i + 1) (by omega) (by omega)
    have hti := h.each _ (List.getElem_mem hlt)
    have hsz := logText_size l h.each i (by omega)
    have htt := total_take i (fun t ht => (h.each t ht).1) (by omega)
    rw [List.take_succ_eq_append_getElem hlt, logText_snoc] at hih
    obtain ⟨o, ho⟩ : ∃ o, logText (l.take i) = o := ⟨_, rfl⟩
    rw [ho] at hih hsz ⊢
    refine Ev.succ ?_
    simp only [petrinetref48_Text.l0]
    rw [rd_L1_get hlt]
    refine Ev.pos (by omega) (Ev.pos (by omega) ?_)
    cases hx : l[i] with
    | nil =>
      rw [hx, ← ByteArray.append_assoc] at hih
      refine Ev.pos rfl (Ev.pos (by omega) (Ev.succ ?_))
      simp only [petrinetref48_Text.j1]
      refine Ev.succ ?_
      simp only [petrinetref48_Text.l1, rd_L1_get hlt]
      rw [hx, wrap_succ (i := i) (by omega)]
      refine Ev.pos (by omega) (Ev.pos (by omega) (Ev.neg (by simp) (Ev.pos ?_ hih)))
      rw [ByteArray.size_append]
      show o.size + 1 + 1 ≤ _
      omega
    | cons x xs =>
      refine Ev.neg (by rw [List.length_cons]; omega) (Ev.succ ?_)
      simp only [petrinetref48_Text.j1]
      have hx40 : x.size ≤ 40 := hti.2 x (by rw [hx]; exact List.mem_cons_self)
      have hrd : rdOf ByteArray.empty l[i] 0 = x := by simp only [hx]; rfl
      refine Ev.succ ?_
      simp only [petrinetref48_Text.l1, rd_L1_get hlt]
      rw [hrd, show wrap64 ((0 : Int) + 1) = ((0 + 1 : Nat) : Int) by unfold wrap64; omega]
      have hxl : l[i].length = xs.length + 1 := by rw [hx, List.length_cons]
      refine Ev.pos (by omega) (Ev.pos (by omega) (Ev.pos (by omega) (Ev.neg (by omega) (Ev.pos (by omega) (Ev.pos (by omega) ?_)))))
      exact rText_l1 h i hlt o (by omega) _ hih x xs hx _ 0 (by omega) rfl
theorem rText {l : List (List ByteArray)} (h : Few l) : Ev (fun k => petrinetref48_Text.f k l) (textB l) := by
  unfold petrinetref48_Text.f textB
  refine Ev.bind (rcheck h) ?_
  by_cases h0 : (checkB l).1 = 0
  · rw [if_pos h0]; exact Ev.pos h0 (rText_l0 h _ 0 (by omega) rfl)
  · rw [if_neg h0]; exact Ev.neg h0 (Ev.bind (rcheck h) (Ev.now _))
end Go.Proofs.Ytaofommgdgmncaa.Logs
