/- The names of a log: an ascending list. -/
import Derived.Test.YtaofommgdgmncaaPr19
import Derived.Test.YtaofommgdgmncaaPr20
import Derived.Test.YtaofommgdgmncaaPr21
import Derived.Test.YtaofommgdgmncaaPr22
import Derived.Test.YtaofommgdgmncaaFollows
namespace Go.Proofs.Ytaofommgdgmncaa.Logs
open Go.RowKit Go.Proofs.Ytaofommgdgmncaa.Pr Go.Proofs.Ytaofommgdgmncaa.Evs Go.Proofs.YtaofommgdgmncaaW.PrintWords Go.Proofs.YtaofommgdgmncaaW.PrintLast Go.Proofs.YtaofommgdgmncaaW.PrintMore
set_option linter.unusedVariables false
set_option linter.unusedSimpArgs false

/-! ### the order of texts -/
theorem bl_irrefl : ∀ x : List UInt8, Op.bytesLess x x = false
  | [] => rfl
  | a :: x => by
    have h : ¬ a < a := by rw [UInt8.lt_iff_toNat_lt]; omega
    simp [Op.bytesLess, h, bl_irrefl x]
theorem bl_trans : ∀ x y z : List UInt8, Op.bytesLess x y = true → Op.bytesLess y z = true → Op.bytesLess x z = true
  | x, y, [], _, h => by cases y <;> simp [Op.bytesLess] at h
  | x, [], _ :: _, h, _ => by cases x <;> simp [Op.bytesLess] at h
  | [], _ :: _, _ :: _, _, _ => rfl
  | a :: x, b :: y, c :: z, h1, h2 => by
    simp only [Op.bytesLess, Bool.or_eq_true, Bool.and_eq_true, decide_eq_true_eq, beq_iff_eq] at h1 h2 ⊢
    rcases h1 with h1 | ⟨rfl, h1⟩ <;> rcases h2 with h2 | ⟨rfl, h2⟩
    · left; rw [UInt8.lt_iff_toNat_lt] at *; omega
    · exact .inl h1
    · exact .inl h2
    · exact .inr ⟨rfl, bl_trans x y z h1 h2⟩
theorem bl_total : ∀ x y : List UInt8, Op.bytesLess x y = false → Op.bytesLess y x = false → x = y
  | [], [], _, _ => rfl
  | [], _ :: _, h, _ => by simp [Op.bytesLess] at h
  | _ :: _, [], _, h => by simp [Op.bytesLess] at h
  | a :: x, b :: y, h1, h2 => by
    simp only [Op.bytesLess, Bool.or_eq_false_iff, decide_eq_false_iff_not] at h1 h2
    have hab : a = b := by
      rw [← UInt8.toNat_inj]
      have h3 := h1.1; have h4 := h2.1
      rw [UInt8.lt_iff_toNat_lt] at h3 h4
      omega
    subst hab
    have e1 := h1.2; have e2 := h2.2
    simp at e1 e2
    rw [bl_total x y e1 e2]
theorem less_irrefl (a : ByteArray) : lessB a a = false := bl_irrefl _
theorem less_trans {a b c : ByteArray} (h : lessB a b = true) (k : lessB b c = true) : lessB a c = true := bl_trans _ _ _ h k
theorem less_total {a b : ByteArray} (h : lessB a b = false) (k : lessB b a = false) : a = b := (bytes_eq a b).1 (bl_total _ _ h k)

/-! ### insert -/
def ins : List ByteArray → ByteArray → List ByteArray
  | [], s => [s]
  | x :: xs, s => if lessB x s = true then x :: ins xs s else if x = s then x :: xs else s :: x :: xs
theorem insS_eq : ∀ (l : List ByteArray) (s : ByteArray), insS l s = ins l s
  | [], s => by simp [insS, posS, ins]
  | x :: xs, s => by
    have ih := insS_eq xs s
    unfold insS posS at ih ⊢
    unfold ins
    cases h : lessB x s with
    | true =>
      rw [List.takeWhile_cons, if_pos h, List.length_cons, List.getElem?_cons_succ, List.take_succ_cons, List.drop_succ_cons, if_pos rfl]
      rw [← ih]
      split <;> rfl
    | false =>
      have htw : (x :: xs).takeWhile (lessB · s) = [] := by simp [List.takeWhile_cons, h]
      rw [htw]
      simp only [List.length_nil, List.getElem?_cons_zero, Option.map_some, Option.some.injEq, bytes_eq, List.take_zero, List.drop_zero, List.nil_append, Bool.false_eq_true, if_false]
theorem ins_mem : ∀ (l : List ByteArray) (s y : ByteArray), y ∈ ins l s ↔ y = s ∨ y ∈ l
  | [], s, y => by simp [ins]
  | x :: xs, s, y => by
    unfold ins
    split
    · rw [List.mem_cons, ins_mem xs s y, List.mem_cons]
      constructor
      · rintro (h | h | h)
        · exact .inr (.inl h)
        · exact .inl h
        · exact .inr (.inr h)
      · rintro (h | h | h)
        · exact .inr (.inl h)
        · exact .inl h
        · exact .inr (.inr h)
    · split
      · rename_i hx
        subst hx
        simp
      · simp
theorem ins_len : ∀ (l : List ByteArray) (s : ByteArray), (ins l s).length ≤ l.length + 1
  | [], s => by simp [ins]
  | x :: xs, s => by
    have := ins_len xs s
    unfold ins
    split
    · simp only [List.length_cons]; omega
    · split <;> simp
/-- Ascending. -/
def Srt (l : List ByteArray) : Prop := l.Pairwise (fun a b => lessB a b = true)
theorem ins_srt : ∀ (l : List ByteArray) (s : ByteArray), Srt l → Srt (ins l s)
  | [], s, _ => by simp [ins, Srt]
  | x :: xs, s, h => by
    obtain ⟨h1, h2⟩ := List.pairwise_cons.1 h
    unfold ins
    split
    · rename_i hx
      refine List.pairwise_cons.2 ⟨fun y hy => ?_, ins_srt xs s h2⟩
      rcases (ins_mem xs s y).1 hy with rfl | hy
      · exact hx
      · exact h1 y hy
    · rename_i hx
      split
      · exact h
      · rename_i hne
        have hsx : lessB s x = true := by
          cases hs : lessB s x with
          | true => rfl
          | false => exact absurd (less_total (by simpa using hx) hs) hne
        refine List.pairwise_cons.2 ⟨fun y hy => ?_, h⟩
        rcases List.mem_cons.1 hy with rfl | hy
        · exact hsx
        · exact less_trans hsx (h1 y hy)
theorem ins_of_mem : ∀ (l : List ByteArray) (s : ByteArray), Srt l → s ∈ l → ins l s = l
  | [], s, _, h => by simp at h
  | x :: xs, s, h, hm => by
    obtain ⟨h1, h2⟩ := List.pairwise_cons.1 h
    unfold ins
    split
    · rename_i hx
      rcases List.mem_cons.1 hm with rfl | hm
      · rw [less_irrefl] at hx; cases hx
      · rw [ins_of_mem xs s h2 hm]
    · rename_i hx
      split
      · rfl
      · rename_i hne
        rcases List.mem_cons.1 hm with rfl | hm
        · exact absurd rfl hne
        · exact absurd (h1 s hm) hx
theorem srt_nodup {l : List ByteArray} (h : Srt l) : l.Nodup := by
  refine List.Pairwise.imp ?_ h
  rintro a b hab rfl
  rw [less_irrefl] at hab; cases hab

/-! ### what the two functions 'insert' tell -/
def hasB (l : List ByteArray) (s : ByteArray) : Bool := l.any (fun x => decide (x = s))
theorem hasB_iff {l : List ByteArray} {s : ByteArray} : hasB l s = true ↔ s ∈ l := by simp [hasB]
theorem hasB_not {l : List ByteArray} {s : ByteArray} (h : ¬ s ∈ l) : hasB l s = false := by cases e : hasB l s with | false => rfl | true => exact absurd (hasB_iff.1 e) h
theorem has_l0 (l : List ByteArray) (s : ByteArray) (hl : l.length < 9223372036854775807) : ∀ (d i : Nat), i ≤ l.length → l.length - i = d → (∀ x ∈ l.take i, ¬ x = s) → Ev (fun k => petrinetref48_Has.l0 k l s (i : Int)) (hasB l s) := by
  intro d
  induction d with
  | zero =>
    intro i hi hd hno
    obtain rfl : i = l.length := by omega
    rw [List.take_length] at hno
    refine Ev.succ ?_
    simp only [petrinetref48_Has.l0]
    rw [hasB_not (fun h => hno s h rfl)]
    exact Ev.neg (by omega) (Ev.now _)
  | succ d ih =>
    intro i hi hd hno
    have hlt : i < l.length := by omega
    refine Ev.succ ?_
    simp only [petrinetref48_Has.l0]
    rw [rdOf_get hlt, wrap_succ (by omega)]
    refine Ev.pos (by omega) (Ev.pos (by omega) ?_)
    by_cases h : l[i] = s
    · rw [hasB_iff.2 (by rw [← h]; exact List.getElem_mem hlt)]
      exact Ev.pos ((bytes_eq _ _).2 h) (Ev.now _)
    · refine Ev.neg (fun e => h ((bytes_eq _ _).1 e)) (ih (i + 1) (by omega) (by omega) (fun x hx => ?_))
      rw [List.take_succ_eq_append_getElem hlt] at hx
      rcases List.mem_append.1 hx with hx | hx
      · exact hno x hx
      · rw [List.mem_singleton.1 hx]; exact h
theorem rhas (l : List ByteArray) (s : ByteArray) (hl : l.length < 9223372036854775807) : Ev (fun k => petrinetref48_Has.f k l s) (hasB l s) := has_l0 l s hl _ 0 (by omega) rfl (by simp)
theorem insert_put (l : List ByteArray) (s : ByteArray) (hl : l.length ≤ 1099511627776) : ∀ (d i : Nat), i ≤ l.length → l.length - i = d → ∀ out : List ByteArray, out.length ≤ i + 1 → Ev (fun k => petrinetref48_Insert.l0 k l s out true (i : Int)) (out ++ l.drop i) := by
  intro d
  induction d with
  | zero =>
    intro i hi hd out ho
    obtain rfl : i = l.length := by omega
    refine Ev.succ ?_
    simp only [petrinetref48_Insert.l0]
    rw [List.drop_length, List.append_nil]
    exact Ev.neg (by omega) (Ev.pos trivial (Ev.now _))
  | succ d ih =>
    intro i hi hd out ho
    have hlt : i < l.length := by omega
    have hih := ih (i + 1) (by omega) (by omega) (out ++ [l[i]]) (by simp; omega)
    rw [List.append_assoc, List.singleton_append, ← List.drop_eq_getElem_cons hlt] at hih
    refine Ev.succ ?_
    simp only [petrinetref48_Insert.l0]
    rw [rdOf_get hlt, wrap_succ (by omega)]
    exact Ev.pos (by omega) (Ev.pos trivial (Ev.pos (by omega) (Ev.pos (by omega) hih)))
theorem insert_l0 (l : List ByteArray) (s : ByteArray) (hl : l.length ≤ 1099511627776) (hs : ¬ s ∈ l) : ∀ (d i : Nat), i ≤ l.length → l.length - i = d → ∀ out : List ByteArray, out.length ≤ i → Ev (fun k => petrinetref48_Insert.l0 k l s out false (i : Int)) (out ++ ins (l.drop i) s) := by
  intro d
  induction d with
  | zero =>
    intro i hi hd out ho
    obtain rfl : i = l.length := by omega
    refine Ev.succ ?_
    simp only [petrinetref48_Insert.l0]
    rw [List.drop_length]
    exact Ev.neg (by omega) (Ev.neg (by decide) (Ev.pos (by omega) (Ev.now _)))
  | succ d ih =>
    intro i hi hd out ho
    have hlt : i < l.length := by omega
    have hne : ¬ l[i] = s := fun e => hs (by rw [← e]; exact List.getElem_mem hlt)
    refine Ev.succ ?_
    simp only [petrinetref48_Insert.l0]
    rw [rdOf_get hlt, wrap_succ (by omega), List.drop_eq_getElem_cons hlt, ins]
    refine Ev.pos (by omega) (Ev.neg (by decide) (Ev.pos (by omega) ?_))
    cases h : lessB l[i] s with
    | true =>
      have h2 : ¬ Op.bytesLess s.toList l[i].toList = true := fun h3 => by
        have := less_trans h (show lessB s l[i] = true from h3)
        rw [less_irrefl] at this; cases this
      have hih := ih (i + 1) (by omega) (by omega) (out ++ [l[i]]) (by simp; omega)
      rw [List.append_assoc, List.singleton_append] at hih
      rw [if_pos rfl]
      exact Ev.neg h2 (Ev.pos (by omega) hih)
    | false =>
      have h2 : Op.bytesLess s.toList l[i].toList = true := by
        cases h3 : Op.bytesLess s.toList l[i].toList with
        | true => rfl
        | false => exact absurd (less_total h h3) hne
      rw [if_neg (by decide), if_neg hne]
      have hp := insert_put l s hl _ (i + 1) (by omega) rfl ((out ++ [s]) ++ [l[i]]) (by simp; omega)
      have e : ((out ++ [s]) ++ [l[i]]) ++ l.drop (i + 1) = out ++ s :: l[i] :: l.drop (i + 1) := by simp
      rw [← e]
      refine Ev.pos h2 (Ev.pos (by omega) ?_)
      simp only [Option.bind_some]
      exact Ev.pos (by simp; omega) hp
theorem rinsert (l : List ByteArray) (s : ByteArray) (hl : l.length ≤ 1099511627776) (hs : Srt l) : Ev (fun k => petrinetref48_Insert.f k l s) (ins l s) := by
  unfold petrinetref48_Insert.f
  refine Ev.bind (rhas l s (by omega)) ?_
  cases e : hasB l s with
  | true => rw [ins_of_mem l s hs (hasB_iff.1 e)]; exact Ev.pos rfl (Ev.now _)
  | false =>
    have h : ¬ s ∈ l := fun h => by rw [hasB_iff.2 h] at e; cases e
    exact Ev.neg (by decide) (insert_l0 l s hl h _ 0 (by omega) rfl [] (by simp))

/-! ### Activities -/
def acts (l : List (List ByteArray)) : List ByteArray := l.foldl (fun o t => t.foldl ins o) []
theorem acts_snoc (l : List (List ByteArray)) (t : List ByteArray) : acts (l ++ [t]) = t.foldl ins (acts l) := by simp [acts]
theorem foldIns_srt : ∀ (t o : List ByteArray), Srt o → Srt (t.foldl ins o)
  | [], o, h => h
  | x :: t, o, h => foldIns_srt t _ (ins_srt o x h)
theorem foldIns_len : ∀ (t o : List ByteArray), (t.foldl ins o).length ≤ o.length + t.length
  | [], o => by simp
  | x :: t, o => by
    have h1 := foldIns_len t (ins o x)
    have h2 := ins_len o x
    rw [List.foldl_cons, List.length_cons]; omega
theorem foldIns_mem : ∀ (t o : List ByteArray) (y : ByteArray), y ∈ t.foldl ins o ↔ y ∈ t ∨ y ∈ o
  | [], o, y => by simp
  | x :: t, o, y => by
    rw [List.foldl_cons, foldIns_mem t _ y, ins_mem, List.mem_cons]
    constructor
    · rintro (h | h | h)
      · exact .inl (.inr h)
      · exact .inl (.inl h)
      · exact .inr h
    · rintro ((h | h) | h)
      · exact .inr (.inl h)
      · exact .inl h
      · exact .inr (.inr h)
theorem actsFrom_srt : ∀ (l : List (List ByteArray)) (o : List ByteArray), Srt o → Srt (l.foldl (fun o t => t.foldl ins o) o)
  | [], o, h => h
  | t :: l, o, h => actsFrom_srt l _ (foldIns_srt t o h)
theorem acts_srt (l : List (List ByteArray)) : Srt (acts l) := actsFrom_srt l [] List.Pairwise.nil
theorem actsFrom_mem : ∀ (l : List (List ByteArray)) (o : List ByteArray) (y : ByteArray), y ∈ l.foldl (fun o t => t.foldl ins o) o ↔ (∃ t ∈ l, y ∈ t) ∨ y ∈ o
  | [], o, y => by simp
  | t :: l, o, y => by
    rw [List.foldl_cons, actsFrom_mem l _ y, foldIns_mem]
    simp only [List.mem_cons, exists_eq_or_imp, or_assoc]
    constructor
    · rintro (h | h | h)
      · exact .inr (.inl h)
      · exact .inl h
      · exact .inr (.inr h)
    · rintro (h | h | h)
      · exact .inr (.inl h)
      · exact .inl h
      · exact .inr (.inr h)
theorem acts_mem (l : List (List ByteArray)) (y : ByteArray) : y ∈ acts l ↔ ∃ t ∈ l, y ∈ t := by rw [acts, actsFrom_mem]; simp
/-- A log that is no longer than what a machine reads. -/
structure Small (l : List (List ByteArray)) : Prop where
  len : l.length ≤ 1048576
  total : total l ≤ 1048576
theorem Few.small {l : List (List ByteArray)} (h : Few l) : Small l := ⟨by have := h.len; omega, by have := h.total; omega⟩
theorem total_app_cons (a : List (List ByteArray)) (t : List ByteArray) (b : List (List ByteArray)) : total (a ++ t :: b) = total a + (t.length + total b) := by simp [Logs.total]
theorem total_take_le (l : List (List ByteArray)) (i : Nat) (hi : i < l.length) : total (l.take i) + l[i].length ≤ total l := by
  have h : l = l.take i ++ l[i] :: l.drop (i + 1) := by rw [← List.drop_eq_getElem_cons hi, List.take_append_drop]
  have h2 : total (l.take i ++ l[i] :: l.drop (i + 1)) = total (l.take i) + (l[i].length + total (l.drop (i + 1))) := total_app_cons _ _ _
  have h3 := congrArg Logs.total h
  omega
theorem acts_len (l : List (List ByteArray)) : ∀ i, i ≤ l.length → (acts (l.take i)).length ≤ total (l.take i) := by
  intro i
  induction i with
  | zero => intro _; simp [acts]
  | succ i ih =>
    intro hi
    have hlt : i < l.length := by omega
    have h1 := ih (by omega)
    have h2 := foldIns_len l[i] (acts (l.take i))
    rw [List.take_succ_eq_append_getElem hlt, acts_snoc, total_snoc]; omega
theorem eact_l1 (l : List (List ByteArray)) (i : Nat) (t : List ByteArray) (ht : t.length ≤ 1048576) (o : List ByteArray) (ho : o.length ≤ 1048576) (L : Int) (R : List ByteArray)
    (hnext : Ev (fun k => eventlog_Activities.l0 k (t.foldl ins o) l L (wrap64 ((i : Int) + 1))) R) : ∀ (d q : Nat), q ≤ t.length → t.length - q = d → Ev (fun k => eventlog_Activities.l1 k ((t.take q).foldl ins o) l L (i : Int) t (t.length : Int) (q : Int)) R := by
  intro d
  induction d with
  | zero =>
    intro q hq hd
    obtain rfl : q = t.length := by omega
    refine Ev.succ ?_
    simp only [eventlog_Activities.l1]
    rw [List.take_length]
    exact Ev.neg (by omega) hnext
  | succ d ih =>
    intro q hq hd
    have hlt : q < t.length := by omega
    have hih := ih (q + 1) (by omega) (by omega)
    have hln := foldIns_len (t.take q) o
    rw [List.length_take] at hln
    rw [List.take_succ_eq_append_getElem hlt, List.foldl_append] at hih
    refine Ev.succ ?_
    simp only [eventlog_Activities.l1]
    rw [rdOf_get hlt, wrap_succ (i := q) (by omega), eventlog_insert.f, if_pos (by omega), insS_eq]
    exact Ev.pos (by omega) (Ev.pos (by omega) (Ev.pos (by omega) hih))
theorem eact_l0 {l : List (List ByteArray)} (h : Small l) : ∀ (d i : Nat), i ≤ l.length → l.length - i = d → Ev (fun k => eventlog_Activities.l0 k (acts (l.take i)) l (l.length : Int) (i : Int)) (acts l) := by
  have hl := h.len
  have hT := h.total
  intro d
  induction d with
  | zero =>
    intro i hi hd
    obtain rfl : i = l.length := by omega
    refine Ev.succ ?_
    simp only [eventlog_Activities.l0]
    rw [List.take_length]
    exact Ev.neg (by omega) (Ev.now _)
  | succ d ih =>
    intro i hi hd
    have hlt : i < l.length := by omega
    have hih := ih (i + 1) (by omega) (by omega)
    have h1 := total_take_le l i hlt
    have h2 := acts_len l i (by omega)
    rw [List.take_succ_eq_append_getElem hlt, acts_snoc] at hih
    refine Ev.succ ?_
    simp only [eventlog_Activities.l0]
    rw [rd_L1_get hlt]
    refine Ev.pos (by omega) (Ev.pos (by omega) (Ev.pos (by omega) ?_))
    exact eact_l1 l i l[i] (by omega) (acts (l.take i)) (by omega) _ _ (by rw [wrap_succ (by omega)]; exact hih) _ 0 (by omega) rfl
theorem eacts {l : List (List ByteArray)} (h : Small l) : Ev (fun k => eventlog_Activities.f k l) (acts l) := eact_l0 h _ 0 (by omega) rfl
theorem ract_l1 (l : List (List ByteArray)) (i : Nat) (hi : i < l.length) (ht : l[i].length ≤ 1048576) (o : List ByteArray) (ho : o.length ≤ 1048576) (hs : Srt o) (R : List ByteArray)
    (hnext : Ev (fun k => petrinetref48_Activities.l0 k l (l[i].foldl ins o) (wrap64 ((i : Int) + 1))) R) : ∀ (d q : Nat), q ≤ l[i].length → l[i].length - q = d → Ev (fun k => petrinetref48_Activities.l1 k l ((l[i].take q).foldl ins o) (i : Int) (q : Int)) R := by
  intro d
  induction d with
  | zero =>
    intro q hq hd
    obtain rfl : q = l[i].length := by omega
    refine Ev.succ ?_
    simp only [petrinetref48_Activities.l1, rd_L1_get hi]
    rw [List.take_length]
    exact Ev.pos (by omega) (Ev.pos (by omega) (Ev.neg (by omega) hnext))
  | succ d ih =>
    intro q hq hd
    have hlt : q < l[i].length := by omega
    have hih := ih (q + 1) (by omega) (by omega)
    have hln := foldIns_len (l[i].take q) o
    rw [List.length_take] at hln
    rw [List.take_succ_eq_append_getElem hlt, List.foldl_append] at hih
    refine Ev.succ ?_
    simp only [petrinetref48_Activities.l1, rd_L1_get hi]
    rw [rdOf_get hlt, wrap_succ (i := q) (by omega)]
    exact Ev.pos (by omega) (Ev.pos (by omega) (Ev.pos (by omega) (Ev.pos (by omega) (Ev.bind (rinsert _ _ (by omega) (foldIns_srt _ _ hs)) hih))))
theorem ract_l0 {l : List (List ByteArray)} (h : Small l) : ∀ (d i : Nat), i ≤ l.length → l.length - i = d → Ev (fun k => petrinetref48_Activities.l0 k l (acts (l.take i)) (i : Int)) (acts l) := by
  have hl := h.len
  have hT := h.total
  intro d
  induction d with
  | zero =>
    intro i hi hd
    obtain rfl : i = l.length := by omega
    refine Ev.succ ?_
    simp only [petrinetref48_Activities.l0]
    rw [List.take_length]
    exact Ev.neg (by omega) (Ev.now _)
  | succ d ih =>
    intro i hi hd
    have hlt : i < l.length := by omega
    have hih := ih (i + 1) (by omega) (by omega)
    have h1 := total_take_le l i hlt
    have h2 := acts_len l i (by omega)
    rw [List.take_succ_eq_append_getElem hlt, acts_snoc] at hih
    refine Ev.succ ?_
    simp only [petrinetref48_Activities.l0]
    refine Ev.pos (by omega) ?_
    exact ract_l1 l i hlt (by omega) (acts (l.take i)) (by omega) (acts_srt _) _ (by rw [wrap_succ (by omega)]; exact hih) _ 0 (by omega) rfl
theorem racts {l : List (List ByteArray)} (h : Small l) : Ev (fun k => petrinetref48_Activities.f k l) (acts l) := ract_l0 h _ 0 (by omega) rfl
end Go.Proofs.Ytaofommgdgmncaa.Logs
