/- For all logs that a machine reads: exchanging two names exchanges Causes and Caused, and Follows adds up to the steps. -/
import Derived.Test.YtaofommgdgmncaaPr23
import Derived.Test.YtaofommgdgmncaaActs
import Derived.Test.YtaofommgdgmncaaAlive
import Derived.Test.YtaofommgdgmncaaBulk
namespace Go.Proofs.Ytaofommgdgmncaa.Pure
open Go.RowKit Go.Proofs.Ytaofommgdgmncaa.Pr Go.Proofs.Ytaofommgdgmncaa.Evs Go.Proofs.Ytaofommgdgmncaa.Logs Go.Proofs.YtaofommgdgmncaaW.PrintWords Go.Proofs.YtaofommgdgmncaaW.PrintLast Go.Proofs.YtaofommgdgmncaaW.PrintMore
set_option linter.unusedVariables false
set_option linter.unusedSimpArgs false

def S1 (A : List ByteArray) (g : ByteArray → Nat) : Nat := (A.map g).sum
def S2 (A : List ByteArray) (F : ByteArray → ByteArray → Nat) : Nat := S1 A fun a => S1 A (F a)
theorem S1_add (f g : ByteArray → Nat) : ∀ A : List ByteArray, S1 A (fun a => f a + g a) = S1 A f + S1 A g
  | [] => rfl
  | x :: A => by
    have := S1_add f g A
    simp only [S1, List.map_cons, List.sum_cons] at this ⊢
    omega
theorem S1_zero : ∀ A : List ByteArray, S1 A (fun _ => 0) = 0
  | [] => rfl
  | x :: A => by
    have := S1_zero A
    simp only [S1, List.map_cons, List.sum_cons] at this ⊢
    omega
theorem S1_congr {f g : ByteArray → Nat} (A : List ByteArray) (h : ∀ a, f a = g a) : S1 A f = S1 A g := by rw [show f = g from funext h]
theorem S1_out {x : ByteArray} {c : Nat} : ∀ A : List ByteArray, ¬ x ∈ A → S1 A (fun a => if a = x then c else 0) = 0
  | [], _ => rfl
  | y :: A, h => by
    have ih := S1_out (c := c) A (fun hm => h (List.mem_cons_of_mem _ hm))
    have hy : ¬ y = x := fun e => h (by rw [e]; exact List.mem_cons_self)
    simp only [S1, List.map_cons, List.sum_cons, if_neg hy] at ih ⊢
    omega
theorem S1_ind {x : ByteArray} {c : Nat} : ∀ A : List ByteArray, A.Nodup → x ∈ A → S1 A (fun a => if a = x then c else 0) = c
  | [], _, h => by simp at h
  | y :: A, hn, h => by
    obtain ⟨h1, h2⟩ := List.nodup_cons.1 hn
    by_cases hy : y = x
    · subst hy
      have := S1_out (c := c) A h1
      simp only [S1, List.map_cons, List.sum_cons, if_true] at this ⊢
      omega
    · have ih := S1_ind (c := c) A h2 (by rcases List.mem_cons.1 h with e | e; exact absurd e.symm hy; exact e)
      simp only [S1, List.map_cons, List.sum_cons, if_neg hy] at ih ⊢
      omega
theorem S2_add (A : List ByteArray) (F G : ByteArray → ByteArray → Nat) : S2 A (fun a b => F a b + G a b) = S2 A F + S2 A G := by
  unfold S2
  rw [← S1_add]
  exact S1_congr A fun a => S1_add _ _ A
theorem S2_zero (A : List ByteArray) : S2 A (fun _ _ => 0) = 0 := by
  unfold S2
  rw [S1_congr A fun a => S1_zero A, S1_zero]
theorem S2_ind {A : List ByteArray} {x y : ByteArray} (hn : A.Nodup) (hx : x ∈ A) (hy : y ∈ A) : S2 A (fun a b => if x = a ∧ y = b then 1 else 0) = 1 := by
  unfold S2
  rw [S1_congr (g := fun a => if a = x then 1 else 0) A fun a => ?_]
  · exact S1_ind A hn hx
  · by_cases h : a = x
    · subst h
      rw [if_pos rfl]
      rw [S1_congr (g := fun b => if b = y then 1 else 0) A fun b => by simp [eq_comm]]
      exact S1_ind A hn hy
    · rw [if_neg h, S1_congr (g := fun _ => 0) A fun b => if_neg (fun e => h e.1.symm)]
      exact S1_zero A
theorem fol_sum {A : List ByteArray} (hn : A.Nodup) (t : List ByteArray) (hm : ∀ y ∈ t, y ∈ A) : ∀ j, j ≤ t.length → S2 A (fun a b => fol t a b j) = j - 1 := by
  intro j
  induction j with
  | zero => intro _; exact S2_zero A
  | succ j ih =>
    intro hj
    have hlt : j < t.length := by omega
    have h1 := ih (by omega)
    rw [show (fun a b => fol t a b (j + 1)) = fun a b => fol t a b j + (if 1 ≤ j ∧ t[j - 1]? = some a ∧ t[j]? = some b then 1 else 0) from rfl, S2_add, h1]
    by_cases h0 : 1 ≤ j
    · have hp : j - 1 < t.length := by omega
      have : (fun a b => if 1 ≤ j ∧ t[j - 1]? = some a ∧ t[j]? = some b then 1 else 0) = fun a b => if t[j - 1] = a ∧ t[j] = b then (1 : Nat) else 0 := by
        funext a b
        rw [List.getElem?_eq_getElem hp, List.getElem?_eq_getElem hlt]
        simp only [Option.some.injEq, h0, true_and]
      rw [this, S2_ind hn (hm _ (List.getElem_mem hp)) (hm _ (List.getElem_mem hlt))]
      omega
    · have : (fun a b => if 1 ≤ j ∧ t[j - 1]? = some a ∧ t[j]? = some b then 1 else 0) = fun (_ _ : ByteArray) => (0 : Nat) := by
        funext a b
        exact if_neg (fun h => h0 h.1)
      rw [this, S2_zero]
      omega
/-- The steps of the first i traces. -/
def stepsTo (l : List (List ByteArray)) : Nat → Nat
  | 0 => 0
  | i + 1 => stepsTo l i + ((l.getD i []).length - 1)
theorem folL_sum {A : List ByteArray} (hn : A.Nodup) (l : List (List ByteArray)) (hm : ∀ t ∈ l, ∀ y ∈ t, y ∈ A) : ∀ i, S2 A (fun a b => folL l a b i) = stepsTo l i := by
  intro i
  induction i with
  | zero => exact S2_zero A
  | succ i ih =>
    rw [show (fun a b => folL l a b (i + 1)) = fun a b => folL l a b i + fol (l.getD i []) a b (l.getD i []).length from rfl, S2_add, ih, stepsTo]
    congr 1
    refine fol_sum hn _ (fun y hy => ?_) _ (Nat.le_refl _)
    by_cases hi : i < l.length
    · rw [List.getD_eq_getElem?_getD, List.getElem?_eq_getElem hi] at hy
      exact hm _ (List.getElem_mem hi) y hy
    · rw [List.getD_eq_getElem?_getD, List.getElem?_eq_none (by omega)] at hy
      simp at hy
theorem stepsTo_le {l : List (List ByteArray)} (h : ∀ t ∈ l, t.length ≤ 80) : ∀ i, i ≤ l.length → stepsTo l i ≤ 80 * i
  | 0, _ => by simp [stepsTo]
  | i + 1, hi => by
    have h1 := stepsTo_le h i (by omega)
    have h2 := h _ (List.getElem_mem (show i < l.length by omega))
    rw [stepsTo, List.getD_eq_getElem?_getD, List.getElem?_eq_getElem (show i < l.length by omega)]
    simp only [Option.getD_some]
    omega
theorem S1_take (A : List ByteArray) (g : ByteArray → Nat) {i : Nat} (h : i < A.length) : S1 (A.take (i + 1)) g = S1 (A.take i) g + g A[i] := by
  unfold S1
  rw [List.take_succ_eq_append_getElem h, List.map_append, List.sum_append, List.map_cons, List.map_nil, List.sum_cons, List.sum_nil, Nat.add_zero]
theorem S1_le {A : List ByteArray} {g : ByteArray → Nat} {c : Nat} (h : ∀ a, g a ≤ c) : ∀ i, i ≤ A.length → S1 (A.take i) g ≤ c * i
  | 0, _ => by simp [S1]
  | i + 1, hi => by
    have h1 := S1_le (A := A) h i (by omega)
    have h2 := h (A[i]'(by omega))
    rw [S1_take A g (show i < A.length by omega), Nat.mul_succ]
    omega
theorem mirror (x y : Int) : ((relOf x y == 1) != (relOf y x == 2)) = false ∧ ((relOf x y == 3) != (relOf y x == 3)) = false ∧ ((relOf x y == 0) != (relOf y x == 0)) = false := by
  unfold relOf
  by_cases h1 : x > 0 <;> by_cases h2 : y > 0 <;> simp [h1, h2]
section
variable {l : List (List ByteArray)} (h : Few l) (A : List ByteArray) (hA : A.length ≤ 12)
include h hA
theorem mir_l2 (i : Nat) (hi : i < A.length) (base steps : Nat) (hb : base ≤ 1000000) (hnext : Ev (fun k => petrinetlaw48_EventlogMirrors.l1 k l A ((base + S1 A (fun b => folL l A[i] b l.length) : Nat) : Int) (steps : Int) (wrap64 ((i : Int) + 1))) true) :
    ∀ (d q : Nat), q ≤ A.length → A.length - q = d → Ev (fun k => petrinetlaw48_EventlogMirrors.l2 k l A ((base + S1 (A.take q) (fun b => folL l A[i] b l.length) : Nat) : Int) (steps : Int) (i : Int) (q : Int)) true := by
  have hle : ∀ a b, folL l a b l.length ≤ 6400 := fun a b => by
    have := folL_le (fun t ht => (h.each t ht).1) a b l.length
    have := h.len
    omega
  intro d
  induction d with
  | zero =>
    intro q hq hd
    obtain rfl : q = A.length := by omega
    refine Ev.succ ?_
    simp only [petrinetlaw48_EventlogMirrors.l2]
    rw [List.take_length]
    exact Ev.neg (by omega) hnext
  | succ d ih =>
    intro q hq hd
    have hlt : q < A.length := by omega
    have hih := ih (q + 1) (by omega) (by omega)
    rw [S1_take A _ hlt] at hih
    have hs := S1_le (g := fun b => folL l A[i] b l.length) (A := A) (c := 6400) (fun b => hle _ b) q (by omega)
    have hf := hle A[i] A[q]
    refine Ev.succ ?_
    simp only [petrinetlaw48_EventlogMirrors.l2]
    rw [rdOf_get hi, rdOf_get hlt, wrap_succ (i := q) (by omega)]
    refine Ev.pos (by omega) (Ev.pos (by omega) (Ev.pos (by omega) (Ev.pos (by omega) ?_)))
    refine Ev.bind (efollows h _ _) (Ev.bind (erelation h _ _) (Ev.bind (erelation h _ _) ?_))
    obtain ⟨m1, m2, m3⟩ := mirror (folL l A[i] A[q] l.length : Int) (folL l A[q] A[i] l.length : Int)
    rw [m1, m2, m3]
    refine Ev.neg (by decide) (Ev.neg (by decide) (Ev.neg (by decide) ?_))
    have hw : wrap64 (((base + S1 (A.take q) (fun b => folL l A[i] b l.length) : Nat) : Int) + (folL l A[i] A[q] l.length : Int)) = ((base + (S1 (A.take q) (fun b => folL l A[i] b l.length) + folL l A[i] A[q] l.length) : Nat) : Int) := by unfold wrap64; omega
    rw [hw]
    exact hih
theorem mir_l1 (steps : Nat) (hsum : S2 A (fun a b => folL l a b l.length) = steps) : ∀ (d i : Nat), i ≤ A.length → A.length - i = d →
    Ev (fun k => petrinetlaw48_EventlogMirrors.l1 k l A ((S1 (A.take i) (fun a => S1 A (fun b => folL l a b l.length)) : Nat) : Int) (steps : Int) (i : Int)) true := by
  have hle : ∀ a b, folL l a b l.length ≤ 6400 := fun a b => by
    have := folL_le (fun t ht => (h.each t ht).1) a b l.length
    have := h.len
    omega
  have hrow : ∀ a, S1 A (fun b => folL l a b l.length) ≤ 76800 := fun a => by
    have := S1_le (g := fun b => folL l a b l.length) (A := A) (c := 6400) (fun b => hle _ b) A.length (Nat.le_refl _)
    rw [List.take_length] at this
    omega
  intro d
  induction d with
  | zero =>
    intro i hi hd
    obtain rfl : i = A.length := by omega
    refine Ev.succ ?_
    simp only [petrinetlaw48_EventlogMirrors.l1]
    rw [List.take_length]
    refine Ev.neg (by omega) (Ev.pos ?_ alive')
    exact congrArg Int.ofNat hsum
  | succ d ih =>
    intro i hi hd
    have hlt : i < A.length := by omega
    have hih := ih (i + 1) (by omega) (by omega)
    rw [S1_take A _ hlt] at hih
    have hs := S1_le (g := fun a => S1 A (fun b => folL l a b l.length)) (A := A) (c := 76800) hrow i (by omega)
    refine Ev.succ ?_
    simp only [petrinetlaw48_EventlogMirrors.l1]
    refine Ev.pos (by omega) ?_
    have := mir_l2 h A hA i hlt (S1 (A.take i) (fun a => S1 A (fun b => folL l a b l.length))) steps (by omega) (by rw [wrap_succ (by omega)]; exact hih) _ 0 (by omega) rfl
    exact this
end
theorem mir_l0 {l : List (List ByteArray)} (h : Few l) (A : List ByteArray) (hnext : Ev (fun k => petrinetlaw48_EventlogMirrors.l1 k l A 0 (stepsTo l l.length : Int) 0) true) : ∀ (d i : Nat), i ≤ l.length → l.length - i = d →
    Ev (fun k => petrinetlaw48_EventlogMirrors.l0 k l A 0 (stepsTo l i : Int) (i : Int)) true := by
  have hl := h.len
  intro d
  induction d with
  | zero =>
    intro i hi hd
    obtain rfl : i = l.length := by omega
    refine Ev.succ ?_
    simp only [petrinetlaw48_EventlogMirrors.l0]
    exact Ev.neg (by omega) hnext
  | succ d ih =>
    intro i hi hd
    have hlt : i < l.length := by omega
    have hih := ih (i + 1) (by omega) (by omega)
    have hti := (h.each _ (List.getElem_mem hlt)).1
    have hsi := stepsTo_le (fun t ht => (h.each t ht).1) i (by omega)
    have hg : l.getD i [] = l[i] := by rw [List.getD_eq_getElem?_getD, List.getElem?_eq_getElem hlt]; rfl
    rw [stepsTo, hg] at hih
    refine Ev.succ ?_
    simp only [petrinetlaw48_EventlogMirrors.l0]
    rw [rd_L1_get hlt, wrap_succ (by omega)]
    have hw : wrap64 ((stepsTo l i : Int) + mx 0 (wrap64 ((l[i].length : Int) - 1))) = ((stepsTo l i + (l[i].length - 1) : Nat) : Int) := by
      have h1 : wrap64 ((l[i].length : Int) - 1) = (l[i].length : Int) - 1 := by unfold wrap64; omega
      rw [h1]
      unfold mx wrap64
      split <;> omega
    rw [hw]
    exact Ev.pos (by omega) (Ev.pos (by omega) hih)
theorem mirrors (l : List (List ByteArray)) (hl : Small l) : ∃ k, petrinetlaw48_EventlogMirrors.f k l = some true := by
  apply Ev.rounds
  unfold petrinetlaw48_EventlogMirrors.f
  refine Ev.bind (eacts hl) ?_
  obtain ⟨bb, hbb, hF⟩ := few l (by have := hl.len; omega)
  refine Ev.bind hbb ?_
  have hyes : Ev (fun k => petrinetlaw48_EventlogMirrors.j0 k l (acts l) true) true := by
    refine Ev.succ ?_
    simp only [petrinetlaw48_EventlogMirrors.j0]
    exact Ev.pos trivial alive'
  cases bb with
  | false => exact Ev.neg (by decide) hyes
  | true =>
    have hf := hF rfl
    refine Ev.pos rfl (Ev.bind (racts hl) ?_)
    by_cases h12 : ((acts l).length : Int) > 12
    · rw [decide_eq_true h12]; exact hyes
    · rw [decide_eq_false h12]
      refine Ev.succ ?_
      simp only [petrinetlaw48_EventlogMirrors.j0]
      refine Ev.neg (by decide) ?_
      have hsum := folL_sum (srt_nodup (acts_srt l)) l (fun t ht y hy => (acts_mem l y).2 ⟨t, ht, hy⟩) l.length
      have h1 := mir_l1 hf (acts l) (by omega) (stepsTo l l.length) hsum _ 0 (by omega) rfl
      exact mir_l0 hf (acts l) h1 _ 0 (by omega) rfl
theorem small_of {l : List (List ByteArray)} (h : Bulk.measL (Bulk.measL fun s : ByteArray => s.size + 1) l ≤ 1048576) : Small l := by
  have h1 : ∀ t : List ByteArray, t.length ≤ (t.map fun s : ByteArray => s.size + 1).sum := by
    intro t
    induction t with
    | nil => simp
    | cons x t ih => rw [List.map_cons, List.sum_cons, List.length_cons]; omega
  have h2 : ∀ l : List (List ByteArray), l.length + total l ≤ (l.map (Bulk.measL fun s : ByteArray => s.size + 1)).sum := by
    intro l
    induction l with
    | nil => simp [Logs.total]
    | cons t l ih =>
      have := h1 t
      rw [List.map_cons, List.sum_cons, List.length_cons, Bulk.measL]
      have e : total (t :: l) = t.length + total l := by simp [Logs.total]
      omega
  have := h2 l
  have h3 : (l.map (Bulk.measL fun s : ByteArray => s.size + 1)).sum + 1 ≤ 1048576 := h
  exact ⟨by omega, by omega⟩
theorem EventlogMirrors (l : List (List ByteArray)) (h : (l.length ≤ maxLen ∧ ∀ t ∈ l, t.length ≤ maxLen ∧ ∀ s ∈ t, s.size ≤ maxLen) ∧ Bulk.measL (Bulk.measL fun s : ByteArray => s.size + 1) l ≤ 1048576) : ∃ k, petrinetlaw48_EventlogMirrors.f k l = some true :=
  mirrors l (small_of h.2)

end Go.Proofs.Ytaofommgdgmncaa.Pure
