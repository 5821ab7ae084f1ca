/- For all lists of at most 40 sets, Minimal of package bitset returns what the reference returns. -/
import Derived.Test.YtmopcjebjbdapaaPr12
import Derived.Test.YtmopcjebjbdapaaPr13
import Derived.Test.YtmopcjebjbdapaaLives
import Derived.Test.YtmopcjebjbdapaaMins
namespace Go.Proofs.Ytmopcjebjbdapaa.Pure
set_option linter.unusedVariables false
set_option linter.unusedSimpArgs false
open Go.RowKit Go.Proofs.Ytmopcjebjbdapaa.Pr Go.Proofs.Ytmopcjebjbdapaa.Bits Go.Proofs.Ytmopcjebjbdapaa.Sets Go.Proofs.Ytmopcjebjbdapaa.Mins Go.Proofs.Ytmopcjebjbdapaa.Refs Go.Proofs.YtmopcjebjbdapaaW.PrintWords Go.Proofs.YtmopcjebjbdapaaW.PrintLast Go.Proofs.YtmopcjebjbdapaaW.PrintMore

theorem map_U {l : List Int} (h : ∀ x ∈ l, (Lit.int .u64 x).wf = true) : ∃ v : List (BitVec 64), l = v.map U := by
  induction l with
  | nil => exact ⟨[], rfl⟩
  | cons x l ih =>
    obtain ⟨v, rfl⟩ := ih (fun y hy => h y (List.mem_cons_of_mem _ hy))
    obtain ⟨a, rfl⟩ := U_of (h x List.mem_cons_self)
    exact ⟨a :: v, rfl⟩
theorem rdU (v : List (BitVec 64)) {i : Nat} (h : i < v.length) : rd (v.map U) (i : Int) = U v[i] := by simp [rd, h]
theorem rbefore (a b : BitVec 64) : Ev (fun k => petrinetref06_before.f k (U a) (U b)) (befV a b) := by
  unfold petrinetref06_before.f
  refine Ev.bind (rlen a) ?_
  refine Ev.bind (rlen b) ?_
  by_cases h : ((els a 64).length : Int) < ((els b 64).length : Int)
  · simp only [h, if_true]
    have : befV a b = true := befV_iff.2 (.inl (by unfold lenV; omega))
    rw [this]; exact Ev.now _
  · simp only [h, if_false]
    refine Ev.bind (rlen a) ?_
    refine Ev.bind (rlen b) ?_
    refine Ev.same (funext fun k => ?_)
    unfold befV lenV
    by_cases e : (els a 64).length = (els b 64).length
    · rw [if_pos (by omega), if_pos e]
      congr 1
      rw [Bool.eq_iff_iff]; simp [U]
    · rw [if_neg (by omega), if_neg e]
      congr 1
      symm
      simp; omega
theorem rminimal_l0 (l : List (BitVec 64)) (hl : l.length ≤ 40) (s : BitVec 64) : ∀ (d i : Nat), i ≤ l.length → l.length - i = d → Ev (fun k => petrinetref06_minimal.l0 k (l.map U) (U s) (i : Int)) (smallV (l.drop i) s) := by
  intro d
  induction d with
  | zero =>
    intro i hi hd
    refine Ev.succ ?_
    simp only [petrinetref06_minimal.l0, List.length_map]
    rw [List.drop_of_length_le (by omega)]
    exact Ev.same (funext fun k => by rw [if_neg (by omega)]; rfl)
  | succ d ih =>
    intro i hi hd
    have hlt : i < l.length := by omega
    refine Ev.succ ?_
    simp only [petrinetref06_minimal.l0, List.length_map]
    have c1 : (i : Int) < (l.length : Int) := by omega
    have c2 : (0 : Int) ≤ (i : Int) := by omega
    simp only [c1, c2, if_true, rdU l hlt, wrap_succ (show i < 9223372036854775807 by omega)]
    have h2 := ih (i + 1) (by omega) (by omega)
    have e : smallV (l.drop i) s = ((decide (l[i] = s) || !subS l[i] s) && smallV (l.drop (i + 1)) s) := by
      rw [List.drop_eq_getElem_cons hlt]; rfl
    rw [e]
    by_cases hs : l[i] = s
    · simp only [hs, if_true, decide_true, Bool.true_or, Bool.true_and]
      exact h2
    · have hs' : ¬ U l[i] = U s := fun h => hs (U_inj.1 h)
      simp only [hs', if_false, decide_eq_false hs, Bool.false_or]
      refine Ev.bind (rsubset _ _) ?_
      cases hb : subS l[i] s with
      | true =>
        simp only [if_true, Bool.not_true, Bool.false_and]
        exact Ev.now _
      | false =>
        simp only [if_neg (show ¬ (false = true) by decide), Bool.not_false, Bool.true_and]
        exact h2
theorem rminimal (l : List (BitVec 64)) (hl : l.length ≤ 40) (s : BitVec 64) : Ev (fun k => petrinetref06_minimal.f k (l.map U) (U s)) (smallV l s) := by
  have h := rminimal_l0 l hl s _ 0 (by omega) rfl
  rw [List.drop_zero] at h
  exact h
/-- Where s stands among the first i of a sorted list. -/
def atV (out : List (BitVec 64)) (s : BitVec 64) (i : Nat) : Nat := ((out.take i).takeWhile (befV · s)).length
theorem sort_take {out : List (BitVec 64)} (h : SortV out) (i : Nat) : SortV (out.take i) := List.Pairwise.sublist (List.take_sublist _ _) h
theorem atV_step {out : List (BitVec 64)} (hs : SortV out) {s : BitVec 64} {i : Nat} (hi : i < out.length) : atV out s (i + 1) = if befV out[i] s = true then i + 1 else atV out s i := by
  unfold atV
  rw [List.take_succ_eq_append_getElem hi]
  have hall : befV out[i] s = true → ∀ x ∈ out.take i, befV x s = true := by
    intro hb x hx
    obtain ⟨q, hq, rfl⟩ := List.mem_iff_getElem.1 hx
    simp at hq
    rw [List.getElem_take]
    exact befV_trans (List.pairwise_iff_getElem.1 hs q i (by omega) hi (by omega)) hb
  split
  · rename_i hb
    have h2 : (out.take i ++ [out[i]]).takeWhile (befV · s) = out.take i ++ [out[i]] := by
      rw [List.takeWhile_append_of_pos (hall hb)]
      simp [hb]
    rw [h2]; simp; omega
  · rename_i hb
    have hb' : befV out[i] s = false := by simpa using hb
    rw [List.takeWhile_append]
    split
    · rename_i h9
      rw [List.length_append, List.length_take, ← Nat.add_zero (List.length (List.takeWhile (befV · s) (List.take i out)))]
      rw [List.length_take] at h9
      rw [h9]
      simp [hb', List.takeWhile]
    · rfl
theorem atV_end {out : List (BitVec 64)} {s : BitVec 64} : atV out s out.length = posV out s := by unfold atV posV; rw [List.take_length]
theorem ins_twice {out : List (BitVec 64)} (hs : SortV out) {s : BitVec 64} : out[posV out s]? = some s ↔ s ∈ out := by
  constructor
  · exact fun h => List.mem_of_getElem? h
  · intro hm
    rw [← List.take_append_drop (posV out s) out, List.mem_append] at hm
    rcases hm with hm | hm
    · have := take_bef hm
      rw [befV_irr] at this; cases this
    · obtain ⟨i, hi, hx⟩ := List.mem_iff_getElem.1 hm
      simp at hi
      rw [List.getElem_drop] at hx
      by_cases e0 : i = 0
      · subst e0
        rw [List.getElem?_eq_getElem (by omega)]
        simpa using hx
      · exfalso
        have hlt := List.pairwise_iff_getElem.1 hs (posV out s) (posV out s + i) (by omega) (by omega) (by omega)
        rw [hx] at hlt
        have := tw_stop (befV · s) out (show out[(out.takeWhile (befV · s)).length]? = some out[posV out s] from by rw [List.getElem?_eq_getElem]; rfl)
        rw [this] at hlt; cases hlt

section
variable (l : List (BitVec 64)) (hl : l.length ≤ 40)
include hl
theorem mins_l1 (out : List (BitVec 64)) (hs : SortV out) (ho : out.length ≤ 40) (q : Nat) (hq : q < l.length) (r : List (BitVec 64))
    (rest : Ev (fun k => petrinetref06_Minimal.l0 k (l.map U) ((insV out l[q]).map U) ((q + 1 : Nat) : Int)) (r.map U)) : ∀ (d i : Nat), i ≤ out.length → out.length - i = d →
    Ev (fun k => petrinetref06_Minimal.l1 k (l.map U) (out.map U) (q : Int) ((atV out l[q] i : Nat) : Int) (decide (l[q] ∈ out.take i)) (i : Int)) (r.map U) := by
  intro d
  induction d with
  | zero =>
    intro i hi hd
    obtain rfl : i = out.length := by omega
    refine Ev.succ ?_
    simp only [petrinetref06_Minimal.l1, List.length_map, Int.lt_irrefl, if_false]
    rw [atV_end, List.take_length]
    have hp : posV out l[q] ≤ out.length := by unfold posV; exact (List.takeWhile_sublist _).length_le
    by_cases hm : l[q] ∈ out
    · simp only [hm, decide_true, if_true]
      rw [wrap_succ (by omega)]
      have e : insV out l[q] = out := by unfold insV; rw [if_pos ((ins_twice hs).2 hm)]
      rw [e] at rest
      exact rest
    · simp only [hm, decide_false, if_neg (show ¬ (false = true) by decide)]
      have e : insV out l[q] = out.take (posV out l[q]) ++ l[q] :: out.drop (posV out l[q]) := by unfold insV; rw [if_neg (fun h => hm ((ins_twice hs).1 h))]
      rw [e] at rest
      have c1 : (0 : Int) ≤ ((posV out l[q] : Nat) : Int) := by omega
      have c2 : ((posV out l[q] : Nat) : Int) ≤ (out.length : Int) := by omega
      have c3 : (0 : Int) ≤ (q : Int) := by omega
      have c4 : (q : Int) < (l.length : Int) := by omega
      simp only [c1, c2, c3, c4, if_true, Option.bind_some, List.length_nil, List.length_take, List.length_map, Int.toNat_natCast, List.nil_append, rdU l hq, List.length_append, List.length_cons, List.length_drop]
      have d1 : 0 + min (posV out l[q]) out.length < 17592186044416 := by omega
      have d2 : min (posV out l[q]) out.length < 17592186044416 := by omega
      have d3 : min (posV out l[q]) out.length + (0 + 1) + (out.length - posV out l[q]) < 17592186044416 := by omega
      simp only [d1, d2, d3, if_true]
      rw [wrap_succ (by omega)]
      have e2 : (out.map U).take (posV out l[q]) ++ [U l[q]] ++ (out.map U).drop (posV out l[q]) = (out.take (posV out l[q]) ++ l[q] :: out.drop (posV out l[q])).map U := by simp
      rw [e2]
      exact rest
  | succ d ih =>
    intro i hi hd
    have hlt : i < out.length := by omega
    have c1 : (i : Int) < (out.length : Int) := by omega
    have c2 : (0 : Int) ≤ (i : Int) := by omega
    have c3 : (0 : Int) ≤ (q : Int) := by omega
    have c4 : (q : Int) < (l.length : Int) := by omega
    have h2 := ih (i + 1) (by omega) (by omega)
    rw [atV_step hs hlt, List.take_succ_eq_append_getElem hlt] at h2
    refine Ev.succ ?_
    simp only [petrinetref06_Minimal.l1, List.length_map, c1, c2, c3, c4, if_true, rdU l hq, rdU out hlt, wrap_succ (show i < 9223372036854775807 by omega)]
    by_cases e : out[i] = l[q]
    · have hmem : decide (l[q] ∈ out.take i ++ [out[i]]) = true := by simp [e]
      rw [hmem] at h2
      simp only [e, if_true]
      refine Ev.bind (rbefore _ _) ?_
      rw [befV_irr]
      simp only [if_neg (show ¬ (false = true) by decide)]
      rw [e, befV_irr, if_neg (by decide)] at h2
      exact h2
    · have e' : ¬ U out[i] = U l[q] := fun h => e (U_inj.1 h)
      have hmem : decide (l[q] ∈ out.take i ++ [out[i]]) = decide (l[q] ∈ out.take i) := by
        have h9 : ¬ l[q] = out[i] := fun h => e h.symm
        rw [Bool.eq_iff_iff, decide_eq_true_iff, decide_eq_true_iff, List.mem_append, List.mem_singleton]
        exact ⟨fun h => h.elim id (fun h => absurd h h9), .inl⟩
      rw [hmem] at h2
      simp only [e', if_false]
      refine Ev.bind (rbefore _ _) ?_
      cases hb : befV out[i] l[q] with
      | true =>
        rw [hb, if_pos rfl] at h2
        simp only [if_true]
        exact h2
      | false =>
        rw [hb, if_neg (by decide)] at h2
        simp only [if_neg (show ¬ (false = true) by decide)]
        exact h2
theorem mins_l0 : ∀ (d q : Nat) (out : List (BitVec 64)), q ≤ l.length → l.length - q = d → SortV out → out.length ≤ q →
    Ev (fun k => petrinetref06_Minimal.l0 k (l.map U) (out.map U) (q : Int)) (((l.drop q).foldl (fun out s => if smallV l s then insV out s else out) out).map U) := by
  intro d
  induction d with
  | zero =>
    intro q out hq hd hs ho
    refine Ev.succ ?_
    simp only [petrinetref06_Minimal.l0, List.length_map]
    have c1 : ¬ (q : Int) < (l.length : Int) := by omega
    rw [List.drop_of_length_le (by omega)]
    simp only [c1, if_false]
    exact Ev.now _
  | succ d ih =>
    intro q out hq hd hs ho
    have hlt : q < l.length := by omega
    refine Ev.succ ?_
    simp only [petrinetref06_Minimal.l0, List.length_map]
    have c1 : (q : Int) < (l.length : Int) := by omega
    have c2 : (0 : Int) ≤ (q : Int) := by omega
    simp only [c1, c2, if_true, rdU l hlt]
    refine Ev.bind (rminimal l hl l[q]) ?_
    rw [List.drop_eq_getElem_cons hlt, List.foldl_cons]
    cases hb : smallV l l[q] with
    | true =>
      simp only [if_true]
      have hlen : (insV out l[q]).length ≤ q + 1 := by
        have h9 := insL_len (out.map U) (U l[q])
        rw [insL_U] at h9
        simp at h9; omega
      have h2 := ih (q + 1) (insV out l[q]) (by omega) (by omega) (sort_insV hs _) hlen
      have h3 := mins_l1 l hl out hs (by omega) q hlt _ h2 _ 0 (by omega) rfl
      have e1 : atV out l[q] 0 = 0 := rfl
      have e2 : decide (l[q] ∈ out.take 0) = false := by simp
      rw [e1, e2] at h3
      exact h3
    | false =>
      simp only [if_neg (show ¬ (false = true) by decide)]
      rw [wrap_succ (by omega)]
      exact ih (q + 1) out (by omega) (by omega) hs (by omega)
end

theorem BitsetMinimals : petrinetlaw06_BitsetMinimals.Pure := by
  intro l0 hl1 hl2 hw
  obtain ⟨l, rfl⟩ := map_U hw
  apply Ev.rounds
  unfold petrinetlaw06_BitsetMinimals.f
  simp only [List.length_map]
  by_cases hl : (l.length : Int) > 40
  · simp only [hl, if_true]
    exact lives'
  · simp only [hl, if_false, minimal_U l (by omega), Option.bind_some]
    have h := mins_l0 l (by omega) _ 0 [] (by omega) rfl List.Pairwise.nil (by simp)
    refine Ev.bind (a := (minV l).map U) h ?_
    refine Ev.bind (rsame _ (by have := minV_len l; simp; omega)) ?_
    simp only [if_true]
    exact lives'

end Go.Proofs.Ytmopcjebjbdapaa.Pure
