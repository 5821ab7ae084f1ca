/- For all logs Alpha of package discover returns the net, or the error, that the reference returns; the net is valid. -/
import Derived.Test.YtejchnmhlcbfcaaDoorQDiscoverNets0
import Derived.Test.YtejchnmhlcbfcaaDoorQDiscoverNets1
import Derived.Test.YtejchnmhlcbfcaaDoorQDiscoverNets2
import Derived.Test.YtejchnmhlcbfcaaDoorQDiscoverNets3
import Derived.Test.YtejchnmhlcbfcaaDoorQDiscoverNets4
import Derived.Test.YtejchnmhlcbfcaaDoorQDiscoverNets5
import Derived.Test.YtejchnmhlcbfcaaDoorVDiscoverNets
import Derived.Deep.Slices
import Derived.ChangeArms
import Derived.SizedLaws
import Derived.Test.YtejchnmhlcbfcaaDoorBDiscoverNets
import Derived.Test.YtejchnmhlcbfcaaDoorRows
import GoSem.ClaimSeven
import Derived.LaidByTextLater
import Derived.SevenTiedAt
import Derived.LaidSub
import Derived.LaidOnce
/- A datum that is read deep, within the reach of a machine: rows of rows and texts that fit into its memory. -/
namespace Go.Proofs.YtejchnmhlcbfcaaDoor.Reach
set_option linter.unusedVariables false
open Go.RowKit Go.WideShapes Go.Deep Go.Proofs.YtejchnmhlcbfcaaDoorW.PrintWords

/-- What the statements' reader finds at cells of type t, in a datum within reach, is what d tells of some a with ok. -/
structure OpensZ {α H : Type} (enc : TypeId × Value → H) (P : Program) (w : World) (base : Nat) (spare : Nat → Bool) (held : Bool) (d : Kd α) (t : TypeId) (ok : α → Prop) : Prop where
 cells : P.cellsOf t = d.sz
 opens : ∀ (fuel : Nat) (cs : List Value) (x : DataW H × List MemPlace), DataW.trod enc P w base spare held fuel t cs = some x → (∀ n ∈ x.1.weights P t, n ≤ reachBytes) → ∃ a, d.K w a cs ∧ ok a

section
variable {H : Type} {enc : TypeId × Value → H} {P : Program} {w : World} {base : Nat} {spare : Nat → Bool} {held : Bool}
theorem string {t : TypeId} (ht : P.underlying t = some .string) (hc : P.cellsOf t = 1) : OpensZ enc P w base spare held Kd.string t (fun s => s.size ≤ 140737488351232) :=
 ⟨hc, fun fuel cs x h hz => by
  obtain ⟨s, rfl, rfl, hs⟩ := DataW.trod_string ht h
  exact ⟨s, rfl, by
   have h1 := hz _ (List.mem_singleton.2 rfl)
   rw [Array.length_toList] at h1
   exact h1⟩⟩
theorem list_of {α : Type} {p : Nat → α → Prop} : ∀ (n : Nat), (∀ i, i < n → ∃ a, p i a) → ∃ xs : List α, xs.length = n ∧ ∀ i a, xs[i]? = some a → p i a
 | 0, _ => ⟨[], rfl, fun i a h => by simp at h⟩
 | n + 1, h => by
  obtain ⟨xs, hl, hx⟩ := list_of n (fun i hi => h i (by omega))
  obtain ⟨a, ha⟩ := h n (by omega)
  refine ⟨xs ++ [a], by simp [hl], fun i b hb => ?_⟩
  by_cases hi : i < xs.length
  ·rw [List.getElem?_append_left hi] at hb; exact hx i b hb
  ·have hlt := (List.getElem?_eq_some_iff.1 hb).1
   simp only [List.length_append, List.length_cons, List.length_nil] at hlt
   obtain rfl : i = n := by omega
   rw [List.getElem?_append_right (by omega)] at hb
   simp [hl] at hb
   rw [← hb]; exact ha
theorem weightsAll_mem {e : TypeId} : ∀ (l : List (DataW H)) (d : DataW H), d ∈ l → ∀ n ∈ d.weights P e, n ∈ DataW.weightsAll P e l
 | [], _, h, _, _ => by simp at h
 | x :: r, d, h, n, hn => by
  rw [DataW.weightsAll]
  rcases List.mem_cons.1 h with rfl | h
  ·exact List.mem_append_left _ hn
  ·exact List.mem_append_right _ (weightsAll_mem r d h n hn)
theorem slice {α : Type} {d : Kd α} {t e : TypeId} {ok : α → Prop} (h : OpensZ enc P w base spare held d e ok) (ht : P.underlying t = some (.slice e)) (hc : P.cellsOf t = 1) (hb : 16 ≤ P.bytesOf e) :
  OpensZ enc P w base spare held (Kd.slice e d) t (fun xs => xs.length ≤ 8796093022208 ∧ ∀ x ∈ xs, ok x) := by
 refine ⟨hc, fun fuel cs x hx hz => ?_⟩
 rcases open_slice ht hx with ⟨rfl, _⟩ | ⟨a, len, cap, m, n, D, Pl, rfl, _, hl, hm, hmm, rfl, hi⟩
 ·exact ⟨[], ⟨none, 0, rfl, Nat.le_refl _, Kd.C_nil _ _⟩, by simp, by simp⟩
 ·have hlm : len ≤ m := by rw [hmm]; split <;> omega
  simp only [DataW.weights, ht] at hz
  have hlen : len ≤ 8796093022208 := by
   have h1 := hz _ List.mem_cons_self
   have h2 : (((List.range len).map D).length + ((List.range (m - len)).map fun j => D (len + j)).length) * 16 ≤ reachBytes := Nat.le_trans (Nat.mul_le_mul_left _ hb) h1
   simp only [List.length_map, List.length_range] at h2
   unfold reachBytes at h2
   omega
  obtain ⟨xs, hxl, hxs⟩ := list_of (p := fun i b => ∃ c, c.length = d.sz ∧ d.K w b c ∧ ok b ∧ ∀ j u, c[j]? = some u → w.cell? (a.add (i * d.sz + j)) = some u) len (fun i hlt => by
   obtain ⟨cs', h1, h2⟩ := hi i (by omega)
   obtain ⟨b, hK, hok⟩ := h.opens _ _ _ h2 (fun n hn => hz n (List.mem_cons_of_mem _ (List.mem_append_left _ (weightsAll_mem _ (D i) (List.mem_map.2 ⟨i, by simpa using hlt, rfl⟩) n hn))))
   obtain ⟨_, hlen, hcell⟩ := World.cells?_some h1
   refine ⟨b, cs', by rw [hlen, h.cells], hK, hok, fun j u hu => ?_⟩
   have hj := (List.getElem?_eq_some_iff.1 hu).1
   rw [← hu, ← hcell j (by omega), h.cells, Addr.add_add])
  subst hxl
  refine ⟨xs, ⟨some a, cap, rfl, hl, rfl, by unfold maxLen at hm; omega, fun _ => ⟨a, rfl, fun j p hp => ?_⟩⟩, hlen, fun y hy => ?_⟩
  ·obtain ⟨c, h1, h2, _, h4⟩ := hxs j p hp
   exact ⟨c, h1, h2, h4⟩
  ·obtain ⟨j, hj⟩ := List.mem_iff_getElem?.1 hy
   obtain ⟨c, _, _, h3, _⟩ := hxs j y hj
   exact h3
/-- A parameter that is a row. -/
theorem param {α : Type} {d : Kd α} {t e : TypeId} {ok : α → Prop} (h : OpensZ enc P w base spare held d e ok) (ht : P.underlying t = some (.slice e)) (hc : P.cellsOf t = 1) (hb : 16 ≤ P.bytesOf e) {a : Option Addr} {len cap : Nat} {D : DataW H} {ps : List MemPlace}
  (hd : DataW.Trod enc P w base spare held t (.slice a len cap) D ps) (hz : ∀ n ∈ D.weights P t, n ≤ reachBytes) : ∃ xs : List α, len = xs.length ∧ xs.length ≤ cap ∧ d.C w a xs.length xs ∧ xs.length ≤ 8796093022208 ∧ ∀ x ∈ xs, ok x := by
 obtain ⟨fuel, hf⟩ := hd
 obtain ⟨xs, ⟨A, c, he, hcap, hC⟩, hl, hx⟩ := (slice h ht hc hb).opens _ _ _ hf hz
 have he' : [Value.slice a len cap] = [.slice A xs.length c] := he
 simp only [List.cons.injEq, Value.slice.injEq, and_true] at he'
 obtain ⟨rfl, rfl, rfl⟩ := he'
 exact ⟨xs, rfl, hcap, hC, hl, hx⟩
/-- What the sizes tell of one datum of the call. -/
theorem each_sized {ts : List TypeId} {ds : List (DataW H)} (h : (DataW.weightsEach P ts ds).all (· ≤ reachBytes) = true) {j : Nat} {t : TypeId} {d : DataW H} (ht : ts[j]? = some t) (hd : ds[j]? = some d) : ∀ n ∈ d.weights P t, n ≤ reachBytes :=
 fun n hn => by simpa using List.all_eq_true.1 h n (DataW.weights_mem_each ht hd n hn)
end
end Go.Proofs.YtejchnmhlcbfcaaDoor.Reach

/- What the functions of the reference of eventlog answer. -/
namespace Go.Proofs.YtejchnmhlcbfcaaDoor.Logs
open Go.RowKit Go.Proofs.YtejchnmhlcbfcaaDoor.Pr Go.Proofs.YtejchnmhlcbfcaaDoor.Evs Go.Proofs.YtejchnmhlcbfcaaDoor.Parts Go.Proofs.YtejchnmhlcbfcaaDoor.Names Go.Proofs.YtejchnmhlcbfcaaDoorW.PrintWords Go.Proofs.YtejchnmhlcbfcaaDoorW.PrintLast Go.Proofs.YtejchnmhlcbfcaaDoorW.PrintMore
set_option linter.unusedVariables false
set_option linter.unusedSimpArgs false

/-! ### names -/
theorem bt_byte {s : ByteArray} {i : Nat} (h : i < s.size) : bt s (i : Int) = (byteAt s i : Int) := by
 rw [byteAt_get s i h]
 simp [bt, h]
theorem name_l0 (s : ByteArray) (hs : s.size < 9223372036854775807) : ∀ (d i : Nat), i ≤ s.size → s.size - i = d → (∀ j, j < i → okB j (byteAt s j) = true) → Ev (fun k => r48_Name.l0 k s (i : Int)) (nameB s) := by
 intro d
 induction d with
 | zero =>
  intro i hi hd hok
  obtain rfl : i = s.size := by omega
  refine Ev.succ ?_
  simp only [r48_Name.l0]
  refine Ev.neg (by omega) ?_
  have hall : ((List.range s.size).all fun j => okB j (byteAt s j)) = true := by
   rw [List.all_eq_true]
   intro j hj
   exact hok j (List.mem_range.1 hj)
  by_cases h1 : (s.size : Int) ≥ 1
  ·refine Ev.pos h1 (Ev.same (funext fun _ => ?_))
   unfold nameB
   rw [hall, Bool.and_true, decide_eq_true (show 1 ≤ s.size by omega), Bool.true_and]
   congr 1
   exact decide_eq_decide.2 (by omega)
  ·refine Ev.neg h1 (Ev.same (funext fun _ => ?_))
   unfold nameB
   rw [decide_eq_false (show ¬ 1 ≤ s.size by omega)]
   rfl
 | succ d ih =>
  intro i hi hd hok
  have hlt : i < s.size := by omega
  have hb := bt_byte hlt
  obtain ⟨c, hc⟩ : ∃ c, byteAt s i = c := ⟨_, rfl⟩
  rw [hc] at hb
  have hgo : okB i c = true → Ev (fun k => r48_Name.l0 k s (wrap64 ((i : Int) + 1))) (nameB s) := by
   intro hk
   rw [wrap_succ (by omega)]
   refine ih (i + 1) (by omega) (by omega) (fun j hj => ?_)
   by_cases hji : j = i
   ·subst hji; rw [hc]; exact hk
   ·exact hok j (by omega)
  have hno : okB i c = false → nameB s = false := fun hk => nameB_false hlt (by rw [hc]; exact hk)
  have hstop : okB i c = false → Ev (fun _ : Nat => some false) (nameB s) := fun hk => by rw [hno hk]; exact Ev.now _
  refine Ev.succ ?_
  simp only [r48_Name.l0, hb]
  refine Ev.pos (by omega) (Ev.pos (by omega) ?_)
  have hnl : ¬ (97 ≤ c ∧ c ≤ 122) → ¬ c = 95 → Ev (fun k => if (i : Int) = 0 then some false else if (c : Int) = 46 then r48_Name.l0 k s (wrap64 ((i : Int) + 1)) else if (c : Int) < 48 then some false else if (c : Int) > 57 then some false else r48_Name.l0 k s (wrap64 ((i : Int) + 1))) (nameB s) := by
   intro h1 h2
   by_cases h0 : (i : Int) = 0
   ·exact Ev.pos h0 (hstop (okB_not (by omega)))
   ·refine Ev.neg h0 ?_
    by_cases h46 : (c : Int) = 46
    ·exact Ev.pos h46 (hgo (okB_of (by omega)))
    ·refine Ev.neg h46 ?_
     by_cases h48 : (c : Int) < 48
     ·exact Ev.pos h48 (hstop (okB_not (by omega)))
     ·refine Ev.neg h48 ?_
      by_cases h57 : (c : Int) > 57
      ·exact Ev.pos h57 (hstop (okB_not (by omega)))
      ·exact Ev.neg h57 (hgo (okB_of (by omega)))
  by_cases h97 : (c : Int) ≥ 97
  ·refine Ev.pos h97 ?_
   by_cases h122 : (c : Int) ≤ 122
   ·exact Ev.pos h122 (hgo (okB_of (by omega)))
   ·refine Ev.neg h122 ?_
    exact Ev.neg (by omega) (hnl (by omega) (by omega))
  ·refine Ev.neg h97 ?_
   by_cases h95 : (c : Int) = 95
   ·exact Ev.pos h95 (hgo (okB_of (by omega)))
   ·exact Ev.neg h95 (hnl (by omega) (by omega))
theorem rname (s : ByteArray) (hs : s.size < 9223372036854775807) : Ev (fun k => r48_Name.f k s) (nameB s) := name_l0 s hs s.size 0 (by omega) (by omega) (fun _ h => by omega)

/-! ### parts and words -/
/-! ### equal lists of lists -/
theorem rd_L1_get {l : List (List ByteArray)} {i : Nat} (h : i < l.length) : rd_L1 l (i : Int) = l[i] := by simp [rd_L1, h]
/-! ### Parse -/
end Go.Proofs.YtejchnmhlcbfcaaDoor.Logs

/- How often one name follows another, and which logs are few. -/
namespace Go.Proofs.YtejchnmhlcbfcaaDoor.Logs
open Go.RowKit Go.Proofs.YtejchnmhlcbfcaaDoor.Pr Go.Proofs.YtejchnmhlcbfcaaDoor.Evs Go.Proofs.YtejchnmhlcbfcaaDoorW.PrintWords Go.Proofs.YtejchnmhlcbfcaaDoorW.PrintLast Go.Proofs.YtejchnmhlcbfcaaDoorW.PrintMore
set_option linter.unusedVariables false
set_option linter.unusedSimpArgs false

/-! ### few -/
def total (l : List (List ByteArray)) : Nat := (l.map List.length).sum
structure Few (l : List (List ByteArray)) : Prop where
 len : l.length ≤ 80
 total : total l ≤ 800
 each : ∀ t ∈ l, t.length ≤ 80 ∧ ∀ s ∈ t, s.size ≤ 40
theorem total_snoc (l : List (List ByteArray)) (t : List ByteArray) : total (l ++ [t]) = total l + t.length := by simp [Logs.total]
/-! ### Follows -/
/-- How often b comes directly after a in front of place j. -/
def fol (t : List ByteArray) (a b : ByteArray) : Nat → Nat
 | 0 => 0
 | j + 1 => fol t a b j + if 1 ≤ j ∧ t[j - 1]? = some a ∧ t[j]? = some b then 1 else 0
theorem fol_le (t : List ByteArray) (a b : ByteArray) : ∀ j, fol t a b j ≤ j
 | 0 => Nat.le_refl _
 | j + 1 => by have := fol_le t a b j; unfold fol; split <;> omega
theorem fol_stop (t : List ByteArray) (a b : ByteArray) : ∀ (d : Nat), fol t a b (t.length + d) = fol t a b t.length
 | 0 => rfl
 | d + 1 => by
  rw [← Nat.add_assoc, fol, fol_stop t a b d, if_neg, Nat.add_zero]
  rintro ⟨_, _, h⟩
  rw [List.getElem?_eq_none (by omega)] at h; cases h
def folL (l : List (List ByteArray)) (a b : ByteArray) : Nat → Nat
 | 0 => 0
 | i + 1 => folL l a b i + fol (l.getD i []) a b (l.getD i []).length
theorem folL_le {l : List (List ByteArray)} (h : ∀ t ∈ l, t.length ≤ 80) (a b : ByteArray) : ∀ i, folL l a b i ≤ 80 * i
 | 0 => by simp [folL]
 | i + 1 => by
  have h1 := folL_le h a b i
  have h2 := fol_le (l.getD i []) a b (l.getD i []).length
  have h3 : (l.getD i []).length ≤ 80 := by
   by_cases hi : i < l.length
   ·rw [List.getD_eq_getElem?_getD, List.getElem?_eq_getElem hi]; exact h _ (List.getElem_mem hi)
   ·rw [List.getD_eq_getElem?_getD, List.getElem?_eq_none (by omega)]; simp
  rw [folL]; omega
theorem fol_step {t : List ByteArray} {a b : ByteArray} {q : Nat} (h1 : 1 ≤ q) (hq : q < t.length) : fol t a b (q + 1) = fol t a b q + if (t[q - 1]'(by omega)).toList = a.toList ∧ t[q].toList = b.toList then 1 else 0 := by
 rw [fol, List.getElem?_eq_getElem hq, List.getElem?_eq_getElem (show q - 1 < t.length by omega)]
 simp only [Option.some.injEq, bytes_eq, h1, true_and]
theorem efol_l1 (l : List (List ByteArray)) (a b : ByteArray) (i : Nat) (t : List ByteArray) (ht : t.length ≤ 80) (n : Nat) (hn : n ≤ 100000) (L : Int) (R : Int)
  (hnext : Ev (fun k => e_Follows.l0 k a b ((n + fol t a b t.length : Nat) : Int) l L (wrap64 ((i : Int) + 1))) R) : ∀ (d q : Nat), 1 ≤ q → t.length - q = d → Ev (fun k => e_Follows.l1 k a b ((n + fol t a b q : Nat) : Int) t (q : Int) l L (i : Int)) R := by
 intro d
 induction d with
 | zero =>
  intro q h1 hd
  refine Ev.succ ?_
  simp only [e_Follows.l1]
  refine Ev.neg (by omega) ?_
  obtain ⟨d, rfl⟩ : ∃ d, q = t.length + d := ⟨q - t.length, by omega⟩
  rw [fol_stop]
  exact hnext
 | succ d ih =>
  intro q h1 hd
  have hq : q < t.length := by omega
  have hle := fol_le t a b q
  have hih := ih (q + 1) (by omega) (by omega)
  rw [fol_step h1 hq] at hih
  refine Ev.succ ?_
  simp only [e_Follows.l1]
  rw [wrap_pred h1 (by omega), rdOf_get hq, rdOf_get (show q - 1 < t.length by omega), wrap_succ (i := q) (by omega)]
  refine Ev.pos (by omega) (Ev.pos (by omega) (Ev.pos (by omega) ?_))
  by_cases ha : (t[q - 1]'(by omega)).toList = a.toList
  ·refine Ev.pos ha (Ev.pos (by omega) ?_)
   by_cases hb : t[q].toList = b.toList
   ·rw [if_pos ⟨ha, hb⟩] at hih
    rw [wrap_succ (by omega)]
    exact Ev.pos hb hih
   ·rw [if_neg (fun h => hb h.2)] at hih
    exact Ev.neg hb hih
  ·rw [if_neg (fun h => ha h.1)] at hih
   exact Ev.neg ha hih
theorem efol_l0 (l : List (List ByteArray)) (a b : ByteArray) (hl : l.length ≤ 80) (ht : ∀ t ∈ l, t.length ≤ 80) : ∀ (d i : Nat), i ≤ l.length → l.length - i = d → Ev (fun k => e_Follows.l0 k a b (folL l a b i : Int) l (l.length : Int) (i : Int)) (folL l a b l.length : Int) := by
 intro d
 induction d with
 | zero =>
  intro i hi hd
  obtain rfl : i = l.length := by omega
  refine Ev.succ ?_
  simp only [e_Follows.l0]
  exact Ev.neg (by omega) (Ev.now _)
 | succ d ih =>
  intro i hi hd
  have hlt : i < l.length := by omega
  have hle := folL_le ht a b i
  have hih := ih (i + 1) (by omega) (by omega)
  have hg : l.getD i [] = l[i] := by rw [List.getD_eq_getElem?_getD, List.getElem?_eq_getElem hlt]; rfl
  rw [folL, hg] at hih
  refine Ev.succ ?_
  simp only [e_Follows.l0]
  refine Ev.pos (by omega) (Ev.pos (by omega) (Ev.pos (by omega) ?_))
  rw [rd_L1_get hlt]
  exact efol_l1 l a b i l[i] (ht _ (List.getElem_mem hlt)) (folL l a b i) (by omega) _ _ (by rw [wrap_succ (by omega)]; exact hih) _ 1 (Nat.le_refl _) rfl
theorem efollows {l : List (List ByteArray)} (h : Few l) (a b : ByteArray) : Ev (fun k => e_Follows.f k l a b) (folL l a b l.length : Int) := efol_l0 l a b h.len (fun t ht => (h.each t ht).1) _ 0 (by omega) rfl
theorem rfol_l1 (l : List (List ByteArray)) (a b : ByteArray) (i : Nat) (hi : i < l.length) (ht : l[i].length ≤ 80) (n : Nat) (hn : n ≤ 100000) (R : Int)
  (hnext : Ev (fun k => r48_Follows.l0 k l a b ((n + fol l[i] a b l[i].length : Nat) : Int) (wrap64 ((i : Int) + 1))) R) : ∀ (d q : Nat), 1 ≤ q → l[i].length - q = d → Ev (fun k => r48_Follows.l1 k l a b ((n + fol l[i] a b q : Nat) : Int) (i : Int) (q : Int)) R := by
 intro d
 induction d with
 | zero =>
  intro q h1 hd
  refine Ev.succ ?_
  simp only [r48_Follows.l1, rd_L1_get hi]
  refine Ev.pos (by omega) (Ev.pos (by omega) (Ev.neg (by omega) ?_))
  obtain ⟨d, rfl⟩ : ∃ d, q = l[i].length + d := ⟨q - l[i].length, by omega⟩
  rw [fol_stop]
  exact hnext
 | succ d ih =>
  intro q h1 hd
  have hq : q < l[i].length := by omega
  have hle := fol_le l[i] a b q
  have hih := ih (q + 1) (by omega) (by omega)
  rw [fol_step h1 hq] at hih
  refine Ev.succ ?_
  simp only [r48_Follows.l1, rd_L1_get hi]
  rw [wrap_pred h1 (by omega), rdOf_get hq, rdOf_get (show q - 1 < l[i].length by omega), wrap_succ (i := q) (by omega)]
  refine Ev.pos (by omega) (Ev.pos (by omega) (Ev.pos (by omega) (Ev.pos (by omega) (Ev.pos (by omega) ?_))))
  by_cases ha : (l[i][q - 1]'(by omega)).toList = a.toList
  ·refine Ev.pos ha (Ev.pos (by omega) ?_)
   by_cases hb : l[i][q].toList = b.toList
   ·rw [if_pos ⟨ha, hb⟩] at hih
    rw [wrap_succ (by omega)]
    exact Ev.pos hb hih
   ·rw [if_neg (fun h => hb h.2)] at hih
    exact Ev.neg hb hih
  ·rw [if_neg (fun h => ha h.1)] at hih
   exact Ev.neg ha hih
theorem rfol_l0 (l : List (List ByteArray)) (a b : ByteArray) (hl : l.length ≤ 80) (ht : ∀ t ∈ l, t.length ≤ 80) : ∀ (d i : Nat), i ≤ l.length → l.length - i = d → Ev (fun k => r48_Follows.l0 k l a b (folL l a b i : Int) (i : Int)) (folL l a b l.length : Int) := by
 intro d
 induction d with
 | zero =>
  intro i hi hd
  obtain rfl : i = l.length := by omega
  refine Ev.succ ?_
  simp only [r48_Follows.l0]
  exact Ev.neg (by omega) (Ev.now _)
 | succ d ih =>
  intro i hi hd
  have hlt : i < l.length := by omega
  have hle := folL_le ht a b i
  have hih := ih (i + 1) (by omega) (by omega)
  have hg : l.getD i [] = l[i] := by rw [List.getD_eq_getElem?_getD, List.getElem?_eq_getElem hlt]; rfl
  rw [folL, hg] at hih
  refine Ev.succ ?_
  simp only [r48_Follows.l0]
  refine Ev.pos (by omega) ?_
  exact rfol_l1 l a b i hlt (ht _ (List.getElem_mem hlt)) (folL l a b i) (by omega) _ (by rw [wrap_succ (by omega)]; exact hih) _ 1 (Nat.le_refl _) rfl
theorem rfollows {l : List (List ByteArray)} (h : Few l) (a b : ByteArray) : Ev (fun k => r48_Follows.f k l a b) (folL l a b l.length : Int) := rfol_l0 l a b h.len (fun t ht => (h.each t ht).1) _ 0 (by omega) rfl
theorem erelation {l : List (List ByteArray)} (h : Few l) (a b : ByteArray) : Ev (fun k => e_Relation.f k l a b) (relOf (folL l a b l.length : Int) (folL l b a l.length : Int)) :=
 Ev.bind (efollows h a b) (Ev.bind (efollows h b a) (Ev.now _))
theorem rrelation {l : List (List ByteArray)} (h : Few l) (a b : ByteArray) : Ev (fun k => r48_Relation.f k l a b) (relOf (folL l a b l.length : Int) (folL l b a l.length : Int)) :=
 Ev.bind (rfollows h a b) (Ev.bind (rfollows h b a) (Ev.now _))
end Go.Proofs.YtejchnmhlcbfcaaDoor.Logs

/- The names of a log: an ascending list. -/
namespace Go.Proofs.YtejchnmhlcbfcaaDoor.Logs
open Go.RowKit Go.Proofs.YtejchnmhlcbfcaaDoor.Pr Go.Proofs.YtejchnmhlcbfcaaDoor.Evs Go.Proofs.YtejchnmhlcbfcaaDoorW.PrintWords Go.Proofs.YtejchnmhlcbfcaaDoorW.PrintLast Go.Proofs.YtejchnmhlcbfcaaDoorW.PrintMore
set_option linter.unusedVariables false
set_option linter.unusedSimpArgs false

/-! ### the order of texts -/
theorem bl_irrefl : ∀ x : List UInt8, Op.bytesLess x x = false
 | [] => rfl
 | a :: x => by
  have h : ¬ a < a := by rw [UInt8.lt_iff_toNat_lt]; omega
  simp [Op.bytesLess, h, bl_irrefl x]
theorem bl_trans : ∀ x y z : List UInt8, Op.bytesLess x y = true → Op.bytesLess y z = true → Op.bytesLess x z = true
 | x, y, [], _, h => by cases y <;> simp [Op.bytesLess] at h
 | x, [], _ :: _, h, _ => by cases x <;> simp [Op.bytesLess] at h
 | [], _ :: _, _ :: _, _, _ => rfl
 | a :: x, b :: y, c :: z, h1, h2 => by
  simp only [Op.bytesLess, Bool.or_eq_true, Bool.and_eq_true, decide_eq_true_eq, beq_iff_eq] at h1 h2 ⊢
  rcases h1 with h1 | ⟨rfl, h1⟩ <;> rcases h2 with h2 | ⟨rfl, h2⟩
  ·left; rw [UInt8.lt_iff_toNat_lt] at *; omega
  ·exact .inl h1
  ·exact .inl h2
  ·exact .inr ⟨rfl, bl_trans x y z h1 h2⟩
theorem bl_total : ∀ x y : List UInt8, Op.bytesLess x y = false → Op.bytesLess y x = false → x = y
 | [], [], _, _ => rfl
 | [], _ :: _, h, _ => by simp [Op.bytesLess] at h
 | _ :: _, [], _, h => by simp [Op.bytesLess] at h
 | a :: x, b :: y, h1, h2 => by
  simp only [Op.bytesLess, Bool.or_eq_false_iff, decide_eq_false_iff_not] at h1 h2
  have hab : a = b := by
   rw [← UInt8.toNat_inj]
   have h3 := h1.1; have h4 := h2.1
   rw [UInt8.lt_iff_toNat_lt] at h3 h4
   omega
  subst hab
  have e1 := h1.2; have e2 := h2.2
  simp at e1 e2
  rw [bl_total x y e1 e2]
theorem less_irrefl (a : ByteArray) : lessB a a = false := bl_irrefl _
theorem less_trans {a b c : ByteArray} (h : lessB a b = true) (k : lessB b c = true) : lessB a c = true := bl_trans _ _ _ h k
theorem less_total {a b : ByteArray} (h : lessB a b = false) (k : lessB b a = false) : a = b := (bytes_eq a b).1 (bl_total _ _ h k)

/-! ### insert -/
def ins : List ByteArray → ByteArray → List ByteArray
 | [], s => [s]
 | x :: xs, s => if lessB x s = true then x :: ins xs s else if x = s then x :: xs else s :: x :: xs
theorem insS_eq : ∀ (l : List ByteArray) (s : ByteArray), insS l s = ins l s
 | [], s => by simp [insS, posS, ins]
 | x :: xs, s => by
  have ih := insS_eq xs s
  unfold insS posS at ih ⊢
  unfold ins
  cases h : lessB x s with
  | true =>
   rw [List.takeWhile_cons, if_pos h, List.length_cons, List.getElem?_cons_succ, List.take_succ_cons, List.drop_succ_cons, if_pos rfl]
   rw [← ih]
   split <;> rfl
  | false =>
   have htw : (x :: xs).takeWhile (lessB · s) = [] := by simp [List.takeWhile_cons, h]
   rw [htw]
   simp only [List.length_nil, List.getElem?_cons_zero, Option.map_some, Option.some.injEq, bytes_eq, List.take_zero, List.drop_zero, List.nil_append, Bool.false_eq_true, if_false]
theorem ins_mem : ∀ (l : List ByteArray) (s y : ByteArray), y ∈ ins l s ↔ y = s ∨ y ∈ l
 | [], s, y => by simp [ins]
 | x :: xs, s, y => by
  unfold ins
  split
  ·rw [List.mem_cons, ins_mem xs s y, List.mem_cons]
   constructor
   ·rintro (h | h | h)
    ·exact .inr (.inl h)
    ·exact .inl h
    ·exact .inr (.inr h)
   ·rintro (h | h | h)
    ·exact .inr (.inl h)
    ·exact .inl h
    ·exact .inr (.inr h)
  ·split
   ·rename_i hx
    subst hx
    simp
   ·simp
theorem ins_len : ∀ (l : List ByteArray) (s : ByteArray), (ins l s).length ≤ l.length + 1
 | [], s => by simp [ins]
 | x :: xs, s => by
  have := ins_len xs s
  unfold ins
  split
  ·simp only [List.length_cons]; omega
  ·split <;> simp
/-- Ascending. -/
def Srt (l : List ByteArray) : Prop := l.Pairwise (fun a b => lessB a b = true)
theorem ins_srt : ∀ (l : List ByteArray) (s : ByteArray), Srt l → Srt (ins l s)
 | [], s, _ => by simp [ins, Srt]
 | x :: xs, s, h => by
  obtain ⟨h1, h2⟩ := List.pairwise_cons.1 h
  unfold ins
  split
  ·rename_i hx
   refine List.pairwise_cons.2 ⟨fun y hy => ?_, ins_srt xs s h2⟩
   rcases (ins_mem xs s y).1 hy with rfl | hy
   ·exact hx
   ·exact h1 y hy
  ·rename_i hx
   split
   ·exact h
   ·rename_i hne
    have hsx : lessB s x = true := by
     cases hs : lessB s x with
     | true => rfl
     | false => exact absurd (less_total (by simpa using hx) hs) hne
    refine List.pairwise_cons.2 ⟨fun y hy => ?_, h⟩
    rcases List.mem_cons.1 hy with rfl | hy
    ·exact hsx
    ·exact less_trans hsx (h1 y hy)
theorem ins_of_mem : ∀ (l : List ByteArray) (s : ByteArray), Srt l → s ∈ l → ins l s = l
 | [], s, _, h => by simp at h
 | x :: xs, s, h, hm => by
  obtain ⟨h1, h2⟩ := List.pairwise_cons.1 h
  unfold ins
  split
  ·rename_i hx
   rcases List.mem_cons.1 hm with rfl | hm
   ·rw [less_irrefl] at hx; cases hx
   ·rw [ins_of_mem xs s h2 hm]
  ·rename_i hx
   split
   ·rfl
   ·rename_i hne
    rcases List.mem_cons.1 hm with rfl | hm
    ·exact absurd rfl hne
    ·exact absurd (h1 s hm) hx
theorem srt_nodup {l : List ByteArray} (h : Srt l) : l.Nodup := by
 refine List.Pairwise.imp ?_ h
 rintro a b hab rfl
 rw [less_irrefl] at hab; cases hab

/-! ### what the two functions 'insert' tell -/
def hasB (l : List ByteArray) (s : ByteArray) : Bool := l.any (fun x => decide (x = s))
theorem hasB_iff {l : List ByteArray} {s : ByteArray} : hasB l s = true ↔ s ∈ l := by simp [hasB]
theorem hasB_not {l : List ByteArray} {s : ByteArray} (h : ¬ s ∈ l) : hasB l s = false := by cases e : hasB l s with | false => rfl | true => exact absurd (hasB_iff.1 e) h
theorem has_l0 (l : List ByteArray) (s : ByteArray) (hl : l.length < 9223372036854775807) : ∀ (d i : Nat), i ≤ l.length → l.length - i = d → (∀ x ∈ l.take i, ¬ x = s) → Ev (fun k => r48_Has.l0 k l s (i : Int)) (hasB l s) := by
 intro d
 induction d with
 | zero =>
  intro i hi hd hno
  obtain rfl : i = l.length := by omega
  rw [List.take_length] at hno
  refine Ev.succ ?_
  simp only [r48_Has.l0]
  rw [hasB_not (fun h => hno s h rfl)]
  exact Ev.neg (by omega) (Ev.now _)
 | succ d ih =>
  intro i hi hd hno
  have hlt : i < l.length := by omega
  refine Ev.succ ?_
  simp only [r48_Has.l0]
  rw [rdOf_get hlt, wrap_succ (by omega)]
  refine Ev.pos (by omega) (Ev.pos (by omega) ?_)
  by_cases h : l[i] = s
  ·rw [hasB_iff.2 (by rw [← h]; exact List.getElem_mem hlt)]
   exact Ev.pos ((bytes_eq _ _).2 h) (Ev.now _)
  ·refine Ev.neg (fun e => h ((bytes_eq _ _).1 e)) (ih (i + 1) (by omega) (by omega) (fun x hx => ?_))
   rw [List.take_succ_eq_append_getElem hlt] at hx
   rcases List.mem_append.1 hx with hx | hx
   ·exact hno x hx
   ·rw [List.mem_singleton.1 hx]; exact h
theorem rhas (l : List ByteArray) (s : ByteArray) (hl : l.length < 9223372036854775807) : Ev (fun k => r48_Has.f k l s) (hasB l s) := has_l0 l s hl _ 0 (by omega) rfl (by simp)
theorem insert_put (l : List ByteArray) (s : ByteArray) (hl : l.length ≤ 1099511627776) : ∀ (d i : Nat), i ≤ l.length → l.length - i = d → ∀ out : List ByteArray, out.length ≤ i + 1 → Ev (fun k => r48_Insert.l0 k l s out true (i : Int)) (out ++ l.drop i) := by
 intro d
 induction d with
 | zero =>
  intro i hi hd out ho
  obtain rfl : i = l.length := by omega
  refine Ev.succ ?_
  simp only [r48_Insert.l0]
  rw [List.drop_length, List.append_nil]
  exact Ev.neg (by omega) (Ev.pos trivial (Ev.now _))
 | succ d ih =>
  intro i hi hd out ho
  have hlt : i < l.length := by omega
  have hih := ih (i + 1) (by omega) (by omega) (out ++ [l[i]]) (by simp; omega)
  rw [List.append_assoc, List.singleton_append, ← List.drop_eq_getElem_cons hlt] at hih
  refine Ev.succ ?_
  simp only [r48_Insert.l0]
  rw [rdOf_get hlt, wrap_succ (by omega)]
  exact Ev.pos (by omega) (Ev.pos trivial (Ev.pos (by omega) (Ev.pos (by omega) hih)))
theorem insert_l0 (l : List ByteArray) (s : ByteArray) (hl : l.length ≤ 1099511627776) (hs : ¬ s ∈ l) : ∀ (d i : Nat), i ≤ l.length → l.length - i = d → ∀ out : List ByteArray, out.length ≤ i → Ev (fun k => r48_Insert.l0 k l s out false (i : Int)) (out ++ ins (l.drop i) s) := by
 intro d
 induction d with
 | zero =>
  intro i hi hd out ho
  obtain rfl : i = l.length := by omega
  refine Ev.succ ?_
  simp only [r48_Insert.l0]
  rw [List.drop_length]
  exact Ev.neg (by omega) (Ev.neg (by decide) (Ev.pos (by omega) (Ev.now _)))
 | succ d ih =>
  intro i hi hd out ho
  have hlt : i < l.length := by omega
  have hne : ¬ l[i] = s := fun e => hs (by rw [← e]; exact List.getElem_mem hlt)
  refine Ev.succ ?_
  simp only [r48_Insert.l0]
  rw [rdOf_get hlt, wrap_succ (by omega), List.drop_eq_getElem_cons hlt, ins]
  refine Ev.pos (by omega) (Ev.neg (by decide) (Ev.pos (by omega) ?_))
  cases h : lessB l[i] s with
  | true =>
   have h2 : ¬ Op.bytesLess s.toList l[i].toList = true := fun h3 => by
    have := less_trans h (show lessB s l[i] = true from h3)
    rw [less_irrefl] at this; cases this
   have hih := ih (i + 1) (by omega) (by omega) (out ++ [l[i]]) (by simp; omega)
   rw [List.append_assoc, List.singleton_append] at hih
   rw [if_pos rfl]
   exact Ev.neg h2 (Ev.pos (by omega) hih)
  | false =>
   have h2 : Op.bytesLess s.toList l[i].toList = true := by
    cases h3 : Op.bytesLess s.toList l[i].toList with
    | true => rfl
    | false => exact absurd (less_total h h3) hne
   rw [if_neg (by decide), if_neg hne]
   have hp := insert_put l s hl _ (i + 1) (by omega) rfl ((out ++ [s]) ++ [l[i]]) (by simp; omega)
   have e : ((out ++ [s]) ++ [l[i]]) ++ l.drop (i + 1) = out ++ s :: l[i] :: l.drop (i + 1) := by simp
   rw [← e]
   refine Ev.pos h2 (Ev.pos (by omega) ?_)
   simp only [Option.bind_some]
   exact Ev.pos (by simp; omega) hp
theorem rinsert (l : List ByteArray) (s : ByteArray) (hl : l.length ≤ 1099511627776) (hs : Srt l) : Ev (fun k => r48_Insert.f k l s) (ins l s) := by
 unfold r48_Insert.f
 refine Ev.bind (rhas l s (by omega)) ?_
 cases e : hasB l s with
 | true => rw [ins_of_mem l s hs (hasB_iff.1 e)]; exact Ev.pos rfl (Ev.now _)
 | false =>
  have h : ¬ s ∈ l := fun h => by rw [hasB_iff.2 h] at e; cases e
  exact Ev.neg (by decide) (insert_l0 l s hl h _ 0 (by omega) rfl [] (by simp))

/-! ### Activities -/
def acts (l : List (List ByteArray)) : List ByteArray := l.foldl (fun o t => t.foldl ins o) []
theorem acts_snoc (l : List (List ByteArray)) (t : List ByteArray) : acts (l ++ [t]) = t.foldl ins (acts l) := by simp [acts]
theorem foldIns_srt : ∀ (t o : List ByteArray), Srt o → Srt (t.foldl ins o)
 | [], o, h => h
 | x :: t, o, h => foldIns_srt t _ (ins_srt o x h)
theorem foldIns_len : ∀ (t o : List ByteArray), (t.foldl ins o).length ≤ o.length + t.length
 | [], o => by simp
 | x :: t, o => by
  have h1 := foldIns_len t (ins o x)
  have h2 := ins_len o x
  rw [List.foldl_cons, List.length_cons]; omega
theorem foldIns_mem : ∀ (t o : List ByteArray) (y : ByteArray), y ∈ t.foldl ins o ↔ y ∈ t ∨ y ∈ o
 | [], o, y => by simp
 | x :: t, o, y => by
  rw [List.foldl_cons, foldIns_mem t _ y, ins_mem, List.mem_cons]
  constructor
  ·rintro (h | h | h)
   ·exact .inl (.inr h)
   ·exact .inl (.inl h)
   ·exact .inr h
  ·rintro ((h | h) | h)
   ·exact .inr (.inl h)
   ·exact .inl h
   ·exact .inr (.inr h)
theorem actsFrom_srt : ∀ (l : List (List ByteArray)) (o : List ByteArray), Srt o → Srt (l.foldl (fun o t => t.foldl ins o) o)
 | [], o, h => h
 | t :: l, o, h => actsFrom_srt l _ (foldIns_srt t o h)
theorem acts_srt (l : List (List ByteArray)) : Srt (acts l) := actsFrom_srt l [] List.Pairwise.nil
theorem actsFrom_mem : ∀ (l : List (List ByteArray)) (o : List ByteArray) (y : ByteArray), y ∈ l.foldl (fun o t => t.foldl ins o) o ↔ (∃ t ∈ l, y ∈ t) ∨ y ∈ o
 | [], o, y => by simp
 | t :: l, o, y => by
  rw [List.foldl_cons, actsFrom_mem l _ y, foldIns_mem]
  simp only [List.mem_cons, exists_eq_or_imp, or_assoc]
  constructor
  ·rintro (h | h | h)
   ·exact .inr (.inl h)
   ·exact .inl h
   ·exact .inr (.inr h)
  ·rintro (h | h | h)
   ·exact .inr (.inl h)
   ·exact .inl h
   ·exact .inr (.inr h)
theorem acts_mem (l : List (List ByteArray)) (y : ByteArray) : y ∈ acts l ↔ ∃ t ∈ l, y ∈ t := by rw [acts, actsFrom_mem]; simp
/-- A log that is no longer than what a machine reads. -/
structure Small (l : List (List ByteArray)) : Prop where
 len : l.length ≤ 1048576
 total : total l ≤ 1048576
theorem Few.small {l : List (List ByteArray)} (h : Few l) : Small l := ⟨by have := h.len; omega, by have := h.total; omega⟩
theorem total_app_cons (a : List (List ByteArray)) (t : List ByteArray) (b : List (List ByteArray)) : total (a ++ t :: b) = total a + (t.length + total b) := by simp [Logs.total]
theorem total_take_le (l : List (List ByteArray)) (i : Nat) (hi : i < l.length) : total (l.take i) + l[i].length ≤ total l := by
 have h : l = l.take i ++ l[i] :: l.drop (i + 1) := by rw [← List.drop_eq_getElem_cons hi, List.take_append_drop]
 have h2 : total (l.take i ++ l[i] :: l.drop (i + 1)) = total (l.take i) + (l[i].length + total (l.drop (i + 1))) := total_app_cons _ _ _
 have h3 := congrArg Logs.total h
 omega
theorem acts_len (l : List (List ByteArray)) : ∀ i, i ≤ l.length → (acts (l.take i)).length ≤ total (l.take i) := by
 intro i
 induction i with
 | zero => intro _; simp [acts]
 | succ i ih =>
  intro hi
  have hlt : i < l.length := by omega
  have h1 := ih (by omega)
  have h2 := foldIns_len l[i] (acts (l.take i))
  rw [List.take_succ_eq_append_getElem hlt, acts_snoc, total_snoc]; omega
theorem eact_l1 (l : List (List ByteArray)) (i : Nat) (t : List ByteArray) (ht : t.length ≤ 1048576) (o : List ByteArray) (ho : o.length ≤ 1048576) (L : Int) (R : List ByteArray)
  (hnext : Ev (fun k => e_Activities.l0 k (t.foldl ins o) l L (wrap64 ((i : Int) + 1))) R) : ∀ (d q : Nat), q ≤ t.length → t.length - q = d → Ev (fun k => e_Activities.l1 k ((t.take q).foldl ins o) l L (i : Int) t (t.length : Int) (q : Int)) R := by
 intro d
 induction d with
 | zero =>
  intro q hq hd
  obtain rfl : q = t.length := by omega
  refine Ev.succ ?_
  simp only [e_Activities.l1]
  rw [List.take_length]
  exact Ev.neg (by omega) hnext
 | succ d ih =>
  intro q hq hd
  have hlt : q < t.length := by omega
  have hih := ih (q + 1) (by omega) (by omega)
  have hln := foldIns_len (t.take q) o
  rw [List.length_take] at hln
  rw [List.take_succ_eq_append_getElem hlt, List.foldl_append] at hih
  refine Ev.succ ?_
  simp only [e_Activities.l1]
  rw [rdOf_get hlt, wrap_succ (i := q) (by omega), e_insert.f, if_pos (by omega), insS_eq]
  exact Ev.pos (by omega) (Ev.pos (by omega) (Ev.pos (by omega) hih))
theorem eact_l0 {l : List (List ByteArray)} (h : Small l) : ∀ (d i : Nat), i ≤ l.length → l.length - i = d → Ev (fun k => e_Activities.l0 k (acts (l.take i)) l (l.length : Int) (i : Int)) (acts l) := by
 have hl := h.len
 have hT := h.total
 intro d
 induction d with
 | zero =>
  intro i hi hd
  obtain rfl : i = l.length := by omega
  refine Ev.succ ?_
  simp only [e_Activities.l0]
  rw [List.take_length]
  exact Ev.neg (by omega) (Ev.now _)
 | succ d ih =>
  intro i hi hd
  have hlt : i < l.length := by omega
  have hih := ih (i + 1) (by omega) (by omega)
  have h1 := total_take_le l i hlt
  have h2 := acts_len l i (by omega)
  rw [List.take_succ_eq_append_getElem hlt, acts_snoc] at hih
  refine Ev.succ ?_
  simp only [e_Activities.l0]
  rw [rd_L1_get hlt]
  refine Ev.pos (by omega) (Ev.pos (by omega) (Ev.pos (by omega) ?_))
  exact eact_l1 l i l[i] (by omega) (acts (l.take i)) (by omega) _ _ (by rw [wrap_succ (by omega)]; exact hih) _ 0 (by omega) rfl
theorem eacts {l : List (List ByteArray)} (h : Small l) : Ev (fun k => e_Activities.f k l) (acts l) := eact_l0 h _ 0 (by omega) rfl
theorem ract_l1 (l : List (List ByteArray)) (i : Nat) (hi : i < l.length) (ht : l[i].length ≤ 1048576) (o : List ByteArray) (ho : o.length ≤ 1048576) (hs : Srt o) (R : List ByteArray)
  (hnext : Ev (fun k => r48_Activities.l0 k l (l[i].foldl ins o) (wrap64 ((i : Int) + 1))) R) : ∀ (d q : Nat), q ≤ l[i].length → l[i].length - q = d → Ev (fun k => r48_Activities.l1 k l ((l[i].take q).foldl ins o) (i : Int) (q : Int)) R := by
 intro d
 induction d with
 | zero =>
  intro q hq hd
  obtain rfl : q = l[i].length := by omega
  refine Ev.succ ?_
  simp only [r48_Activities.l1, rd_L1_get hi]
  rw [List.take_length]
  exact Ev.pos (by omega) (Ev.pos (by omega) (Ev.neg (by omega) hnext))
 | succ d ih =>
  intro q hq hd
  have hlt : q < l[i].length := by omega
  have hih := ih (q + 1) (by omega) (by omega)
  have hln := foldIns_len (l[i].take q) o
  rw [List.length_take] at hln
  rw [List.take_succ_eq_append_getElem hlt, List.foldl_append] at hih
  refine Ev.succ ?_
  simp only [r48_Activities.l1, rd_L1_get hi]
  rw [rdOf_get hlt, wrap_succ (i := q) (by omega)]
  exact Ev.pos (by omega) (Ev.pos (by omega) (Ev.pos (by omega) (Ev.pos (by omega) (Ev.bind (rinsert _ _ (by omega) (foldIns_srt _ _ hs)) hih))))
theorem ract_l0 {l : List (List ByteArray)} (h : Small l) : ∀ (d i : Nat), i ≤ l.length → l.length - i = d → Ev (fun k => r48_Activities.l0 k l (acts (l.take i)) (i : Int)) (acts l) := by
 have hl := h.len
 have hT := h.total
 intro d
 induction d with
 | zero =>
  intro i hi hd
  obtain rfl : i = l.length := by omega
  refine Ev.succ ?_
  simp only [r48_Activities.l0]
  rw [List.take_length]
  exact Ev.neg (by omega) (Ev.now _)
 | succ d ih =>
  intro i hi hd
  have hlt : i < l.length := by omega
  have hih := ih (i + 1) (by omega) (by omega)
  have h1 := total_take_le l i hlt
  have h2 := acts_len l i (by omega)
  rw [List.take_succ_eq_append_getElem hlt, acts_snoc] at hih
  refine Ev.succ ?_
  simp only [r48_Activities.l0]
  refine Ev.pos (by omega) ?_
  exact ract_l1 l i hlt (by omega) (acts (l.take i)) (by omega) (acts_srt _) _ (by rw [wrap_succ (by omega)]; exact hih) _ 0 (by omega) rfl
theorem racts {l : List (List ByteArray)} (h : Small l) : Ev (fun k => r48_Activities.f k l) (acts l) := ract_l0 h _ 0 (by omega) rfl
end Go.Proofs.YtejchnmhlcbfcaaDoor.Logs

/- The first fault of a log, and the text of a log. -/
namespace Go.Proofs.YtejchnmhlcbfcaaDoor.Logs
open Go.RowKit Go.Proofs.YtejchnmhlcbfcaaDoor.Pr Go.Proofs.YtejchnmhlcbfcaaDoor.Evs Go.Proofs.YtejchnmhlcbfcaaDoor.Names Go.Proofs.YtejchnmhlcbfcaaDoorW.PrintWords Go.Proofs.YtejchnmhlcbfcaaDoorW.PrintLast Go.Proofs.YtejchnmhlcbfcaaDoorW.PrintMore
set_option linter.unusedVariables false
set_option linter.unusedSimpArgs false

/-! ### Check -/
/-- What a log is that is not large for the statements. -/
structure Big (l : List (List ByteArray)) : Prop where
 len : l.length ≤ 80
 total : total l ≤ 800
 each : ∀ t ∈ l, t.length ≤ 400 ∧ ∀ s ∈ t, s.size ≤ 40
theorem Big.small {l : List (List ByteArray)} (h : Big l) : Small l := ⟨by have := h.len; omega, by have := h.total; omega⟩

def checkGo : List (List ByteArray) → Nat → Int × Int
 | [], _ => (0, 0)
 | t :: ts, i => if 64 < t.length then (2, (i : Int)) else if t.all nameB then checkGo ts (i + 1) else (5, (i : Int))
def checkB (l : List (List ByteArray)) : Int × Int := if 64 < l.length then (2, 0) else checkGo l 0
theorem echeck_l1 (l : List (List ByteArray)) (i : Nat) (t : List ByteArray) (ht : t.length ≤ 400) (L : Int) (R : Int × Int) (hno : t.all nameB = false → R = (5, (i : Int)))
  (hnext : t.all nameB = true → Ev (fun k => e_Check.l0 k l L (wrap64 ((i : Int) + 1))) R) : ∀ (d q : Nat), q ≤ t.length → t.length - q = d → (t.take q).all nameB = true → Ev (fun k => e_Check.l1 k (i : Int) l L (i : Int) t (t.length : Int) (q : Int)) R := by
 intro d
 induction d with
 | zero =>
  intro q hq hd hok
  obtain rfl : q = t.length := by omega
  rw [List.take_length] at hok
  refine Ev.succ ?_
  simp only [e_Check.l1]
  exact Ev.neg (by omega) (hnext hok)
 | succ d ih =>
  intro q hq hd hok
  have hlt : q < t.length := by omega
  refine Ev.succ ?_
  simp only [e_Check.l1]
  refine Ev.pos (by omega) (Ev.pos (by omega) (Ev.pos (by omega) ?_))
  rw [rdOf_get hlt, wrap_succ (i := q) (by omega)]
  simp only [e_Name.f, Option.bind_some]
  cases hn : nameB t[q] with
  | true => exact Ev.pos rfl (ih (q + 1) (by omega) (by omega) (by rw [List.take_succ_eq_append_getElem hlt, List.all_append, hok]; simp [hn]))
  | false =>
   have hall : t.all nameB = false := by rw [List.all_eq_false]; exact ⟨_, List.getElem_mem hlt, by simp [hn]⟩
   rw [hno hall]
   exact Ev.neg (by decide) (Ev.now _)
theorem echeck_l0 (l : List (List ByteArray)) (hl : l.length ≤ 80) (ht : ∀ t ∈ l, t.length ≤ 400) : ∀ (d i : Nat), i ≤ l.length → l.length - i = d → Ev (fun k => e_Check.l0 k l (l.length : Int) (i : Int)) (checkGo (l.drop i) i) := by
 intro d
 induction d with
 | zero =>
  intro i hi hd
  obtain rfl : i = l.length := by omega
  refine Ev.succ ?_
  simp only [e_Check.l0]
  rw [List.drop_length]
  exact Ev.neg (by omega) (Ev.now _)
 | succ d ih =>
  intro i hi hd
  have hlt : i < l.length := by omega
  refine Ev.succ ?_
  simp only [e_Check.l0]
  rw [List.drop_eq_getElem_cons hlt, rd_L1_get hlt, checkGo]
  refine Ev.pos (by omega) (Ev.pos (by omega) (Ev.pos (by omega) ?_))
  by_cases h64 : 64 < l[i].length
  ·rw [if_pos h64]; exact Ev.pos (by omega) (Ev.now _)
  ·rw [if_neg h64]
   refine Ev.neg (by omega) ?_
   refine echeck_l1 l i l[i] (ht _ (List.getElem_mem hlt)) _ _ (fun h => by rw [h]; rfl) (fun h => ?_) _ 0 (by omega) rfl rfl
   rw [if_pos h, wrap_succ (by omega)]
   exact ih (i + 1) (by omega) (by omega)
theorem echeck {l : List (List ByteArray)} (h : Big l) : Ev (fun k => e_Check.f k l) (checkB l) := by
 unfold e_Check.f checkB
 by_cases h64 : 64 < l.length
 ·rw [if_pos h64]; exact Ev.pos (by omega) (Ev.now _)
 ·rw [if_neg h64]; exact Ev.neg (by omega) (echeck_l0 l h.len (fun t ht => (h.each t ht).1) _ 0 (by omega) rfl)
theorem rcheck_l1 (l : List (List ByteArray)) (i : Nat) (hi : i < l.length) (ht : l[i].length ≤ 400) (hs : ∀ s ∈ l[i], s.size ≤ 40) (R : Int × Int) (hno : l[i].all nameB = false → R = (5, (i : Int)))
  (hnext : l[i].all nameB = true → Ev (fun k => r48_Check.l0 k l (wrap64 ((i : Int) + 1))) R) : ∀ (d q : Nat), q ≤ l[i].length → l[i].length - q = d → (l[i].take q).all nameB = true → Ev (fun k => r48_Check.l1 k l (i : Int) (q : Int)) R := by
 intro d
 induction d with
 | zero =>
  intro q hq hd hok
  obtain rfl : q = l[i].length := by omega
  rw [List.take_length] at hok
  refine Ev.succ ?_
  simp only [r48_Check.l1, rd_L1_get hi]
  exact Ev.pos (by omega) (Ev.pos (by omega) (Ev.neg (by omega) (hnext hok)))
 | succ d ih =>
  intro q hq hd hok
  have hlt : q < l[i].length := by omega
  refine Ev.succ ?_
  simp only [r48_Check.l1, rd_L1_get hi]
  refine Ev.pos (by omega) (Ev.pos (by omega) (Ev.pos (by omega) (Ev.pos (by omega) ?_)))
  rw [rdOf_get hlt, wrap_succ (i := q) (by omega)]
  refine Ev.bind (rname l[i][q] (by have := hs _ (List.getElem_mem hlt); omega)) ?_
  cases hn : nameB l[i][q] with
  | true => exact Ev.pos rfl (ih (q + 1) (by omega) (by omega) (by rw [List.take_succ_eq_append_getElem hlt, List.all_append, hok]; simp [hn]))
  | false =>
   have hall : l[i].all nameB = false := by rw [List.all_eq_false]; exact ⟨_, List.getElem_mem hlt, by simp [hn]⟩
   rw [hno hall]
   exact Ev.neg (by decide) (Ev.now _)
theorem rcheck_l0 (l : List (List ByteArray)) (hl : l.length ≤ 80) (ht : ∀ t ∈ l, t.length ≤ 400 ∧ ∀ s ∈ t, s.size ≤ 40) : ∀ (d i : Nat), i ≤ l.length → l.length - i = d → Ev (fun k => r48_Check.l0 k l (i : Int)) (checkGo (l.drop i) i) := by
 intro d
 induction d with
 | zero =>
  intro i hi hd
  obtain rfl : i = l.length := by omega
  refine Ev.succ ?_
  simp only [r48_Check.l0]
  rw [List.drop_length]
  exact Ev.neg (by omega) (Ev.now _)
 | succ d ih =>
  intro i hi hd
  have hlt : i < l.length := by omega
  have hti := ht _ (List.getElem_mem hlt)
  refine Ev.succ ?_
  simp only [r48_Check.l0]
  rw [List.drop_eq_getElem_cons hlt, rd_L1_get hlt, checkGo]
  refine Ev.pos (by omega) (Ev.pos (by omega) ?_)
  by_cases h64 : 64 < l[i].length
  ·rw [if_pos h64]; exact Ev.pos (by omega) (Ev.now _)
  ·rw [if_neg h64]
   refine Ev.neg (by omega) ?_
   refine rcheck_l1 l i hlt hti.1 hti.2 _ (fun h => by rw [h]; rfl) (fun h => ?_) _ 0 (by omega) rfl rfl
   rw [if_pos h, wrap_succ (by omega)]
   exact ih (i + 1) (by omega) (by omega)
theorem rcheck {l : List (List ByteArray)} (h : Big l) : Ev (fun k => r48_Check.f k l) (checkB l) := by
 unfold r48_Check.f checkB
 by_cases h64 : 64 < l.length
 ·rw [if_pos h64]; exact Ev.pos (by omega) (Ev.now _)
 ·rw [if_neg h64]; exact Ev.neg (by omega) (rcheck_l0 l h.len h.each _ 0 (by omega) rfl)

/-- A log without a fault is few. -/
theorem checkGo_few : ∀ (l : List (List ByteArray)) (i : Nat), (checkGo l i).1 = 0 → ∀ t ∈ l, t.length ≤ 64
 | [], _, _, _, h => by simp at h
 | t :: ts, i, h, x, hx => by
  unfold checkGo at h
  by_cases h64 : 64 < t.length
  ·rw [if_pos h64] at h; simp at h
  ·rw [if_neg h64] at h
   cases hn : t.all nameB with
   | false => rw [hn] at h; simp at h
   | true =>
    rw [hn] at h
    rcases List.mem_cons.1 hx with rfl | hx
    ·omega
    ·exact checkGo_few ts (i + 1) h x hx
theorem check_few {l : List (List ByteArray)} (h : Big l) (hc : (checkB l).1 = 0) : Few l := by
 unfold checkB at hc
 by_cases h64 : 64 < l.length
 ·rw [if_pos h64] at hc; simp at hc
 ·rw [if_neg h64] at hc
  exact ⟨h.len, h.total, fun t ht => ⟨by have := checkGo_few l 0 hc t ht; omega, (h.each t ht).2⟩⟩
end Go.Proofs.YtejchnmhlcbfcaaDoor.Logs

/- The footprint of a log, as the program and the reference tell it. -/
namespace Go.Proofs.YtejchnmhlcbfcaaDoor.Feet
open Go.RowKit Go.Proofs.YtejchnmhlcbfcaaDoor.Pr Go.Proofs.YtejchnmhlcbfcaaDoor.Evs Go.Proofs.YtejchnmhlcbfcaaDoor.Logs Go.Proofs.YtejchnmhlcbfcaaDoor.Names Go.Proofs.YtejchnmhlcbfcaaDoorW.PrintWords Go.Proofs.YtejchnmhlcbfcaaDoorW.PrintLast Go.Proofs.YtejchnmhlcbfcaaDoorW.PrintMore
set_option linter.unusedVariables false
set_option linter.unusedSimpArgs false

theorem rd_get {l : List Int} {i : Nat} (h : i < l.length) : rd l (i : Int) = l[i] := by simp [rd, h]
theorem rd_L {l : List (List Int)} {i : Nat} (h : i < l.length) : rd_L5 l (i : Int) = l[i] := by simp [rd_L5, h]
/-! ### Large -/
def LogZ (l : List (List ByteArray)) : Prop := l.length ≤ 8796093022208 ∧ ∀ t ∈ l, t.length ≤ 8796093022208 ∧ ∀ s ∈ t, s.size ≤ 140737488351232
theorem large_l1 (l : List (List ByteArray)) (i : Nat) (hi : i < l.length) (hl : l.length ≤ 70) (hm : l[i].length ≤ 8796093022208) (n : Int) (p : Prop)
  (hnext : ∃ b, Ev (fun k => r49_Large.l0 k l n ((i + 1 : Nat) : Int)) b ∧ (b = false → p)) : ∀ (d q : Nat), q ≤ l[i].length → l[i].length - q = d → ∃ b, Ev (fun k => r49_Large.l1 k l n (i : Int) (q : Int)) b ∧ (b = false → (∀ s ∈ l[i].drop q, s.size ≤ 40) ∧ p) := by
 intro d
 induction d with
 | zero =>
  intro q hq hd
  obtain rfl : q = l[i].length := by omega
  obtain ⟨b, hb, hp⟩ := hnext
  refine ⟨b, Ev.succ ?_, fun h => ⟨by rw [List.drop_length]; simp, hp h⟩⟩
  simp only [r49_Large.l1, rd_L1_get hi]
  refine Ev.pos (by omega) (Ev.pos (by omega) (Ev.neg (by omega) ?_))
  rw [wrap_succ (by omega)]
  exact hb
 | succ d ih =>
  intro q hq hd
  have hlt : q < l[i].length := by omega
  by_cases h40 : (l[i][q].size : Int) > 40
  ·refine ⟨true, Ev.succ ?_, fun h => by cases h⟩
   simp only [r49_Large.l1, rd_L1_get hi, rdOf_get hlt]
   exact Ev.pos (by omega) (Ev.pos (by omega) (Ev.pos (by omega) (Ev.pos (by omega) (Ev.pos h40 (Ev.now _)))))
  ·obtain ⟨b, hb, hp⟩ := ih (q + 1) (by omega) (by omega)
   refine ⟨b, Ev.succ ?_, fun h => ⟨fun s hs => ?_, (hp h).2⟩⟩
   ·simp only [r49_Large.l1, rd_L1_get hi, rdOf_get hlt]
    refine Ev.pos (by omega) (Ev.pos (by omega) (Ev.pos (by omega) (Ev.pos (by omega) (Ev.neg h40 ?_))))
    rw [wrap_succ (by omega)]
    exact hb
   ·rw [List.drop_eq_getElem_cons hlt] at hs
    rcases List.mem_cons.1 hs with rfl | hs
    ·omega
    ·exact (hp h).1 s hs
theorem total_le {l : List (List ByteArray)} {t : List ByteArray} (h : t ∈ l) : t.length ≤ Logs.total l := by
 obtain ⟨a, b, rfl⟩ := List.append_of_mem h
 rw [total_app_cons]; omega
theorem large4 (l : List (List ByteArray)) (hl : LogZ l) : ∃ b, Ev (fun k => r49_Large.f k l) b ∧ (b = false → Big l ∧ Logs.total l ≤ 400) := by
 unfold r49_Large.f
 by_cases h70 : (l.length : Int) > 70
 ·exact ⟨true, Ev.pos h70 (Ev.now _), fun h => by cases h⟩
 ·have l0 : ∀ d i, l.length - i = d → i ≤ l.length → Logs.total (l.take i) ≤ i * 8796093022208 → ∃ b, Ev (fun k => r49_Large.l0 k l (Logs.total (l.take i) : Int) (i : Int)) b ∧ (b = false → (∀ t ∈ l.drop i, ∀ s ∈ t, s.size ≤ 40) ∧ Logs.total l ≤ 400) := by
   intro d
   induction d with
   | zero =>
    intro i hd hi hT
    obtain rfl : i = l.length := by omega
    refine ⟨decide ((Logs.total l : Int) > 400), Ev.succ ?_, fun h => ⟨by rw [List.drop_length]; simp, ?_⟩⟩
    ·simp only [r49_Large.l0]
     rw [List.take_length]
     exact Ev.neg (by omega) (Ev.now _)
    ·have := of_decide_eq_false h; omega
   | succ d ih =>
    intro i hd hi hT
    have hlt : i < l.length := by omega
    have hm := (hl.2 _ (List.getElem_mem hlt)).1
    have hsn : Logs.total (l.take (i + 1)) = Logs.total (l.take i) + l[i].length := by rw [List.take_succ_eq_append_getElem hlt, total_snoc]
    have hT2 : Logs.total (l.take (i + 1)) ≤ (i + 1) * 8796093022208 := by rw [hsn, Nat.add_mul, Nat.one_mul]; omega
    obtain ⟨b, hb, hp⟩ := large_l1 l i hlt (by omega) hm (Logs.total (l.take (i + 1)) : Int) _ (ih (i + 1) (by omega) (by omega) hT2) _ 0 (by omega) rfl
    refine ⟨b, Ev.succ ?_, fun h => ⟨fun t ht => ?_, (hp h).2.2⟩⟩
    ·simp only [r49_Large.l0, rd_L1_get hlt]
     have hw : wrap64 ((Logs.total (l.take i) : Int) + (l[i].length : Int)) = (Logs.total (l.take (i + 1)) : Int) := by
      rw [hsn]; unfold wrap64; omega
     rw [hw]
     exact Ev.pos (by omega) (Ev.pos (by omega) hb)
    ·rw [List.drop_eq_getElem_cons hlt] at ht
     rcases List.mem_cons.1 ht with rfl | ht
     ·exact fun s hs => (hp h).1 s (by rw [List.drop_zero]; exact hs)
     ·exact (hp h).2.1 t ht
  obtain ⟨b, hb, hp⟩ := l0 _ 0 rfl (by omega) (by simp [Logs.total])
  refine ⟨b, Ev.neg h70 hb, fun h => ⟨⟨by omega, by have := (hp h).2; omega, fun t ht => ⟨?_, (hp h).1 t ht⟩⟩, (hp h).2⟩⟩
  have := total_le ht
  have := (hp h).2
  omega

theorem large (l : List (List ByteArray)) (hl : LogZ l) : ∃ b, Ev (fun k => r49_Large.f k l) b ∧ (b = false → Big l) := by
 obtain ⟨b, hb, h⟩ := large4 l hl
 exact ⟨b, hb, fun e => (h e).1⟩

/-! ### the footprint -/
def relL (l : List (List ByteArray)) (a b : ByteArray) : Int := relOf (folL l a b l.length : Int) (folL l b a l.length : Int)
def rowL (l : List (List ByteArray)) (ns : List ByteArray) (a : ByteArray) : List Int := ns.map (relL l a)
def matL (l : List (List ByteArray)) (ns : List ByteArray) : List (List Int) := ns.map (rowL l ns)
def footB (l : List (List ByteArray)) : List (List Int) × Int :=
 if (checkB l).1 = 0 then (if (acts l).length = 0 then ([], 19) else if 12 < (acts l).length then ([], 2) else (matL l (acts l), 0)) else ([], (checkB l).1)
theorem rowL_len (l : List (List ByteArray)) (ns : List ByteArray) (a : ByteArray) : (rowL l ns a).length = ns.length := by simp [rowL]
theorem rowL_get (l : List (List ByteArray)) (ns : List ByteArray) (a : ByteArray) {j : Nat} (h : j < ns.length) : (rowL l ns a)[j]'(by rw [rowL_len]; exact h) = relL l a ns[j] := by simp [rowL]
theorem set_mid {α : Type} (A : List α) (x y : α) (B : List α) : (A ++ x :: B).set A.length y = A ++ y :: B := by simp
theorem get_mid (A : List (List Int)) (x : List Int) (B : List (List Int)) : rd_L5 (A ++ x :: B) (A.length : Int) = x := by simp [rd_L5]
theorem efoot_l1 {l : List (List ByteArray)} (h : Few l) (ns : List ByteArray) (hn : ns.length ≤ 12) (A B : List (List Int)) (hi : A.length < ns.length) (R : List (List Int) × Int)
  (hnext : Ev (fun k => d_Footprint.l0 k l ns (A ++ rowL l ns ns[A.length] :: B) ns (ns.length : Int) ((A.length + 1 : Nat) : Int)) R) :
  ∀ (d j : Nat), j ≤ ns.length → ns.length - j = d → Ev (fun k => d_Footprint.l1 k l ns (A ++ (rowL l ns ns[A.length]).take j :: B) (A.length : Int) ns[A.length] ns (ns.length : Int) (A.length : Int) ns (ns.length : Int) (j : Int)) R := by
 intro d
 induction d with
 | zero =>
  intro j hj hd
  obtain rfl : j = ns.length := by omega
  refine Ev.succ ?_
  simp only [d_Footprint.l1]
  rw [List.take_of_length_le (by rw [rowL_len]; omega), wrap_succ (i := A.length) (by omega)]
  exact Ev.neg (by omega) hnext
 | succ d ih =>
  intro j hj hd
  have hlt : j < ns.length := by omega
  have hrl : j < (rowL l ns ns[A.length]).length := by rw [rowL_len]; exact hlt
  have hih := ih (j + 1) (by omega) (by omega)
  refine Ev.succ ?_
  simp only [d_Footprint.l1]
  rw [get_mid, rdOf_get hlt, Int.toNat_natCast, wrap_succ (i := j) (by omega)]
  refine Ev.pos (by omega) (Ev.pos (by omega) (Ev.pos (by omega) (Ev.pos (by omega) (Ev.pos (by simp only [List.length_append, List.length_cons]; omega) ?_))))
  refine Ev.bind (erelation h ns[A.length] ns[j]) ?_
  rw [set_mid]
  refine Ev.pos (by rw [List.length_take]; omega) ?_
  rw [List.take_succ_eq_append_getElem hrl, rowL_get l ns _ hlt] at hih
  exact hih
theorem efoot_l0 {l : List (List ByteArray)} (h : Few l) (ns : List ByteArray) (hn : ns.length ≤ 12) :
  ∀ (d i : Nat), i ≤ ns.length → ns.length - i = d → Ev (fun k => d_Footprint.l0 k l ns ((matL l ns).take i ++ List.replicate (ns.length - i) []) ns (ns.length : Int) (i : Int)) (matL l ns, 0) := by
 intro d
 induction d with
 | zero =>
  intro i hi hd
  obtain rfl : i = ns.length := by omega
  refine Ev.succ ?_
  simp only [d_Footprint.l0]
  rw [Nat.sub_self, List.replicate_zero, List.append_nil, List.take_of_length_le (by simp [matL])]
  exact Ev.neg (by omega) (Ev.now _)
 | succ d ih =>
  intro i hi hd
  have hlt : i < ns.length := by omega
  have hml : i < (matL l ns).length := by simp [matL]; exact hlt
  have hA : ((matL l ns).take i).length = i := by rw [List.length_take]; omega
  have hih := ih (i + 1) (by omega) (by omega)
  refine Ev.succ ?_
  simp only [d_Footprint.l0]
  rw [rdOf_get hlt]
  refine Ev.pos (by omega) (Ev.pos (by omega) (Ev.pos (by omega) ?_))
  have hg : (matL l ns)[i] = rowL l ns ns[i] := by simp [matL]
  rw [List.take_succ_eq_append_getElem hml, hg, List.append_assoc, List.singleton_append] at hih
  have hrep : List.replicate (ns.length - i) ([] : List Int) = [] :: List.replicate (ns.length - (i + 1)) [] := by
   rw [show ns.length - i = (ns.length - (i + 1)) + 1 by omega, List.replicate_succ]
  rw [hrep]
  have := efoot_l1 h ns hn ((matL l ns).take i) (List.replicate (ns.length - (i + 1)) []) (by rw [hA]; exact hlt) (matL l ns, 0)
  simp only [hA] at this
  exact this hih _ 0 (by omega) rfl
theorem efoot {l : List (List ByteArray)} (h : Big l) : Ev (fun k => d_Footprint.f k l) (footB l) := by
 have hT := h.total
 unfold d_Footprint.f footB
 refine Ev.bind (echeck h) ?_
 by_cases hc : (checkB l).1 = 0
 ·rw [if_pos hc]
  refine Ev.pos hc (Ev.bind (eacts h.small) ?_)
  by_cases h0 : (acts l).length = 0
  ·rw [if_pos h0]; exact Ev.pos (by omega) (Ev.now _)
  ·rw [if_neg h0]
   refine Ev.neg (by omega) ?_
   by_cases h12 : 12 < (acts l).length
   ·rw [if_pos h12]; exact Ev.pos (by omega) (Ev.now _)
   ·rw [if_neg h12]
    refine Ev.neg (by omega) (Ev.pos (by omega) (Ev.pos (by rw [Int.toNat_natCast]; omega) ?_))
    have := efoot_l0 (check_few h hc) (acts l) (by omega) _ 0 (by omega) rfl
    rw [Int.toNat_natCast]
    simpa using this
 ·rw [if_neg hc]
  exact Ev.neg hc (Ev.now _)
theorem rfoot_l1 {l : List (List ByteArray)} (h : Few l) (ns : List ByteArray) (hn : ns.length ≤ 12) (A : List (List Int)) (hi : A.length < ns.length) (R : List (List Int) × Int)
  (hnext : Ev (fun k => r49_Footprint.l0 k l ns (A ++ [rowL l ns ns[A.length]]) ((A.length + 1 : Nat) : Int)) R) :
  ∀ (d j : Nat), j ≤ ns.length → ns.length - j = d → Ev (fun k => r49_Footprint.l1 k l ns A (A.length : Int) ((rowL l ns ns[A.length]).take j) (j : Int)) R := by
 intro d
 induction d with
 | zero =>
  intro j hj hd
  obtain rfl : j = ns.length := by omega
  refine Ev.succ ?_
  simp only [r49_Footprint.l1]
  rw [List.take_of_length_le (by rw [rowL_len]; omega), wrap_succ (i := A.length) (by omega)]
  exact Ev.neg (by omega) (Ev.pos (by omega) hnext)
 | succ d ih =>
  intro j hj hd
  have hlt : j < ns.length := by omega
  have hrl : j < (rowL l ns ns[A.length]).length := by rw [rowL_len]; exact hlt
  have hih := ih (j + 1) (by omega) (by omega)
  refine Ev.succ ?_
  simp only [r49_Footprint.l1]
  rw [rdOf_get hlt, rdOf_get hi, wrap_succ (i := j) (by omega)]
  refine Ev.pos (by omega) (Ev.pos (by omega) (Ev.pos (by omega) (Ev.pos (by omega) ?_)))
  refine Ev.bind (rrelation h ns[A.length] ns[j]) (Ev.pos (by rw [List.length_take]; omega) ?_)
  rw [List.take_succ_eq_append_getElem hrl, rowL_get l ns _ hlt] at hih
  exact hih
theorem rfoot_l0 {l : List (List ByteArray)} (h : Few l) (ns : List ByteArray) (hn : ns.length ≤ 12) :
  ∀ (d i : Nat), i ≤ ns.length → ns.length - i = d → Ev (fun k => r49_Footprint.l0 k l ns ((matL l ns).take i) (i : Int)) (matL l ns, 0) := by
 intro d
 induction d with
 | zero =>
  intro i hi hd
  obtain rfl : i = ns.length := by omega
  refine Ev.succ ?_
  simp only [r49_Footprint.l0]
  rw [List.take_of_length_le (by simp [matL])]
  exact Ev.neg (by omega) (Ev.now _)
 | succ d ih =>
  intro i hi hd
  have hlt : i < ns.length := by omega
  have hml : i < (matL l ns).length := by simp [matL]; exact hlt
  have hA : ((matL l ns).take i).length = i := by rw [List.length_take]; omega
  have hih := ih (i + 1) (by omega) (by omega)
  refine Ev.succ ?_
  simp only [r49_Footprint.l0]
  refine Ev.pos (by omega) ?_
  have hg : (matL l ns)[i] = rowL l ns ns[i] := by simp [matL]
  rw [List.take_succ_eq_append_getElem hml, hg] at hih
  have := rfoot_l1 h ns hn ((matL l ns).take i) (by rw [hA]; exact hlt) (matL l ns, 0)
  simp only [hA] at this
  exact this hih _ 0 (by omega) rfl
theorem rfoot {l : List (List ByteArray)} (h : Big l) : Ev (fun k => r49_Footprint.f k l) (footB l) := by
 have hT := h.total
 unfold r49_Footprint.f footB
 refine Ev.bind (rcheck h) ?_
 by_cases hc : (checkB l).1 = 0
 ·rw [if_pos hc]
  refine Ev.pos hc (Ev.bind (racts h.small) ?_)
  by_cases h0 : (acts l).length = 0
  ·rw [if_pos h0]; exact Ev.pos (by omega) (Ev.now _)
  ·rw [if_neg h0]
   refine Ev.neg (by omega) ?_
   by_cases h12 : 12 < (acts l).length
   ·rw [if_pos h12]; exact Ev.pos (by omega) (Ev.now _)
   ·rw [if_neg h12]
    refine Ev.neg (by omega) ?_
    have := rfoot_l0 (check_few h hc) (acts l) (by omega) _ 0 (by omega) rfl
    simpa using this
 ·rw [if_neg hc]
  exact Ev.neg hc (Ev.now _)
theorem foot_len {l : List (List ByteArray)} (h : (footB l).2 = 0) : (footB l).1.length = (acts l).length := by
 unfold footB at h ⊢
 split at h
 ·split at h
  ·simp at h
  ·split at h
   ·simp at h
   ·rename_i h1 h2 h3
    rw [if_pos h1, if_neg h2, if_neg h3]; simp [matL]
 ·rename_i h1; exact absurd h h1
end Go.Proofs.YtejchnmhlcbfcaaDoor.Feet

/- First and last activities of a log, as the program lists them; a log and its reverse. -/
namespace Go.Proofs.YtejchnmhlcbfcaaDoor.Feet
open Go.RowKit Go.Proofs.YtejchnmhlcbfcaaDoor.Pr Go.Proofs.YtejchnmhlcbfcaaDoor.Evs Go.Proofs.YtejchnmhlcbfcaaDoor.Logs Go.Proofs.YtejchnmhlcbfcaaDoor.Names Go.Proofs.YtejchnmhlcbfcaaDoorW.PrintWords Go.Proofs.YtejchnmhlcbfcaaDoorW.PrintLast Go.Proofs.YtejchnmhlcbfcaaDoorW.PrintMore
set_option linter.unusedVariables false
set_option linter.unusedSimpArgs false

/-- The names that g takes out of the traces, in order and once each. -/
def sel (g : List ByteArray → Option ByteArray) (l : List (List ByteArray)) : List ByteArray := (l.filterMap g).foldl ins []
theorem sel_srt (g : List ByteArray → Option ByteArray) (l : List (List ByteArray)) : Srt (sel g l) := foldIns_srt _ _ List.Pairwise.nil
theorem sel_len (g : List ByteArray → Option ByteArray) (l : List (List ByteArray)) : (sel g l).length ≤ l.length := by
 have h1 := foldIns_len (l.filterMap g) []
 have h2 := List.length_filterMap_le g l
 simp at h1
 unfold sel; omega
theorem sel_none {g : List ByteArray → Option ByteArray} {l : List (List ByteArray)} {t : List ByteArray} (h : g t = none) : sel g (l ++ [t]) = sel g l := by
 simp [sel, List.filterMap_append, h]
theorem sel_some {g : List ByteArray → Option ByteArray} {l : List (List ByteArray)} {t : List ByteArray} {x : ByteArray} (h : g t = some x) : sel g (l ++ [t]) = ins (sel g l) x := by
 simp [sel, List.filterMap_append, h]
theorem insert_ev {o : List ByteArray} {s : ByteArray} (h : o.length ≤ 1048576) : e_insert.f o s = some (ins o s) := by
 unfold e_insert.f
 rw [if_pos (by omega), insS_eq]
theorem efirst_l0 {l : List (List ByteArray)} (h : Small l) : ∀ d i, i ≤ l.length → l.length - i = d → Ev (fun k => e_First.l0 k (sel List.head? (l.take i)) l (l.length : Int) (i : Int)) (sel List.head? l) := by
 have hl := h.len
 intro d
 induction d with
 | zero =>
  intro i hi hd
  obtain rfl : i = l.length := by omega
  refine Ev.succ ?_
  simp only [e_First.l0]
  rw [List.take_length]
  exact Ev.neg (by omega) (Ev.now _)
 | succ d ih =>
  intro i hi hd
  have hlt : i < l.length := by omega
  have hih := ih (i + 1) (by omega) (by omega)
  rw [List.take_succ_eq_append_getElem hlt] at hih
  have hsl := sel_len List.head? (l.take i)
  rw [List.length_take] at hsl
  refine Ev.succ ?_
  simp only [e_First.l0, rd_L1_get hlt]
  rw [wrap_succ (i := i) (by omega)]
  refine Ev.pos (by omega) (Ev.pos (by omega) (Ev.pos (by omega) ?_))
  by_cases h0 : 0 < l[i].length
  ·have e : List.head? l[i] = some l[i][0] := by rw [List.head?_eq_getElem?, List.getElem?_eq_getElem h0]
   rw [sel_some e] at hih
   have hr : rdOf ByteArray.empty l[i] 0 = l[i][0] := rdOf_get (i := 0) h0
   refine Ev.pos (by omega) (Ev.pos (by omega) ?_)
   rw [hr, insert_ev (by omega)]
   exact hih
  ·have e : List.head? l[i] = none := by rw [List.head?_eq_getElem?, List.getElem?_eq_none (by omega)]
   rw [sel_none e] at hih
   exact Ev.neg (by omega) hih
theorem efirst {l : List (List ByteArray)} (h : Small l) : Ev (fun k => e_First.f k l) (sel List.head? l) := efirst_l0 h _ 0 (by omega) rfl
theorem elast_l0 {l : List (List ByteArray)} (h : Small l) (ht : ∀ t ∈ l, t.length ≤ 1048576) : ∀ d i, i ≤ l.length → l.length - i = d → Ev (fun k => e_Last.l0 k (sel List.getLast? (l.take i)) l (l.length : Int) (i : Int)) (sel List.getLast? l) := by
 have hl := h.len
 intro d
 induction d with
 | zero =>
  intro i hi hd
  obtain rfl : i = l.length := by omega
  refine Ev.succ ?_
  simp only [e_Last.l0]
  rw [List.take_length]
  exact Ev.neg (by omega) (Ev.now _)
 | succ d ih =>
  intro i hi hd
  have hlt : i < l.length := by omega
  have hti := ht _ (List.getElem_mem hlt)
  have hih := ih (i + 1) (by omega) (by omega)
  rw [List.take_succ_eq_append_getElem hlt] at hih
  have hsl := sel_len List.getLast? (l.take i)
  rw [List.length_take] at hsl
  refine Ev.succ ?_
  simp only [e_Last.l0, rd_L1_get hlt]
  rw [wrap_succ (i := i) (by omega)]
  refine Ev.pos (by omega) (Ev.pos (by omega) (Ev.pos (by omega) ?_))
  by_cases h0 : 0 < l[i].length
  ·have e : List.getLast? l[i] = some (l[i][l[i].length - 1]'(by omega)) := by rw [List.getLast?_eq_getElem?, List.getElem?_eq_getElem (by omega)]
   rw [sel_some e] at hih
   rw [wrap_pred (q := l[i].length) (by omega) (by omega), rdOf_get (show l[i].length - 1 < l[i].length by omega)]
   refine Ev.pos (by omega) (Ev.pos (by omega) (Ev.pos (by omega) ?_))
   rw [insert_ev (by omega)]
   exact hih
  ·have e : List.getLast? l[i] = none := by rw [List.getLast?_eq_getElem?, List.getElem?_eq_none (by omega)]
   rw [sel_none e] at hih
   exact Ev.neg (by omega) hih
theorem elast {l : List (List ByteArray)} (h : Small l) (ht : ∀ t ∈ l, t.length ≤ 1048576) : Ev (fun k => e_Last.f k l) (sel List.getLast? l) := elast_l0 h ht _ 0 (by omega) rfl
theorem eamong_l0 (l : List ByteArray) (s : ByteArray) (hl : l.length ≤ 1048576) : ∀ d i, i ≤ l.length → l.length - i = d → (∀ x ∈ l.take i, x ≠ s) → Ev (fun k => d_among.l0 k s l (l.length : Int) (i : Int)) (hasB l s) := by
 intro d
 induction d with
 | zero =>
  intro i hi hd hno
  obtain rfl : i = l.length := by omega
  refine Ev.succ ?_
  simp only [d_among.l0]
  rw [List.take_length] at hno
  exact Ev.neg (by omega) (Ev.val (hasB_not fun h => hno s h rfl).symm)
 | succ d ih =>
  intro i hi hd hno
  have hlt : i < l.length := by omega
  refine Ev.succ ?_
  simp only [d_among.l0, rdOf_get hlt]
  rw [wrap_succ (i := i) (by omega)]
  refine Ev.pos (by omega) (Ev.pos (by omega) (Ev.pos (by omega) ?_))
  by_cases e : l[i] = s
  ·exact Ev.pos ((bytes_eq _ _).2 e) (Ev.val (hasB_iff.2 (e ▸ List.getElem_mem hlt)).symm)
  ·refine Ev.neg (fun h => e ((bytes_eq _ _).1 h)) (ih (i + 1) (by omega) (by omega) fun x hx => ?_)
   rw [List.take_succ_eq_append_getElem hlt, List.mem_append, List.mem_singleton] at hx
   rcases hx with hx | rfl
   ·exact hno x hx
   ·exact e
theorem eamong (l : List ByteArray) (s : ByteArray) (hl : l.length ≤ 1048576) : Ev (fun k => d_among.f k l s) (hasB l s) := eamong_l0 l s hl _ 0 (by omega) rfl (by simp)
end Go.Proofs.YtejchnmhlcbfcaaDoor.Feet

/- What the reference's bits and sets answer (chapter 49). -/
namespace Go.Proofs.YtejchnmhlcbfcaaDoor.Sets
open Go.RowKit Go.Proofs.YtejchnmhlcbfcaaDoor.Evs Go.Proofs.YtejchnmhlcbfcaaDoor.Pr Go.Proofs.YtejchnmhlcbfcaaDoor.Bits Go.Proofs.YtejchnmhlcbfcaaDoorW.PrintWords Go.Proofs.YtejchnmhlcbfcaaDoorW.PrintLast Go.Proofs.YtejchnmhlcbfcaaDoorW.PrintMore
set_option linter.unusedVariables false
set_option linter.unusedSimpArgs false

/-- The numbers below k. -/
def allTo : Nat → BitVec 64
 | 0 => 0#64
 | k + 1 => allTo k ||| tp k
theorem allTo_bit (k i : Nat) : (allTo k).getLsbD i = (decide (i < k) && decide (i < 64)) := by
 induction k with
 | zero => simp [allTo]
 | succ k ih =>
  rw [allTo, BitVec.getLsbD_or, ih, tp_bit, Bool.eq_iff_iff]
  simp
  omega
theorem tp_double {i : Nat} (h : i + 1 < 64) : IntKind.u64.wrap (U (tp i) * 2) = U (tp (i + 1)) := by
 rw [U_tp (by omega), U_tp h, IntKind.wrap_u64, Int.pow_succ]
 have h1 : (2 : Int) ^ (i + 1) < 2 ^ 64 := by
  have : 2 ^ (i + 1) < 2 ^ 64 := Nat.pow_lt_pow_right (by decide) h
  have := (Int.ofNat_lt).2 this
  simpa using this
 have h0 : (0 : Int) < 2 ^ i := Int.pow_pos (by decide)
 rw [Int.pow_succ] at h1
 omega
theorem bit_l0 (n : Nat) (hn : n < 64) : ∀ (d i : Nat), i ≤ n → n - i = d → Ev (fun k => r06_bit.l0 k (n : Int) (U (tp i)) (i : Int)) (U (tp n)) := by
 intro d
 induction d with
 | zero =>
  intro i hi hd
  obtain rfl : i = n := by omega
  refine Ev.succ ?_
  simp only [r06_bit.l0]
  exact Ev.same (funext fun k => by rw [if_neg (by omega)])
 | succ d ih =>
  intro i hi hd
  refine Ev.succ ?_
  simp only [r06_bit.l0]
  refine Ev.congr (fun k => ?_) (ih (i + 1) (by omega) (by omega))
  rw [if_pos (by omega), tp_double (by omega), wrap_succ (by omega)]
theorem tp_zero : U (tp 0) = 1 := by rw [U_tp (by decide)]; rfl
theorem rbit {n : Nat} (hn : n < 64) : Ev (fun k => r06_bit.f k (n : Int)) (U (tp n)) := by
 have h := bit_l0 n hn _ 0 (by omega) rfl
 rw [tp_zero] at h
 exact h
theorem rhas (a : BitVec 64) (i : Int) : Ev (fun k => r06_Has.f k (U a) i) (decide (0 ≤ i) && a.getLsbD i.toNat) := by
 unfold r06_Has.f
 by_cases h0 : 0 ≤ i
 ·by_cases h1 : i < 64
  ·obtain ⟨n, rfl⟩ := Int.eq_ofNat_of_zero_le h0
   simp only [ge_iff_le, h0, h1, if_true]
   refine Ev.bind (rbit (by omega)) ?_
   have hne : ¬ U (tp n) = 0 := by
    rw [U_tp (by omega)]
    exact Int.ne_of_gt (Int.pow_pos (by decide))
   refine Ev.same (funext fun k => ?_)
   rw [if_neg hne]
   congr 1
   have e1 : Int.tdiv (U a) (U (tp n)) = U a / 2 ^ n := by
    rw [Int.tdiv_eq_ediv_of_nonneg (U_nonneg _), U_tp (by omega)]
   have e2 : IntKind.u64.wrap (U a / 2 ^ n) = U a / 2 ^ n := by
    rw [div_U, IntKind.wrap_u64]
    have := U_nonneg (a >>> n); have := U_lt (a >>> n); omega
   rw [e1, e2, Int.tmod_eq_emod_of_nonneg (by rw [div_U]; exact U_nonneg _), div_bit]
   cases hb : a.getLsbD n <;> simp [hb]
  ·simp only [ge_iff_le, h0, h1, if_true, if_false]
   rw [BitVec.getLsbD_of_ge _ _ (by omega), Bool.and_false]
   exact Ev.now _
 ·simp only [ge_iff_le, h0, if_false]
  exact Ev.same (funext fun k => by simp [h0])
theorem rall_l0 (n : Int) : ∀ (d i : Nat), i ≤ 64 → (i : Int) ≤ max 0 n → (min n.toNat 64) - i = d → Ev (fun k => r06_All.l0 k n (U (allTo i)) (i : Int)) (U (allTo (min n.toNat 64))) := by
 intro d
 induction d with
 | zero =>
  intro i h64 hi hd
  refine Ev.succ ?_
  simp only [r06_All.l0]
  have e : min n.toNat 64 = i := by omega
  rw [e]
  refine Ev.same (funext fun k => ?_)
  by_cases h : (i : Int) < 64
  ·rw [if_pos h, if_neg (by omega)]
  ·rw [if_neg h]
 | succ d ih =>
  intro i h64 hi hd
  refine Ev.succ ?_
  simp only [r06_All.l0]
  have h2 := ih (i + 1) (by omega) (by omega) (by omega)
  have c1 : (i : Int) < 64 := by omega
  have c2 : (i : Int) < n := by omega
  simp only [c1, c2, if_true]
  refine Ev.bind (rbit (by omega)) ?_
  have hz : (allTo i).getLsbD i = false := by rw [allTo_bit]; simp
  rw [wrap_succ (by omega), wrap_add, add_tp hz]
  exact h2
theorem rall (n : Int) : Ev (fun k => r06_All.f k n) (U (allTo (min n.toNat 64))) := by
 have := rall_l0 n _ 0 (by omega) (by omega) rfl
 exact this
theorem has_U (a : BitVec 64) {i : Nat} (h : i < 64) : d_has.f (U a) (i : Int) = some (a.getLsbD i) := by
 unfold d_has.f
 rw [wrap_idx (by omega) (by omega), if_pos (by omega), shr_at h, bit_at]
end Go.Proofs.YtejchnmhlcbfcaaDoor.Sets

/- Causal pairs of sets, as the program lists them. -/
namespace Go.Proofs.YtejchnmhlcbfcaaDoor.Caus
open Go.RowKit Go.Proofs.YtejchnmhlcbfcaaDoor.Pr Go.Proofs.YtejchnmhlcbfcaaDoor.Evs Go.Proofs.YtejchnmhlcbfcaaDoor.Bits Go.Proofs.YtejchnmhlcbfcaaDoor.Sets Go.Proofs.YtejchnmhlcbfcaaDoor.Logs Go.Proofs.YtejchnmhlcbfcaaDoor.Feet Go.Proofs.YtejchnmhlcbfcaaDoorW.PrintWords Go.Proofs.YtejchnmhlcbfcaaDoorW.PrintLast Go.Proofs.YtejchnmhlcbfcaaDoorW.PrintMore
set_option linter.unusedVariables false
set_option linter.unusedSimpArgs false

def M (f : List (List Int)) (i k : Nat) : Int := rd (rd_L5 f (i : Int)) (k : Int)
structure Mat (f : List (List Int)) (n : Nat) : Prop where
 len : f.length = n
 small : n ≤ 12
 rows : ∀ r ∈ f, r.length = n
 sym0 : ∀ i k, i < n → k < n → M f i k = 0 → M f k i = 0
 sym1 : ∀ i k, i < n → k < n → (M f i k = 1 ↔ M f k i = 2)
theorem row_len {f : List (List Int)} {n i : Nat} (hm : Mat f n) (hi : i < n) : (rd_L5 f (i : Int)).length = n := by
 have h : i < f.length := by rw [hm.len]; exact hi
 rw [rd_L h]; exact hm.rows _ (List.getElem_mem h)
theorem M_matL (l : List (List ByteArray)) (ns : List ByteArray) {i k : Nat} (hi : i < ns.length) (hk : k < ns.length) : M (matL l ns) i k = relL l ns[i] ns[k] := by
 unfold M
 have h1 : i < (matL l ns).length := by simpa [matL] using hi
 rw [rd_L h1]
 have h2 : (matL l ns)[i] = rowL l ns ns[i] := by simp [matL]
 rw [h2, rd_get (by rw [rowL_len]; exact hk), rowL_get l ns _ hk]
theorem matL_mat (l : List (List ByteArray)) (ns : List ByteArray) (h : ns.length ≤ 12) : Mat (matL l ns) ns.length := by
 refine ⟨by simp [matL], h, fun r hr => ?_, fun i k hi hk => ?_, fun i k hi hk => ?_⟩
 ·simp only [matL, List.mem_map] at hr
  obtain ⟨a, _, rfl⟩ := hr
  exact rowL_len _ _ _
 ·rw [M_matL l ns hi hk, M_matL l ns hk hi]
  unfold relL relOf
  split <;> split <;> simp_all
 ·rw [M_matL l ns hi hk, M_matL l ns hk hi]
  unfold relL relOf
  split <;> split <;> simp_all

/-! ### causal pairs -/
structure Cz (f : List (List Int)) (n : Nat) (a b : BitVec 64) : Prop where
 ab : ∀ i k, i < n → k < n → a.getLsbD i = true → b.getLsbD k = true → M f i k = 1
 aa : ∀ i k, i < n → k < n → a.getLsbD i = true → a.getLsbD k = true → M f i k = 0
 bb : ∀ i k, i < n → k < n → b.getLsbD i = true → b.getLsbD k = true → M f i k = 0
def Sub (n : Nat) (a : BitVec 64) : Prop := ∀ i, a.getLsbD i = true → i < n
def Inc (a b : BitVec 64) : Prop := ∀ i, a.getLsbD i = true → b.getLsbD i = true
theorem Cz.down {f : List (List Int)} {n : Nat} {a b c d : BitVec 64} (h : Cz f n c d) (h1 : Inc a c) (h2 : Inc b d) : Cz f n a b :=
 ⟨fun i k hi hk x y => h.ab i k hi hk (h1 i x) (h2 k y), fun i k hi hk x y => h.aa i k hi hk (h1 i x) (h1 k y), fun i k hi hk x y => h.bb i k hi hk (h2 i x) (h2 k y)⟩
theorem or_tp {a : BitVec 64} {i j : Nat} (hi : i < 64) : (a ||| tp i).getLsbD j = true ↔ a.getLsbD j = true ∨ j = i := by
 rw [BitVec.getLsbD_or, tp_bit]
 simp [hi]
 constructor
 ·rintro (h | h)
  ·exact .inl h
  ·exact .inr h.symm
 ·rintro (h | h)
  ·exact .inl h
  ·exact .inr h.symm
theorem or_tp_false {a : BitVec 64} {i j : Nat} (h : j ≠ i) : (a ||| tp i).getLsbD j = a.getLsbD j := by
 rw [BitVec.getLsbD_or, tp_bit]
 have : decide (i = j) = false := decide_eq_false fun e => h e.symm
 rw [this]; simp
theorem inc_or {a b : BitVec 64} {i : Nat} (hi : i < 64) (h : Inc a b) (hb : b.getLsbD i = true) : Inc (a ||| tp i) b := fun j hj => by
 rcases (or_tp hi).1 hj with h1 | rfl
 ·exact h j h1
 ·exact hb
theorem inc_refl (a : BitVec 64) : Inc a a := fun _ h => h
theorem sub_or {n i : Nat} {a : BitVec 64} (h : Sub n a) (hi : i < n) (h64 : i < 64) : Sub n (a ||| tp i) := fun j hj => by
 rcases (or_tp h64).1 hj with h1 | rfl
 ·exact h j h1
 ·exact hi
theorem sub_eq {n : Nat} {a b : BitVec 64} (ha : Sub n a) (hb : Sub n b) (h : ∀ i, i < n → a.getLsbD i = b.getLsbD i) : a = b := by
 apply ext_bit
 intro i _
 by_cases hi : i < n
 ·exact h i hi
 ·cases e : a.getLsbD i with
  | true => exact absurd (ha i e) hi
  | false => cases e2 : b.getLsbD i with
   | true => exact absurd (hb i e2) hi
   | false => rfl
/-- What one more activity asks for. -/
theorem add0 {f : List (List Int)} {n : Nat} (hm : Mat f n) {a b : BitVec 64} (h : Cz f n a b) {i : Nat} (hi : i < n) :
  Cz f n (a ||| tp i) b ↔ M f i i = 0 ∧ (∀ k, k < n → a.getLsbD k = true → M f i k = 0) ∧ (∀ k, k < n → b.getLsbD k = true → M f i k = 1) := by
 have h64 : i < 64 := by have := hm.small; omega
 have hin : (a ||| tp i).getLsbD i = true := (or_tp h64).2 (.inr rfl)
 have hup : ∀ k, a.getLsbD k = true → (a ||| tp i).getLsbD k = true := fun k hk => (or_tp h64).2 (.inl hk)
 constructor
 ·intro c
  exact ⟨c.aa i i hi hi hin hin, fun k hk x => c.aa i k hi hk hin (hup k x), fun k hk x => c.ab i k hi hk hin x⟩
 ·rintro ⟨h1, h2, h3⟩
  refine ⟨fun j k hj hk x y => ?_, fun j k hj hk x y => ?_, h.bb⟩
  ·rcases (or_tp h64).1 x with x | rfl
   ·exact h.ab j k hj hk x y
   ·exact h3 k hk y
  ·rcases (or_tp h64).1 x with x1 | rfl <;> rcases (or_tp h64).1 y with y1 | rfl
   ·exact h.aa j k hj hk x1 y1
   ·exact hm.sym0 _ _ hi hj (h2 j hj x1)
   ·exact h2 k hk y1
   ·exact h1
theorem add1 {f : List (List Int)} {n : Nat} (hm : Mat f n) {a b : BitVec 64} (h : Cz f n a b) {i : Nat} (hi : i < n) :
  Cz f n a (b ||| tp i) ↔ M f i i = 0 ∧ (∀ k, k < n → b.getLsbD k = true → M f i k = 0) ∧ (∀ k, k < n → a.getLsbD k = true → M f i k = 2) := by
 have h64 : i < 64 := by have := hm.small; omega
 have hin : (b ||| tp i).getLsbD i = true := (or_tp h64).2 (.inr rfl)
 have hup : ∀ k, b.getLsbD k = true → (b ||| tp i).getLsbD k = true := fun k hk => (or_tp h64).2 (.inl hk)
 constructor
 ·intro c
  exact ⟨c.bb i i hi hi hin hin, fun k hk x => c.bb i k hi hk hin (hup k x), fun k hk x => (hm.sym1 k i hk hi).1 (c.ab k i hk hi x hin)⟩
 ·rintro ⟨h1, h2, h3⟩
  refine ⟨fun j k hj hk x y => ?_, h.aa, fun j k hj hk x y => ?_⟩
  ·rcases (or_tp h64).1 y with y | rfl
   ·exact h.ab j k hj hk x y
   ·exact (hm.sym1 j _ hj hi).2 (h3 j hj x)
  ·rcases (or_tp h64).1 x with x1 | rfl <;> rcases (or_tp h64).1 y with y1 | rfl
   ·exact h.bb j k hj hk x1 y1
   ·exact hm.sym0 _ _ hi hj (h2 j hj x1)
   ·exact h2 k hk y1
   ·exact h1

/-! ### all, fits, grown -/
theorem all_l0 {f : List (List Int)} {n : Nat} (hm : Mat f n) (i : Nat) (hi : i < n) (s : BitVec 64) (w : Int) : ∀ d k, k ≤ n → n - k = d → (∀ j, j < k → s.getLsbD j = true → M f i j = w) →
  ∃ r, Ev (fun q => d_all.l0 q f (i : Int) (U s) w (n : Int) (k : Int)) r ∧ (r = true ↔ ∀ j, j < n → s.getLsbD j = true → M f i j = w) := by
 have hsm := hm.small
 have hil : i < f.length := by rw [hm.len]; exact hi
 intro d
 induction d with
 | zero =>
  intro k hk hd hall
  obtain rfl : k = n := by omega
  refine ⟨true, Ev.succ ?_, ⟨fun _ => hall, fun _ => rfl⟩⟩
  simp only [d_all.l0]
  exact Ev.neg (by omega) (Ev.now _)
 | succ d ih =>
  intro k hk hd hall
  have hlt : k < n := by omega
  have hrl := row_len hm hi
  cases hb : s.getLsbD k with
  | false =>
   obtain ⟨r, hr, hr'⟩ := ih (k + 1) (by omega) (by omega) (fun j hj x => by
    by_cases e : j = k
    ·subst e; rw [hb] at x; cases x
    ·exact hall j (by omega) x)
   refine ⟨r, Ev.succ ?_, hr'⟩
   simp only [d_all.l0, has_U s (show k < 64 by omega), Option.bind_some, hb]
   refine Ev.pos (by omega) (Ev.neg (by decide) ?_)
   rw [wrap_succ (by omega)]
   exact hr
  | true =>
   by_cases hw : M f i k = w
   ·obtain ⟨r, hr, hr'⟩ := ih (k + 1) (by omega) (by omega) (fun j hj x => by
     by_cases e : j = k
     ·subst e; exact hw
     ·exact hall j (by omega) x)
    refine ⟨r, Ev.succ ?_, hr'⟩
    simp only [d_all.l0, has_U s (show k < 64 by omega), Option.bind_some, hb]
    refine Ev.pos (by omega) (Ev.pos trivial (Ev.pos (by omega) (Ev.pos (by omega) (Ev.pos (by omega) (Ev.pos (by rw [hrl]; omega) (Ev.pos hw ?_))))))
    rw [wrap_succ (by omega)]
    exact hr
   ·refine ⟨false, Ev.succ ?_, ⟨fun h => (by cases h), fun h => absurd (h k hlt hb) hw⟩⟩
    simp only [d_all.l0, has_U s (show k < 64 by omega), Option.bind_some, hb]
    exact Ev.pos (by omega) (Ev.pos trivial (Ev.pos (by omega) (Ev.pos (by omega) (Ev.pos (by omega) (Ev.pos (by rw [hrl]; omega) (Ev.neg hw (Ev.now _)))))))
theorem eall {f : List (List Int)} {n : Nat} (hm : Mat f n) (i : Nat) (hi : i < n) (s : BitVec 64) (w : Int) :
  ∃ r, Ev (fun q => d_all.f q f (i : Int) (U s) w) r ∧ (r = true ↔ ∀ j, j < n → s.getLsbD j = true → M f i j = w) := by
 obtain ⟨r, h, h'⟩ := all_l0 hm i hi s w _ 0 (by omega) rfl (by simp)
 refine ⟨r, ?_, h'⟩
 unfold d_all.f
 rw [hm.len]
 exact h
theorem fits0 {f : List (List Int)} {n : Nat} (hm : Mat f n) {a b : BitVec 64} (h : Cz f n a b) {i : Nat} (hi : i < n) :
  ∃ r, Ev (fun q => d_fits.f q f (U a) (U b) (i : Int) 0) r ∧ (r = true ↔ Cz f n (a ||| tp i) b) := by
 have hil : i < f.length := by rw [hm.len]; exact hi
 have hrl := row_len hm hi
 obtain ⟨r1, h1, h1'⟩ := eall hm i hi a 0
 obtain ⟨r2, h2, h2'⟩ := eall hm i hi b 1
 rw [add0 hm h hi]
 have go : ∀ r, Ev (fun q => d_fits0.f q f (U a) (U b) (i : Int)) r → Ev (fun q => d_fits.f q f (U a) (U b) (i : Int) 0) r := fun r hr => Ev.congr (fun _ => by unfold d_fits.f; rw [if_pos rfl]) hr
 by_cases h0 : M f i i = 0
 ·cases r1 with
  | true => cases r2 with
   | true =>
    refine ⟨true, go _ ?_, ⟨fun _ => ⟨h0, h1'.1 rfl, h2'.1 rfl⟩, fun _ => rfl⟩⟩
    unfold d_fits0.f
    exact Ev.pos (by omega) (Ev.pos (by omega) (Ev.pos (by rw [hrl]; omega) (Ev.pos h0 (Ev.bind h1 (Ev.pos rfl (Ev.bind h2 (Ev.now _)))))))
   | false =>
    refine ⟨false, go _ ?_, ⟨fun e => (by cases e), fun e => h2'.2 e.2.2⟩⟩
    unfold d_fits0.f
    exact Ev.pos (by omega) (Ev.pos (by omega) (Ev.pos (by rw [hrl]; omega) (Ev.pos h0 (Ev.bind h1 (Ev.pos rfl (Ev.bind h2 (Ev.now _)))))))
  | false =>
   refine ⟨false, go _ ?_, ⟨fun e => (by cases e), fun e => h1'.2 e.2.1⟩⟩
   unfold d_fits0.f
   exact Ev.pos (by omega) (Ev.pos (by omega) (Ev.pos (by rw [hrl]; omega) (Ev.pos h0 (Ev.bind h1 (Ev.neg (by decide) (Ev.now _))))))
 ·refine ⟨false, go _ ?_, ⟨fun e => (by cases e), fun e => absurd e.1 h0⟩⟩
  unfold d_fits0.f
  exact Ev.pos (by omega) (Ev.pos (by omega) (Ev.pos (by rw [hrl]; omega) (Ev.neg h0 (Ev.now _))))
theorem fits1 {f : List (List Int)} {n : Nat} (hm : Mat f n) {a b : BitVec 64} (h : Cz f n a b) {i : Nat} (hi : i < n) :
  ∃ r, Ev (fun q => d_fits.f q f (U a) (U b) (i : Int) 1) r ∧ (r = true ↔ Cz f n a (b ||| tp i)) := by
 have hil : i < f.length := by rw [hm.len]; exact hi
 have hrl := row_len hm hi
 obtain ⟨r1, h1, h1'⟩ := eall hm i hi b 0
 obtain ⟨r2, h2, h2'⟩ := eall hm i hi a 2
 rw [add1 hm h hi]
 have go : ∀ r, Ev (fun q => d_fits1.f q f (U a) (U b) (i : Int)) r → Ev (fun q => d_fits.f q f (U a) (U b) (i : Int) 1) r := fun r hr => Ev.congr (fun _ => by unfold d_fits.f; rw [if_neg (by decide), if_pos rfl]) hr
 by_cases h0 : M f i i = 0
 ·cases r1 with
  | true => cases r2 with
   | true =>
    refine ⟨true, go _ ?_, ⟨fun _ => ⟨h0, h1'.1 rfl, h2'.1 rfl⟩, fun _ => rfl⟩⟩
    unfold d_fits1.f
    exact Ev.pos (by omega) (Ev.pos (by omega) (Ev.pos (by rw [hrl]; omega) (Ev.pos h0 (Ev.bind h1 (Ev.pos rfl (Ev.bind h2 (Ev.now _)))))))
   | false =>
    refine ⟨false, go _ ?_, ⟨fun e => (by cases e), fun e => h2'.2 e.2.2⟩⟩
    unfold d_fits1.f
    exact Ev.pos (by omega) (Ev.pos (by omega) (Ev.pos (by rw [hrl]; omega) (Ev.pos h0 (Ev.bind h1 (Ev.pos rfl (Ev.bind h2 (Ev.now _)))))))
  | false =>
   refine ⟨false, go _ ?_, ⟨fun e => (by cases e), fun e => h1'.2 e.2.1⟩⟩
   unfold d_fits1.f
   exact Ev.pos (by omega) (Ev.pos (by omega) (Ev.pos (by rw [hrl]; omega) (Ev.pos h0 (Ev.bind h1 (Ev.neg (by decide) (Ev.now _))))))
 ·refine ⟨false, go _ ?_, ⟨fun e => (by cases e), fun e => absurd e.1 h0⟩⟩
  unfold d_fits1.f
  exact Ev.pos (by omega) (Ev.pos (by omega) (Ev.pos (by rw [hrl]; omega) (Ev.neg h0 (Ev.now _))))
theorem or_ne {a : BitVec 64} {i : Nat} (h64 : i < 64) (h : a.getLsbD i = false) : a ||| tp i ≠ a := fun e => by
 have := (or_tp (a := a) (j := i) h64).2 (.inr rfl)
 rw [e, h] at this; cases this
theorem shl_or {a : BitVec 64} {i : Nat} (h : i < 64) : Go.bits .or .u64 (U a) (shl .u64 1 (IntKind.u64.wrap (i : Int))) = U (a ||| tp i) := by
 rw [wrap_idx (by omega) (by omega), shl_one h, bits_or]
theorem grown1 {f : List (List Int)} {n : Nat} (hm : Mat f n) {a b : BitVec 64} (h : Cz f n a b) : ∀ d i, i ≤ n → n - i = d →
  ∃ q, Ev (fun k => d_grown.l1 k f (n : Int) (i : Int) (U a) (U b)) q ∧ (q = (U a, U b) ↔ ∀ j, i ≤ j → j < n → b.getLsbD j = false → ¬ Cz f n a (b ||| tp j)) := by
 have hsm := hm.small
 intro d
 induction d with
 | zero =>
  intro i hi hd
  obtain rfl : i = n := by omega
  refine ⟨_, Ev.succ ?_, ⟨fun _ j h1 h2 => by omega, fun _ => rfl⟩⟩
  simp only [d_grown.l1]
  exact Ev.neg (by omega) (Ev.now _)
 | succ d ih =>
  intro i hi hd
  have hlt : i < n := by omega
  obtain ⟨q, hq, hq'⟩ := ih (i + 1) (by omega) (by omega)
  have skip : (b.getLsbD i = false → ¬ Cz f n a (b ||| tp i)) → (q = (U a, U b) ↔ ∀ j, i ≤ j → j < n → b.getLsbD j = false → ¬ Cz f n a (b ||| tp j)) := fun hs => by
   rw [hq']
   constructor
   ·intro x j h1 h2
    by_cases e : j = i
    ·subst e; exact hs
    ·exact x j (by omega) h2
   ·intro x j h1 h2
    exact x j (by omega) h2
  cases hb : b.getLsbD i with
  | true =>
   refine ⟨q, Ev.succ ?_, skip (fun e => by rw [hb] at e; cases e)⟩
   simp only [d_grown.l1, has_U b (show i < 64 by omega), Option.bind_some, hb]
   refine Ev.pos (by omega) (Ev.pos trivial ?_)
   rw [wrap_succ (by omega)]
   exact hq
  | false =>
   obtain ⟨r, hr, hr'⟩ := fits1 hm h hlt
   cases r with
   | true =>
    refine ⟨(U a, U (b ||| tp i)), Ev.succ ?_, ⟨fun e => ?_, fun e => absurd (hr'.1 rfl) (e i (by omega) hlt hb)⟩⟩
    ·simp only [d_grown.l1, has_U b (show i < 64 by omega), Option.bind_some, hb, shl_or (a := b) (show i < 64 by omega)]
     exact Ev.pos (by omega) (Ev.neg (by decide) (Ev.bind hr (Ev.pos rfl (Ev.pos (by rw [wrap_idx (by omega) (by omega)]; omega) (Ev.now _)))))
    ·exact absurd (U_inj.1 (Prod.mk.inj e).2) (or_ne (by omega) hb)
   | false =>
    refine ⟨q, Ev.succ ?_, skip (fun _ c => by have := hr'.2 c; cases this)⟩
    simp only [d_grown.l1, has_U b (show i < 64 by omega), Option.bind_some, hb]
    refine Ev.pos (by omega) (Ev.neg (by decide) (Ev.bind hr (Ev.neg (by decide) ?_)))
    rw [wrap_succ (by omega)]
    exact hq
def Max (f : List (List Int)) (n : Nat) (a b : BitVec 64) : Prop :=
 (∀ j, j < n → a.getLsbD j = false → ¬ Cz f n (a ||| tp j) b) ∧ (∀ j, j < n → b.getLsbD j = false → ¬ Cz f n a (b ||| tp j))
theorem grown0 {f : List (List Int)} {n : Nat} (hm : Mat f n) {a b : BitVec 64} (h : Cz f n a b) : ∀ d i, i ≤ n → n - i = d →
  ∃ q, Ev (fun k => d_grown.l0 k f (n : Int) (i : Int) (U a) (U b)) q ∧ (q = (U a, U b) ↔ (∀ j, i ≤ j → j < n → a.getLsbD j = false → ¬ Cz f n (a ||| tp j) b) ∧ (∀ j, j < n → b.getLsbD j = false → ¬ Cz f n a (b ||| tp j))) := by
 have hsm := hm.small
 intro d
 induction d with
 | zero =>
  intro i hi hd
  obtain rfl : i = n := by omega
  obtain ⟨q, hq, hq'⟩ := grown1 hm h _ 0 (by omega) rfl
  refine ⟨q, Ev.succ ?_, ?_⟩
  ·simp only [d_grown.l0, hm.len]
   exact Ev.neg (by omega) hq
  ·rw [hq']
   exact ⟨fun x => ⟨fun j h1 h2 => by omega, fun j hj => x j (by omega) hj⟩, fun x j _ hj => x.2 j hj⟩
 | succ d ih =>
  intro i hi hd
  have hlt : i < n := by omega
  obtain ⟨q, hq, hq'⟩ := ih (i + 1) (by omega) (by omega)
  have skip : (a.getLsbD i = false → ¬ Cz f n (a ||| tp i) b) → (q = (U a, U b) ↔ (∀ j, i ≤ j → j < n → a.getLsbD j = false → ¬ Cz f n (a ||| tp j) b) ∧ (∀ j, j < n → b.getLsbD j = false → ¬ Cz f n a (b ||| tp j))) := fun hs => by
   rw [hq']
   constructor
   ·intro x
    refine ⟨fun j h1 h2 => ?_, x.2⟩
    by_cases e : j = i
    ·subst e; exact hs
    ·exact x.1 j (by omega) h2
   ·intro x
    exact ⟨fun j h1 h2 => x.1 j (by omega) h2, x.2⟩
  cases hb : a.getLsbD i with
  | true =>
   refine ⟨q, Ev.succ ?_, skip (fun e => by rw [hb] at e; cases e)⟩
   simp only [d_grown.l0, has_U a (show i < 64 by omega), Option.bind_some, hb]
   refine Ev.pos (by omega) (Ev.pos trivial ?_)
   rw [wrap_succ (by omega)]
   exact hq
  | false =>
   obtain ⟨r, hr, hr'⟩ := fits0 hm h hlt
   cases r with
   | true =>
    refine ⟨(U (a ||| tp i), U b), Ev.succ ?_, ⟨fun e => ?_, fun e => absurd (hr'.1 rfl) (e.1 i (by omega) hlt hb)⟩⟩
    ·simp only [d_grown.l0, has_U a (show i < 64 by omega), Option.bind_some, hb, shl_or (a := a) (show i < 64 by omega)]
     exact Ev.pos (by omega) (Ev.neg (by decide) (Ev.bind hr (Ev.pos rfl (Ev.pos (by rw [wrap_idx (by omega) (by omega)]; omega) (Ev.now _)))))
    ·exact absurd (U_inj.1 (Prod.mk.inj e).1) (or_ne (by omega) hb)
   | false =>
    refine ⟨q, Ev.succ ?_, skip (fun _ c => by have := hr'.2 c; cases this)⟩
    simp only [d_grown.l0, has_U a (show i < 64 by omega), Option.bind_some, hb]
    refine Ev.pos (by omega) (Ev.neg (by decide) (Ev.bind hr (Ev.neg (by decide) ?_)))
    rw [wrap_succ (by omega)]
    exact hq
theorem egrown {f : List (List Int)} {n : Nat} (hm : Mat f n) {a b : BitVec 64} (h : Cz f n a b) :
  ∃ q, Ev (fun k => d_grown.f k f (U a) (U b)) q ∧ (q = (U a, U b) ↔ Max f n a b) := by
 obtain ⟨q, hq, hq'⟩ := grown0 hm h _ 0 (by omega) rfl
 refine ⟨q, ?_, ?_⟩
 ·unfold d_grown.f
  rw [hm.len]
  exact hq
 ·rw [hq']
  exact ⟨fun x => ⟨fun j hj => x.1 j (by omega) hj, x.2⟩, fun x => ⟨fun j _ hj => x.1 j hj, x.2⟩⟩

/-! ### grow -/
def prS (x : BitVec 64 × BitVec 64) : S76 := ⟨U x.1, U x.2⟩
theorem growE_spec {f : List (List Int)} {n : Nat} (hm : Mat f n) {a b : BitVec 64} (h : Cz f n a b) :
  ∃ L : List (BitVec 64), Ev (fun k => growE k f (U a) (U b)) (L.map fun c => prS (a, c)) ∧ L.Nodup ∧ L.length ≤ 1 ∧ ∀ c, c ∈ L ↔ c = b ∧ b ≠ 0#64 ∧ Max f n a b := by
 unfold growE
 by_cases hb : b = 0#64
 ·refine ⟨[], Ev.pos (by rw [hb]; rfl) (Ev.now _), by simp, by simp, fun c => ?_⟩
  simp [hb]
 ·have hb' : ¬ U b = 0 := fun e => hb (U_eq_zero.1 e)
  obtain ⟨q, hq, hq'⟩ := egrown hm h
  by_cases hx : q = (U a, U b)
  ·refine ⟨[b], Ev.neg hb' (Ev.bind hq (Ev.pos (by rw [hx]; exact ⟨rfl, rfl⟩) (Ev.now _))), by simp, by simp, fun c => ?_⟩
   simp only [List.mem_singleton]
   exact ⟨fun e => ⟨e, hb, hq'.1 hx⟩, fun e => e.1⟩
  ·refine ⟨[], Ev.neg hb' (Ev.bind hq (Ev.neg (fun e => hx (Prod.ext e.1 e.2)) (Ev.now _))), by simp, by simp, fun c => ?_⟩
   simp only [List.not_mem_nil, false_iff]
   rintro ⟨_, _, e⟩
   exact hx (hq'.2 e)
theorem grow1_spec {f : List (List Int)} {n : Nat} (hm : Mat f n) : ∀ m, m ≤ n → ∀ a b : BitVec 64, Cz f n a b → Sub (n - m) b →
  ∃ L : List (BitVec 64), Ev (fun k => grow1 k f m (U a) (U b)) (L.map fun c => prS (a, c)) ∧ L.Nodup ∧ L.length ≤ 2 ^ m ∧
   ∀ c, c ∈ L ↔ Sub n c ∧ c ≠ 0#64 ∧ (∀ i, i < n - m → c.getLsbD i = b.getLsbD i) ∧ Cz f n a c ∧ Max f n a c
 | 0, _, a, b, h, hb => by
  obtain ⟨L, h1, h2, h3, h4⟩ := growE_spec hm h
  refine ⟨L, h1, h2, h3, fun c => ?_⟩
  rw [h4]
  constructor
  ·rintro ⟨rfl, h5, h6⟩
   exact ⟨hb, h5, fun _ _ => rfl, h, h6⟩
  ·rintro ⟨h5, h6, h7, h8, h9⟩
   obtain rfl : c = b := sub_eq h5 hb h7
   exact ⟨rfl, h6, h9⟩
 | m + 1, hmn, a, b, h, hb => by
  have hsm := hm.small
  have hfl : f.length = n := hm.len
  obtain ⟨i, hi⟩ : ∃ i, i = n - (m + 1) := ⟨_, rfl⟩
  have hin : i < n := by omega
  have hni : n - m = i + 1 := by omega
  have hbi : b.getLsbD i = false := by
   cases e : b.getLsbD i with
   | false => rfl
   | true => have := hb i e; omega
  obtain ⟨L1, a1, a2, a3, a4⟩ := grow1_spec hm m (by omega) a b h (fun j hj => by have := hb j hj; omega)
  obtain ⟨r, hr, hr'⟩ := fits1 hm h hin
  have hpow : 2 ^ (m + 1) = 2 ^ m + 2 ^ m := by rw [Nat.pow_succ]; omega
  cases r with
  | false =>
   refine ⟨L1, ?_, a2, by omega, fun c => ?_⟩
   ·simp only [grow1, hfl, ← hi]
    exact Ev.bind a1 (Ev.bind hr (Ev.neg (by decide) (Ev.now _)))
   ·rw [a4]
    constructor
    ·rintro ⟨h5, h6, h7, h8⟩
     exact ⟨h5, h6, fun j hj => h7 j (by omega), h8⟩
    ·rintro ⟨h5, h6, h7, h8, h9⟩
     refine ⟨h5, h6, fun j hj => ?_, h8, h9⟩
     by_cases e : j = i
     ·subst e
      rw [hbi]
      cases e2 : c.getLsbD j with
      | false => rfl
      | true =>
       have : Cz f n a (b ||| tp j) := h8.down (inc_refl a) (inc_or (by omega) (fun q hq => by have := hb q hq; rw [h7 q (by omega)]; exact hq) e2)
       have := hr'.2 this
       cases this
     ·exact h7 j (by omega)
  | true =>
   have hc := hr'.1 rfl
   obtain ⟨L2, b1, b2, b3, b4⟩ := grow1_spec hm m (by omega) a (b ||| tp i) hc (fun j hj => by
    rcases (or_tp (show i < 64 by omega)).1 hj with h1 | rfl
    ·have := hb j h1; omega
    ·omega)
   refine ⟨L1 ++ L2, ?_, ?_, by rw [List.length_append]; omega, fun c => ?_⟩
   ·simp only [grow1, hfl, ← hi, List.map_append]
    refine Ev.bind a1 (Ev.bind hr (Ev.pos rfl (Ev.bind ?_ (Ev.now _))))
    unfold orB
    rw [shl_or (by omega)]
    exact b1
   ·rw [List.nodup_append]
    refine ⟨a2, b2, fun x hx y hy e => ?_⟩
    subst e
    have h1 := ((a4 x).1 hx).2.2.1 i (by omega)
    have h2 := ((b4 x).1 hy).2.2.1 i (by omega)
    rw [h1, hbi] at h2
    have := (or_tp (a := b) (j := i) (show i < 64 by omega)).2 (.inr rfl)
    rw [← h2] at this; cases this
   ·rw [List.mem_append, a4, b4]
    constructor
    ·rintro (⟨h5, h6, h7, h8⟩ | ⟨h5, h6, h7, h8⟩)
     ·exact ⟨h5, h6, fun j hj => h7 j (by omega), h8⟩
     ·exact ⟨h5, h6, fun j hj => (h7 j (by omega)).trans (or_tp_false (by omega)), h8⟩
    ·rintro ⟨h5, h6, h7, h8⟩
     cases e2 : c.getLsbD i with
     | false =>
      refine .inl ⟨h5, h6, fun j hj => ?_, h8⟩
      by_cases e : j = i
      ·subst e; rw [e2, hbi]
      ·exact h7 j (by omega)
     | true =>
      refine .inr ⟨h5, h6, fun j hj => ?_, h8⟩
      by_cases e : j = i
      ·subst e; rw [e2]; exact ((or_tp (show j < 64 by omega)).2 (.inr rfl)).symm
      ·rw [or_tp_false e]; exact h7 j (by omega)
theorem cz_zero {f : List (List Int)} {n : Nat} {a : BitVec 64} {c : BitVec 64} (h : Cz f n a c) : Cz f n a 0#64 := h.down (inc_refl a) (fun i hi => by simp at hi)
theorem grow0_spec {f : List (List Int)} {n : Nat} (hm : Mat f n) : ∀ m, m ≤ n → ∀ a : BitVec 64, Cz f n a 0#64 → Sub (n - m) a →
  ∃ L : List (BitVec 64 × BitVec 64), Ev (fun k => grow0 k f m (U a) 0) (L.map prS) ∧ L.Nodup ∧ L.length ≤ 2 ^ m * 2 ^ n ∧
   ∀ x, x ∈ L ↔ Sub n x.1 ∧ Sub n x.2 ∧ x.1 ≠ 0#64 ∧ x.2 ≠ 0#64 ∧ (∀ i, i < n - m → x.1.getLsbD i = a.getLsbD i) ∧ Cz f n x.1 x.2 ∧ Max f n x.1 x.2
 | 0, _, a, h, hb => by
  have hp : 0 < 2 ^ n := Nat.two_pow_pos n
  by_cases ha : a = 0#64
  ·refine ⟨[], ?_, by simp, by simp, fun x => ?_⟩
   ·simp only [grow0]
    exact Ev.pos (by rw [ha]; rfl) (Ev.now _)
   ·simp only [List.not_mem_nil, false_iff]
    rintro ⟨h1, _, h3, _, h5, _⟩
    exact h3 ((sub_eq h1 hb h5).trans ha)
  ·obtain ⟨L, h1, h2, h3, h4⟩ := grow1_spec hm n (Nat.le_refl _) a 0#64 h (fun i hi => by simp at hi)
   refine ⟨L.map fun c => (a, c), ?_, ?_, by rw [List.length_map]; omega, fun x => ?_⟩
   ·simp only [grow0, hm.len]
    rw [List.map_map]
    exact Ev.neg (fun e => ha (U_eq_zero.1 e)) h1
   ·rw [List.nodup_iff_pairwise_ne, List.pairwise_map]
    exact List.Pairwise.imp (fun hne e => hne (Prod.mk.inj e).2) (List.nodup_iff_pairwise_ne.1 h2)
   ·simp only [List.mem_map]
    constructor
    ·rintro ⟨c, hc, rfl⟩
     obtain ⟨k1, k2, k3, k4, k5⟩ := (h4 c).1 hc
     exact ⟨hb, k1, ha, k2, fun _ _ => rfl, k4, k5⟩
    ·rintro ⟨k1, k2, k3, k4, k5, k6, k7⟩
     have e : x.1 = a := sub_eq k1 hb k5
     refine ⟨x.2, (h4 _).2 ⟨k2, k4, fun i hi => by omega, e ▸ k6, e ▸ k7⟩, by rw [← e]⟩
 | m + 1, hmn, a, h, hb => by
  have hsm := hm.small
  have hfl : f.length = n := hm.len
  obtain ⟨i, hi⟩ : ∃ i, i = n - (m + 1) := ⟨_, rfl⟩
  have hin : i < n := by omega
  have hni : n - m = i + 1 := by omega
  have hbi : a.getLsbD i = false := by
   cases e : a.getLsbD i with
   | false => rfl
   | true => have := hb i e; omega
  obtain ⟨L1, a1, a2, a3, a4⟩ := grow0_spec hm m (by omega) a h (fun j hj => by have := hb j hj; omega)
  obtain ⟨r, hr, hr'⟩ := fits0 hm h hin
  have hpow : 2 ^ (m + 1) * 2 ^ n = 2 ^ m * 2 ^ n + 2 ^ m * 2 ^ n := by rw [Nat.pow_succ, Nat.mul_assoc, Nat.mul_comm 2, ← Nat.mul_assoc]; omega
  have hU : (0 : Int) = U 0#64 := rfl
  cases r with
  | false =>
   refine ⟨L1, ?_, a2, by omega, fun x => ?_⟩
   ·simp only [grow0, hfl, ← hi]
    exact Ev.bind a1 (Ev.bind hr (Ev.neg (by decide) (Ev.now _)))
   ·rw [a4]
    constructor
    ·rintro ⟨h1, h2, h3, h4, h5, h6⟩
     exact ⟨h1, h2, h3, h4, fun j hj => h5 j (by omega), h6⟩
    ·rintro ⟨h1, h2, h3, h4, h5, h6, h7⟩
     refine ⟨h1, h2, h3, h4, fun j hj => ?_, h6, h7⟩
     by_cases e : j = i
     ·subst e
      rw [hbi]
      cases e2 : x.1.getLsbD j with
      | false => rfl
      | true =>
       have : Cz f n (a ||| tp j) 0#64 := (cz_zero h6).down (inc_or (by omega) (fun q hq => by have := hb q hq; rw [h5 q (by omega)]; exact hq) e2) (inc_refl _)
       have := hr'.2 this
       cases this
     ·exact h5 j (by omega)
  | true =>
   have hc := hr'.1 rfl
   obtain ⟨L2, b1, b2, b3, b4⟩ := grow0_spec hm m (by omega) (a ||| tp i) hc (fun j hj => by
    rcases (or_tp (show i < 64 by omega)).1 hj with h1 | rfl
    ·have := hb j h1; omega
    ·omega)
   refine ⟨L1 ++ L2, ?_, ?_, by rw [List.length_append]; omega, fun x => ?_⟩
   ·simp only [grow0, hfl, ← hi, List.map_append]
    refine Ev.bind a1 (Ev.bind hr (Ev.pos rfl (Ev.bind ?_ (Ev.now _))))
    unfold orB
    rw [shl_or (by omega)]
    exact b1
   ·rw [List.nodup_append]
    refine ⟨a2, b2, fun x hx y hy e => ?_⟩
    subst e
    have h1 := ((a4 x).1 hx).2.2.2.2.1 i (by omega)
    have h2 := ((b4 x).1 hy).2.2.2.2.1 i (by omega)
    rw [h1, hbi] at h2
    have := (or_tp (a := a) (j := i) (show i < 64 by omega)).2 (.inr rfl)
    rw [← h2] at this; cases this
   ·rw [List.mem_append, a4, b4]
    constructor
    ·rintro (⟨h1, h2, h3, h4, h5, h6⟩ | ⟨h1, h2, h3, h4, h5, h6⟩)
     ·exact ⟨h1, h2, h3, h4, fun j hj => h5 j (by omega), h6⟩
     ·exact ⟨h1, h2, h3, h4, fun j hj => (h5 j (by omega)).trans (or_tp_false (by omega)), h6⟩
    ·rintro ⟨h1, h2, h3, h4, h5, h6⟩
     cases e2 : x.1.getLsbD i with
     | false =>
      refine .inl ⟨h1, h2, h3, h4, fun j hj => ?_, h6⟩
      by_cases e : j = i
      ·subst e; rw [e2, hbi]
      ·exact h5 j (by omega)
     | true =>
      refine .inr ⟨h1, h2, h3, h4, fun j hj => ?_, h6⟩
      by_cases e : j = i
      ·subst e; rw [e2]; exact ((or_tp (show j < 64 by omega)).2 (.inr rfl)).symm
      ·rw [or_tp_false e]; exact h5 j (by omega)
theorem cz_nil (f : List (List Int)) (n : Nat) : Cz f n 0#64 0#64 := ⟨fun i k _ _ h => by simp at h, fun i k _ _ h => by simp at h, fun i k _ _ h => by simp at h⟩
/-- The program's list of maximal causal pairs. -/
theorem epairs {f : List (List Int)} {n : Nat} (hm : Mat f n) :
  ∃ L : List (BitVec 64 × BitVec 64), Ev (fun k => d_pairs.f k f) (L.map prS) ∧ L.Nodup ∧ L.length ≤ 16777216 ∧
   ∀ x, x ∈ L ↔ Sub n x.1 ∧ Sub n x.2 ∧ x.1 ≠ 0#64 ∧ x.2 ≠ 0#64 ∧ Cz f n x.1 x.2 ∧ Max f n x.1 x.2 := by
 obtain ⟨L, h1, h2, h3, h4⟩ := grow0_spec hm n (Nat.le_refl _) 0#64 (cz_nil f n) (fun i hi => by simp at hi)
 have hl : L.length ≤ 16777216 := by
  refine Nat.le_trans h3 ?_
  have : 2 ^ n ≤ 2 ^ 12 := Nat.pow_le_pow_right (by omega) hm.small
  exact Nat.mul_le_mul this this
 refine ⟨L, ?_, h2, hl, fun x => ?_⟩
 ·unfold d_pairs.f
  rw [hm.len]
  have hsm := hm.small
  exact Ev.pos (by omega) (Ev.bind h1 (Ev.pos (by rw [List.length_map]; omega) (Ev.now _)))
 ·rw [h4]
  exact ⟨fun ⟨k1, k2, k3, k4, _, k6⟩ => ⟨k1, k2, k3, k4, k6⟩, fun ⟨k1, k2, k3, k4, k6⟩ => ⟨k1, k2, k3, k4, fun i hi => by omega, k6⟩⟩
/-- Maximal, told of all causal pairs. -/
theorem max_iff {f : List (List Int)} {n : Nat} (hm : Mat f n) {a b : BitVec 64} (ha : Sub n a) (hb : Sub n b) (ha0 : a ≠ 0#64) (hb0 : b ≠ 0#64) (h : Cz f n a b) :
  Max f n a b ↔ ∀ c d : BitVec 64, Sub n c → Sub n d → c ≠ 0#64 → d ≠ 0#64 → Cz f n c d → Inc a c → Inc b d → c = a ∧ d = b := by
 have hsm := hm.small
 have up : ∀ (x : BitVec 64) (j : Nat), j < n → x ||| tp j ≠ 0#64 := fun x j hj e => by
  have := (or_tp (a := x) (j := j) (show j < 64 by omega)).2 (.inr rfl)
  rw [e] at this; simp at this
 have incu : ∀ (x : BitVec 64) (j : Nat), j < n → Inc x (x ||| tp j) := fun x j hj q hq => (or_tp (by omega)).2 (.inl hq)
 constructor
 ·intro hx c d hc hd _ _ hcz h1 h2
  constructor
  ·refine sub_eq hc ha fun i hi => ?_
   cases e : a.getLsbD i with
   | true => exact h1 i e
   | false => cases e2 : c.getLsbD i with
    | false => rfl
    | true => exact absurd (hcz.down (inc_or (by omega) h1 e2) h2) (hx.1 i hi e)
  ·refine sub_eq hd hb fun i hi => ?_
   cases e : b.getLsbD i with
   | true => exact h2 i e
   | false => cases e2 : d.getLsbD i with
    | false => rfl
    | true => exact absurd (hcz.down h1 (inc_or (by omega) h2 e2)) (hx.2 i hi e)
 ·intro hx
  refine ⟨fun j hj e hc => ?_, fun j hj e hc => ?_⟩
  ·exact or_ne (by omega) e (hx _ b (sub_or ha hj (by omega)) hb (up a j hj) hb0 hc (incu a j hj) (inc_refl b)).1
  ·exact or_ne (by omega) e (hx a _ ha (sub_or hb hj (by omega)) ha0 (up b j hj) hc (inc_refl a) (incu b j hj)).2
end Go.Proofs.YtejchnmhlcbfcaaDoor.Caus

/- The program's sorted row of maximal causal pairs. -/
namespace Go.Proofs.YtejchnmhlcbfcaaDoor.Caus
open Go.RowKit Go.Proofs.YtejchnmhlcbfcaaDoor.Pr Go.Proofs.YtejchnmhlcbfcaaDoor.Evs Go.Proofs.YtejchnmhlcbfcaaDoor.Bits Go.Proofs.YtejchnmhlcbfcaaDoor.Sets Go.Proofs.YtejchnmhlcbfcaaDoor.Logs Go.Proofs.YtejchnmhlcbfcaaDoor.Feet Go.Proofs.YtejchnmhlcbfcaaDoorW.PrintWords Go.Proofs.YtejchnmhlcbfcaaDoorW.PrintLast Go.Proofs.YtejchnmhlcbfcaaDoorW.PrintMore
set_option linter.unusedVariables false
set_option linter.unusedSimpArgs false

def B2 (q p : S57) : Prop := q.f0 < p.f0 ∨ (q.f0 = p.f0 ∧ q.f1 < p.f1)
theorem B2.irrefl (p : S57) : ¬ B2 p p := by unfold B2; omega
theorem B2.trans {a b c : S57} (h : B2 a b) (k : B2 b c) : B2 a c := by unfold B2 at *; omega
theorem B2.total {a b : S57} (h : ¬ B2 a b) (k : a ≠ b) : B2 b a := by
 unfold B2 at *
 by_cases e : a.f0 = b.f0
 ·by_cases e1 : a.f1 = b.f1
  ·exact absurd (by cases a; cases b; simp_all) k
  ·omega
 ·omega
theorem befB_iff {q : S57} {p : S76} : befB q p = true ↔ B2 q (toP p) := by
 unfold befB B2 toP
 split
 ·simp_all
 ·split
  ·simp_all
  ·simp_all
def insQ : List S57 → S76 → List S57
 | [], p => [toP p]
 | x :: l, p => if befB x p = true then x :: insQ l p else toP p :: x :: l
theorem insP_eq : ∀ (l : List S57) (p : S76), insP l p = insQ l p
 | [], p => rfl
 | x :: l, p => by
  have ih := insP_eq l p
  unfold insQ
  by_cases h : befB x p = true
  ·rw [if_pos h, ← ih]
   unfold insP posP
   rw [List.takeWhile_cons, if_pos h]
   simp
  ·rw [if_neg h]
   unfold insP posP
   rw [List.takeWhile_cons, if_neg h]
   simp
theorem insQ_mem : ∀ (l : List S57) (p : S76) (y : S57), y ∈ insQ l p ↔ y = toP p ∨ y ∈ l
 | [], p, y => by simp [insQ]
 | x :: l, p, y => by
  have ih := insQ_mem l p y
  unfold insQ
  split
  ·simp only [List.mem_cons, ih]
   constructor
   ·rintro (h | h | h)
    ·exact .inr (.inl h)
    ·exact .inl h
    ·exact .inr (.inr h)
   ·rintro (h | h | h)
    ·exact .inr (.inl h)
    ·exact .inl h
    ·exact .inr (.inr h)
  ·simp only [List.mem_cons]
theorem insQ_srt : ∀ (l : List S57) (p : S76), l.Pairwise B2 → toP p ∉ l → (insQ l p).Pairwise B2
 | [], p, _, _ => by simp [insQ]
 | x :: l, p, h, hn => by
  obtain ⟨h1, h2⟩ := List.pairwise_cons.1 h
  have hn2 : toP p ∉ l := fun e => hn (List.mem_cons_of_mem _ e)
  have hne : x ≠ toP p := fun e => hn (by rw [e]; exact List.mem_cons_self ..)
  have ih := insQ_srt l p h2 hn2
  unfold insQ
  split
  ·rename_i hb
   refine List.pairwise_cons.2 ⟨fun y hy => ?_, ih⟩
   rcases (insQ_mem l p y).1 hy with rfl | hy
   ·exact befB_iff.1 hb
   ·exact h1 y hy
  ·rename_i hb
   have h0 : B2 (toP p) x := B2.total (fun e => hb (befB_iff.2 e)) hne
   refine List.pairwise_cons.2 ⟨fun y hy => ?_, h⟩
   rcases List.mem_cons.1 hy with rfl | hy
   ·exact h0
   ·exact h0.trans (h1 y hy)
def tS (x : BitVec 64 × BitVec 64) : S57 := ⟨U x.1, U x.2⟩
theorem tS_inj {x y : BitVec 64 × BitVec 64} (h : tS x = tS y) : x = y := by
 unfold tS at h
 injection h with h1 h2
 exact Prod.ext (U_inj.1 h1) (U_inj.1 h2)
theorem toP_prS (x : BitVec 64 × BitVec 64) : toP (prS x) = tS x := rfl
theorem fold_ins : ∀ (L : List (BitVec 64 × BitVec 64)) (out : List S57), L.Nodup → out.Pairwise B2 → (∀ x ∈ L, tS x ∉ out) →
  ((L.map prS).foldl insP out).Pairwise B2 ∧ ∀ y, y ∈ (L.map prS).foldl insP out ↔ y ∈ out ∨ ∃ x ∈ L, y = tS x
 | [], out, _, h, _ => ⟨h, fun y => by simp⟩
 | x :: L, out, hd, h, hn => by
  obtain ⟨hx, hd2⟩ := List.nodup_cons.1 hd
  rw [List.map_cons, List.foldl_cons, insP_eq]
  obtain ⟨h1, h2⟩ := fold_ins L (insQ out (prS x)) hd2 (insQ_srt out _ h (by rw [toP_prS]; exact hn x (List.mem_cons_self ..))) (fun z hz e => by
   rcases (insQ_mem out (prS x) (tS z)).1 e with e | e
   ·rw [toP_prS] at e
    exact hx (tS_inj e ▸ hz)
   ·exact hn z (List.mem_cons_of_mem _ hz) e)
  refine ⟨h1, fun y => ?_⟩
  rw [h2, insQ_mem, toP_prS]
  constructor
  ·rintro ((rfl | e) | ⟨z, hz, rfl⟩)
   ·exact .inr ⟨x, List.mem_cons_self .., rfl⟩
   ·exact .inl e
   ·exact .inr ⟨z, List.mem_cons_of_mem _ hz, rfl⟩
  ·rintro (e | ⟨z, hz, rfl⟩)
   ·exact .inl (.inr e)
   ·rcases List.mem_cons.1 hz with rfl | hz
    ·exact .inl (.inl rfl)
    ·exact .inr ⟨z, hz, rfl⟩
/-- Two rows in strict order with the same members are one. -/
theorem srt_eq : ∀ (a b : List S57), a.Pairwise B2 → b.Pairwise B2 → (∀ y, y ∈ a ↔ y ∈ b) → a = b
 | [], [], _, _, _ => rfl
 | [], y :: b, _, _, h => by have := (h y).2 (List.mem_cons_self ..); cases this
 | x :: a, [], _, _, h => by have := (h x).1 (List.mem_cons_self ..); cases this
 | x :: a, y :: b, ha, hb, h => by
  obtain ⟨a1, a2⟩ := List.pairwise_cons.1 ha
  obtain ⟨b1, b2⟩ := List.pairwise_cons.1 hb
  have e : x = y := by
   rcases List.mem_cons.1 ((h x).1 (List.mem_cons_self ..)) with e | e
   ·exact e
   ·rcases List.mem_cons.1 ((h y).2 (List.mem_cons_self ..)) with f | f
    ·exact f.symm
    ·exact absurd ((a1 y f).trans (b1 x e)) (B2.irrefl x)
  subst e
  rw [srt_eq a b a2 b2 fun z => ?_]
  constructor
  ·intro hz
   rcases List.mem_cons.1 ((h z).1 (List.mem_cons_of_mem _ hz)) with rfl | g
   ·exact absurd (a1 z hz) (B2.irrefl z)
   ·exact g
  ·intro hz
   rcases List.mem_cons.1 ((h z).2 (List.mem_cons_of_mem _ hz)) with rfl | g
   ·exact absurd (b1 z hz) (B2.irrefl z)
   ·exact g
/-- The members of the answer. -/
def Best (f : List (List Int)) (n : Nat) (x : BitVec 64 × BitVec 64) : Prop := Sub n x.1 ∧ Sub n x.2 ∧ x.1 ≠ 0#64 ∧ x.2 ≠ 0#64 ∧ Cz f n x.1 x.2 ∧ Max f n x.1 x.2
structure Ans (f : List (List Int)) (n : Nat) (R : List S57) : Prop where
 srt : R.Pairwise B2
 mem : ∀ y, y ∈ R ↔ ∃ x, Best f n x ∧ y = tS x
theorem Ans.eq {f : List (List Int)} {n : Nat} {a b : List S57} (h : Ans f n a) (k : Ans f n b) : a = b :=
 srt_eq a b h.srt k.srt fun y => (h.mem y).trans (k.mem y).symm
theorem eans {l : List (List ByteArray)} (h : Big l) (he : (footB l).2 = 0) (hm : Mat (footB l).1 (footB l).1.length) :
  ∃ R, Ev (fun k => d_Pairs.f k l) (R, 0) ∧ Ans (footB l).1 (footB l).1.length R := by
 obtain ⟨L, h1, h2, h3, h4⟩ := epairs hm
 obtain ⟨s1, s2⟩ := fold_ins L [] h2 List.Pairwise.nil (by simp)
 refine ⟨(L.map prS).foldl insP [], ?_, s1, fun y => ?_⟩
 ·unfold d_Pairs.f
  exact Ev.bind (efoot h) (Ev.pos he (Ev.bind h1 (Ev.pos (by rw [List.length_map]; omega) (Ev.now _))))
 ·rw [s2]
  constructor
  ·rintro (e | ⟨x, hx, rfl⟩)
   ·cases e
   ·exact ⟨x, (h4 x).1 hx, rfl⟩
  ·rintro ⟨x, hx, rfl⟩
   exact .inr ⟨x, (h4 x).2 hx, rfl⟩
theorem eerr {l : List (List ByteArray)} (h : Big l) (he : (footB l).2 ≠ 0) : Ev (fun k => d_Pairs.f k l) ([], (footB l).2) := by
 unfold d_Pairs.f
 exact Ev.bind (efoot h) (Ev.neg he (Ev.now _))
theorem foot_mat {l : List (List ByteArray)} (he : (footB l).2 = 0) : Mat (footB l).1 (footB l).1.length := by
 have key : footB l = (matL l (acts l), 0) ∧ (acts l).length ≤ 12 := by
  unfold footB at he ⊢
  split at he
  ·split at he
   ·simp at he
   ·split at he
    ·simp at he
    ·rename_i h1 h2 h3
     rw [if_pos h1, if_neg h2, if_neg h3]
     exact ⟨rfl, by omega⟩
  ·rename_i h1; exact absurd he h1
 rw [key.1]
 have : (matL l (acts l)).length = (acts l).length := by simp [matL]
 rw [show ((matL l (acts l), (0 : Int)).1).length = (acts l).length from this]
 exact matL_mat l (acts l) key.2
end Go.Proofs.YtejchnmhlcbfcaaDoor.Caus

/- The net of a log, as the program makes it. -/
namespace Go.Proofs.YtejchnmhlcbfcaaDoor.Alpha
open Go.RowKit Go.Proofs.YtejchnmhlcbfcaaDoor.Pr Go.Proofs.YtejchnmhlcbfcaaDoor.Evs Go.Proofs.YtejchnmhlcbfcaaDoor.Bits Go.Proofs.YtejchnmhlcbfcaaDoor.Sets Go.Proofs.YtejchnmhlcbfcaaDoor.Logs Go.Proofs.YtejchnmhlcbfcaaDoor.Feet Go.Proofs.YtejchnmhlcbfcaaDoor.Caus Go.Proofs.YtejchnmhlcbfcaaDoor.Names Go.Proofs.YtejchnmhlcbfcaaDoorW.PrintWords Go.Proofs.YtejchnmhlcbfcaaDoorW.PrintLast Go.Proofs.YtejchnmhlcbfcaaDoorW.PrintMore
set_option linter.unusedVariables false
set_option linter.unusedSimpArgs false

abbrev Pl := S59
abbrev Ar := S62
abbrev Tr := S41
abbrev Pq := BitVec 64 × BitVec 64
/-- The digits of a number below 100. -/
def decD (i : Nat) : List UInt8 := if i < 10 then [UInt8.ofNat (48 + i)] else [UInt8.ofNat (48 + i / 10), UInt8.ofNat (48 + i % 10)]
def dec (i : Nat) : ByteArray := ⟨(decD i).toArray⟩
theorem decD_eq {i : Nat} (h : i < 100) : Go.Lib.decDigits i = decD i := by
 unfold Go.Lib.decDigits decD
 split
 ·rfl
 ·rename_i h1
  unfold Go.Lib.decDigits
  rw [dif_pos (by omega)]
  rfl
theorem dec_size (i : Nat) : (dec i).size ≤ 2 := by
 unfold dec decD
 split <;> exact Nat.le_of_ble_eq_true rfl
theorem eitoa {i : Nat} (h : i < 100) : strconv_Itoa_24.f (i : Int) = some (dec i) := by
 have : strconv_small.f (i : Int) = some (dec i) := by
  unfold strconv_small.f
  rw [if_pos (by omega), Int.toNat_natCast, decD_eq h]; rfl
 simp only [strconv_Itoa_24.f, strconv_Itoa_47.f, strconv_FormatInt.f]
 rw [if_pos (by first | exact ⟨rfl, by omega, by omega⟩ | exact ⟨trivial, by omega, by omega⟩), this]
 rfl

/-! ### the parts of the net -/
def plName (k : Nat) : ByteArray := (⟨#[95, 112]⟩ : ByteArray) ++ dec k
def plUp : Nat → List Pl
 | 0 => [(⟨(⟨#[95, 105, 110]⟩ : ByteArray), 1, 0⟩ : Pl), (⟨(⟨#[95, 111, 117, 116]⟩ : ByteArray), 0, 0⟩ : Pl)]
 | k + 1 => plUp k ++ [(⟨plName k, 0, 0⟩ : Pl)]
theorem plUp_len : ∀ k, (plUp k).length = k + 2
 | 0 => rfl
 | k + 1 => by rw [plUp, List.length_append, plUp_len k]; rfl
/-- The arcs of the pairs in front of k whose side g has activity i. -/
def arUp (g : Pq → BitVec 64) (Q : List Pq) (i : Nat) : Nat → List Ar
 | 0 => []
 | k + 1 => arUp g Q i k ++ if (g (Q.getD k (0#64, 0#64))).getLsbD i = true then [(⟨((k + 2 : Nat) : Int), 1⟩ : Ar)] else []
theorem arUp_len (g : Pq → BitVec 64) (Q : List Pq) (i : Nat) : ∀ k, (arUp g Q i k).length ≤ k
 | 0 => by simp [arUp]
 | k + 1 => by
  have := arUp_len g Q i k
  rw [arUp, List.length_append]
  split
  ·rw [List.length_singleton]; omega
  ·simp; omega
def endAr (l : List ByteArray) (s : ByteArray) (p : Int) : List Ar := if hasB l s = true then [(⟨p, 1⟩ : Ar)] else []
theorem endAr_t {l : List ByteArray} {s : ByteArray} (h : hasB l s = true) (p : Int) : endAr l s p = [(⟨p, 1⟩ : Ar)] := by unfold endAr; rw [if_pos h]
theorem endAr_f {l : List ByteArray} {s : ByteArray} (h : hasB l s = false) (p : Int) : endAr l s p = [] := by unfold endAr; rw [if_neg (by rw [h]; decide)]
theorem endAr_len (l : List ByteArray) (s : ByteArray) (p : Int) : (endAr l s p).length ≤ 1 := by unfold endAr; split <;> simp
def trOf (Q : List Pq) (fs ls : List ByteArray) (i : Nat) (s : ByteArray) : Tr :=
 ⟨s, endAr fs s 0 ++ arUp (·.2) Q i Q.length, endAr ls s 1 ++ arUp (·.1) Q i Q.length, [], 0⟩
def trUp (Q : List Pq) (fs ls ns : List ByteArray) : Nat → List Tr
 | 0 => []
 | i + 1 => trUp Q fs ls ns i ++ [trOf Q fs ls i (ns.getD i ByteArray.empty)]
theorem trUp_len (Q : List Pq) (fs ls ns : List ByteArray) : ∀ k, (trUp Q fs ls ns k).length = k
 | 0 => rfl
 | k + 1 => by rw [trUp, List.length_append, trUp_len Q fs ls ns k]; rfl
theorem trUp_mem {Q : List Pq} {fs ls ns : List ByteArray} : ∀ {k : Nat} {t : Tr}, t ∈ trUp Q fs ls ns k → ∃ i, i < k ∧ t = trOf Q fs ls i (ns.getD i ByteArray.empty)
 | 0, t, h => by simp [trUp] at h
 | k + 1, t, h => by
  rw [trUp, List.mem_append, List.mem_singleton] at h
  rcases h with h | rfl
  ·obtain ⟨i, h1, h2⟩ := trUp_mem h
   exact ⟨i, by omega, h2⟩
  ·exact ⟨k, by omega, rfl⟩
def clash (ps : List Pl) (s : ByteArray) : Prop := ∃ p ∈ ps, p.f0 = s
instance (ps : List Pl) (s : ByteArray) : Decidable (clash ps s) := inferInstanceAs (Decidable (∃ p ∈ ps, p.f0 = s))
abbrev NetR := ByteArray × List Pl × List Tr × Int
def errR (e : Int) : NetR := ((⟨#[]⟩ : ByteArray), [], [], e)
def netName : ByteArray := ⟨#[97, 108, 112, 104, 97]⟩
/-- What Alpha returns behind the pairs. -/
def netR (Q : List Pq) (fs ls ns : List ByteArray) : NetR :=
 if ∃ s ∈ ns, clash (plUp Q.length) s then errR 6 else (netName, plUp Q.length, trUp Q fs ls ns ns.length, 0)

theorem netR_small (Q : List Pq) (fs ls ns : List ByteArray) (hQ : Q.length ≤ 22) (hn : ns.length ≤ 12) :
  (netR Q fs ls ns).2.1.length ≤ 24 ∧ (netR Q fs ls ns).2.2.1.length ≤ 12 ∧ ∀ x ∈ (netR Q fs ls ns).2.2.1, x.f1.length ≤ 23 ∧ x.f2.length ≤ 23 ∧ x.f3.length ≤ 23 := by
 unfold netR
 split
 ·simp [errR]
 ·refine ⟨by rw [plUp_len]; omega, by rw [trUp_len]; omega, fun x hx => ?_⟩
  obtain ⟨i, _, rfl⟩ := trUp_mem hx
  unfold trOf
  have h1 := arUp_len (·.2) Q i Q.length
  have h2 := arUp_len (·.1) Q i Q.length
  have h3 := endAr_len fs (ns.getD i ByteArray.empty) 0
  have h4 := endAr_len ls (ns.getD i ByteArray.empty) 1
  simp only [List.length_append, List.length_nil]
  omega

/-! ### the loops -/
theorem rd_T59g {l : List Pl} {i : Nat} (h : i < l.length) : rd_T59 l (i : Int) = l[i] := by simp [rd_T59, h]
theorem rd_T57g {Q : List Pq} {i : Nat} (h : i < Q.length) : rd_T57 (Q.map tS) (i : Int) = tS Q[i] := by simp [rd_T57, h]
theorem alpha_l3 (Q : List Pq) (hQ : Q.length ≤ 22) (fs ls ns : List ByteArray) (i : Nat) (hi : i < 12) (L : Int) (nm : ByteArray) (ps : List Pl) (ts : List Tr) (hts : ts.length ≤ 12) (s : ByteArray) (A B : List Ar) (hA : A.length ≤ 1) (hB : B.length ≤ 1) (R : NetR)
  (hnext : Ev (fun k => d_Alpha.l1 k (Q.map tS) fs ls ns L ((i + 1 : Nat) : Int) nm ps (ts ++ [(⟨s, A ++ arUp (·.2) Q i Q.length, B ++ arUp (·.1) Q i Q.length, [], 0⟩ : Tr)])) R) :
  ∀ d k, k ≤ Q.length → Q.length - k = d →
   Ev (fun j => d_Alpha.l3 j (Q.map tS) fs ls (i : Int) ns L (i : Int) (Q.map tS) (Q.length : Int) (k : Int) nm ps ts s (A ++ arUp (·.2) Q i k) (B ++ arUp (·.1) Q i k) 0) R := by
 intro d
 induction d with
 | zero =>
  intro k hk hd
  obtain rfl : k = Q.length := by omega
  refine Ev.succ ?_
  simp only [d_Alpha.l3]
  rw [wrap_succ (i := i) (by omega)]
  exact Ev.neg (by omega) (Ev.pos (by omega) hnext)
 | succ d ih =>
  intro k hk hd
  have hlt : k < Q.length := by omega
  have hih := ih (k + 1) (by omega) (by omega)
  have hg : Q.getD k (0#64, 0#64) = Q[k] := by rw [List.getD_eq_getElem?_getD, List.getElem?_eq_getElem hlt]; rfl
  rw [arUp, arUp, hg] at hih
  have hw : wrap64 ((k : Int) + 2) = ((k + 2 : Nat) : Int) := by unfold wrap64; omega
  have hl2 := arUp_len (·.2) Q i k
  have hl1 := arUp_len (·.1) Q i k
  refine Ev.succ ?_
  simp only [d_Alpha.l3, rd_T57g hlt, tS, has_U _ (show i < 64 by omega), Option.bind_some, hw]
  rw [wrap_succ (i := k) (by omega)]
  refine Ev.pos (by omega) (Ev.pos (by omega) (Ev.pos (by rw [List.length_map]; omega) ?_))
  cases h2 : Q[k].2.getLsbD i with
  | true =>
   rw [h2, if_pos rfl] at hih
   refine Ev.pos rfl (Ev.pos (by rw [List.length_append]; omega) ?_)
   cases h1 : Q[k].1.getLsbD i with
   | true =>
    rw [h1, if_pos rfl] at hih
    rw [← List.append_assoc, ← List.append_assoc] at hih
    exact Ev.pos rfl (Ev.pos (by rw [List.length_append]; omega) hih)
   | false =>
    rw [h1, if_neg (by decide), List.append_nil, ← List.append_assoc] at hih
    exact Ev.neg (by decide) hih
  | false =>
   rw [h2, if_neg (by decide), List.append_nil] at hih
   refine Ev.neg (by decide) ?_
   cases h1 : Q[k].1.getLsbD i with
   | true =>
    rw [h1, if_pos rfl, ← List.append_assoc] at hih
    exact Ev.pos rfl (Ev.pos (by rw [List.length_append]; omega) hih)
   | false =>
    rw [h1, if_neg (by decide), List.append_nil] at hih
    exact Ev.neg (by decide) hih
theorem alpha_l2 (Q : List Pq) (hQ : Q.length ≤ 22) (fs ls ns : List ByteArray) (hf : fs.length ≤ 1048576) (hl : ls.length ≤ 1048576) (i : Nat) (hi : i < 12) (L : Int) (nm : ByteArray) (ps : List Pl) (hps : ps.length ≤ 24) (ts : List Tr) (hts : ts.length ≤ 12) (s : ByteArray) (R : NetR)
  (hyes : clash ps s → R = errR 6)
  (hnext : ¬ clash ps s → Ev (fun k => d_Alpha.l1 k (Q.map tS) fs ls ns L ((i + 1 : Nat) : Int) nm ps (ts ++ [trOf Q fs ls i s])) R) :
  ∀ d k, k ≤ ps.length → ps.length - k = d → (∀ p ∈ ps.take k, p.f0 ≠ s) →
   Ev (fun j => d_Alpha.l2 j (Q.map tS) fs ls (i : Int) s ns L (i : Int) ps (ps.length : Int) (k : Int) nm ps ts) R := by
 intro d
 induction d with
 | zero =>
  intro k hk hd hno
  obtain rfl : k = ps.length := by omega
  rw [List.take_length] at hno
  have hn := hnext (by rintro ⟨p, h1, h2⟩; exact hno p h1 h2)
  have h3 := alpha_l3 Q hQ fs ls ns i hi L nm ps ts hts s (endAr fs s 0) (endAr ls s 1) (endAr_len _ _ _) (endAr_len _ _ _) R hn _ 0 (by omega) rfl
  simp only [arUp, List.append_nil] at h3
  have j4 : Ev (fun j => d_Alpha.j4 j (Q.map tS) fs ls (i : Int) ns L (i : Int) nm ps ts s (endAr fs s 0) (endAr ls s 1) 0) R := by
   refine Ev.succ ?_
   simp only [d_Alpha.j4, List.length_map]
   exact h3
  have j3 : Ev (fun j => d_Alpha.j3 j (Q.map tS) fs ls (i : Int) s ns L (i : Int) nm ps ts s (endAr fs s 0) 0) R := by
   refine Ev.succ ?_
   simp only [d_Alpha.j3]
   refine Ev.bind (eamong ls s hl) ?_
   cases hb : hasB ls s with
   | true =>
    rw [endAr_t hb] at j4
    exact Ev.pos rfl (Ev.pos (by decide) j4)
   | false =>
    rw [endAr_f hb] at j4
    exact Ev.neg (by decide) j4
  refine Ev.succ ?_
  simp only [d_Alpha.l2]
  refine Ev.neg (by omega) (Ev.bind (eamong fs s hf) ?_)
  cases hb : hasB fs s with
  | true =>
   rw [endAr_t hb] at j3
   exact Ev.pos rfl (Ev.pos (by decide) j3)
  | false =>
   rw [endAr_f hb] at j3
   exact Ev.neg (by decide) j3
 | succ d ih =>
  intro k hk hd hno
  have hlt : k < ps.length := by omega
  refine Ev.succ ?_
  simp only [d_Alpha.l2, rd_T59g hlt]
  rw [wrap_succ (i := k) (by omega)]
  refine Ev.pos (by omega) (Ev.pos (by omega) (Ev.pos (by omega) ?_))
  by_cases e : ps[k].f0 = s
  ·exact Ev.pos ((bytes_eq _ _).2 e) (Ev.val (hyes ⟨_, List.getElem_mem hlt, e⟩).symm)
  ·refine Ev.neg (fun h => e ((bytes_eq _ _).1 h)) (ih (k + 1) (by omega) (by omega) fun p hp => ?_)
   rw [List.take_succ_eq_append_getElem hlt, List.mem_append, List.mem_singleton] at hp
   rcases hp with hp | rfl
   ·exact hno p hp
   ·exact e
theorem alpha_l1 (Q : List Pq) (hQ : Q.length ≤ 22) (fs ls ns : List ByteArray) (hf : fs.length ≤ 1048576) (hl : ls.length ≤ 1048576) (hns : ns.length ≤ 12) :
  ∀ d i, i ≤ ns.length → ns.length - i = d → (∀ s ∈ ns.take i, ¬ clash (plUp Q.length) s) →
   Ev (fun k => d_Alpha.l1 k (Q.map tS) fs ls ns (ns.length : Int) (i : Int) netName (plUp Q.length) (trUp Q fs ls ns i)) (netR Q fs ls ns) := by
 have hpl := plUp_len Q.length
 intro d
 induction d with
 | zero =>
  intro i hi hd hno
  obtain rfl : i = ns.length := by omega
  rw [List.take_length] at hno
  refine Ev.succ ?_
  simp only [d_Alpha.l1]
  refine Ev.neg (by omega) (Ev.val ?_)
  unfold netR
  rw [if_neg (by rintro ⟨s, h1, h2⟩; exact hno s h1 h2)]
 | succ d ih =>
  intro i hi hd hno
  have hlt : i < ns.length := by omega
  have htl := trUp_len Q fs ls ns i
  have hg : ns.getD i ByteArray.empty = ns[i] := by rw [List.getD_eq_getElem?_getD, List.getElem?_eq_getElem hlt]; rfl
  refine Ev.succ ?_
  simp only [d_Alpha.l1, rdOf_get hlt]
  refine Ev.pos (by omega) (Ev.pos (by omega) (Ev.pos (by omega) ?_))
  refine alpha_l2 Q hQ fs ls ns hf hl i (by omega) _ netName (plUp Q.length) (by omega) _ (by omega) ns[i] _ (fun h => ?_) (fun h => ?_) _ 0 (by omega) rfl (by simp)
  ·unfold netR
   rw [if_pos ⟨_, List.getElem_mem hlt, h⟩]
  ·have hih := ih (i + 1) (by omega) (by omega) fun s hs => by
    rw [List.take_succ_eq_append_getElem hlt, List.mem_append, List.mem_singleton] at hs
    rcases hs with hs | rfl
    ·exact hno s hs
    ·exact h
   rw [trUp, hg] at hih
   exact hih
theorem alpha_l0 (Q : List Pq) (hQ : Q.length ≤ 22) (l : List (List ByteArray)) (fs ls ns : List ByteArray) (hf : fs.length ≤ 1048576) (hl : ls.length ≤ 1048576) (hns : ns.length ≤ 12)
  (e1 : Ev (fun k => e_First.f k l) fs) (e2 : Ev (fun k => e_Last.f k l) ls) (e3 : Ev (fun k => e_Activities.f k l) ns) :
  ∀ d i, i ≤ Q.length → Q.length - i = d → Ev (fun k => d_Alpha.l0 k l (Q.map tS) (Q.length : Int) (i : Int) netName (plUp i)) (netR Q fs ls ns) := by
 intro d
 induction d with
 | zero =>
  intro i hi hd
  obtain rfl : i = Q.length := by omega
  refine Ev.succ ?_
  simp only [d_Alpha.l0]
  exact Ev.neg (by omega) (Ev.bind e1 (Ev.bind e2 (Ev.bind e3 (alpha_l1 Q hQ fs ls ns hf hl hns _ 0 (by omega) rfl (by simp)))))
 | succ d ih =>
  intro i hi hd
  have hlt : i < Q.length := by omega
  have hpl := plUp_len i
  have hsz := dec_size i
  refine Ev.succ ?_
  simp only [d_Alpha.l0, eitoa (show i < 100 by omega), Option.bind_some]
  rw [wrap_succ (i := i) (by omega)]
  exact Ev.pos (by omega) (Ev.pos (by omega) (Ev.pos (by omega) (ih (i + 1) (by omega) (by omega))))

/-- A sorted row of maximal pairs, told of sets. -/
theorem ans_map {f : List (List Int)} {n : Nat} {R : List S57} (h : Ans f n R) : ∃ Q : List Pq, R = Q.map tS := by
 have key : ∀ R : List S57, (∀ y ∈ R, ∃ x, y = tS x) → ∃ Q : List Pq, R = Q.map tS := by
  intro R
  induction R with
  | nil => intro _; exact ⟨[], rfl⟩
  | cons y R ih =>
   intro h
   obtain ⟨x, rfl⟩ := h _ (List.mem_cons_self ..)
   obtain ⟨Q, rfl⟩ := ih fun z hz => h z (List.mem_cons_of_mem _ hz)
   exact ⟨x :: Q, rfl⟩
 exact key R fun y hy => by
  obtain ⟨x, _, e⟩ := (h.mem y).1 hy
  exact ⟨x, e⟩
/-- What Alpha returns, out of the pairs. -/
def alphaB (Q : List Pq) (fs ls ns : List ByteArray) : NetR := if 22 < Q.length then errR 2 else netR Q fs ls ns
theorem ealpha_ok (l : List (List ByteArray)) (Q : List Pq) (hQ : Q.length ≤ 17000000) (hp : Ev (fun k => d_Pairs.f k l) (Q.map tS, 0)) (hs : Small l) (ht : ∀ t ∈ l, t.length ≤ 1048576) (hns : (acts l).length ≤ 12) :
  Ev (fun k => d_Alpha.f k l) (alphaB Q (sel List.head? l) (sel List.getLast? l) (acts l)) := by
 have hl := hs.len
 have h1 := sel_len List.head? l
 have h2 := sel_len List.getLast? l
 unfold d_Alpha.f alphaB
 refine Ev.bind hp (Ev.pos rfl ?_)
 have hw : wrap64 (((Q.map tS).length : Int) + 2) = ((Q.length + 2 : Nat) : Int) := by rw [List.length_map]; unfold wrap64; omega
 rw [hw]
 by_cases h : 22 < Q.length
 ·rw [if_pos h]
  exact Ev.pos (by omega) (Ev.now _)
 ·rw [if_neg h]
  refine Ev.neg (by omega) ?_
  rw [List.length_map]
  exact alpha_l0 Q (by omega) l _ _ _ (by omega) (by omega) hns (efirst hs) (elast hs ht) (eacts hs) _ 0 (by omega) rfl
theorem ealpha_err (l : List (List ByteArray)) (e : Int) (he : e ≠ 0) (hp : Ev (fun k => d_Pairs.f k l) ([], e)) : Ev (fun k => d_Alpha.f k l) (errR e) := by
 unfold d_Alpha.f
 exact Ev.bind hp (Ev.neg he (Ev.now _))
end Go.Proofs.YtejchnmhlcbfcaaDoor.Alpha

/- The reference's row of maximal causal pairs. -/
namespace Go.Proofs.YtejchnmhlcbfcaaDoor.Caus
open Go.RowKit Go.Proofs.YtejchnmhlcbfcaaDoor.Pr Go.Proofs.YtejchnmhlcbfcaaDoor.Evs Go.Proofs.YtejchnmhlcbfcaaDoor.Bits Go.Proofs.YtejchnmhlcbfcaaDoor.Sets Go.Proofs.YtejchnmhlcbfcaaDoor.Logs Go.Proofs.YtejchnmhlcbfcaaDoor.Feet Go.Proofs.YtejchnmhlcbfcaaDoorW.PrintWords Go.Proofs.YtejchnmhlcbfcaaDoorW.PrintLast Go.Proofs.YtejchnmhlcbfcaaDoorW.PrintMore
set_option linter.unusedVariables false
set_option linter.unusedSimpArgs false

theorem hasN (a : BitVec 64) (i : Nat) : Ev (fun k => r06_Has.f k (U a) (i : Int)) (a.getLsbD i) := by
 have h := rhas a (i : Int)
 rw [Int.toNat_natCast] at h
 have e : decide (0 ≤ (i : Int)) = true := decide_eq_true (by omega)
 rw [e, Bool.true_and] at h
 exact h
/-- The rows from i on, and in row i the columns from k on. -/
def Rest (f : List (List Int)) (n : Nat) (a b : BitVec 64) (w : Int) (i : Nat) : Prop := ∀ p q, i ≤ p → p < n → q < n → a.getLsbD p = true → b.getLsbD q = true → M f p q = w
theorem rall_l1 {f : List (List Int)} {n : Nat} (hm : Mat f n) (a b : BitVec 64) (w : Int) (i : Nat) (hi : i < n)
  (hnext : ∃ r, Ev (fun k => r49_all.l0 k f (U a) (U b) w ((i + 1 : Nat) : Int)) r ∧ (r = true ↔ Rest f n a b w (i + 1))) :
  ∀ d j, j ≤ n → n - j = d → (∀ q, q < j → a.getLsbD i = true → b.getLsbD q = true → M f i q = w) →
   ∃ r, Ev (fun k => r49_all.l1 k f (U a) (U b) w (i : Int) (j : Int)) r ∧ (r = true ↔ Rest f n a b w i) := by
 have hsm := hm.small
 have hfl := hm.len
 have hrl := row_len hm hi
 intro d
 induction d with
 | zero =>
  intro j hj hd hall
  obtain rfl : j = n := by omega
  obtain ⟨r, hr, hr'⟩ := hnext
  refine ⟨r, Ev.succ ?_, hr'.trans ⟨fun h p q h1 h2 h3 h4 h5 => ?_, fun h p q h1 => h p q (by omega)⟩⟩
  ·simp only [r49_all.l1]
   rw [wrap_succ (i := i) (by omega)]
   exact Ev.neg (by omega) hr
  ·by_cases e : p = i
   ·subst e; exact hall q h3 h4 h5
   ·exact h p q (by omega) h2 h3 h4 h5
 | succ d ih =>
  intro j hj hd hall
  have hlt : j < n := by omega
  have go : (a.getLsbD i = true → b.getLsbD j = true → M f i j = w) → ∃ r, Ev (fun k => r49_all.l1 k f (U a) (U b) w (i : Int) ((j + 1 : Nat) : Int)) r ∧ (r = true ↔ Rest f n a b w i) := fun h =>
   ih (j + 1) (by omega) (by omega) (fun q hq x y => by
    by_cases e : q = j
    ·subst e; exact h x y
    ·exact hall q (by omega) x y)
  cases ha : a.getLsbD i with
  | false =>
   obtain ⟨r, hr, hr'⟩ := go (fun x => by rw [ha] at x; cases x)
   refine ⟨r, Ev.succ ?_, hr'⟩
   simp only [r49_all.l1]
   have h1 := hasN a i
   rw [ha] at h1
   rw [wrap_succ (i := j) (by omega)]
   exact Ev.pos (by omega) (Ev.bind h1 (Ev.neg (by decide) hr))
  | true =>
   have h1 := hasN a i
   rw [ha] at h1
   cases hb : b.getLsbD j with
   | false =>
    obtain ⟨r, hr, hr'⟩ := go (fun _ x => by rw [hb] at x; cases x)
    refine ⟨r, Ev.succ ?_, hr'⟩
    simp only [r49_all.l1]
    have h2 := hasN b j
    rw [hb] at h2
    rw [wrap_succ (i := j) (by omega)]
    exact Ev.pos (by omega) (Ev.bind h1 (Ev.pos rfl (Ev.bind h2 (Ev.neg (by decide) hr))))
   | true =>
    have h2 := hasN b j
    rw [hb] at h2
    by_cases hw : M f i j = w
    ·obtain ⟨r, hr, hr'⟩ := go (fun _ _ => hw)
     refine ⟨r, Ev.succ ?_, hr'⟩
     simp only [r49_all.l1]
     rw [wrap_succ (i := j) (by omega)]
     exact Ev.pos (by omega) (Ev.bind h1 (Ev.pos rfl (Ev.bind h2 (Ev.pos rfl (Ev.pos (by omega) (Ev.pos (by omega) (Ev.pos (by omega) (Ev.pos (by rw [hrl]; omega) (Ev.pos hw hr)))))))))
    ·refine ⟨false, Ev.succ ?_, ⟨fun h => (by cases h), fun h => absurd (h i j (Nat.le_refl _) hi hlt ha hb) hw⟩⟩
     simp only [r49_all.l1]
     exact Ev.pos (by omega) (Ev.bind h1 (Ev.pos rfl (Ev.bind h2 (Ev.pos rfl (Ev.pos (by omega) (Ev.pos (by omega) (Ev.pos (by omega) (Ev.pos (by rw [hrl]; omega) (Ev.neg hw (Ev.now _))))))))))
theorem rall_l0' {f : List (List Int)} {n : Nat} (hm : Mat f n) (a b : BitVec 64) (w : Int) : ∀ d i, i ≤ n → n - i = d →
  ∃ r, Ev (fun k => r49_all.l0 k f (U a) (U b) w (i : Int)) r ∧ (r = true ↔ Rest f n a b w i) := by
 have hsm := hm.small
 have hfl := hm.len
 intro d
 induction d with
 | zero =>
  intro i hi hd
  refine ⟨true, Ev.succ ?_, ⟨fun _ p q h1 h2 => by omega, fun _ => rfl⟩⟩
  simp only [r49_all.l0]
  exact Ev.neg (by omega) (Ev.now _)
 | succ d ih =>
  intro i hi hd
  have hlt : i < n := by omega
  obtain ⟨r, hr, hr'⟩ := rall_l1 hm a b w i hlt (ih (i + 1) (by omega) (by omega)) _ 0 (by omega) rfl (by simp)
  refine ⟨r, Ev.succ ?_, hr'⟩
  simp only [r49_all.l0]
  exact Ev.pos (by omega) hr
theorem rall49 {f : List (List Int)} {n : Nat} (hm : Mat f n) (a b : BitVec 64) (w : Int) :
  ∃ r, Ev (fun k => r49_all.f k f (U a) (U b) w) r ∧ (r = true ↔ ∀ p q, p < n → q < n → a.getLsbD p = true → b.getLsbD q = true → M f p q = w) := by
 obtain ⟨r, hr, hr'⟩ := rall_l0' hm a b w _ 0 (by omega) rfl
 exact ⟨r, hr, hr'.trans ⟨fun h p q => h p q (by omega), fun h p q _ => h p q⟩⟩
theorem rcausal {f : List (List Int)} {n : Nat} (hm : Mat f n) (a b : BitVec 64) :
  ∃ r, Ev (fun k => r49_causal.f k f (U a) (U b)) r ∧ (r = true ↔ Cz f n a b) := by
 obtain ⟨r1, h1, g1⟩ := rall49 hm a b 1
 obtain ⟨r2, h2, g2⟩ := rall49 hm a a 0
 obtain ⟨r3, h3, g3⟩ := rall49 hm b b 0
 unfold r49_causal.f
 cases r1 with
 | false => exact ⟨false, Ev.bind h1 (Ev.neg (by decide) (Ev.now _)), fun h => (by cases h), fun h => g1.2 h.ab⟩
 | true => cases r2 with
  | false => exact ⟨false, Ev.bind h1 (Ev.pos rfl (Ev.bind h2 (Ev.neg (by decide) (Ev.now _)))), fun h => (by cases h), fun h => g2.2 h.aa⟩
  | true => exact ⟨r3, Ev.bind h1 (Ev.pos rfl (Ev.bind h2 (Ev.pos rfl (Ev.bind h3 (Ev.now _))))), fun h => ⟨g1.1 rfl, g2.1 rfl, g3.1 h⟩, fun h => g3.2 h.bb⟩

/-! ### the numbers of sets -/
theorem allTo_nat (n : Nat) (hn : n ≤ 12) : (allTo n).toNat = 2 ^ n - 1 := by
 apply Nat.eq_of_testBit_eq
 intro i
 have h := allTo_bit n i
 rw [Nat.testBit_two_pow_sub_one]
 unfold BitVec.getLsbD at h
 rw [h, Bool.eq_iff_iff]
 simp
 omega
theorem sub_lt {n : Nat} {a : BitVec 64} : Sub n a ↔ a.toNat < 2 ^ n := by
 constructor
 ·intro h
  refine Nat.lt_pow_two_of_testBit _ fun i hi => ?_
  cases e : a.toNat.testBit i with
  | false => rfl
  | true => have := h i e; omega
 ·intro h i hi
  by_cases e : i < n
  ·exact e
  ·have h2 : a.toNat < 2 ^ i := Nat.lt_of_lt_of_le h (Nat.pow_le_pow_right (by decide) (by omega))
   have h3 := Nat.testBit_lt_two_pow h2
   unfold BitVec.getLsbD at hi
   rw [h3] at hi; cases hi
def bv (a : Nat) : BitVec 64 := BitVec.ofNat 64 a
theorem U_bv {a : Nat} (h : a ≤ 4096) : U (bv a) = (a : Int) := by
 unfold U bv
 rw [BitVec.toNat_ofNat, Nat.mod_eq_of_lt (by omega)]
theorem bv_nat (x : BitVec 64) : bv x.toNat = x := by
 unfold bv
 exact BitVec.eq_of_toNat_eq (by rw [BitVec.toNat_ofNat]; exact Nat.mod_eq_of_lt x.isLt)
theorem wrapu_succ {a : Nat} (h : a ≤ 4096) : IntKind.u64.wrap ((a : Int) + 1) = ((a + 1 : Nat) : Int) := by
 rw [IntKind.wrap_u64]; omega

/-! ### all causal pairs, in order -/
/-- The pairs before row a, and in row a before column b. -/
structure Fnd (f : List (List Int)) (n : Nat) (a b : Nat) (X : List S57) : Prop where
 srt : X.Pairwise B2
 mem : ∀ y, y ∈ X ↔ ∃ i j : Nat, 1 ≤ i ∧ i < 2 ^ n ∧ 1 ≤ j ∧ j < 2 ^ n ∧ (i < a ∨ i = a ∧ j < b) ∧ Cz f n (bv i) (bv j) ∧ y = tS (bv i, bv j)
 len : X.length ≤ 32 * a + b
theorem Fnd.skip {f : List (List Int)} {n a b : Nat} {X : List S57} (h : Fnd f n a b X) (hc : ¬ Cz f n (bv a) (bv b)) : Fnd f n a (b + 1) X := by
 refine ⟨h.srt, fun y => (h.mem y).trans ⟨?_, ?_⟩, by have := h.len; omega⟩
 ·rintro ⟨i, j, h1, h2, h3, h4, h5, h6⟩
  exact ⟨i, j, h1, h2, h3, h4, by omega, h6⟩
 ·rintro ⟨i, j, h1, h2, h3, h4, h5, h6, h7⟩
  refine ⟨i, j, h1, h2, h3, h4, ?_, h6, h7⟩
  by_cases e : i = a ∧ j = b
  ·exact absurd (e.1 ▸ e.2 ▸ h6) hc
  ·omega
theorem Fnd.hit {f : List (List Int)} {n a b : Nat} {X : List S57} (hn : n ≤ 5) (h : Fnd f n a b X) (ha : 1 ≤ a) (ha2 : a < 2 ^ n) (hb : 1 ≤ b) (hb2 : b < 2 ^ n) (hc : Cz f n (bv a) (bv b)) : Fnd f n a (b + 1) (X ++ [(⟨(a : Int), (b : Int)⟩ : S57)]) := by
 have h32 : 2 ^ n ≤ 2 ^ 5 := Nat.pow_le_pow_right (by omega) hn
 have et : ∀ i j : Nat, i < 2 ^ n → j < 2 ^ n → tS (bv i, bv j) = ⟨(i : Int), (j : Int)⟩ := fun i j hi hj => by
  unfold tS; dsimp only; rw [U_bv (by omega), U_bv (by omega)]
 refine ⟨?_, fun y => ?_, by have := h.len; rw [List.length_append, List.length_singleton]; omega⟩
 ·rw [List.pairwise_append]
  refine ⟨h.srt, by simp, fun x hx z hz => ?_⟩
  obtain ⟨i, j, h1, h2, h3, h4, h5, h6, rfl⟩ := (h.mem x).1 hx
  rw [List.mem_singleton] at hz
  subst hz
  rw [et i j h2 h4]
  unfold B2
  dsimp only
  omega
 ·rw [List.mem_append, List.mem_singleton, h.mem]
  constructor
  ·rintro (⟨i, j, h1, h2, h3, h4, h5, h6⟩ | rfl)
   ·exact ⟨i, j, h1, h2, h3, h4, by omega, h6⟩
   ·exact ⟨a, b, ha, ha2, hb, hb2, by omega, hc, (et a b ha2 hb2).symm⟩
  ·rintro ⟨i, j, h1, h2, h3, h4, h5, h6, h7⟩
   by_cases e : i = a ∧ j = b
   ·right
    rw [h7, et i j h2 h4, e.1, e.2]
   ·exact .inl ⟨i, j, h1, h2, h3, h4, by omega, h6, h7⟩
theorem Fnd.next {f : List (List Int)} {n a b : Nat} {X : List S57} (h : Fnd f n a b X) (hb : b ≤ 32) (hc : ∀ j, b ≤ j → j < 2 ^ n → ¬ Cz f n (bv a) (bv j)) : Fnd f n (a + 1) 1 X := by
 refine ⟨h.srt, fun y => (h.mem y).trans ⟨?_, ?_⟩, by have := h.len; omega⟩
 ·rintro ⟨i, j, h1, h2, h3, h4, h5, h6⟩
  exact ⟨i, j, h1, h2, h3, h4, by omega, h6⟩
 ·rintro ⟨i, j, h1, h2, h3, h4, h5, h6, h7⟩
  refine ⟨i, j, h1, h2, h3, h4, ?_, h6, h7⟩
  by_cases e : i = a ∧ b ≤ j
  ·exact absurd (e.1 ▸ h6) (hc j e.2 h4)
  ·omega

/-! ### the greatest of them -/
def Ov (x y : S57) : Prop := Go.bits .and .u64 x.f0 y.f0 = x.f0 ∧ Go.bits .and .u64 x.f1 y.f1 = x.f1
instance (x y : S57) : Decidable (Ov x y) := inferInstanceAs (Decidable (_ ∧ _))
theorem rd_TX {X : List S57} {i : Nat} (h : i < X.length) : rd_T57 X (i : Int) = X[i] := by simp [rd_T57, h]
theorem rl3 (X Y : List S57) (i : Nat) (hi : i < X.length) (hl : X.length ≤ 4096) (hY : Y.length ≤ 4096) (R : List S57 × Int)
  (hyes : (∀ q, (h : q < X.length) → q ≠ i → ¬ Ov X[i] X[q]) → Ev (fun k => r49_Pairs.l2 k X (Y ++ [X[i]]) ((i + 1 : Nat) : Int)) R)
  (hno : ¬ (∀ q, (h : q < X.length) → q ≠ i → ¬ Ov X[i] X[q]) → Ev (fun k => r49_Pairs.l2 k X Y ((i + 1 : Nat) : Int)) R) :
  ∀ d j, j ≤ X.length → X.length - j = d → ∀ b : Bool, (b = true ↔ ∀ q, (h : q < X.length) → q < j → q ≠ i → ¬ Ov X[i] X[q]) →
   Ev (fun k => r49_Pairs.l3 k X Y (i : Int) b (j : Int)) R := by
 intro d
 induction d with
 | zero =>
  intro j hj hd b hb
  obtain rfl : j = X.length := by omega
  refine Ev.succ ?_
  simp only [r49_Pairs.l3, rd_TX hi]
  rw [wrap_succ (i := i) (by omega)]
  refine Ev.neg (by omega) ?_
  cases b with
  | true =>
   refine Ev.pos rfl (Ev.pos (by omega) (Ev.pos (by omega) (Ev.pos (by omega) ?_)))
   exact hyes fun q h => hb.1 rfl q h h
  | false =>
   refine Ev.neg (by decide) ?_
   refine hno fun h => ?_
   have := hb.2 fun q h1 h2 => h q h1
   cases this
 | succ d ih =>
  intro j hj hd b hb
  have hlt : j < X.length := by omega
  refine Ev.succ ?_
  simp only [r49_Pairs.l3, rd_TX hi, rd_TX hlt]
  rw [wrap_succ (i := j) (by omega)]
  refine Ev.pos (by omega) (Ev.pos (by omega) (Ev.pos (by omega) (Ev.pos (by omega) ?_)))
  have go : ∀ b2 : Bool, (b2 = true ↔ b = true ∧ (j ≠ i → ¬ Ov X[i] X[j])) → Ev (fun k => r49_Pairs.l3 k X Y (i : Int) b2 ((j + 1 : Nat) : Int)) R := fun b2 hb2 => by
   refine ih (j + 1) (by omega) (by omega) b2 (hb2.trans ⟨fun h q hq hj hne => ?_, fun h => ⟨hb.2 fun q hq hj => h q hq (by omega), h j hlt (by omega)⟩⟩)
   by_cases e : q = j
   ·subst e; exact h.2 hne
   ·exact hb.1 h.1 q hq (by omega) hne
  refine Ev.ite (fun h => go b ?_) (fun h => ?_)
  ·exact ⟨fun x => ⟨x, fun hne => absurd (by omega) hne⟩, fun x => x.1⟩
  ·refine Ev.ite (fun h1 => Ev.ite (fun h2 => go false ?_) (fun h2 => go b ?_)) (fun h1 => go b ?_)
   ·exact ⟨fun x => (by cases x), fun x => absurd ⟨h1, h2⟩ (x.2 (by omega))⟩
   ·exact ⟨fun x => ⟨x, fun _ o => h2 o.2⟩, fun x => x.1⟩
   ·exact ⟨fun x => ⟨x, fun _ o => h1 o.1⟩, fun x => x.1⟩
theorem rl2 (X : List S57) (hl : X.length ≤ 4096) (p : S57 → Bool)
  (hp : ∀ i, (hi : i < X.length) → (p X[i] = true ↔ ∀ q, (h : q < X.length) → q ≠ i → ¬ Ov X[i] X[q])) : ∀ d i, i ≤ X.length → X.length - i = d →
   Ev (fun k => r49_Pairs.l2 k X ((X.take i).filter p) (i : Int)) (X.filter p, 0) := by
 intro d
 induction d with
 | zero =>
  intro i hi hd
  obtain rfl : i = X.length := by omega
  refine Ev.succ ?_
  simp only [r49_Pairs.l2]
  rw [List.take_length]
  exact Ev.neg (by omega) (Ev.now _)
 | succ d ih =>
  intro i hi hd
  have hlt : i < X.length := by omega
  have hih := ih (i + 1) (by omega) (by omega)
  rw [List.take_succ_eq_append_getElem hlt, List.filter_append] at hih
  refine Ev.succ ?_
  simp only [r49_Pairs.l2]
  refine Ev.pos (by omega) ?_
  refine rl3 X _ i hlt hl ?_ _ (fun h => ?_) (fun h => ?_) _ 0 (by omega) rfl true ?_
  ·refine Nat.le_trans (List.length_filter_le _ _) ?_
   rw [List.length_take]; omega
  ·have := (hp i hlt).2 h
   simp only [List.filter_cons, List.filter_nil, this, if_true] at hih
   exact hih
  ·have : p X[i] = false := by
    cases e : p X[i] with
    | false => rfl
    | true => exact absurd ((hp i hlt).1 e) h
   simp only [List.filter_cons, List.filter_nil, this, Bool.false_eq_true, if_false, List.append_nil] at hih
   exact hih
  ·exact ⟨fun _ q _ h => absurd h (Nat.not_lt_zero _), fun _ => rfl⟩

theorem rl1 {f : List (List Int)} {n : Nat} (hm : Mat f n) (hn : n ≤ 5) (a : Nat) (ha : 1 ≤ a) (ha2 : a < 2 ^ n) (P : List S57 × Int → Prop)
  (hnext : ∀ X, Fnd f n (a + 1) 1 X → ∃ R, Ev (fun k => r49_Pairs.l0 k f (U (allTo n)) X ((a + 1 : Nat) : Int)) R ∧ P R) :
  ∀ d b, 1 ≤ b → b ≤ 2 ^ n → 2 ^ n - b = d → ∀ X, Fnd f n a b X → ∃ R, Ev (fun k => r49_Pairs.l1 k f (U (allTo n)) X (a : Int) (b : Int)) R ∧ P R := by
 have h32 : 2 ^ n ≤ 2 ^ 5 := Nat.pow_le_pow_right (by omega) hn
 have hU : U (allTo n) = ((2 ^ n - 1 : Nat) : Int) := by unfold U; rw [allTo_nat n (by omega)]
 intro d
 induction d with
 | zero =>
  intro b hb1 hb hd X hX
  obtain ⟨R, hR, hP⟩ := hnext X (hX.next (by omega) fun j h1 h2 => by omega)
  refine ⟨R, Ev.succ ?_, hP⟩
  simp only [r49_Pairs.l1]
  refine Ev.neg (by rw [hU]; omega) (Ev.succ ?_)
  simp only [r49_Pairs.j2]
  rw [wrapu_succ (a := a) (by omega)]
  exact Ev.neg (by decide) hR
 | succ d ih =>
  intro b hb1 hb hd X hX
  have hlt : b < 2 ^ n := by omega
  obtain ⟨r, hr, hr'⟩ := rall49 hm (bv a) (bv a) 0
  rw [U_bv (by omega)] at hr
  cases r with
  | false =>
   obtain ⟨R, hR, hP⟩ := hnext X (hX.next (by omega) fun j h1 h2 c => by have := hr'.2 c.aa; cases this)
   refine ⟨R, Ev.succ ?_, hP⟩
   simp only [r49_Pairs.l1]
   refine Ev.pos (by rw [hU]; omega) (Ev.bind hr (Ev.succ ?_))
   simp only [r49_Pairs.j2]
   rw [wrapu_succ (a := a) (by omega)]
   exact Ev.neg (by decide) hR
  | true =>
   obtain ⟨c, hc, hc'⟩ := rcausal hm (bv a) (bv b)
   rw [U_bv (by omega), U_bv (by omega)] at hc
   have hlen := hX.len
   cases c with
   | false =>
    obtain ⟨R, hR, hP⟩ := ih (b + 1) (by omega) (by omega) (by omega) X (hX.skip fun x => by have := hc'.2 x; cases this)
    refine ⟨R, Ev.succ ?_, hP⟩
    simp only [r49_Pairs.l1]
    refine Ev.pos (by rw [hU]; omega) (Ev.bind hr (Ev.succ ?_))
    simp only [r49_Pairs.j2]
    rw [wrapu_succ (a := b) (by omega)]
    exact Ev.pos trivial (Ev.bind hc (Ev.neg (by decide) hR))
   | true =>
    obtain ⟨R, hR, hP⟩ := ih (b + 1) (by omega) (by omega) (by omega) _ (hX.hit hn ha ha2 hb1 hlt (hc'.1 rfl))
    refine ⟨R, Ev.succ ?_, hP⟩
    simp only [r49_Pairs.l1]
    refine Ev.pos (by rw [hU]; omega) (Ev.bind hr (Ev.succ ?_))
    simp only [r49_Pairs.j2]
    rw [wrapu_succ (a := b) (by omega)]
    exact Ev.pos trivial (Ev.bind hc (Ev.pos rfl (Ev.pos (by omega) hR)))
theorem rl0 {f : List (List Int)} {n : Nat} (hm : Mat f n) (hn : n ≤ 5) (P : List S57 × Int → Prop)
  (hend : ∀ X, Fnd f n (2 ^ n) 1 X → ∃ R, Ev (fun k => r49_Pairs.l2 k X [] 0) R ∧ P R) :
  ∀ d a, 1 ≤ a → a ≤ 2 ^ n → 2 ^ n - a = d → ∀ X, Fnd f n a 1 X → ∃ R, Ev (fun k => r49_Pairs.l0 k f (U (allTo n)) X (a : Int)) R ∧ P R := by
 have h32 : 2 ^ n ≤ 2 ^ 5 := Nat.pow_le_pow_right (by omega) hn
 have hp := Nat.two_pow_pos n
 have hU : U (allTo n) = ((2 ^ n - 1 : Nat) : Int) := by unfold U; rw [allTo_nat n (by omega)]
 intro d
 induction d with
 | zero =>
  intro a ha1 ha hd X hX
  obtain rfl : a = 2 ^ n := by omega
  obtain ⟨R, hR, hP⟩ := hend X hX
  refine ⟨R, Ev.succ ?_, hP⟩
  simp only [r49_Pairs.l0]
  exact Ev.neg (by rw [hU]; omega) hR
 | succ d ih =>
  intro a ha1 ha hd X hX
  obtain ⟨R, hR, hP⟩ := rl1 hm hn a ha1 (by omega) P (fun Y hY => ih (a + 1) (by omega) (by omega) (by omega) Y hY) _ 1 (by omega) (by omega) rfl X hX
  refine ⟨R, Ev.succ ?_, hP⟩
  simp only [r49_Pairs.l0]
  exact Ev.pos (by rw [hU]; omega) hR
theorem Fnd.nil (f : List (List Int)) (n : Nat) : Fnd f n 1 1 [] := ⟨List.Pairwise.nil, fun y => ⟨fun h => (by cases h), fun ⟨i, j, h1, h2, h3, h4, h5, h6⟩ => (by omega)⟩, by simp⟩
theorem and_inc {a b : BitVec 64} : Go.bits .and .u64 (U a) (U b) = U a ↔ Inc a b := by
 rw [bits_and, U_inj]
 constructor
 ·intro h i hi
  rw [← h, BitVec.getLsbD_and] at hi
  exact (Bool.and_eq_true_iff.1 hi).2
 ·intro h
  apply ext_bit
  intro i _
  rw [BitVec.getLsbD_and]
  cases e : a.getLsbD i with
  | false => rfl
  | true => rw [h i e]; rfl
theorem bv_toNat {a : Nat} (h : a ≤ 4096) : (bv a).toNat = a := by
 unfold bv
 rw [BitVec.toNat_ofNat, Nat.mod_eq_of_lt (by omega)]
theorem bv_pos {x : BitVec 64} : x ≠ 0#64 ↔ 1 ≤ x.toNat := by
 constructor
 ·intro h
  have : x.toNat ≠ 0 := fun e => h (BitVec.eq_of_toNat_eq (by simpa using e))
  omega
 ·rintro h rfl
  simp at h
theorem Fnd.all {f : List (List Int)} {n : Nat} (hn : n ≤ 5) {X : List S57} (h : Fnd f n (2 ^ n) 1 X) (y : S57) :
  y ∈ X ↔ ∃ x : BitVec 64 × BitVec 64, Sub n x.1 ∧ Sub n x.2 ∧ x.1 ≠ 0#64 ∧ x.2 ≠ 0#64 ∧ Cz f n x.1 x.2 ∧ y = tS x := by
 have h32 : 2 ^ n ≤ 2 ^ 5 := Nat.pow_le_pow_right (by omega) hn
 rw [h.mem]
 constructor
 ·rintro ⟨i, j, h1, h2, h3, h4, h5, h6, rfl⟩
  refine ⟨(bv i, bv j), sub_lt.2 ?_, sub_lt.2 ?_, bv_pos.2 ?_, bv_pos.2 ?_, h6, rfl⟩
  all_goals (dsimp only; rw [bv_toNat (by omega)]; assumption)
 ·rintro ⟨x, h1, h2, h3, h4, h5, rfl⟩
  have a1 := sub_lt.1 h1
  have a2 := sub_lt.1 h2
  exact ⟨x.1.toNat, x.2.toNat, bv_pos.1 h3, a1, bv_pos.1 h4, a2, .inl a1, by rw [bv_nat, bv_nat]; exact h5, by rw [bv_nat, bv_nat]⟩
theorem Ov_tS {x y : BitVec 64 × BitVec 64} : Ov (tS x) (tS y) ↔ Inc x.1 y.1 ∧ Inc x.2 y.2 := by
 unfold Ov tS
 dsimp only
 rw [and_inc, and_inc]
theorem srt_ne {X : List S57} (h : X.Pairwise B2) {i q : Nat} (hi : i < X.length) (hq : q < X.length) (hne : q ≠ i) : X[q] ≠ X[i] := by
 intro e
 rcases Nat.lt_or_gt_of_ne hne with h1 | h1
 ·have := List.pairwise_iff_getElem.1 h q i hq hi h1
  rw [e] at this
  exact B2.irrefl _ this
 ·have := List.pairwise_iff_getElem.1 h i q hi hq h1
  rw [e] at this
  exact B2.irrefl _ this
open Classical in
theorem rpairs_f {f : List (List Int)} {n : Nat} (hm : Mat f n) (hn : n ≤ 5) : ∃ R, Ev (fun k => r49_Pairs.l0 k f (U (allTo n)) [] 1) (R, 0) ∧ Ans f n R ∧ R.length ≤ 4096 := by
 have h32 : 2 ^ n ≤ 2 ^ 5 := Nat.pow_le_pow_right (by omega) hn
 obtain ⟨⟨R, z⟩, hR, hz, hA, hL⟩ := rl0 hm hn (fun R => R.2 = 0 ∧ Ans f n R.1 ∧ R.1.length ≤ 4096) (fun X hX => by
  have hlen := hX.len
  obtain ⟨p, hp⟩ : ∃ p : S57 → Bool, ∀ x, p x = true ↔ ∀ y ∈ X, y ≠ x → ¬ Ov x y := ⟨fun x => decide (∀ y ∈ X, y ≠ x → ¬ Ov x y), fun x => decide_eq_true_iff⟩
  refine ⟨(X.filter p, 0), ?_, rfl, ⟨hX.srt.filter _, fun y => ?_⟩, Nat.le_trans (List.length_filter_le _ _) (by omega)⟩
  ·refine rl2 X (by omega) p (fun i hi => (hp _).trans ⟨fun h q hq hne => h _ (List.getElem_mem hq) (srt_ne hX.srt hi hq hne), fun h y hy hne => ?_⟩) _ 0 (by omega) rfl
   obtain ⟨q, hq, rfl⟩ := List.getElem_of_mem hy
   exact h q hq fun e => hne (by subst e; rfl)
  ·rw [List.mem_filter, hp, hX.all hn]
   constructor
   ·rintro ⟨⟨x, h1, h2, h3, h4, h5, rfl⟩, h6⟩
    refine ⟨x, ⟨h1, h2, h3, h4, h5, (max_iff hm h1 h2 h3 h4 h5).2 fun c d k1 k2 k3 k4 k5 i1 i2 => ?_⟩, rfl⟩
    have hc := h6 (tS (c, d)) ((hX.all hn _).2 ⟨(c, d), k1, k2, k3, k4, k5, rfl⟩)
    by_cases e : tS (c, d) = tS x
    ·have := tS_inj e
     rw [← this]
     exact ⟨rfl, rfl⟩
    ·exact absurd (Ov_tS.2 ⟨i1, i2⟩) (hc e)
   ·rintro ⟨x, ⟨h1, h2, h3, h4, h5, h6⟩, rfl⟩
    refine ⟨⟨x, h1, h2, h3, h4, h5, rfl⟩, fun y hy hne ho => ?_⟩
    obtain ⟨z, k1, k2, k3, k4, k5, rfl⟩ := (hX.all hn y).1 hy
    have hi := Ov_tS.1 ho
    have := (max_iff hm h1 h2 h3 h4 h5).1 h6 z.1 z.2 k1 k2 k3 k4 k5 hi.1 hi.2
    exact hne (by rw [show z = x from Prod.ext this.1 this.2])) _ 1 (by omega) (Nat.two_pow_pos n) rfl [] (Fnd.nil f n)
 dsimp only at hz hA hL
 subst hz
 exact ⟨R, hR, hA, hL⟩
theorem rans {l : List (List ByteArray)} (h : Big l) (he : (footB l).2 = 0) (hn : (footB l).1.length ≤ 5) : ∃ R, Ev (fun k => r49_Pairs.f k l) (R, 0) ∧ Ans (footB l).1 (footB l).1.length R ∧ R.length ≤ 4096 := by
 obtain ⟨R, hR, hA⟩ := rpairs_f (foot_mat he) hn
 refine ⟨R, ?_, hA⟩
 unfold r49_Pairs.f
 have ha := rall ((footB l).1.length : Int)
 rw [Int.toNat_natCast, Nat.min_eq_left (by omega)] at ha
 exact Ev.bind (rfoot h) (Ev.pos he (Ev.bind ha hR))
theorem rerr {l : List (List ByteArray)} (h : Big l) (he : (footB l).2 ≠ 0) : Ev (fun k => r49_Pairs.f k l) ([], (footB l).2) := by
 unfold r49_Pairs.f
 exact Ev.bind (rfoot h) (Ev.neg he (Ev.now _))
end Go.Proofs.YtejchnmhlcbfcaaDoor.Caus

/- The net of a log, as the reference makes it. -/
namespace Go.Proofs.YtejchnmhlcbfcaaDoor.Alpha
open Go.RowKit Go.Proofs.YtejchnmhlcbfcaaDoor.Pr Go.Proofs.YtejchnmhlcbfcaaDoor.Evs Go.Proofs.YtejchnmhlcbfcaaDoor.Bits Go.Proofs.YtejchnmhlcbfcaaDoor.Sets Go.Proofs.YtejchnmhlcbfcaaDoor.Logs Go.Proofs.YtejchnmhlcbfcaaDoor.Feet Go.Proofs.YtejchnmhlcbfcaaDoor.Caus Go.Proofs.YtejchnmhlcbfcaaDoor.Names Go.Proofs.YtejchnmhlcbfcaaDoorW.PrintWords Go.Proofs.YtejchnmhlcbfcaaDoorW.PrintLast Go.Proofs.YtejchnmhlcbfcaaDoorW.PrintMore
set_option linter.unusedVariables false
set_option linter.unusedSimpArgs false

theorem rfirst_l0 {l : List (List ByteArray)} (h : Small l) : ∀ d i, i ≤ l.length → l.length - i = d → Ev (fun k => r48_First.l0 k l (sel List.head? (l.take i)) (i : Int)) (sel List.head? l) := by
 have hl := h.len
 intro d
 induction d with
 | zero =>
  intro i hi hd
  obtain rfl : i = l.length := by omega
  refine Ev.succ ?_
  simp only [r48_First.l0]
  rw [List.take_length]
  exact Ev.neg (by omega) (Ev.now _)
 | succ d ih =>
  intro i hi hd
  have hlt : i < l.length := by omega
  have hih := ih (i + 1) (by omega) (by omega)
  rw [List.take_succ_eq_append_getElem hlt] at hih
  have hsl := sel_len List.head? (l.take i)
  rw [List.length_take] at hsl
  refine Ev.succ ?_
  simp only [r48_First.l0, rd_L1_get hlt]
  rw [wrap_succ (i := i) (by omega)]
  refine Ev.pos (by omega) (Ev.pos (by omega) ?_)
  by_cases h0 : 0 < l[i].length
  ·have e : List.head? l[i] = some l[i][0] := by rw [List.head?_eq_getElem?, List.getElem?_eq_getElem h0]
   rw [sel_some e] at hih
   have hr : rdOf ByteArray.empty l[i] 0 = l[i][0] := rdOf_get (i := 0) h0
   rw [hr]
   exact Ev.pos (by omega) (Ev.pos (by omega) (Ev.bind (rinsert _ _ (by omega) (sel_srt _ _)) hih))
  ·have e : List.head? l[i] = none := by rw [List.head?_eq_getElem?, List.getElem?_eq_none (by omega)]
   rw [sel_none e] at hih
   exact Ev.neg (by omega) hih
theorem rfirst {l : List (List ByteArray)} (h : Small l) : Ev (fun k => r48_First.f k l) (sel List.head? l) := rfirst_l0 h _ 0 (by omega) rfl
theorem rlast_l0 {l : List (List ByteArray)} (h : Small l) (ht : ∀ t ∈ l, t.length ≤ 1048576) : ∀ d i, i ≤ l.length → l.length - i = d → Ev (fun k => r48_Last.l0 k l (sel List.getLast? (l.take i)) (i : Int)) (sel List.getLast? l) := by
 have hl := h.len
 intro d
 induction d with
 | zero =>
  intro i hi hd
  obtain rfl : i = l.length := by omega
  refine Ev.succ ?_
  simp only [r48_Last.l0]
  rw [List.take_length]
  exact Ev.neg (by omega) (Ev.now _)
 | succ d ih =>
  intro i hi hd
  have hlt : i < l.length := by omega
  have hti := ht _ (List.getElem_mem hlt)
  have hih := ih (i + 1) (by omega) (by omega)
  rw [List.take_succ_eq_append_getElem hlt] at hih
  have hsl := sel_len List.getLast? (l.take i)
  rw [List.length_take] at hsl
  refine Ev.succ ?_
  simp only [r48_Last.l0, rd_L1_get hlt]
  rw [wrap_succ (i := i) (by omega)]
  refine Ev.pos (by omega) (Ev.pos (by omega) ?_)
  by_cases h0 : 0 < l[i].length
  ·have e : List.getLast? l[i] = some (l[i][l[i].length - 1]'(by omega)) := by rw [List.getLast?_eq_getElem?, List.getElem?_eq_getElem (by omega)]
   rw [sel_some e] at hih
   rw [wrap_pred (q := l[i].length) (by omega) (by omega), rdOf_get (show l[i].length - 1 < l[i].length by omega)]
   exact Ev.pos (by omega) (Ev.pos (by omega) (Ev.pos (by omega) (Ev.bind (rinsert _ _ (by omega) (sel_srt _ _)) hih)))
  ·have e : List.getLast? l[i] = none := by rw [List.getLast?_eq_getElem?, List.getElem?_eq_none (by omega)]
   rw [sel_none e] at hih
   exact Ev.neg (by omega) hih
theorem rlast {l : List (List ByteArray)} (h : Small l) (ht : ∀ t ∈ l, t.length ≤ 1048576) : Ev (fun k => r48_Last.f k l) (sel List.getLast? l) := rlast_l0 h ht _ 0 (by omega) rfl
set_option maxRecDepth 100000 in
theorem rnumber_now : ∀ i : Fin 22, r04_Number.f 20 ((i.val : Nat) : Int) = some (dec i.val) := by decide +kernel
theorem rnumber {i : Nat} (h : i < 22) : Ev (fun k => r04_Number.f k (i : Int)) (dec i) := Ev.of (r04_Number.mono _) (rnumber_now ⟨i, h⟩)

/-! ### the loops -/
theorem ralpha_l3 (l : List (List ByteArray)) (Q : List Pq) (hQ : Q.length ≤ 22) (ns : List ByteArray) (i : Nat) (hi : i < 12) (nm : ByteArray) (ps : List Pl) (ts : List Tr) (hts : ts.length ≤ 12) (s : ByteArray) (A B : List Ar) (hA : A.length ≤ 1) (hB : B.length ≤ 1) (R : NetR)
  (hnext : Ev (fun k => r49_Alpha.l1 k l (Q.map tS) ns ((i + 1 : Nat) : Int) nm ps (ts ++ [(⟨s, A ++ arUp (·.2) Q i Q.length, B ++ arUp (·.1) Q i Q.length, [], 0⟩ : Tr)])) R) :
  ∀ d k, k ≤ Q.length → Q.length - k = d →
   Ev (fun j => r49_Alpha.l3 j l (Q.map tS) ns (i : Int) (k : Int) nm ps ts s (A ++ arUp (·.2) Q i k) (B ++ arUp (·.1) Q i k) 0) R := by
 intro d
 induction d with
 | zero =>
  intro k hk hd
  obtain rfl : k = Q.length := by omega
  refine Ev.succ ?_
  simp only [r49_Alpha.l3]
  rw [wrap_succ (i := i) (by omega)]
  exact Ev.neg (by rw [List.length_map]; omega) (Ev.pos (by omega) hnext)
 | succ d ih =>
  intro k hk hd
  have hlt : k < Q.length := by omega
  have hih := ih (k + 1) (by omega) (by omega)
  have hg : Q.getD k (0#64, 0#64) = Q[k] := by rw [List.getD_eq_getElem?_getD, List.getElem?_eq_getElem hlt]; rfl
  rw [arUp, arUp, hg] at hih
  have hw : wrap64 ((k : Int) + 2) = ((k + 2 : Nat) : Int) := by unfold wrap64; omega
  have hl2 := arUp_len (·.2) Q i k
  have hl1 := arUp_len (·.1) Q i k
  have g2 := hasN Q[k].2 i
  have g1 := hasN Q[k].1 i
  refine Ev.succ ?_
  simp only [r49_Alpha.l3, rd_T57g hlt, tS, Option.bind_some, hw]
  rw [wrap_succ (i := k) (by omega)]
  refine Ev.pos (by rw [List.length_map]; omega) (Ev.pos (by omega) (Ev.bind g2 ?_))
  cases h2 : Q[k].2.getLsbD i with
  | true =>
   rw [h2, if_pos rfl] at hih
   refine Ev.pos rfl (Ev.pos (by rw [List.length_append]; omega) (Ev.bind g1 ?_))
   cases h1 : Q[k].1.getLsbD i with
   | true =>
    rw [h1, if_pos rfl] at hih
    rw [← List.append_assoc, ← List.append_assoc] at hih
    exact Ev.pos rfl (Ev.pos (by rw [List.length_append]; omega) hih)
   | false =>
    rw [h1, if_neg (by decide), List.append_nil, ← List.append_assoc] at hih
    exact Ev.neg (by decide) hih
  | false =>
   rw [h2, if_neg (by decide), List.append_nil] at hih
   refine Ev.neg (by decide) (Ev.bind g1 ?_)
   cases h1 : Q[k].1.getLsbD i with
   | true =>
    rw [h1, if_pos rfl, ← List.append_assoc] at hih
    exact Ev.pos rfl (Ev.pos (by rw [List.length_append]; omega) hih)
   | false =>
    rw [h1, if_neg (by decide), List.append_nil] at hih
    exact Ev.neg (by decide) hih
theorem ralpha_l2 {l : List (List ByteArray)} (hs : Small l) (ht : ∀ t ∈ l, t.length ≤ 1048576) (Q : List Pq) (hQ : Q.length ≤ 22) (ns : List ByteArray) (i : Nat) (hi : i < 12) (hin : i < ns.length) (nm : ByteArray) (ps : List Pl) (hps : ps.length ≤ 24) (ts : List Tr) (hts : ts.length ≤ 12) (R : NetR)
  (hyes : clash ps ns[i] → R = errR 6)
  (hnext : ¬ clash ps ns[i] → Ev (fun k => r49_Alpha.l1 k l (Q.map tS) ns ((i + 1 : Nat) : Int) nm ps (ts ++ [trOf Q (sel List.head? l) (sel List.getLast? l) i ns[i]])) R) :
  ∀ d k, k ≤ ps.length → ps.length - k = d → (∀ p ∈ ps.take k, p.f0 ≠ ns[i]) →
   Ev (fun j => r49_Alpha.l2 j l (Q.map tS) ns (i : Int) (k : Int) nm ps ts) R := by
 have hl := hs.len
 have hfl := sel_len List.head? l
 have hll := sel_len List.getLast? l
 intro d
 induction d with
 | zero =>
  intro k hk hd hno
  obtain rfl : k = ps.length := by omega
  rw [List.take_length] at hno
  have hn := hnext (by rintro ⟨p, h1, h2⟩; exact hno p h1 h2)
  have h3 := ralpha_l3 l Q hQ ns i hi nm ps ts hts ns[i] (endAr (sel List.head? l) ns[i] 0) (endAr (sel List.getLast? l) ns[i] 1) (endAr_len _ _ _) (endAr_len _ _ _) R hn _ 0 (by omega) rfl
  simp only [arUp, List.append_nil] at h3
  have j4 : Ev (fun j => r49_Alpha.j4 j l (Q.map tS) ns (i : Int) nm ps ts ns[i] (endAr (sel List.head? l) ns[i] 0) (endAr (sel List.getLast? l) ns[i] 1) 0) R := by
   refine Ev.succ ?_
   simp only [r49_Alpha.j4]
   exact h3
  have j3 : Ev (fun j => r49_Alpha.j3 j l (Q.map tS) ns (i : Int) nm ps ts ns[i] (endAr (sel List.head? l) ns[i] 0) 0) R := by
   refine Ev.succ ?_
   simp only [r49_Alpha.j3, rdOf_get hin]
   refine Ev.bind (rlast hs ht) (Ev.pos (by omega) (Ev.pos (by omega) (Ev.bind (rhas _ ns[i] (by omega)) ?_)))
   cases hb : hasB (sel List.getLast? l) ns[i] with
   | true =>
    rw [endAr_t hb] at j4
    exact Ev.pos rfl (Ev.pos (by decide) j4)
   | false =>
    rw [endAr_f hb] at j4
    exact Ev.neg (by decide) j4
  refine Ev.succ ?_
  simp only [r49_Alpha.l2, rdOf_get hin]
  refine Ev.neg (by omega) (Ev.pos (by omega) (Ev.pos (by omega) (Ev.bind (rfirst hs) (Ev.bind (rhas _ ns[i] (by omega)) ?_))))
  cases hb : hasB (sel List.head? l) ns[i] with
  | true =>
   rw [endAr_t hb] at j3
   exact Ev.pos rfl (Ev.pos (by decide) j3)
  | false =>
   rw [endAr_f hb] at j3
   exact Ev.neg (by decide) j3
 | succ d ih =>
  intro k hk hd hno
  have hlt : k < ps.length := by omega
  refine Ev.succ ?_
  simp only [r49_Alpha.l2, rd_T59g hlt, rdOf_get hin]
  rw [wrap_succ (i := k) (by omega)]
  refine Ev.pos (by omega) (Ev.pos (by omega) (Ev.pos (by omega) (Ev.pos (by omega) ?_)))
  by_cases e : ps[k].f0 = ns[i]
  ·exact Ev.pos ((bytes_eq _ _).2 e) (Ev.val (hyes ⟨_, List.getElem_mem hlt, e⟩).symm)
  ·refine Ev.neg (fun h => e ((bytes_eq _ _).1 h)) (ih (k + 1) (by omega) (by omega) fun p hp => ?_)
   rw [List.take_succ_eq_append_getElem hlt, List.mem_append, List.mem_singleton] at hp
   rcases hp with hp | rfl
   ·exact hno p hp
   ·exact e
theorem ralpha_l1 {l : List (List ByteArray)} (hs : Small l) (ht : ∀ t ∈ l, t.length ≤ 1048576) (Q : List Pq) (hQ : Q.length ≤ 22) (ns : List ByteArray) (hns : ns.length ≤ 12) :
  ∀ d i, i ≤ ns.length → ns.length - i = d → (∀ s ∈ ns.take i, ¬ clash (plUp Q.length) s) →
   Ev (fun k => r49_Alpha.l1 k l (Q.map tS) ns (i : Int) netName (plUp Q.length) (trUp Q (sel List.head? l) (sel List.getLast? l) ns i)) (netR Q (sel List.head? l) (sel List.getLast? l) ns) := by
 have hpl := plUp_len Q.length
 intro d
 induction d with
 | zero =>
  intro i hi hd hno
  obtain rfl : i = ns.length := by omega
  rw [List.take_length] at hno
  refine Ev.succ ?_
  simp only [r49_Alpha.l1]
  refine Ev.neg (by omega) (Ev.val ?_)
  unfold netR
  rw [if_neg (by rintro ⟨s, h1, h2⟩; exact hno s h1 h2)]
 | succ d ih =>
  intro i hi hd hno
  have hlt : i < ns.length := by omega
  have htl := trUp_len Q (sel List.head? l) (sel List.getLast? l) ns i
  have hg : ns.getD i ByteArray.empty = ns[i] := by rw [List.getD_eq_getElem?_getD, List.getElem?_eq_getElem hlt]; rfl
  refine Ev.succ ?_
  simp only [r49_Alpha.l1]
  refine Ev.pos (by omega) ?_
  refine ralpha_l2 hs ht Q hQ ns i (by omega) hlt netName (plUp Q.length) (by omega) _ (by omega) _ (fun h => ?_) (fun h => ?_) _ 0 (by omega) rfl (by simp)
  ·unfold netR
   rw [if_pos ⟨_, List.getElem_mem hlt, h⟩]
  ·have hih := ih (i + 1) (by omega) (by omega) fun s hs => by
    rw [List.take_succ_eq_append_getElem hlt, List.mem_append, List.mem_singleton] at hs
    rcases hs with hs | rfl
    ·exact hno s hs
    ·exact h
   rw [trUp, hg] at hih
   exact hih
theorem ralpha_l0 {l : List (List ByteArray)} (hs : Small l) (ht : ∀ t ∈ l, t.length ≤ 1048576) (Q : List Pq) (hQ : Q.length ≤ 22) (hns : (acts l).length ≤ 12) :
  ∀ d i, i ≤ Q.length → Q.length - i = d → Ev (fun k => r49_Alpha.l0 k l (Q.map tS) (i : Int) netName (plUp i)) (netR Q (sel List.head? l) (sel List.getLast? l) (acts l)) := by
 intro d
 induction d with
 | zero =>
  intro i hi hd
  obtain rfl : i = Q.length := by omega
  refine Ev.succ ?_
  simp only [r49_Alpha.l0]
  exact Ev.neg (by rw [List.length_map]; omega) (Ev.bind (racts hs) (ralpha_l1 hs ht Q hQ (acts l) hns _ 0 (by omega) rfl (by simp)))
 | succ d ih =>
  intro i hi hd
  have hlt : i < Q.length := by omega
  have hpl := plUp_len i
  have hsz := dec_size i
  refine Ev.succ ?_
  simp only [r49_Alpha.l0]
  rw [wrap_succ (i := i) (by omega)]
  exact Ev.pos (by rw [List.length_map]; omega) (Ev.bind (rnumber (by omega)) (Ev.pos (by omega) (Ev.pos (by omega) (ih (i + 1) (by omega) (by omega)))))
theorem ralpha_ok (l : List (List ByteArray)) (Q : List Pq) (hQ : Q.length ≤ 17000000) (hp : Ev (fun k => r49_Pairs.f k l) (Q.map tS, 0)) (hs : Small l) (ht : ∀ t ∈ l, t.length ≤ 1048576) (hns : (acts l).length ≤ 12) :
  Ev (fun k => r49_Alpha.f k l) (alphaB Q (sel List.head? l) (sel List.getLast? l) (acts l)) := by
 unfold r49_Alpha.f alphaB
 refine Ev.bind hp (Ev.pos rfl ?_)
 have hw : wrap64 (((Q.map tS).length : Int) + 2) = ((Q.length + 2 : Nat) : Int) := by rw [List.length_map]; unfold wrap64; omega
 rw [hw]
 by_cases h : 22 < Q.length
 ·rw [if_pos h]
  exact Ev.pos (by omega) (Ev.now _)
 ·rw [if_neg h]
  exact Ev.neg (by omega) (ralpha_l0 hs ht Q (by omega) hns _ 0 (by omega) rfl)
theorem ralpha_err (l : List (List ByteArray)) (e : Int) (he : e ≠ 0) (hp : Ev (fun k => r49_Pairs.f k l) ([], e)) : Ev (fun k => r49_Alpha.f k l) (errR e) := by
 unfold r49_Alpha.f
 exact Ev.bind hp (Ev.neg he (Ev.now _))
end Go.Proofs.YtejchnmhlcbfcaaDoor.Alpha

/- What the references' Name answers: the same of bytes as Names.nameB. -/
namespace Go.Proofs.YtejchnmhlcbfcaaDoor.RName
open Go.RowKit Go.Proofs.YtejchnmhlcbfcaaDoor.Pr Go.Proofs.YtejchnmhlcbfcaaDoor.Evs Go.Proofs.YtejchnmhlcbfcaaDoor.Names Go.Proofs.YtejchnmhlcbfcaaDoorW.PrintWords Go.Proofs.YtejchnmhlcbfcaaDoorW.PrintLast Go.Proofs.YtejchnmhlcbfcaaDoorW.PrintMore
set_option linter.unusedVariables false
set_option linter.unusedSimpArgs false

theorem bt_byte {s : ByteArray} {i : Nat} (h : i < s.size) : bt s (i : Int) = (byteAt s i : Int) := by
 rw [byteAt_get s i h]
 simp [bt, h]
set_option maxHeartbeats 2000000 in
theorem name_l0 (s : ByteArray) (h1 : 1 ≤ s.size) (h16 : s.size ≤ 16) : ∀ (d i : Nat), i ≤ s.size → s.size - i = d → (∀ j, j < i → okB j (byteAt s j) = true) → Ev (fun k => r09_Name.l0 k s (i : Int)) (nameB s) := by
 intro d
 induction d with
 | zero =>
  intro i hi hd hok
  obtain rfl : i = s.size := by omega
  refine Ev.succ ?_
  simp only [r09_Name.l0]
  exact Ev.neg (by omega) (Ev.val (nameB_true h1 h16 hok).symm)
 | succ d ih =>
  intro i hi hd hok
  have hlt : i < s.size := by omega
  have hb := bt_byte hlt
  obtain ⟨c, hc⟩ : ∃ c, byteAt s i = c := ⟨_, rfl⟩
  rw [hc] at hb
  have hgo : okB i c = true → Ev (fun k => r09_Name.l0 k s (wrap64 ((i : Int) + 1))) (nameB s) := by
   intro hk
   rw [wrap_succ (by omega)]
   refine ih (i + 1) (by omega) (by omega) (fun j hj => ?_)
   by_cases hji : j = i
   ·subst hji; rw [hc]; exact hk
   ·exact hok j (by omega)
  have hstop : okB i c = false → Ev (fun _ : Nat => some false) (nameB s) := fun hk => Ev.val (nameB_false hlt (by rw [hc]; exact hk)).symm
  refine Ev.succ ?_
  simp only [r09_Name.l0, hb]
  refine Ev.pos (by omega) (Ev.pos (by omega) ?_)
  repeat' (refine Ev.ite (fun _ => ?_) (fun _ => ?_))
  all_goals first
   | exact hgo (okB_of (by omega))
   | exact hstop (okB_not (by omega))
   | (exfalso; omega)
theorem rname (s : ByteArray) : Ev (fun k => r09_Name.f k s) (nameB s) := by
 unfold r09_Name.f
 have hj : ∀ b : Bool, (b = true → nameB s = false) → (b = false → 1 ≤ s.size ∧ s.size ≤ 16) → Ev (fun k => r09_Name.j0 k s b) (nameB s) := by
  intro b ht hf
  refine Ev.succ ?_
  simp only [r09_Name.j0]
  refine Ev.ite (fun h => Ev.val (ht h).symm) (fun h => ?_)
  obtain ⟨h1, h2⟩ := hf (by simpa using h)
  exact name_l0 s h1 h2 _ 0 (by omega) rfl (fun j hj => by omega)
 refine Ev.ite (fun h => hj true (fun _ => ?_) (fun h => by cases h)) (fun h => hj _ (fun h2 => ?_) (fun h2 => ?_))
 ·unfold nameB; rw [decide_eq_false (show ¬ 1 ≤ s.size by omega)]; rfl
 ·have h3 := of_decide_eq_true h2
  unfold nameB; rw [decide_eq_false (show ¬ s.size ≤ 16 by omega)]; simp
 ·have h3 := of_decide_eq_false h2
  omega
end Go.Proofs.YtejchnmhlcbfcaaDoor.RName

/- The reference's look at a net, told of its places and transitions. -/
namespace Go.Proofs.YtejchnmhlcbfcaaDoor.Nets
open Go.RowKit Go.Proofs.YtejchnmhlcbfcaaDoor.Pr Go.Proofs.YtejchnmhlcbfcaaDoor.Evs Go.Proofs.YtejchnmhlcbfcaaDoor.Names Go.Proofs.YtejchnmhlcbfcaaDoor.RName Go.Proofs.YtejchnmhlcbfcaaDoor.Bits Go.Proofs.YtejchnmhlcbfcaaDoorW.PrintWords Go.Proofs.YtejchnmhlcbfcaaDoorW.PrintLast Go.Proofs.YtejchnmhlcbfcaaDoorW.PrintMore
set_option linter.unusedVariables false
set_option linter.unusedSimpArgs false

abbrev Pl := S59
abbrev Ar := S62
abbrev Tr := S41
theorem rdP {l : List Pl} {i : Nat} : rd_T59 l (i : Int) = l.getD i z59 := by simp [rd_T59]
theorem rdA {l : List Ar} {i : Nat} : rd_T62 l (i : Int) = l.getD i z62 := by simp [rd_T62]
theorem rdT {l : List Tr} {i : Nat} : rd_T41 l (i : Int) = l.getD i z41 := by simp [rd_T41]
def plE (p : Pl) : Int := if p.f2 < 0 ∨ 1048576 < p.f2 then 1 else if p.f1 < 0 ∨ 1048576 < p.f1 then 10 else if p.f2 = 0 then 0 else if p.f2 < p.f1 then 10 else 0
def arcE (np : Int) (l : List Ar) (i : Nat) : Int := if (l.getD i z62).f0 < 0 ∨ np ≤ (l.getD i z62).f0 then 7 else if 0 < i ∧ (l.getD i z62).f0 ≤ (l.getD (i - 1) z62).f0 then 8 else if (l.getD i z62).f1 < 1 ∨ 99 < (l.getD i z62).f1 then 9 else 0
def arcsE (np : Int) (l : List Ar) : Nat → Nat → Int
 | 0, _ => 0
 | d + 1, i => if arcE np l i = 0 then arcsE np l d (i + 1) else arcE np l i
theorem arcsE_go {np : Int} {l : List Ar} {d i : Nat} (h : arcE np l i = 0) : arcsE np l (d + 1) i = arcsE np l d (i + 1) := by rw [arcsE, if_pos h]
theorem arcsE_no {np : Int} {l : List Ar} {d i : Nat} {e : Int} (h : arcE np l i = e) (he : ¬ e = 0) : arcsE np l (d + 1) i = e := by rw [arcsE, h, if_neg he]
theorem arcE_7 {np : Int} {l : List Ar} {i : Nat} (h : (l.getD i z62).f0 < 0 ∨ np ≤ (l.getD i z62).f0) : arcE np l i = 7 := by rw [arcE, if_pos h]
theorem arcE_8 {np : Int} {l : List Ar} {i : Nat} (h : ¬ ((l.getD i z62).f0 < 0 ∨ np ≤ (l.getD i z62).f0)) (h2 : 0 < i ∧ (l.getD i z62).f0 ≤ (l.getD (i - 1) z62).f0) : arcE np l i = 8 := by rw [arcE, if_neg h, if_pos h2]
theorem arcE_9 {np : Int} {l : List Ar} {i : Nat} (h : ¬ ((l.getD i z62).f0 < 0 ∨ np ≤ (l.getD i z62).f0)) (h2 : ¬ (0 < i ∧ (l.getD i z62).f0 ≤ (l.getD (i - 1) z62).f0)) (h3 : (l.getD i z62).f1 < 1 ∨ 99 < (l.getD i z62).f1) : arcE np l i = 9 := by rw [arcE, if_neg h, if_neg h2, if_pos h3]
theorem arcE_0 {np : Int} {l : List Ar} {i : Nat} (h : ¬ ((l.getD i z62).f0 < 0 ∨ np ≤ (l.getD i z62).f0)) (h2 : ¬ (0 < i ∧ (l.getD i z62).f0 ≤ (l.getD (i - 1) z62).f0)) (h3 : ¬ ((l.getD i z62).f1 < 1 ∨ 99 < (l.getD i z62).f1)) : arcE np l i = 0 := by rw [arcE, if_neg h, if_neg h2, if_neg h3]
def arcsV (np : Int) (l : List Ar) : Int := arcsE np l l.length 0
def trE (np : Int) (t : Tr) : Int := if t.f4 < 0 ∨ 9 < t.f4 then 1 else if arcsV np t.f1 = 0 then (if arcsV np t.f2 = 0 then arcsV np t.f3 else arcsV np t.f2) else arcsV np t.f1
def nmE (names : List ByteArray) (s : ByteArray) : Int := if nameB s then (if (names.any fun y => y.toList == s.toList) then 6 else 0) else 5
theorem nmE_names {names : List ByteArray} {s : ByteArray} : nmE names s = if nameB s then (if (names.any fun y => y.toList == s.toList) then 6 else 0) else 5 := rfl
def chkPV : List Pl → Nat → List ByteArray → (Int × Int) ⊕ List ByteArray
 | [], _, names => .inr names
 | p :: ps, i, names => if nmE names p.f0 = 0 then (if plE p = 0 then chkPV ps (i + 1) (names ++ [p.f0]) else .inl (plE p, (i : Int))) else .inl (nmE names p.f0, (i : Int))
def chkTV (np : Nat) : List Tr → Nat → List ByteArray → Int × Int
 | [], _, names => (0, 0)
 | t :: ts, i, names => if nmE names t.f0 = 0 then (if trE np t = 0 then chkTV np ts (i + 1) (names ++ [t.f0]) else (trE np t, ((np + i : Nat) : Int))) else (nmE names t.f0, ((np + i : Nat) : Int))
def checkV (a : ByteArray) (l1 : List Pl) (l2 : List Tr) : Int × Int :=
 if nameB a then (if l1.length < 1 ∨ 24 < l1.length ∨ 24 < l2.length then (2, 0) else match chkPV l1 0 [] with | .inl e => e | .inr names => chkTV l1.length l2 0 names) else (5, 0)
def Short (l2 : List Tr) : Prop := ∀ t ∈ l2, t.f1.length ≤ 26 ∧ t.f2.length ≤ 26 ∧ t.f3.length ≤ 26

theorem rArcs_l0 (a : ByteArray) (l1 : List Pl) (l2 : List Tr) (l : List Ar) (hl : l.length ≤ 1000) : ∀ (d i : Nat), i ≤ l.length → l.length - i = d → Ev (fun k => r09_arcs.l0 k l (i : Int) a l1 l2) (arcsE l1.length l d i) := by
 intro d
 induction d with
 | zero =>
  intro i hi hd
  refine Ev.succ ?_
  simp only [r09_arcs.l0]
  exact Ev.neg (by omega) (Ev.now _)
 | succ d ih =>
  intro i hi hd
  have hih := ih (i + 1) (by omega) (by omega)
  refine Ev.succ ?_
  simp only [r09_arcs.l0, rdA]
  have hj2 : ∀ b : Bool, ¬ ((l.getD i z62).f0 < 0 ∨ (l1.length : Int) ≤ (l.getD i z62).f0) → b = decide (0 < i ∧ (l.getD i z62).f0 ≤ (l.getD (i - 1) z62).f0) → Ev (fun k => r09_arcs.j2 k l (i : Int) b a l1 l2) (arcsE l1.length l (d + 1) i) := by
   intro b h7 hb
   refine Ev.succ ?_
   simp only [r09_arcs.j2, rdA]
   refine Ev.ite (fun h => ?_) (fun h => ?_)
   ·rw [hb] at h
    exact Ev.val (arcsE_no (arcE_8 h7 (of_decide_eq_true h)) (by decide)).symm
   ·have h8 : ¬ (0 < i ∧ (l.getD i z62).f0 ≤ (l.getD (i - 1) z62).f0) := by rw [hb] at h; intro hh; exact h (decide_eq_true hh)
    refine Ev.pos (by omega) (Ev.pos (by omega) (Ev.ite (fun h2 => Ev.val (arcsE_no (arcE_9 h7 h8 (.inl h2)) (by decide)).symm) (fun h2 => Ev.ite (fun h3 => Ev.val (arcsE_no (arcE_9 h7 h8 (.inr h3)) (by decide)).symm) (fun h3 => ?_))))
    rw [arcsE_go (arcE_0 h7 h8 (by omega)), wrap_succ (by omega)]
    exact hih
  have hj1 : ∀ b : Bool, b = decide ((l.getD i z62).f0 < 0 ∨ (l1.length : Int) ≤ (l.getD i z62).f0) → Ev (fun k => r09_arcs.j1 k l (i : Int) b a l1 l2) (arcsE l1.length l (d + 1) i) := by
   intro b hb
   refine Ev.succ ?_
   simp only [r09_arcs.j1]
   refine Ev.ite (fun h => ?_) (fun h => ?_)
   ·rw [hb] at h
    exact Ev.val (arcsE_no (arcE_7 (of_decide_eq_true h)) (by decide)).symm
   ·rw [hb] at h
    have h7 : ¬ ((l.getD i z62).f0 < 0 ∨ (l1.length : Int) ≤ (l.getD i z62).f0) := fun hh => h (decide_eq_true hh)
    refine Ev.ite (fun h2 => ?_) (fun h2 => hj2 _ h7 ?_)
    ·rw [wrap_pred (by omega) (by omega)]
     refine Ev.pos (by omega) (Ev.pos (by omega) (Ev.pos (by omega) (Ev.pos (by omega) ?_)))
     rw [rdA, rdA]
     exact hj2 _ h7 (decide_eq_decide.2 (by omega))
    ·exact (decide_eq_false (by omega)).symm
  refine Ev.pos (by omega) (Ev.pos (by omega) ?_)
  refine Ev.ite (fun h => hj1 _ ?_) (fun h => hj1 _ ?_)
  ·exact (decide_eq_true (.inl h)).symm
  ·exact decide_eq_decide.2 (by omega)
theorem rArcs (a : ByteArray) (l1 : List Pl) (l2 : List Tr) (l : List Ar) (hl : l.length ≤ 1000) : Ev (fun k => r09_arcs.f k a l1 l2 l) (arcsV l1.length l) := rArcs_l0 a l1 l2 l hl _ 0 (by omega) rfl
theorem namesP (l1 : List Pl) (i : Nat) (s : ByteArray) : (((l1.take i).map fun p => p.f0).any fun y => y.toList == s.toList) = ((l1.take i).any fun y => y.f0.toList == s.toList) := by
 rw [List.any_map]
 rfl
theorem rPlace (a : ByteArray) (l1 : List Pl) (l2 : List Tr) (i : Nat) (hi : i < l1.length) (hl : l1.length ≤ 1000) : Ev (fun k => r09_place.f k a l1 l2 (i : Int)) (if nmE ((l1.take i).map fun p => p.f0) (l1.getD i z59).f0 = 0 then plE (l1.getD i z59) else nmE ((l1.take i).map fun p => p.f0) (l1.getD i z59).f0) := by
 unfold r09_place.f placeF
 rw [nmE_names, namesP]
 refine Ev.pos ⟨by omega, by omega, hl⟩ ?_
 rw [rdP, Int.toNat_natCast]
 refine Ev.bind (rname _) (Ev.ite (fun h => ?_) (fun h => Ev.val (by rw [if_neg h]; rfl)))
 rw [if_pos h]
 refine Ev.ite (fun hm => Ev.val (by rw [if_pos hm]; rfl)) (fun hm => Ev.val (by rw [if_neg hm, if_pos rfl]; rfl))
theorem namesT (l1 : List Pl) (l2 : List Tr) (i : Nat) (s : ByteArray) : (((l1.map fun p => p.f0) ++ ((l2.take i).map fun t => t.f0)).any fun y => y.toList == s.toList) = ((l1.any fun y => y.f0.toList == s.toList) || ((l2.take i).any fun y => y.f0.toList == s.toList)) := by
 rw [List.any_append, List.any_map, List.any_map]
 rfl
theorem rTrans (a : ByteArray) (l1 : List Pl) (l2 : List Tr) (hs : Short l2) (i : Nat) (hi : i < l2.length) (hl : l2.length ≤ 1000) (hl1 : l1.length ≤ 1000) : Ev (fun k => r09_trans.f k a l1 l2 (i : Int)) (if nmE ((l1.map fun p => p.f0) ++ ((l2.take i).map fun t => t.f0)) (l2.getD i z41).f0 = 0 then trE l1.length (l2.getD i z41) else nmE ((l1.map fun p => p.f0) ++ ((l2.take i).map fun t => t.f0)) (l2.getD i z41).f0) := by
 have hb : (l2.getD i z41).f1.length ≤ 26 ∧ (l2.getD i z41).f2.length ≤ 26 ∧ (l2.getD i z41).f3.length ≤ 26 := by
  rw [show l2.getD i z41 = l2[i] by simp [hi]]
  exact hs _ (List.getElem_mem hi)
 unfold r09_trans.f transF
 rw [nmE_names, namesT]
 refine Ev.pos ⟨by omega, by omega, hl1, hl⟩ ?_
 rw [rdT, Int.toNat_natCast]
 refine Ev.bind (rname _) (Ev.ite (fun h => ?_) (fun h => Ev.val (by rw [if_neg h]; rfl)))
 rw [if_pos h]
 refine Ev.ite (fun hm => Ev.val (by rw [if_pos hm]; rfl)) (fun hm => ?_)
 rw [if_neg hm, if_pos rfl]
 unfold trE
 refine Ev.ite (fun h4 => Ev.val (by rw [if_pos h4])) (fun h4 => ?_)
 rw [if_neg h4]
 refine Ev.bind (rArcs a l1 l2 _ (by omega)) (Ev.ite (fun e1 => ?_) (fun e1 => Ev.val (by rw [if_neg e1])))
 rw [if_pos e1]
 refine Ev.bind (rArcs a l1 l2 _ (by omega)) (Ev.ite (fun e2 => ?_) (fun e2 => Ev.val (by rw [if_neg e2])))
 rw [if_pos e2]
 exact rArcs a l1 l2 _ (by omega)
theorem rCheck_l1 (a : ByteArray) (l1 : List Pl) (l2 : List Tr) (hs : Short l2) (hl : l2.length ≤ 1000) (hl1 : l1.length ≤ 1000) : ∀ (d i : Nat), i ≤ l2.length → l2.length - i = d → Ev (fun k => r09_Check.l1 k (i : Int) a l1 l2) (chkTV l1.length (l2.drop i) i ((l1.map fun p => p.f0) ++ ((l2.take i).map fun t => t.f0))) := by
 intro d
 induction d with
 | zero =>
  intro i hi hd
  refine Ev.succ ?_
  simp only [r09_Check.l1]
  exact Ev.neg (by omega) (Ev.val (by rw [List.drop_eq_nil_of_le (by omega)]; rfl))
 | succ d ih =>
  intro i hi hd
  have hlt : i < l2.length := by omega
  have hih := ih (i + 1) (by omega) (by omega)
  have e : l2.getD i z41 = l2[i] := by simp [hlt]
  have hr := rTrans a l1 l2 hs i hlt hl hl1
  rw [e] at hr
  rw [List.take_succ_eq_append_getElem hlt, List.map_append, ← List.append_assoc, List.map_singleton] at hih
  refine Ev.succ ?_
  simp only [r09_Check.l1]
  rw [List.drop_eq_getElem_cons hlt, chkTV]
  refine Ev.pos (by omega) (Ev.bind hr ?_)
  by_cases h1 : nmE ((l1.map fun p => p.f0) ++ ((l2.take i).map fun t => t.f0)) l2[i].f0 = 0
  ·rw [if_pos h1, if_pos h1]
   refine Ev.ite (fun h2 => ?_) (fun h2 => Ev.val ?_)
   ·rw [if_pos h2, wrap_succ (by omega)]; exact hih
   ·rw [if_neg h2, show wrap64 ((l1.length : Int) + (i : Int)) = ((l1.length + i : Nat) : Int) by unfold wrap64; omega]
  ·rw [if_neg h1, if_neg h1]
   exact Ev.neg h1 (Ev.val (by rw [show wrap64 ((l1.length : Int) + (i : Int)) = ((l1.length + i : Nat) : Int) by unfold wrap64; omega]))
theorem rCheck_l0 (a : ByteArray) (l1 : List Pl) (l2 : List Tr) (hs : Short l2) (hl : l2.length ≤ 1000) (hl1 : l1.length ≤ 1000) : ∀ (d i : Nat), i ≤ l1.length → l1.length - i = d → Ev (fun k => r09_Check.l0 k (i : Int) a l1 l2) (match chkPV (l1.drop i) i ((l1.take i).map fun p => p.f0) with | .inl e => e | .inr names => chkTV l1.length l2 0 names) := by
 intro d
 induction d with
 | zero =>
  intro i hi hd
  obtain rfl : i = l1.length := by omega
  refine Ev.succ ?_
  simp only [r09_Check.l0]
  rw [List.drop_length, List.take_length, chkPV]
  have := rCheck_l1 a l1 l2 hs hl hl1 _ 0 (by omega) rfl
  rw [List.drop_zero, List.take_zero, List.map_nil, List.append_nil] at this
  exact Ev.neg (by omega) this
 | succ d ih =>
  intro i hi hd
  have hlt : i < l1.length := by omega
  have hih := ih (i + 1) (by omega) (by omega)
  have e : l1.getD i z59 = l1[i] := by simp [hlt]
  have hr := rPlace a l1 l2 i hlt hl1
  rw [e] at hr
  rw [List.take_succ_eq_append_getElem hlt, List.map_append, List.map_singleton] at hih
  refine Ev.succ ?_
  simp only [r09_Check.l0]
  rw [List.drop_eq_getElem_cons hlt, chkPV]
  refine Ev.pos (by omega) (Ev.bind hr ?_)
  by_cases h1 : nmE ((l1.take i).map fun p => p.f0) l1[i].f0 = 0
  ·rw [if_pos h1, if_pos h1]
   refine Ev.ite (fun h2 => ?_) (fun h2 => Ev.val ?_)
   ·rw [if_pos h2, wrap_succ (by omega)]; exact hih
   ·rw [if_neg h2]
  ·rw [if_neg h1, if_neg h1]
   exact Ev.neg h1 (Ev.now _)
theorem rCheck (a : ByteArray) (l1 : List Pl) (l2 : List Tr) (hs : Short l2) (hl : l2.length ≤ 1000) (hl1 : l1.length ≤ 1000) : Ev (fun k => r09_Check.f k a l1 l2) (checkV a l1 l2) := by
 unfold r09_Check.f checkV
 refine Ev.bind (rname a) (Ev.ite (fun h => ?_) (fun h => Ev.val (by rw [if_neg h])))
 rw [if_pos h]
 have hj : ∀ b : Bool, b = decide (l1.length < 1 ∨ 24 < l1.length ∨ 24 < l2.length) → Ev (fun k => r09_Check.j0 k b a l1 l2) (if l1.length < 1 ∨ 24 < l1.length ∨ 24 < l2.length then (2, 0) else match chkPV l1 0 [] with | .inl e => e | .inr names => chkTV l1.length l2 0 names) := by
  intro b hb
  refine Ev.succ ?_
  simp only [r09_Check.j0]
  by_cases h2 : l1.length < 1 ∨ 24 < l1.length ∨ 24 < l2.length
  ·rw [if_pos h2]; exact Ev.pos (by rw [hb]; exact decide_eq_true h2) (Ev.now _)
  ·rw [if_neg h2]
   refine Ev.neg (by rw [hb, decide_eq_false h2]; simp) ?_
   have := rCheck_l0 a l1 l2 hs hl hl1 _ 0 (by omega) rfl
   rw [List.drop_zero, List.take_zero, List.map_nil] at this
   exact this
 refine Ev.ite (fun h2 => hj _ ?_) (fun h2 => Ev.ite (fun h3 => hj _ ?_) (fun h3 => hj _ ?_))
 ·exact (decide_eq_true (.inl (by omega))).symm
 ·exact (decide_eq_true (.inr (.inl (by omega)))).symm
 ·exact decide_eq_decide.2 (by omega)
theorem rValid (a : ByteArray) (l1 : List Pl) (l2 : List Tr) (hs : Short l2) (hl1 : l1.length ≤ 1000) (hl : l2.length ≤ 1000) : Ev (fun k => r09_Valid.f k a l1 l2) (decide ((checkV a l1 l2).1 = 0)) := by
 unfold r09_Valid.f
 exact Ev.bind (rCheck a l1 l2 hs hl hl1) (Ev.val (by rw [Bool.eq_iff_iff, beq_iff_eq, decide_eq_true_eq]))
end Go.Proofs.YtejchnmhlcbfcaaDoor.Nets

/- The net of a log without a clash of names is valid. -/
namespace Go.Proofs.YtejchnmhlcbfcaaDoor.Alpha
open Go.RowKit Go.Proofs.YtejchnmhlcbfcaaDoor.Pr Go.Proofs.YtejchnmhlcbfcaaDoor.Evs Go.Proofs.YtejchnmhlcbfcaaDoor.Bits Go.Proofs.YtejchnmhlcbfcaaDoor.Logs Go.Proofs.YtejchnmhlcbfcaaDoor.Feet Go.Proofs.YtejchnmhlcbfcaaDoor.Caus Go.Proofs.YtejchnmhlcbfcaaDoor.Names Go.Proofs.YtejchnmhlcbfcaaDoorW.PrintWords Go.Proofs.YtejchnmhlcbfcaaDoorW.PrintLast Go.Proofs.YtejchnmhlcbfcaaDoorW.PrintMore
set_option linter.unusedVariables false
set_option linter.unusedSimpArgs false

/-! ### arcs -/
theorem arUp_mem {g : Pq → BitVec 64} {Q : List Pq} {i : Nat} : ∀ {k : Nat} {a : Ar}, a ∈ arUp g Q i k → ∃ j, j < k ∧ a = ⟨((j + 2 : Nat) : Int), 1⟩
 | 0, a, h => by simp [arUp] at h
 | k + 1, a, h => by
  rw [arUp, List.mem_append] at h
  rcases h with h | h
  ·obtain ⟨j, h1, h2⟩ := arUp_mem h
   exact ⟨j, by omega, h2⟩
  ·split at h
   ·rw [List.mem_singleton] at h
    exact ⟨k, by omega, h⟩
   ·cases h
def ltA (a b : Ar) : Prop := a.f0 < b.f0
theorem arUp_srt (g : Pq → BitVec 64) (Q : List Pq) (i : Nat) : ∀ k, (arUp g Q i k).Pairwise ltA
 | 0 => by simp [arUp]
 | k + 1 => by
  rw [arUp, List.pairwise_append]
  refine ⟨arUp_srt g Q i k, by split <;> simp, fun x hx y hy => ?_⟩
  obtain ⟨j, h1, rfl⟩ := arUp_mem hx
  split at hy
  ·rw [List.mem_singleton] at hy
   subst hy
   unfold ltA
   dsimp only
   omega
  ·cases hy
structure Arcs (np : Int) (l : List Ar) : Prop where
 srt : l.Pairwise ltA
 rng : ∀ a ∈ l, 0 ≤ a.f0 ∧ a.f0 < np ∧ a.f1 = 1
theorem arcs_ok {np : Int} {l : List Ar} (h : Arcs np l) : Nets.arcsV np l = 0 := by
 have key : ∀ d i, i + d = l.length → Nets.arcsE np l d i = 0 := by
  intro d
  induction d with
  | zero => intro i _; rfl
  | succ d ih =>
   intro i hi
   have hlt : i < l.length := by omega
   have hg : l.getD i z62 = l[i] := by simp [hlt]
   have hr := h.rng _ (List.getElem_mem hlt)
   rw [Nets.arcsE_go, ih (i + 1) (by omega)]
   refine Nets.arcE_0 ?_ ?_ ?_
   ·rw [hg]; omega
   ·rw [hg]
    rintro ⟨h0, h1⟩
    have hlt1 : i - 1 < l.length := by omega
    have hg1 : l.getD (i - 1) z62 = l[i - 1] := by simp [hlt1]
    rw [hg1] at h1
    have := List.pairwise_iff_getElem.1 h.srt (i - 1) i hlt1 hlt (by omega)
    unfold ltA at this
    omega
   ·rw [hg]; omega
 exact key _ 0 (by omega)
theorem side_ok (fs : List ByteArray) (s : ByteArray) (p : Int) (h0 : 0 ≤ p) (h1 : p < 2) (g : Pq → BitVec 64) (Q : List Pq) (i : Nat) : Arcs ((Q.length + 2 : Nat) : Int) (endAr fs s p ++ arUp g Q i Q.length) := by
 have he : ∀ a ∈ endAr fs s p, a = ⟨p, 1⟩ := by
  intro a ha
  unfold endAr at ha
  split at ha
  ·exact List.mem_singleton.1 ha
  ·cases ha
 constructor
 ·rw [List.pairwise_append]
  refine ⟨?_, arUp_srt _ _ _ _, fun x hx y hy => ?_⟩
  ·unfold endAr; split <;> simp
  ·rw [he x hx]
   obtain ⟨j, h2, rfl⟩ := arUp_mem hy
   unfold ltA
   dsimp only
   omega
 ·intro a ha
  rw [List.mem_append] at ha
  rcases ha with ha | ha
  ·rw [he a ha]
   dsimp only
   omega
  ·obtain ⟨j, h2, rfl⟩ := arUp_mem ha
   dsimp only
   omega

/-! ### names -/
def plNames (n : Nat) : List ByteArray := (plUp n).map fun p => p.f0
def plOk (n : Nat) : Bool := match Nets.chkPV (plUp n) 0 [] with
 | .inl _ => false
 | .inr names => decide (names = plNames n)
set_option maxRecDepth 100000 in
theorem plOk_all : ∀ n : Fin 23, plOk n.val = true := by decide +kernel
theorem pl_ok {n : Nat} (h : n ≤ 22) : Nets.chkPV (plUp n) 0 [] = .inr (plNames n) := by
 have := plOk_all ⟨n, by omega⟩
 unfold plOk at this
 split at this
 ·cases this
 ·rename_i names e
  rw [e, of_decide_eq_true this]
theorem netName_ok : nameB netName = true := by decide +kernel
theorem tr_ok {np : Nat} : ∀ (ts : List Tr) (i : Nat) (names : List ByteArray), (∀ t ∈ ts, nameB t.f0 = true ∧ Nets.trE np t = 0 ∧ t.f0 ∉ names) → (ts.map fun t => t.f0).Nodup → Nets.chkTV np ts i names = (0, 0)
 | [], i, names, _, _ => rfl
 | t :: ts, i, names, h, hd => by
  obtain ⟨h1, h2, h3⟩ := h t (List.mem_cons_self ..)
  rw [List.map_cons, List.nodup_cons] at hd
  have hn : Nets.nmE names t.f0 = 0 := by
   rw [Nets.nmE_names, if_pos h1, if_neg]
   intro e
   obtain ⟨y, hy, e2⟩ := List.any_eq_true.1 e
   have := (bytes_eq y t.f0).1 (beq_iff_eq.1 e2)
   exact h3 (this ▸ hy)
  unfold Nets.chkTV
  rw [if_pos hn, if_pos h2]
  refine tr_ok ts (i + 1) _ (fun u hu => ?_) hd.2
  obtain ⟨k1, k2, k3⟩ := h u (List.mem_cons_of_mem _ hu)
  refine ⟨k1, k2, fun e => ?_⟩
  rw [List.mem_append, List.mem_singleton] at e
  rcases e with e | e
  ·exact k3 e
  ·exact hd.1 (List.mem_map.2 ⟨u, hu, e⟩)
theorem trUp_names (Q : List Pq) (fs ls ns : List ByteArray) : ∀ k, k ≤ ns.length → (trUp Q fs ls ns k).map (fun t => t.f0) = ns.take k
 | 0, _ => by simp [trUp]
 | k + 1, h => by
  have hlt : k < ns.length := by omega
  have hg : ns.getD k ByteArray.empty = ns[k] := by rw [List.getD_eq_getElem?_getD, List.getElem?_eq_getElem hlt]; rfl
  rw [trUp, List.map_append, trUp_names Q fs ls ns k (by omega), List.take_succ_eq_append_getElem hlt, hg]
  rfl
theorem net_short (Q : List Pq) (fs ls ns : List ByteArray) (hQ : Q.length ≤ 22) : Nets.Short (trUp Q fs ls ns ns.length) := by
 intro t ht
 obtain ⟨i, _, rfl⟩ := trUp_mem ht
 unfold trOf
 have h1 := arUp_len (·.2) Q i Q.length
 have h2 := arUp_len (·.1) Q i Q.length
 have h3 := endAr_len fs (ns.getD i ByteArray.empty) 0
 have h4 := endAr_len ls (ns.getD i ByteArray.empty) 1
 simp only [List.length_append, List.length_nil]
 omega
theorem net_chk (Q : List Pq) (fs ls ns : List ByteArray) (hQ : Q.length ≤ 22) (hn : ns.length ≤ 12) (hd : ns.Nodup) (hv : ∀ s ∈ ns, nameB s = true) (hc : ¬ ∃ s ∈ ns, clash (plUp Q.length) s) :
  (Nets.checkV netName (plUp Q.length) (trUp Q fs ls ns ns.length)).1 = 0 := by
 have hpl := plUp_len Q.length
 have htl := trUp_len Q fs ls ns ns.length
 unfold Nets.checkV
 rw [if_pos netName_ok, if_neg (by omega), pl_ok hQ]
 dsimp only
 rw [tr_ok]
 ·intro t ht
  obtain ⟨i, hi, rfl⟩ := trUp_mem ht
  have hg : ns.getD i ByteArray.empty = ns[i] := by rw [List.getD_eq_getElem?_getD, List.getElem?_eq_getElem hi]; rfl
  refine ⟨?_, ?_, ?_⟩
  ·show nameB (ns.getD i ByteArray.empty) = true
   rw [hg]; exact hv _ (List.getElem_mem hi)
  ·unfold Nets.trE trOf
   dsimp only
   rw [if_neg (by omega), hpl, arcs_ok (side_ok fs _ 0 (by omega) (by omega) _ Q i), arcs_ok (side_ok ls _ 1 (by omega) (by omega) _ Q i)]
   rfl
  ·show ns.getD i ByteArray.empty ∉ plNames Q.length
   rw [hg]
   intro e
   obtain ⟨p, h1, h2⟩ := List.mem_map.1 e
   exact hc ⟨_, List.getElem_mem hi, p, h1, h2⟩
 ·rw [trUp_names _ _ _ _ _ (Nat.le_refl _), List.take_length]
  exact hd
theorem net_valid (Q : List Pq) (fs ls ns : List ByteArray) (hQ : Q.length ≤ 22) (hn : ns.length ≤ 12) (hd : ns.Nodup) (hv : ∀ s ∈ ns, nameB s = true) (hc : ¬ ∃ s ∈ ns, clash (plUp Q.length) s) :
  Ev (fun k => r09_Valid.f k netName (plUp Q.length) (trUp Q fs ls ns ns.length)) true := by
 have hpl := plUp_len Q.length
 have htl := trUp_len Q fs ls ns ns.length
 have hr := Nets.rValid netName (plUp Q.length) (trUp Q fs ls ns ns.length) (net_short Q fs ls ns hQ) (by omega) (by omega)
 rw [decide_eq_true (net_chk Q fs ls ns hQ hn hd hv hc)] at hr
 exact hr
theorem check_names : ∀ (l : List (List ByteArray)) (i : Nat), (checkGo l i).1 = 0 → ∀ t ∈ l, t.all nameB = true
 | [], _, _, _, h => by simp at h
 | t :: ts, i, h, x, hx => by
  unfold checkGo at h
  by_cases h64 : 64 < t.length
  ·rw [if_pos h64] at h; simp at h
  ·rw [if_neg h64] at h
   cases hn : t.all nameB with
   | false => rw [hn] at h; simp at h
   | true =>
    rw [hn] at h
    rcases List.mem_cons.1 hx with rfl | hx
    ·exact hn
    ·exact check_names ts (i + 1) h x hx
theorem acts_names {l : List (List ByteArray)} (he : (footB l).2 = 0) : ∀ s ∈ acts l, nameB s = true := by
 have hc : (checkB l).1 = 0 := by
  unfold footB at he
  split at he
  ·rename_i h; exact h
  ·rename_i h; exact absurd he h
 unfold checkB at hc
 split at hc
 ·simp at hc
 ·intro s hs
  obtain ⟨t, ht, hst⟩ := (acts_mem l s).1 hs
  exact List.all_eq_true.1 (check_names l 0 hc t ht) s hst
end Go.Proofs.YtejchnmhlcbfcaaDoor.Alpha

/- The reference's comparison of nets says yes of one net. -/
namespace Go.Proofs.YtejchnmhlcbfcaaDoor.Eqn
open Go.RowKit Go.Proofs.YtejchnmhlcbfcaaDoor.Pr Go.Proofs.YtejchnmhlcbfcaaDoor.Evs Go.Proofs.YtejchnmhlcbfcaaDoorW.PrintWords Go.Proofs.YtejchnmhlcbfcaaDoorW.PrintLast Go.Proofs.YtejchnmhlcbfcaaDoorW.PrintMore
set_option linter.unusedVariables false
set_option linter.unusedSimpArgs false

theorem arcs_l0 (x : List S62) (hl : x.length < 4611686018427387904) : ∀ d i, i ≤ x.length → x.length - i = d → Ev (fun k => r09_SameArcs.l0 k x x (i : Int)) true := by
 intro d
 induction d with
 | zero =>
  intro i hi hd
  refine Ev.succ ?_
  simp only [r09_SameArcs.l0]
  exact Ev.neg (by omega) (Ev.now _)
 | succ d ih =>
  intro i hi hd
  have := ih (i + 1) (by omega) (by omega)
  refine Ev.succ ?_
  simp only [r09_SameArcs.l0]
  rw [wrap_succ (by omega)]
  exact Ev.pos (by omega) (Ev.pos (by omega) (Ev.pos (by omega) (Ev.neg (by simp) this)))
theorem arcs (x : List S62) (hl : x.length < 4611686018427387904) : Ev (fun k => r09_SameArcs.f k x x) true := by
 unfold r09_SameArcs.f
 exact Ev.pos rfl (arcs_l0 x hl _ 0 (by omega) rfl)
theorem rd_tr {l : List S41} {i : Nat} (h : i < l.length) : rd_T41 l (i : Int) = l[i] := by simp [rd_T41, h]
theorem equal_l1 (a : ByteArray) (p : List S59) (t : List S41) (ht : t.length < 4611686018427387904) (hts : ∀ x ∈ t, x.f1.length < 4611686018427387904 ∧ x.f2.length < 4611686018427387904 ∧ x.f3.length < 4611686018427387904) :
  ∀ d i, i ≤ t.length → t.length - i = d → Ev (fun k => r09_Equal.l1 k (i : Int) a p t a p t) true := by
 intro d
 induction d with
 | zero =>
  intro i hi hd
  refine Ev.succ ?_
  simp only [r09_Equal.l1]
  exact Ev.neg (by omega) (Ev.now _)
 | succ d ih =>
  intro i hi hd
  have hlt : i < t.length := by omega
  have := ih (i + 1) (by omega) (by omega)
  obtain ⟨h1, h2, h3⟩ := hts _ (List.getElem_mem hlt)
  refine Ev.succ ?_
  simp only [r09_Equal.l1, rd_tr hlt]
  rw [wrap_succ (by omega)]
  exact Ev.pos (by omega) (Ev.pos (by omega) (Ev.pos (by omega) (Ev.pos trivial (Ev.pos trivial (Ev.bind (arcs _ h1) (Ev.pos rfl (Ev.bind (arcs _ h2) (Ev.pos rfl (Ev.bind (arcs _ h3) (Ev.pos rfl this))))))))))
theorem equal_l0 (a : ByteArray) (p : List S59) (t : List S41) (hp : p.length < 4611686018427387904) (h : Ev (fun k => r09_Equal.l1 k 0 a p t a p t) true) :
  ∀ d i, i ≤ p.length → p.length - i = d → Ev (fun k => r09_Equal.l0 k (i : Int) a p t a p t) true := by
 intro d
 induction d with
 | zero =>
  intro i hi hd
  refine Ev.succ ?_
  simp only [r09_Equal.l0]
  exact Ev.neg (by omega) h
 | succ d ih =>
  intro i hi hd
  have := ih (i + 1) (by omega) (by omega)
  refine Ev.succ ?_
  simp only [r09_Equal.l0]
  rw [wrap_succ (by omega)]
  exact Ev.pos (by omega) (Ev.pos (by omega) (Ev.pos (by omega) (Ev.neg (by simp) this)))
theorem equal (a : ByteArray) (p : List S59) (t : List S41) (hp : p.length < 4611686018427387904) (ht : t.length < 4611686018427387904) (hts : ∀ x ∈ t, x.f1.length < 4611686018427387904 ∧ x.f2.length < 4611686018427387904 ∧ x.f3.length < 4611686018427387904) :
  Ev (fun k => r09_Equal.f k a p t a p t) true := by
 have h0 := equal_l0 a p t hp (equal_l1 a p t ht hts _ 0 (by omega) rfl) _ 0 (by omega) rfl
 have hj : Ev (fun k => r09_Equal.j0 k false a p t a p t) true := by
  refine Ev.succ ?_
  simp only [r09_Equal.j0]
  exact Ev.neg (by decide) h0
 unfold r09_Equal.f
 rw [bne_self_eq_false]
 exact Ev.pos rfl (Ev.pos rfl hj)
end Go.Proofs.YtejchnmhlcbfcaaDoor.Eqn

/- The example of the chapter. -/
namespace Go.Proofs.YtejchnmhlcbfcaaDoor.Feet
open Go.RowKit Go.Proofs.YtejchnmhlcbfcaaDoor.Pr Go.Proofs.YtejchnmhlcbfcaaDoor.Evs Go.Proofs.YtejchnmhlcbfcaaDoorW.PrintWords Go.Proofs.YtejchnmhlcbfcaaDoorW.PrintLast Go.Proofs.YtejchnmhlcbfcaaDoorW.PrintMore
set_option maxRecDepth 100000 in
theorem alive_now : l49_exampleHolds.f 60 = some true := by decide +kernel
theorem alive : Ev (fun k => l49_exampleHolds.f k) true := Ev.of l49_exampleHolds.mono alive_now
theorem alive' : Ev (fun k => (l49_exampleHolds.f k).bind fun t => some t) true := Ev.bind alive (Ev.now _)
end Go.Proofs.YtejchnmhlcbfcaaDoor.Feet

/- For all logs Alpha of package discover returns the net, or the error, that the reference returns; the net is valid. -/
namespace Go.Proofs.YtejchnmhlcbfcaaDoor.Pure
open Go.RowKit Go.Proofs.YtejchnmhlcbfcaaDoor.Pr Go.Proofs.YtejchnmhlcbfcaaDoor.Evs Go.Proofs.YtejchnmhlcbfcaaDoor.Logs Go.Proofs.YtejchnmhlcbfcaaDoor.Feet Go.Proofs.YtejchnmhlcbfcaaDoor.Caus Go.Proofs.YtejchnmhlcbfcaaDoor.Names Go.Proofs.YtejchnmhlcbfcaaDoor.Alpha Go.Proofs.YtejchnmhlcbfcaaDoorW.PrintWords Go.Proofs.YtejchnmhlcbfcaaDoorW.PrintLast Go.Proofs.YtejchnmhlcbfcaaDoorW.PrintMore
set_option linter.unusedVariables false
set_option linter.unusedSimpArgs false

/-- The same net of both, and whether it is valid. -/
theorem nets_both {l : List (List ByteArray)} (h : Big l) (hor : (acts l).length ≤ 5 ∨ (footB l).2 ≠ 0) :
  ∃ r : NetR, Ev (fun k => d_Alpha.f k l) r ∧ Ev (fun k => r49_Alpha.f k l) r ∧
   (r.2.1.length ≤ 24 ∧ r.2.2.1.length ≤ 12 ∧ ∀ x ∈ r.2.2.1, x.f1.length ≤ 23 ∧ x.f2.length ≤ 23 ∧ x.f3.length ≤ 23) ∧
   (r.2.2.2 = 0 → Ev (fun k => r09_Valid.f k r.1 r.2.1 r.2.2.1) true) := by
 by_cases he : (footB l).2 = 0
 ·have hn : (acts l).length ≤ 5 := by
   rcases hor with h | h
   ·exact h
   ·exact absurd he h
  have hfl : (footB l).1.length ≤ 5 := by rw [foot_len he]; exact hn
  have ht : ∀ t ∈ l, t.length ≤ 1048576 := fun t ht => by have := (h.each t ht).1; omega
  obtain ⟨R, e1, a1⟩ := eans h he (foot_mat he)
  obtain ⟨R2, e2, a2, hL⟩ := rans h he hfl
  obtain rfl := a1.eq a2
  obtain ⟨Q, rfl⟩ := ans_map a1
  rw [List.length_map] at hL
  refine ⟨_, ealpha_ok l Q (by omega) e1 h.small ht (by omega), ralpha_ok l Q (by omega) e2 h.small ht (by omega), ?_, ?_⟩
  ·unfold alphaB
   split
   ·simp [errR]
   ·exact netR_small Q _ _ _ (by omega) (by omega)
  ·unfold alphaB
   split
   ·intro e; simp [errR] at e
   ·rename_i hQ
    unfold netR
    split
    ·intro e; simp [errR] at e
    ·rename_i hc
     intro _
     exact net_valid Q _ _ (acts l) (by omega) (by omega) (srt_nodup (acts_srt l)) (acts_names he) hc
 ·exact ⟨_, ealpha_err l _ he (eerr h he), ralpha_err l _ he (rerr h he), by simp [errR], fun e => absurd e he⟩
theorem DiscoverNets (a : List (List ByteArray)) (ha : LogZ a) : ∃ k, l49_DiscoverNets.f k a = some true := by
 apply Ev.rounds
 unfold l49_DiscoverNets.f
 have hyes : Ev (fun k => l49_DiscoverNets.j0 k a true) true := by
  refine Ev.succ ?_
  simp only [l49_DiscoverNets.j0]
  exact Ev.pos trivial alive'
 obtain ⟨x, hx, hX⟩ := large a ha
 refine Ev.bind hx ?_
 cases x with
 | true => exact Ev.pos rfl hyes
 | false =>
  refine Ev.neg (by decide) ?_
  have hb := hX rfl
  have hT := hb.total
  have body : (acts a).length ≤ 5 ∨ (footB a).2 ≠ 0 → Ev (fun k => l49_DiscoverNets.j0 k a false) true := fun hor => by
   obtain ⟨r, r1, r2, ⟨q1, q2, q3⟩, hv⟩ := nets_both hb hor
   have hE := Eqn.equal r.1 r.2.1 r.2.2.1 (by omega) (by omega) fun x hx => by have := q3 x hx; omega
   refine Ev.succ ?_
   simp only [l49_DiscoverNets.j0]
   refine Ev.neg (by decide) (Ev.bind r1 (Ev.bind r2 (Ev.bind hE (Ev.pos rfl (Ev.pos rfl ?_)))))
   refine Ev.ite (fun h0 => ?_) (fun _ => alive')
   exact Ev.bind (hv h0) (Ev.pos rfl alive')
  have hmany : Ev (fun k => l49_many.f k a) (decide (5 < (acts a).length ∧ (acts a).length ≤ 12)) := by
   unfold l49_many.f
   refine Ev.bind (racts hb.small) ?_
   by_cases h5 : ((acts a).length : Int) > 5
   ·refine Ev.pos h5 (Ev.val ?_)
    rw [decide_eq_decide]; omega
   ·refine Ev.neg h5 (Ev.val ?_)
    symm; rw [decide_eq_false_iff_not]; omega
  refine Ev.bind hmany ?_
  by_cases h : 5 < (acts a).length ∧ (acts a).length ≤ 12
  ·rw [decide_eq_true h]; exact hyes
  ·rw [decide_eq_false h]
   refine body ?_
   by_cases h5 : (acts a).length ≤ 5
   ·exact .inl h5
   ·refine .inr ?_
    unfold footB
    split
    ·rw [if_neg (by omega), if_pos (by omega)]; decide
    ·rename_i h1; exact h1
end Go.Proofs.YtejchnmhlcbfcaaDoor.Pure

/-
 DERIVED. GIVEN WITH THE SEED: THE CARDS: each row of YtejchnmhlcbfcaaDoorRows.lean that lists a variable, with what it lists TIED to the program's text (the seventh form; the later family's looks); each row that meets fmt, with fmt's text TOLD by the authors' own Lean function (tested against real Go, not proved from fmt's source: count such statements apart). THE CARD IS WHAT COUNTS. Prove the row's statement (the work); the ties are given (YtejchnmhlcbfcaaDoorTie.lean); close each card by the builder's one call (the guide's Derived/Test/ToyasCard.lean, 'card_holds'). Laid BY PROGRAM, IN A SANDBOX (cutbox-door.mjs). By AI agents, Wed Nov 11 2026. No macro, syntax, notation, axiom, sorry.
-/
namespace Go.Proofs.YtejchnmhlcbfcaaDoor
namespace Rows

/-- THE TIED CARD OF 'petrinetlaw49.DiscoverNets'. -/
def discoverNetsCard : Claim7 := { stood := { row := discoverNetsRow, standIns := [], harness := (true, "77565be1076ce014ec4aba3d17fa3295ea803b379bef6a53e836d7d5afb2bf46"), looks := false }, kinds := [], alts := [], laidByText := true, laidKinds := [.data, .data, .data], laidTests := true, laidLooks := .later }
def DiscoverNetsCardSaid : Prop := Claim7.holds Tryd.pinned (.plain (OpenSpec.ofChange discoverNetsSpec)) discoverNetsCard

end Rows
end Go.Proofs.YtejchnmhlcbfcaaDoor

/-
 DERIVED. GIVEN WITH THE SEED: THE PROGRAM's TIES (one call each: nine closed facts by the kernel) AND EACH ROW's TIE, after the 31st guide's Derived/Test/Toyas{Tie, Card}.lean. No idea stands in it: it is a product of the set-up. Laid BY PROGRAM, IN A SANDBOX (cutbox-door.mjs). By AI agents, Wed Nov 11 2026. No macro, syntax, notation, axiom, sorry.
-/
namespace Go.Proofs.YtejchnmhlcbfcaaDoor
open Go
set_option maxRecDepth 100000
theorem seatTie1 : Tryd.prog.laidByTextLater [("math/bits.deBruijn32tab", Rows.laid_math_bits_deBruijn32tab), ("math/bits.deBruijn64tab", Rows.laid_math_bits_deBruijn64tab), ("internal/strconv.uint64pow10", Rows.laid_internal_strconv_uint64pow10)] [.data, .data, .data] true :=
 Program.laidByTextLater_by_one 24 8 65 (by kernel_rfl) (by kernel_rfl) (by kernel_rfl) (by kernel_rfl) (by kernel_rfl) (by kernel_rfl) (fun _ _ => by kernel_rfl)
theorem noOwnUnsafe : Tryd.pinned.checked.prog.headLifts.contains "ownunsafe" = false := by kernel_rfl
theorem tie : Tryd.prog.laidByTextLater [("math/bits.deBruijn32tab", Rows.laid_math_bits_deBruijn32tab), ("math/bits.deBruijn64tab", Rows.laid_math_bits_deBruijn64tab), ("internal/strconv.uint64pow10", Rows.laid_internal_strconv_uint64pow10)] [.data, .data, .data] true :=
 Program.laidByTextLater.sub seatTie1 ["math/bits.deBruijn32tab", "math/bits.deBruijn64tab", "internal/strconv.uint64pow10"] (by kernel_rfl) (by kernel_rfl)
theorem discoverNets_row_tie : Rows.discoverNetsRow.laidByTextAt .later Tryd.pinned [.data, .data, .data] true :=
 OpenClaim.laidByTextAt_later rfl rfl tie noOwnUnsafe
end Go.Proofs.YtejchnmhlcbfcaaDoor

