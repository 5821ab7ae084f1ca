/- The net of a log that repeats one sequence of different activities is a chain: it fires the activities one by one, and is dead at its end. -/
import Derived.Test.YtejchnmhlcbfcaaDoorQDiscoverChains0
import Derived.Test.YtejchnmhlcbfcaaDoorQDiscoverChains1
import Derived.Test.YtejchnmhlcbfcaaDoorQDiscoverChains2
import Derived.Test.YtejchnmhlcbfcaaDoorQDiscoverChains3
import Derived.Test.YtejchnmhlcbfcaaDoorQDiscoverChains4
import Derived.Test.YtejchnmhlcbfcaaDoorVDiscoverChains
import Derived.Deep.Slices
import Derived.ChangeArms
import Derived.SizedLaws
import Derived.Test.YtejchnmhlcbfcaaDoorBDiscoverChains
import Derived.Test.YtejchnmhlcbfcaaDoorRows
import GoSem.ClaimSeven
import Derived.LaidByTextLater
import Derived.SevenTiedAt
import Derived.LaidSub
import Derived.LaidOnce
/- A datum that is read deep, within the reach of a machine: rows of rows and texts that fit into its memory. -/
namespace Go.Proofs.YtejchnmhlcbfcaaDoor.Reach
set_option linter.unusedVariables false
open Go.RowKit Go.WideShapes Go.Deep Go.Proofs.YtejchnmhlcbfcaaDoorW.PrintWords

/-- What the statements' reader finds at cells of type t, in a datum within reach, is what d tells of some a with ok. -/
structure OpensZ {α H : Type} (enc : TypeId × Value → H) (P : Program) (w : World) (base : Nat) (spare : Nat → Bool) (held : Bool) (d : Kd α) (t : TypeId) (ok : α → Prop) : Prop where
 cells : P.cellsOf t = d.sz
 opens : ∀ (fuel : Nat) (cs : List Value) (x : DataW H × List MemPlace), DataW.trod enc P w base spare held fuel t cs = some x → (∀ n ∈ x.1.weights P t, n ≤ reachBytes) → ∃ a, d.K w a cs ∧ ok a

section
variable {H : Type} {enc : TypeId × Value → H} {P : Program} {w : World} {base : Nat} {spare : Nat → Bool} {held : Bool}
theorem string {t : TypeId} (ht : P.underlying t = some .string) (hc : P.cellsOf t = 1) : OpensZ enc P w base spare held Kd.string t (fun s => s.size ≤ 140737488351232) :=
 ⟨hc, fun fuel cs x h hz => by
  obtain ⟨s, rfl, rfl, hs⟩ := DataW.trod_string ht h
  exact ⟨s, rfl, by
   have h1 := hz _ (List.mem_singleton.2 rfl)
   rw [Array.length_toList] at h1
   exact h1⟩⟩
theorem list_of {α : Type} {p : Nat → α → Prop} : ∀ (n : Nat), (∀ i, i < n → ∃ a, p i a) → ∃ xs : List α, xs.length = n ∧ ∀ i a, xs[i]? = some a → p i a
 | 0, _ => ⟨[], rfl, fun i a h => by simp at h⟩
 | n + 1, h => by
  obtain ⟨xs, hl, hx⟩ := list_of n (fun i hi => h i (by omega))
  obtain ⟨a, ha⟩ := h n (by omega)
  refine ⟨xs ++ [a], by simp [hl], fun i b hb => ?_⟩
  by_cases hi : i < xs.length
  ·rw [List.getElem?_append_left hi] at hb; exact hx i b hb
  ·have hlt := (List.getElem?_eq_some_iff.1 hb).1
   simp only [List.length_append, List.length_cons, List.length_nil] at hlt
   obtain rfl : i = n := by omega
   rw [List.getElem?_append_right (by omega)] at hb
   simp [hl] at hb
   rw [← hb]; exact ha
theorem weightsAll_mem {e : TypeId} : ∀ (l : List (DataW H)) (d : DataW H), d ∈ l → ∀ n ∈ d.weights P e, n ∈ DataW.weightsAll P e l
 | [], _, h, _, _ => by simp at h
 | x :: r, d, h, n, hn => by
  rw [DataW.weightsAll]
  rcases List.mem_cons.1 h with rfl | h
  ·exact List.mem_append_left _ hn
  ·exact List.mem_append_right _ (weightsAll_mem r d h n hn)
theorem slice {α : Type} {d : Kd α} {t e : TypeId} {ok : α → Prop} (h : OpensZ enc P w base spare held d e ok) (ht : P.underlying t = some (.slice e)) (hc : P.cellsOf t = 1) (hb : 16 ≤ P.bytesOf e) :
  OpensZ enc P w base spare held (Kd.slice e d) t (fun xs => xs.length ≤ 8796093022208 ∧ ∀ x ∈ xs, ok x) := by
 refine ⟨hc, fun fuel cs x hx hz => ?_⟩
 rcases open_slice ht hx with ⟨rfl, _⟩ | ⟨a, len, cap, m, n, D, Pl, rfl, _, hl, hm, hmm, rfl, hi⟩
 ·exact ⟨[], ⟨none, 0, rfl, Nat.le_refl _, Kd.C_nil _ _⟩, by simp, by simp⟩
 ·have hlm : len ≤ m := by rw [hmm]; split <;> omega
  simp only [DataW.weights, ht] at hz
  have hlen : len ≤ 8796093022208 := by
   have h1 := hz _ List.mem_cons_self
   have h2 : (((List.range len).map D).length + ((List.range (m - len)).map fun j => D (len + j)).length) * 16 ≤ reachBytes := Nat.le_trans (Nat.mul_le_mul_left _ hb) h1
   simp only [List.length_map, List.length_range] at h2
   unfold reachBytes at h2
   omega
  obtain ⟨xs, hxl, hxs⟩ := list_of (p := fun i b => ∃ c, c.length = d.sz ∧ d.K w b c ∧ ok b ∧ ∀ j u, c[j]? = some u → w.cell? (a.add (i * d.sz + j)) = some u) len (fun i hlt => by
   obtain ⟨cs', h1, h2⟩ := hi i (by omega)
   obtain ⟨b, hK, hok⟩ := h.opens _ _ _ h2 (fun n hn => hz n (List.mem_cons_of_mem _ (List.mem_append_left _ (weightsAll_mem _ (D i) (List.mem_map.2 ⟨i, by simpa using hlt, rfl⟩) n hn))))
   obtain ⟨_, hlen, hcell⟩ := World.cells?_some h1
   refine ⟨b, cs', by rw [hlen, h.cells], hK, hok, fun j u hu => ?_⟩
   have hj := (List.getElem?_eq_some_iff.1 hu).1
   rw [← hu, ← hcell j (by omega), h.cells, Addr.add_add])
  subst hxl
  refine ⟨xs, ⟨some a, cap, rfl, hl, rfl, by unfold maxLen at hm; omega, fun _ => ⟨a, rfl, fun j p hp => ?_⟩⟩, hlen, fun y hy => ?_⟩
  ·obtain ⟨c, h1, h2, _, h4⟩ := hxs j p hp
   exact ⟨c, h1, h2, h4⟩
  ·obtain ⟨j, hj⟩ := List.mem_iff_getElem?.1 hy
   obtain ⟨c, _, _, h3, _⟩ := hxs j y hj
   exact h3
/-- A parameter that is a row. -/
theorem param {α : Type} {d : Kd α} {t e : TypeId} {ok : α → Prop} (h : OpensZ enc P w base spare held d e ok) (ht : P.underlying t = some (.slice e)) (hc : P.cellsOf t = 1) (hb : 16 ≤ P.bytesOf e) {a : Option Addr} {len cap : Nat} {D : DataW H} {ps : List MemPlace}
  (hd : DataW.Trod enc P w base spare held t (.slice a len cap) D ps) (hz : ∀ n ∈ D.weights P t, n ≤ reachBytes) : ∃ xs : List α, len = xs.length ∧ xs.length ≤ cap ∧ d.C w a xs.length xs ∧ xs.length ≤ 8796093022208 ∧ ∀ x ∈ xs, ok x := by
 obtain ⟨fuel, hf⟩ := hd
 obtain ⟨xs, ⟨A, c, he, hcap, hC⟩, hl, hx⟩ := (slice h ht hc hb).opens _ _ _ hf hz
 have he' : [Value.slice a len cap] = [.slice A xs.length c] := he
 simp only [List.cons.injEq, Value.slice.injEq, and_true] at he'
 obtain ⟨rfl, rfl, rfl⟩ := he'
 exact ⟨xs, rfl, hcap, hC, hl, hx⟩
/-- What the sizes tell of one datum of the call. -/
theorem each_sized {ts : List TypeId} {ds : List (DataW H)} (h : (DataW.weightsEach P ts ds).all (· ≤ reachBytes) = true) {j : Nat} {t : TypeId} {d : DataW H} (ht : ts[j]? = some t) (hd : ds[j]? = some d) : ∀ n ∈ d.weights P t, n ≤ reachBytes :=
 fun n hn => by simpa using List.all_eq_true.1 h n (DataW.weights_mem_each ht hd n hn)
end
end Go.Proofs.YtejchnmhlcbfcaaDoor.Reach

/- What the functions of the reference of eventlog answer. -/
namespace Go.Proofs.YtejchnmhlcbfcaaDoor.Logs
open Go.RowKit Go.Proofs.YtejchnmhlcbfcaaDoor.Pr Go.Proofs.YtejchnmhlcbfcaaDoor.Evs Go.Proofs.YtejchnmhlcbfcaaDoor.Parts Go.Proofs.YtejchnmhlcbfcaaDoor.Names Go.Proofs.YtejchnmhlcbfcaaDoorW.PrintWords Go.Proofs.YtejchnmhlcbfcaaDoorW.PrintLast Go.Proofs.YtejchnmhlcbfcaaDoorW.PrintMore
set_option linter.unusedVariables false
set_option linter.unusedSimpArgs false

/-! ### names -/
theorem bt_byte {s : ByteArray} {i : Nat} (h : i < s.size) : bt s (i : Int) = (byteAt s i : Int) := by
 rw [byteAt_get s i h]
 simp [bt, h]
theorem name_l0 (s : ByteArray) (hs : s.size < 9223372036854775807) : ∀ (d i : Nat), i ≤ s.size → s.size - i = d → (∀ j, j < i → okB j (byteAt s j) = true) → Ev (fun k => r48_Name.l0 k s (i : Int)) (nameB s) := by
 intro d
 induction d with
 | zero =>
  intro i hi hd hok
  obtain rfl : i = s.size := by omega
  refine Ev.succ ?_
  simp only [r48_Name.l0]
  refine Ev.neg (by omega) ?_
  have hall : ((List.range s.size).all fun j => okB j (byteAt s j)) = true := by
   rw [List.all_eq_true]
   intro j hj
   exact hok j (List.mem_range.1 hj)
  by_cases h1 : (s.size : Int) ≥ 1
  ·refine Ev.pos h1 (Ev.same (funext fun _ => ?_))
   unfold nameB
   rw [hall, Bool.and_true, decide_eq_true (show 1 ≤ s.size by omega), Bool.true_and]
   congr 1
   exact decide_eq_decide.2 (by omega)
  ·refine Ev.neg h1 (Ev.same (funext fun _ => ?_))
   unfold nameB
   rw [decide_eq_false (show ¬ 1 ≤ s.size by omega)]
   rfl
 | succ d ih =>
  intro i hi hd hok
  have hlt : i < s.size := by omega
  have hb := bt_byte hlt
  obtain ⟨c, hc⟩ : ∃ c, byteAt s i = c := ⟨_, rfl⟩
  rw [hc] at hb
  have hgo : okB i c = true → Ev (fun k => r48_Name.l0 k s (wrap64 ((i : Int) + 1))) (nameB s) := by
   intro hk
   rw [wrap_succ (by omega)]
   refine ih (i + 1) (by omega) (by omega) (fun j hj => ?_)
   by_cases hji : j = i
   ·subst hji; rw [hc]; exact hk
   ·exact hok j (by omega)
  have hno : okB i c = false → nameB s = false := fun hk => nameB_false hlt (by rw [hc]; exact hk)
  have hstop : okB i c = false → Ev (fun _ : Nat => some false) (nameB s) := fun hk => by rw [hno hk]; exact Ev.now _
  refine Ev.succ ?_
  simp only [r48_Name.l0, hb]
  refine Ev.pos (by omega) (Ev.pos (by omega) ?_)
  have hnl : ¬ (97 ≤ c ∧ c ≤ 122) → ¬ c = 95 → Ev (fun k => if (i : Int) = 0 then some false else if (c : Int) = 46 then r48_Name.l0 k s (wrap64 ((i : Int) + 1)) else if (c : Int) < 48 then some false else if (c : Int) > 57 then some false else r48_Name.l0 k s (wrap64 ((i : Int) + 1))) (nameB s) := by
   intro h1 h2
   by_cases h0 : (i : Int) = 0
   ·exact Ev.pos h0 (hstop (okB_not (by omega)))
   ·refine Ev.neg h0 ?_
    by_cases h46 : (c : Int) = 46
    ·exact Ev.pos h46 (hgo (okB_of (by omega)))
    ·refine Ev.neg h46 ?_
     by_cases h48 : (c : Int) < 48
     ·exact Ev.pos h48 (hstop (okB_not (by omega)))
     ·refine Ev.neg h48 ?_
      by_cases h57 : (c : Int) > 57
      ·exact Ev.pos h57 (hstop (okB_not (by omega)))
      ·exact Ev.neg h57 (hgo (okB_of (by omega)))
  by_cases h97 : (c : Int) ≥ 97
  ·refine Ev.pos h97 ?_
   by_cases h122 : (c : Int) ≤ 122
   ·exact Ev.pos h122 (hgo (okB_of (by omega)))
   ·refine Ev.neg h122 ?_
    exact Ev.neg (by omega) (hnl (by omega) (by omega))
  ·refine Ev.neg h97 ?_
   by_cases h95 : (c : Int) = 95
   ·exact Ev.pos h95 (hgo (okB_of (by omega)))
   ·exact Ev.neg h95 (hnl (by omega) (by omega))
theorem rname (s : ByteArray) (hs : s.size < 9223372036854775807) : Ev (fun k => r48_Name.f k s) (nameB s) := name_l0 s hs s.size 0 (by omega) (by omega) (fun _ h => by omega)

/-! ### parts and words -/
/-! ### equal lists of lists -/
theorem rd_L1_get {l : List (List ByteArray)} {i : Nat} (h : i < l.length) : rd_L1 l (i : Int) = l[i] := by simp [rd_L1, h]
/-! ### Parse -/
end Go.Proofs.YtejchnmhlcbfcaaDoor.Logs

/- How often one name follows another, and which logs are few. -/
namespace Go.Proofs.YtejchnmhlcbfcaaDoor.Logs
open Go.RowKit Go.Proofs.YtejchnmhlcbfcaaDoor.Pr Go.Proofs.YtejchnmhlcbfcaaDoor.Evs Go.Proofs.YtejchnmhlcbfcaaDoorW.PrintWords Go.Proofs.YtejchnmhlcbfcaaDoorW.PrintLast Go.Proofs.YtejchnmhlcbfcaaDoorW.PrintMore
set_option linter.unusedVariables false
set_option linter.unusedSimpArgs false

/-! ### few -/
def total (l : List (List ByteArray)) : Nat := (l.map List.length).sum
structure Few (l : List (List ByteArray)) : Prop where
 len : l.length ≤ 80
 total : total l ≤ 800
 each : ∀ t ∈ l, t.length ≤ 80 ∧ ∀ s ∈ t, s.size ≤ 40
theorem total_snoc (l : List (List ByteArray)) (t : List ByteArray) : total (l ++ [t]) = total l + t.length := by simp [Logs.total]
/-! ### Follows -/
/-- How often b comes directly after a in front of place j. -/
def fol (t : List ByteArray) (a b : ByteArray) : Nat → Nat
 | 0 => 0
 | j + 1 => fol t a b j + if 1 ≤ j ∧ t[j - 1]? = some a ∧ t[j]? = some b then 1 else 0
theorem fol_le (t : List ByteArray) (a b : ByteArray) : ∀ j, fol t a b j ≤ j
 | 0 => Nat.le_refl _
 | j + 1 => by have := fol_le t a b j; unfold fol; split <;> omega
theorem fol_stop (t : List ByteArray) (a b : ByteArray) : ∀ (d : Nat), fol t a b (t.length + d) = fol t a b t.length
 | 0 => rfl
 | d + 1 => by
  rw [← Nat.add_assoc, fol, fol_stop t a b d, if_neg, Nat.add_zero]
  rintro ⟨_, _, h⟩
  rw [List.getElem?_eq_none (by omega)] at h; cases h
def folL (l : List (List ByteArray)) (a b : ByteArray) : Nat → Nat
 | 0 => 0
 | i + 1 => folL l a b i + fol (l.getD i []) a b (l.getD i []).length
theorem folL_le {l : List (List ByteArray)} (h : ∀ t ∈ l, t.length ≤ 80) (a b : ByteArray) : ∀ i, folL l a b i ≤ 80 * i
 | 0 => by simp [folL]
 | i + 1 => by
  have h1 := folL_le h a b i
  have h2 := fol_le (l.getD i []) a b (l.getD i []).length
  have h3 : (l.getD i []).length ≤ 80 := by
   by_cases hi : i < l.length
   ·rw [List.getD_eq_getElem?_getD, List.getElem?_eq_getElem hi]; exact h _ (List.getElem_mem hi)
   ·rw [List.getD_eq_getElem?_getD, List.getElem?_eq_none (by omega)]; simp
  rw [folL]; omega
theorem fol_step {t : List ByteArray} {a b : ByteArray} {q : Nat} (h1 : 1 ≤ q) (hq : q < t.length) : fol t a b (q + 1) = fol t a b q + if (t[q - 1]'(by omega)).toList = a.toList ∧ t[q].toList = b.toList then 1 else 0 := by
 rw [fol, List.getElem?_eq_getElem hq, List.getElem?_eq_getElem (show q - 1 < t.length by omega)]
 simp only [Option.some.injEq, bytes_eq, h1, true_and]
theorem efol_l1 (l : List (List ByteArray)) (a b : ByteArray) (i : Nat) (t : List ByteArray) (ht : t.length ≤ 80) (n : Nat) (hn : n ≤ 100000) (L : Int) (R : Int)
  (hnext : Ev (fun k => e_Follows.l0 k a b ((n + fol t a b t.length : Nat) : Int) l L (wrap64 ((i : Int) + 1))) R) : ∀ (d q : Nat), 1 ≤ q → t.length - q = d → Ev (fun k => e_Follows.l1 k a b ((n + fol t a b q : Nat) : Int) t (q : Int) l L (i : Int)) R := by
 intro d
 induction d with
 | zero =>
  intro q h1 hd
  refine Ev.succ ?_
  simp only [e_Follows.l1]
  refine Ev.neg (by omega) ?_
  obtain ⟨d, rfl⟩ : ∃ d, q = t.length + d := ⟨q - t.length, by omega⟩
  rw [fol_stop]
  exact hnext
 | succ d ih =>
  intro q h1 hd
  have hq : q < t.length := by omega
  have hle := fol_le t a b q
  have hih := ih (q + 1) (by omega) (by omega)
  rw [fol_step h1 hq] at hih
  refine Ev.succ ?_
  simp only [e_Follows.l1]
  rw [wrap_pred h1 (by omega), rdOf_get hq, rdOf_get (show q - 1 < t.length by omega), wrap_succ (i := q) (by omega)]
  refine Ev.pos (by omega) (Ev.pos (by omega) (Ev.pos (by omega) ?_))
  by_cases ha : (t[q - 1]'(by omega)).toList = a.toList
  ·refine Ev.pos ha (Ev.pos (by omega) ?_)
   by_cases hb : t[q].toList = b.toList
   ·rw [if_pos ⟨ha, hb⟩] at hih
    rw [wrap_succ (by omega)]
    exact Ev.pos hb hih
   ·rw [if_neg (fun h => hb h.2)] at hih
    exact Ev.neg hb hih
  ·rw [if_neg (fun h => ha h.1)] at hih
   exact Ev.neg ha hih
theorem efol_l0 (l : List (List ByteArray)) (a b : ByteArray) (hl : l.length ≤ 80) (ht : ∀ t ∈ l, t.length ≤ 80) : ∀ (d i : Nat), i ≤ l.length → l.length - i = d → Ev (fun k => e_Follows.l0 k a b (folL l a b i : Int) l (l.length : Int) (i : Int)) (folL l a b l.length : Int) := by
 intro d
 induction d with
 | zero =>
  intro i hi hd
  obtain rfl : i = l.length := by omega
  refine Ev.succ ?_
  simp only [e_Follows.l0]
  exact Ev.neg (by omega) (Ev.now _)
 | succ d ih =>
  intro i hi hd
  have hlt : i < l.length := by omega
  have hle := folL_le ht a b i
  have hih := ih (i + 1) (by omega) (by omega)
  have hg : l.getD i [] = l[i] := by rw [List.getD_eq_getElem?_getD, List.getElem?_eq_getElem hlt]; rfl
  rw [folL, hg] at hih
  refine Ev.succ ?_
  simp only [e_Follows.l0]
  refine Ev.pos (by omega) (Ev.pos (by omega) (Ev.pos (by omega) ?_))
  rw [rd_L1_get hlt]
  exact efol_l1 l a b i l[i] (ht _ (List.getElem_mem hlt)) (folL l a b i) (by omega) _ _ (by rw [wrap_succ (by omega)]; exact hih) _ 1 (Nat.le_refl _) rfl
theorem efollows {l : List (List ByteArray)} (h : Few l) (a b : ByteArray) : Ev (fun k => e_Follows.f k l a b) (folL l a b l.length : Int) := efol_l0 l a b h.len (fun t ht => (h.each t ht).1) _ 0 (by omega) rfl
theorem erelation {l : List (List ByteArray)} (h : Few l) (a b : ByteArray) : Ev (fun k => e_Relation.f k l a b) (relOf (folL l a b l.length : Int) (folL l b a l.length : Int)) :=
 Ev.bind (efollows h a b) (Ev.bind (efollows h b a) (Ev.now _))
end Go.Proofs.YtejchnmhlcbfcaaDoor.Logs

/- The names of a log: an ascending list. -/
namespace Go.Proofs.YtejchnmhlcbfcaaDoor.Logs
open Go.RowKit Go.Proofs.YtejchnmhlcbfcaaDoor.Pr Go.Proofs.YtejchnmhlcbfcaaDoor.Evs Go.Proofs.YtejchnmhlcbfcaaDoorW.PrintWords Go.Proofs.YtejchnmhlcbfcaaDoorW.PrintLast Go.Proofs.YtejchnmhlcbfcaaDoorW.PrintMore
set_option linter.unusedVariables false
set_option linter.unusedSimpArgs false

/-! ### the order of texts -/
theorem bl_irrefl : ∀ x : List UInt8, Op.bytesLess x x = false
 | [] => rfl
 | a :: x => by
  have h : ¬ a < a := by rw [UInt8.lt_iff_toNat_lt]; omega
  simp [Op.bytesLess, h, bl_irrefl x]
theorem bl_trans : ∀ x y z : List UInt8, Op.bytesLess x y = true → Op.bytesLess y z = true → Op.bytesLess x z = true
 | x, y, [], _, h => by cases y <;> simp [Op.bytesLess] at h
 | x, [], _ :: _, h, _ => by cases x <;> simp [Op.bytesLess] at h
 | [], _ :: _, _ :: _, _, _ => rfl
 | a :: x, b :: y, c :: z, h1, h2 => by
  simp only [Op.bytesLess, Bool.or_eq_true, Bool.and_eq_true, decide_eq_true_eq, beq_iff_eq] at h1 h2 ⊢
  rcases h1 with h1 | ⟨rfl, h1⟩ <;> rcases h2 with h2 | ⟨rfl, h2⟩
  ·left; rw [UInt8.lt_iff_toNat_lt] at *; omega
  ·exact .inl h1
  ·exact .inl h2
  ·exact .inr ⟨rfl, bl_trans x y z h1 h2⟩
theorem bl_total : ∀ x y : List UInt8, Op.bytesLess x y = false → Op.bytesLess y x = false → x = y
 | [], [], _, _ => rfl
 | [], _ :: _, h, _ => by simp [Op.bytesLess] at h
 | _ :: _, [], _, h => by simp [Op.bytesLess] at h
 | a :: x, b :: y, h1, h2 => by
  simp only [Op.bytesLess, Bool.or_eq_false_iff, decide_eq_false_iff_not] at h1 h2
  have hab : a = b := by
   rw [← UInt8.toNat_inj]
   have h3 := h1.1; have h4 := h2.1
   rw [UInt8.lt_iff_toNat_lt] at h3 h4
   omega
  subst hab
  have e1 := h1.2; have e2 := h2.2
  simp at e1 e2
  rw [bl_total x y e1 e2]
theorem less_irrefl (a : ByteArray) : lessB a a = false := bl_irrefl _
theorem less_trans {a b c : ByteArray} (h : lessB a b = true) (k : lessB b c = true) : lessB a c = true := bl_trans _ _ _ h k
theorem less_total {a b : ByteArray} (h : lessB a b = false) (k : lessB b a = false) : a = b := (bytes_eq a b).1 (bl_total _ _ h k)

/-! ### insert -/
def ins : List ByteArray → ByteArray → List ByteArray
 | [], s => [s]
 | x :: xs, s => if lessB x s = true then x :: ins xs s else if x = s then x :: xs else s :: x :: xs
theorem insS_eq : ∀ (l : List ByteArray) (s : ByteArray), insS l s = ins l s
 | [], s => by simp [insS, posS, ins]
 | x :: xs, s => by
  have ih := insS_eq xs s
  unfold insS posS at ih ⊢
  unfold ins
  cases h : lessB x s with
  | true =>
   rw [List.takeWhile_cons, if_pos h, List.length_cons, List.getElem?_cons_succ, List.take_succ_cons, List.drop_succ_cons, if_pos rfl]
   rw [← ih]
   split <;> rfl
  | false =>
   have htw : (x :: xs).takeWhile (lessB · s) = [] := by simp [List.takeWhile_cons, h]
   rw [htw]
   simp only [List.length_nil, List.getElem?_cons_zero, Option.map_some, Option.some.injEq, bytes_eq, List.take_zero, List.drop_zero, List.nil_append, Bool.false_eq_true, if_false]
theorem ins_mem : ∀ (l : List ByteArray) (s y : ByteArray), y ∈ ins l s ↔ y = s ∨ y ∈ l
 | [], s, y => by simp [ins]
 | x :: xs, s, y => by
  unfold ins
  split
  ·rw [List.mem_cons, ins_mem xs s y, List.mem_cons]
   constructor
   ·rintro (h | h | h)
    ·exact .inr (.inl h)
    ·exact .inl h
    ·exact .inr (.inr h)
   ·rintro (h | h | h)
    ·exact .inr (.inl h)
    ·exact .inl h
    ·exact .inr (.inr h)
  ·split
   ·rename_i hx
    subst hx
    simp
   ·simp
theorem ins_len : ∀ (l : List ByteArray) (s : ByteArray), (ins l s).length ≤ l.length + 1
 | [], s => by simp [ins]
 | x :: xs, s => by
  have := ins_len xs s
  unfold ins
  split
  ·simp only [List.length_cons]; omega
  ·split <;> simp
/-- Ascending. -/
def Srt (l : List ByteArray) : Prop := l.Pairwise (fun a b => lessB a b = true)
theorem ins_srt : ∀ (l : List ByteArray) (s : ByteArray), Srt l → Srt (ins l s)
 | [], s, _ => by simp [ins, Srt]
 | x :: xs, s, h => by
  obtain ⟨h1, h2⟩ := List.pairwise_cons.1 h
  unfold ins
  split
  ·rename_i hx
   refine List.pairwise_cons.2 ⟨fun y hy => ?_, ins_srt xs s h2⟩
   rcases (ins_mem xs s y).1 hy with rfl | hy
   ·exact hx
   ·exact h1 y hy
  ·rename_i hx
   split
   ·exact h
   ·rename_i hne
    have hsx : lessB s x = true := by
     cases hs : lessB s x with
     | true => rfl
     | false => exact absurd (less_total (by simpa using hx) hs) hne
    refine List.pairwise_cons.2 ⟨fun y hy => ?_, h⟩
    rcases List.mem_cons.1 hy with rfl | hy
    ·exact hsx
    ·exact less_trans hsx (h1 y hy)
theorem srt_nodup {l : List ByteArray} (h : Srt l) : l.Nodup := by
 refine List.Pairwise.imp ?_ h
 rintro a b hab rfl
 rw [less_irrefl] at hab; cases hab

/-! ### what the two functions 'insert' tell -/
def hasB (l : List ByteArray) (s : ByteArray) : Bool := l.any (fun x => decide (x = s))
theorem hasB_iff {l : List ByteArray} {s : ByteArray} : hasB l s = true ↔ s ∈ l := by simp [hasB]
theorem hasB_not {l : List ByteArray} {s : ByteArray} (h : ¬ s ∈ l) : hasB l s = false := by cases e : hasB l s with | false => rfl | true => exact absurd (hasB_iff.1 e) h
theorem has_l0 (l : List ByteArray) (s : ByteArray) (hl : l.length < 9223372036854775807) : ∀ (d i : Nat), i ≤ l.length → l.length - i = d → (∀ x ∈ l.take i, ¬ x = s) → Ev (fun k => r48_Has.l0 k l s (i : Int)) (hasB l s) := by
 intro d
 induction d with
 | zero =>
  intro i hi hd hno
  obtain rfl : i = l.length := by omega
  rw [List.take_length] at hno
  refine Ev.succ ?_
  simp only [r48_Has.l0]
  rw [hasB_not (fun h => hno s h rfl)]
  exact Ev.neg (by omega) (Ev.now _)
 | succ d ih =>
  intro i hi hd hno
  have hlt : i < l.length := by omega
  refine Ev.succ ?_
  simp only [r48_Has.l0]
  rw [rdOf_get hlt, wrap_succ (by omega)]
  refine Ev.pos (by omega) (Ev.pos (by omega) ?_)
  by_cases h : l[i] = s
  ·rw [hasB_iff.2 (by rw [← h]; exact List.getElem_mem hlt)]
   exact Ev.pos ((bytes_eq _ _).2 h) (Ev.now _)
  ·refine Ev.neg (fun e => h ((bytes_eq _ _).1 e)) (ih (i + 1) (by omega) (by omega) (fun x hx => ?_))
   rw [List.take_succ_eq_append_getElem hlt] at hx
   rcases List.mem_append.1 hx with hx | hx
   ·exact hno x hx
   ·rw [List.mem_singleton.1 hx]; exact h
theorem rhas (l : List ByteArray) (s : ByteArray) (hl : l.length < 9223372036854775807) : Ev (fun k => r48_Has.f k l s) (hasB l s) := has_l0 l s hl _ 0 (by omega) rfl (by simp)
/-! ### Activities -/
def acts (l : List (List ByteArray)) : List ByteArray := l.foldl (fun o t => t.foldl ins o) []
theorem acts_snoc (l : List (List ByteArray)) (t : List ByteArray) : acts (l ++ [t]) = t.foldl ins (acts l) := by simp [acts]
theorem foldIns_srt : ∀ (t o : List ByteArray), Srt o → Srt (t.foldl ins o)
 | [], o, h => h
 | x :: t, o, h => foldIns_srt t _ (ins_srt o x h)
theorem foldIns_len : ∀ (t o : List ByteArray), (t.foldl ins o).length ≤ o.length + t.length
 | [], o => by simp
 | x :: t, o => by
  have h1 := foldIns_len t (ins o x)
  have h2 := ins_len o x
  rw [List.foldl_cons, List.length_cons]; omega
theorem foldIns_mem : ∀ (t o : List ByteArray) (y : ByteArray), y ∈ t.foldl ins o ↔ y ∈ t ∨ y ∈ o
 | [], o, y => by simp
 | x :: t, o, y => by
  rw [List.foldl_cons, foldIns_mem t _ y, ins_mem, List.mem_cons]
  constructor
  ·rintro (h | h | h)
   ·exact .inl (.inr h)
   ·exact .inl (.inl h)
   ·exact .inr h
  ·rintro ((h | h) | h)
   ·exact .inr (.inl h)
   ·exact .inl h
   ·exact .inr (.inr h)
theorem actsFrom_srt : ∀ (l : List (List ByteArray)) (o : List ByteArray), Srt o → Srt (l.foldl (fun o t => t.foldl ins o) o)
 | [], o, h => h
 | t :: l, o, h => actsFrom_srt l _ (foldIns_srt t o h)
theorem acts_srt (l : List (List ByteArray)) : Srt (acts l) := actsFrom_srt l [] List.Pairwise.nil
theorem actsFrom_mem : ∀ (l : List (List ByteArray)) (o : List ByteArray) (y : ByteArray), y ∈ l.foldl (fun o t => t.foldl ins o) o ↔ (∃ t ∈ l, y ∈ t) ∨ y ∈ o
 | [], o, y => by simp
 | t :: l, o, y => by
  rw [List.foldl_cons, actsFrom_mem l _ y, foldIns_mem]
  simp only [List.mem_cons, exists_eq_or_imp, or_assoc]
  constructor
  ·rintro (h | h | h)
   ·exact .inr (.inl h)
   ·exact .inl h
   ·exact .inr (.inr h)
  ·rintro (h | h | h)
   ·exact .inr (.inl h)
   ·exact .inl h
   ·exact .inr (.inr h)
theorem acts_mem (l : List (List ByteArray)) (y : ByteArray) : y ∈ acts l ↔ ∃ t ∈ l, y ∈ t := by rw [acts, actsFrom_mem]; simp
/-- A log that is no longer than what a machine reads. -/
structure Small (l : List (List ByteArray)) : Prop where
 len : l.length ≤ 1048576
 total : total l ≤ 1048576
theorem Few.small {l : List (List ByteArray)} (h : Few l) : Small l := ⟨by have := h.len; omega, by have := h.total; omega⟩
theorem total_app_cons (a : List (List ByteArray)) (t : List ByteArray) (b : List (List ByteArray)) : total (a ++ t :: b) = total a + (t.length + total b) := by simp [Logs.total]
theorem total_take_le (l : List (List ByteArray)) (i : Nat) (hi : i < l.length) : total (l.take i) + l[i].length ≤ total l := by
 have h : l = l.take i ++ l[i] :: l.drop (i + 1) := by rw [← List.drop_eq_getElem_cons hi, List.take_append_drop]
 have h2 : total (l.take i ++ l[i] :: l.drop (i + 1)) = total (l.take i) + (l[i].length + total (l.drop (i + 1))) := total_app_cons _ _ _
 have h3 := congrArg Logs.total h
 omega
theorem acts_len (l : List (List ByteArray)) : ∀ i, i ≤ l.length → (acts (l.take i)).length ≤ total (l.take i) := by
 intro i
 induction i with
 | zero => intro _; simp [acts]
 | succ i ih =>
  intro hi
  have hlt : i < l.length := by omega
  have h1 := ih (by omega)
  have h2 := foldIns_len l[i] (acts (l.take i))
  rw [List.take_succ_eq_append_getElem hlt, acts_snoc, total_snoc]; omega
theorem eact_l1 (l : List (List ByteArray)) (i : Nat) (t : List ByteArray) (ht : t.length ≤ 1048576) (o : List ByteArray) (ho : o.length ≤ 1048576) (L : Int) (R : List ByteArray)
  (hnext : Ev (fun k => e_Activities.l0 k (t.foldl ins o) l L (wrap64 ((i : Int) + 1))) R) : ∀ (d q : Nat), q ≤ t.length → t.length - q = d → Ev (fun k => e_Activities.l1 k ((t.take q).foldl ins o) l L (i : Int) t (t.length : Int) (q : Int)) R := by
 intro d
 induction d with
 | zero =>
  intro q hq hd
  obtain rfl : q = t.length := by omega
  refine Ev.succ ?_
  simp only [e_Activities.l1]
  rw [List.take_length]
  exact Ev.neg (by omega) hnext
 | succ d ih =>
  intro q hq hd
  have hlt : q < t.length := by omega
  have hih := ih (q + 1) (by omega) (by omega)
  have hln := foldIns_len (t.take q) o
  rw [List.length_take] at hln
  rw [List.take_succ_eq_append_getElem hlt, List.foldl_append] at hih
  refine Ev.succ ?_
  simp only [e_Activities.l1]
  rw [rdOf_get hlt, wrap_succ (i := q) (by omega), e_insert.f, if_pos (by omega), insS_eq]
  exact Ev.pos (by omega) (Ev.pos (by omega) (Ev.pos (by omega) hih))
theorem eact_l0 {l : List (List ByteArray)} (h : Small l) : ∀ (d i : Nat), i ≤ l.length → l.length - i = d → Ev (fun k => e_Activities.l0 k (acts (l.take i)) l (l.length : Int) (i : Int)) (acts l) := by
 have hl := h.len
 have hT := h.total
 intro d
 induction d with
 | zero =>
  intro i hi hd
  obtain rfl : i = l.length := by omega
  refine Ev.succ ?_
  simp only [e_Activities.l0]
  rw [List.take_length]
  exact Ev.neg (by omega) (Ev.now _)
 | succ d ih =>
  intro i hi hd
  have hlt : i < l.length := by omega
  have hih := ih (i + 1) (by omega) (by omega)
  have h1 := total_take_le l i hlt
  have h2 := acts_len l i (by omega)
  rw [List.take_succ_eq_append_getElem hlt, acts_snoc] at hih
  refine Ev.succ ?_
  simp only [e_Activities.l0]
  rw [rd_L1_get hlt]
  refine Ev.pos (by omega) (Ev.pos (by omega) (Ev.pos (by omega) ?_))
  exact eact_l1 l i l[i] (by omega) (acts (l.take i)) (by omega) _ _ (by rw [wrap_succ (by omega)]; exact hih) _ 0 (by omega) rfl
theorem eacts {l : List (List ByteArray)} (h : Small l) : Ev (fun k => e_Activities.f k l) (acts l) := eact_l0 h _ 0 (by omega) rfl
end Go.Proofs.YtejchnmhlcbfcaaDoor.Logs

/- The first fault of a log, and the text of a log. -/
namespace Go.Proofs.YtejchnmhlcbfcaaDoor.Logs
open Go.RowKit Go.Proofs.YtejchnmhlcbfcaaDoor.Pr Go.Proofs.YtejchnmhlcbfcaaDoor.Evs Go.Proofs.YtejchnmhlcbfcaaDoor.Names Go.Proofs.YtejchnmhlcbfcaaDoorW.PrintWords Go.Proofs.YtejchnmhlcbfcaaDoorW.PrintLast Go.Proofs.YtejchnmhlcbfcaaDoorW.PrintMore
set_option linter.unusedVariables false
set_option linter.unusedSimpArgs false

/-! ### Check -/
/-- What a log is that is not large for the statements. -/
structure Big (l : List (List ByteArray)) : Prop where
 len : l.length ≤ 80
 total : total l ≤ 800
 each : ∀ t ∈ l, t.length ≤ 400 ∧ ∀ s ∈ t, s.size ≤ 40
theorem Big.small {l : List (List ByteArray)} (h : Big l) : Small l := ⟨by have := h.len; omega, by have := h.total; omega⟩

def checkGo : List (List ByteArray) → Nat → Int × Int
 | [], _ => (0, 0)
 | t :: ts, i => if 64 < t.length then (2, (i : Int)) else if t.all nameB then checkGo ts (i + 1) else (5, (i : Int))
def checkB (l : List (List ByteArray)) : Int × Int := if 64 < l.length then (2, 0) else checkGo l 0
theorem echeck_l1 (l : List (List ByteArray)) (i : Nat) (t : List ByteArray) (ht : t.length ≤ 400) (L : Int) (R : Int × Int) (hno : t.all nameB = false → R = (5, (i : Int)))
  (hnext : t.all nameB = true → Ev (fun k => e_Check.l0 k l L (wrap64 ((i : Int) + 1))) R) : ∀ (d q : Nat), q ≤ t.length → t.length - q = d → (t.take q).all nameB = true → Ev (fun k => e_Check.l1 k (i : Int) l L (i : Int) t (t.length : Int) (q : Int)) R := by
 intro d
 induction d with
 | zero =>
  intro q hq hd hok
  obtain rfl : q = t.length := by omega
  rw [List.take_length] at hok
  refine Ev.succ ?_
  simp only [e_Check.l1]
  exact Ev.neg (by omega) (hnext hok)
 | succ d ih =>
  intro q hq hd hok
  have hlt : q < t.length := by omega
  refine Ev.succ ?_
  simp only [e_Check.l1]
  refine Ev.pos (by omega) (Ev.pos (by omega) (Ev.pos (by omega) ?_))
  rw [rdOf_get hlt, wrap_succ (i := q) (by omega)]
  simp only [e_Name.f, Option.bind_some]
  cases hn : nameB t[q] with
  | true => exact Ev.pos rfl (ih (q + 1) (by omega) (by omega) (by rw [List.take_succ_eq_append_getElem hlt, List.all_append, hok]; simp [hn]))
  | false =>
   have hall : t.all nameB = false := by rw [List.all_eq_false]; exact ⟨_, List.getElem_mem hlt, by simp [hn]⟩
   rw [hno hall]
   exact Ev.neg (by decide) (Ev.now _)
theorem echeck_l0 (l : List (List ByteArray)) (hl : l.length ≤ 80) (ht : ∀ t ∈ l, t.length ≤ 400) : ∀ (d i : Nat), i ≤ l.length → l.length - i = d → Ev (fun k => e_Check.l0 k l (l.length : Int) (i : Int)) (checkGo (l.drop i) i) := by
 intro d
 induction d with
 | zero =>
  intro i hi hd
  obtain rfl : i = l.length := by omega
  refine Ev.succ ?_
  simp only [e_Check.l0]
  rw [List.drop_length]
  exact Ev.neg (by omega) (Ev.now _)
 | succ d ih =>
  intro i hi hd
  have hlt : i < l.length := by omega
  refine Ev.succ ?_
  simp only [e_Check.l0]
  rw [List.drop_eq_getElem_cons hlt, rd_L1_get hlt, checkGo]
  refine Ev.pos (by omega) (Ev.pos (by omega) (Ev.pos (by omega) ?_))
  by_cases h64 : 64 < l[i].length
  ·rw [if_pos h64]; exact Ev.pos (by omega) (Ev.now _)
  ·rw [if_neg h64]
   refine Ev.neg (by omega) ?_
   refine echeck_l1 l i l[i] (ht _ (List.getElem_mem hlt)) _ _ (fun h => by rw [h]; rfl) (fun h => ?_) _ 0 (by omega) rfl rfl
   rw [if_pos h, wrap_succ (by omega)]
   exact ih (i + 1) (by omega) (by omega)
theorem echeck {l : List (List ByteArray)} (h : Big l) : Ev (fun k => e_Check.f k l) (checkB l) := by
 unfold e_Check.f checkB
 by_cases h64 : 64 < l.length
 ·rw [if_pos h64]; exact Ev.pos (by omega) (Ev.now _)
 ·rw [if_neg h64]; exact Ev.neg (by omega) (echeck_l0 l h.len (fun t ht => (h.each t ht).1) _ 0 (by omega) rfl)
/-- A log without a fault is few. -/
theorem checkGo_few : ∀ (l : List (List ByteArray)) (i : Nat), (checkGo l i).1 = 0 → ∀ t ∈ l, t.length ≤ 64
 | [], _, _, _, h => by simp at h
 | t :: ts, i, h, x, hx => by
  unfold checkGo at h
  by_cases h64 : 64 < t.length
  ·rw [if_pos h64] at h; simp at h
  ·rw [if_neg h64] at h
   cases hn : t.all nameB with
   | false => rw [hn] at h; simp at h
   | true =>
    rw [hn] at h
    rcases List.mem_cons.1 hx with rfl | hx
    ·omega
    ·exact checkGo_few ts (i + 1) h x hx
theorem check_few {l : List (List ByteArray)} (h : Big l) (hc : (checkB l).1 = 0) : Few l := by
 unfold checkB at hc
 by_cases h64 : 64 < l.length
 ·rw [if_pos h64] at hc; simp at hc
 ·rw [if_neg h64] at hc
  exact ⟨h.len, h.total, fun t ht => ⟨by have := checkGo_few l 0 hc t ht; omega, (h.each t ht).2⟩⟩
end Go.Proofs.YtejchnmhlcbfcaaDoor.Logs

/- The footprint of a log, as the program and the reference tell it. -/
namespace Go.Proofs.YtejchnmhlcbfcaaDoor.Feet
open Go.RowKit Go.Proofs.YtejchnmhlcbfcaaDoor.Pr Go.Proofs.YtejchnmhlcbfcaaDoor.Evs Go.Proofs.YtejchnmhlcbfcaaDoor.Logs Go.Proofs.YtejchnmhlcbfcaaDoor.Names Go.Proofs.YtejchnmhlcbfcaaDoorW.PrintWords Go.Proofs.YtejchnmhlcbfcaaDoorW.PrintLast Go.Proofs.YtejchnmhlcbfcaaDoorW.PrintMore
set_option linter.unusedVariables false
set_option linter.unusedSimpArgs false

theorem rd_get {l : List Int} {i : Nat} (h : i < l.length) : rd l (i : Int) = l[i] := by simp [rd, h]
theorem rd_L {l : List (List Int)} {i : Nat} (h : i < l.length) : rd_L5 l (i : Int) = l[i] := by simp [rd_L5, h]
/-! ### Large -/
def LogZ (l : List (List ByteArray)) : Prop := l.length ≤ 8796093022208 ∧ ∀ t ∈ l, t.length ≤ 8796093022208 ∧ ∀ s ∈ t, s.size ≤ 140737488351232
theorem large_l1 (l : List (List ByteArray)) (i : Nat) (hi : i < l.length) (hl : l.length ≤ 70) (hm : l[i].length ≤ 8796093022208) (n : Int) (p : Prop)
  (hnext : ∃ b, Ev (fun k => r49_Large.l0 k l n ((i + 1 : Nat) : Int)) b ∧ (b = false → p)) : ∀ (d q : Nat), q ≤ l[i].length → l[i].length - q = d → ∃ b, Ev (fun k => r49_Large.l1 k l n (i : Int) (q : Int)) b ∧ (b = false → (∀ s ∈ l[i].drop q, s.size ≤ 40) ∧ p) := by
 intro d
 induction d with
 | zero =>
  intro q hq hd
  obtain rfl : q = l[i].length := by omega
  obtain ⟨b, hb, hp⟩ := hnext
  refine ⟨b, Ev.succ ?_, fun h => ⟨by rw [List.drop_length]; simp, hp h⟩⟩
  simp only [r49_Large.l1, rd_L1_get hi]
  refine Ev.pos (by omega) (Ev.pos (by omega) (Ev.neg (by omega) ?_))
  rw [wrap_succ (by omega)]
  exact hb
 | succ d ih =>
  intro q hq hd
  have hlt : q < l[i].length := by omega
  by_cases h40 : (l[i][q].size : Int) > 40
  ·refine ⟨true, Ev.succ ?_, fun h => by cases h⟩
   simp only [r49_Large.l1, rd_L1_get hi, rdOf_get hlt]
   exact Ev.pos (by omega) (Ev.pos (by omega) (Ev.pos (by omega) (Ev.pos (by omega) (Ev.pos h40 (Ev.now _)))))
  ·obtain ⟨b, hb, hp⟩ := ih (q + 1) (by omega) (by omega)
   refine ⟨b, Ev.succ ?_, fun h => ⟨fun s hs => ?_, (hp h).2⟩⟩
   ·simp only [r49_Large.l1, rd_L1_get hi, rdOf_get hlt]
    refine Ev.pos (by omega) (Ev.pos (by omega) (Ev.pos (by omega) (Ev.pos (by omega) (Ev.neg h40 ?_))))
    rw [wrap_succ (by omega)]
    exact hb
   ·rw [List.drop_eq_getElem_cons hlt] at hs
    rcases List.mem_cons.1 hs with rfl | hs
    ·omega
    ·exact (hp h).1 s hs
theorem total_le {l : List (List ByteArray)} {t : List ByteArray} (h : t ∈ l) : t.length ≤ Logs.total l := by
 obtain ⟨a, b, rfl⟩ := List.append_of_mem h
 rw [total_app_cons]; omega
theorem large4 (l : List (List ByteArray)) (hl : LogZ l) : ∃ b, Ev (fun k => r49_Large.f k l) b ∧ (b = false → Big l ∧ Logs.total l ≤ 400) := by
 unfold r49_Large.f
 by_cases h70 : (l.length : Int) > 70
 ·exact ⟨true, Ev.pos h70 (Ev.now _), fun h => by cases h⟩
 ·have l0 : ∀ d i, l.length - i = d → i ≤ l.length → Logs.total (l.take i) ≤ i * 8796093022208 → ∃ b, Ev (fun k => r49_Large.l0 k l (Logs.total (l.take i) : Int) (i : Int)) b ∧ (b = false → (∀ t ∈ l.drop i, ∀ s ∈ t, s.size ≤ 40) ∧ Logs.total l ≤ 400) := by
   intro d
   induction d with
   | zero =>
    intro i hd hi hT
    obtain rfl : i = l.length := by omega
    refine ⟨decide ((Logs.total l : Int) > 400), Ev.succ ?_, fun h => ⟨by rw [List.drop_length]; simp, ?_⟩⟩
    ·simp only [r49_Large.l0]
     rw [List.take_length]
     exact Ev.neg (by omega) (Ev.now _)
    ·have := of_decide_eq_false h; omega
   | succ d ih =>
    intro i hd hi hT
    have hlt : i < l.length := by omega
    have hm := (hl.2 _ (List.getElem_mem hlt)).1
    have hsn : Logs.total (l.take (i + 1)) = Logs.total (l.take i) + l[i].length := by rw [List.take_succ_eq_append_getElem hlt, total_snoc]
    have hT2 : Logs.total (l.take (i + 1)) ≤ (i + 1) * 8796093022208 := by rw [hsn, Nat.add_mul, Nat.one_mul]; omega
    obtain ⟨b, hb, hp⟩ := large_l1 l i hlt (by omega) hm (Logs.total (l.take (i + 1)) : Int) _ (ih (i + 1) (by omega) (by omega) hT2) _ 0 (by omega) rfl
    refine ⟨b, Ev.succ ?_, fun h => ⟨fun t ht => ?_, (hp h).2.2⟩⟩
    ·simp only [r49_Large.l0, rd_L1_get hlt]
     have hw : wrap64 ((Logs.total (l.take i) : Int) + (l[i].length : Int)) = (Logs.total (l.take (i + 1)) : Int) := by
      rw [hsn]; unfold wrap64; omega
     rw [hw]
     exact Ev.pos (by omega) (Ev.pos (by omega) hb)
    ·rw [List.drop_eq_getElem_cons hlt] at ht
     rcases List.mem_cons.1 ht with rfl | ht
     ·exact fun s hs => (hp h).1 s (by rw [List.drop_zero]; exact hs)
     ·exact (hp h).2.1 t ht
  obtain ⟨b, hb, hp⟩ := l0 _ 0 rfl (by omega) (by simp [Logs.total])
  refine ⟨b, Ev.neg h70 hb, fun h => ⟨⟨by omega, by have := (hp h).2; omega, fun t ht => ⟨?_, (hp h).1 t ht⟩⟩, (hp h).2⟩⟩
  have := total_le ht
  have := (hp h).2
  omega

theorem large (l : List (List ByteArray)) (hl : LogZ l) : ∃ b, Ev (fun k => r49_Large.f k l) b ∧ (b = false → Big l) := by
 obtain ⟨b, hb, h⟩ := large4 l hl
 exact ⟨b, hb, fun e => (h e).1⟩

/-! ### the footprint -/
def relL (l : List (List ByteArray)) (a b : ByteArray) : Int := relOf (folL l a b l.length : Int) (folL l b a l.length : Int)
def rowL (l : List (List ByteArray)) (ns : List ByteArray) (a : ByteArray) : List Int := ns.map (relL l a)
def matL (l : List (List ByteArray)) (ns : List ByteArray) : List (List Int) := ns.map (rowL l ns)
def footB (l : List (List ByteArray)) : List (List Int) × Int :=
 if (checkB l).1 = 0 then (if (acts l).length = 0 then ([], 19) else if 12 < (acts l).length then ([], 2) else (matL l (acts l), 0)) else ([], (checkB l).1)
theorem rowL_len (l : List (List ByteArray)) (ns : List ByteArray) (a : ByteArray) : (rowL l ns a).length = ns.length := by simp [rowL]
theorem rowL_get (l : List (List ByteArray)) (ns : List ByteArray) (a : ByteArray) {j : Nat} (h : j < ns.length) : (rowL l ns a)[j]'(by rw [rowL_len]; exact h) = relL l a ns[j] := by simp [rowL]
theorem set_mid {α : Type} (A : List α) (x y : α) (B : List α) : (A ++ x :: B).set A.length y = A ++ y :: B := by simp
theorem get_mid (A : List (List Int)) (x : List Int) (B : List (List Int)) : rd_L5 (A ++ x :: B) (A.length : Int) = x := by simp [rd_L5]
theorem efoot_l1 {l : List (List ByteArray)} (h : Few l) (ns : List ByteArray) (hn : ns.length ≤ 12) (A B : List (List Int)) (hi : A.length < ns.length) (R : List (List Int) × Int)
  (hnext : Ev (fun k => d_Footprint.l0 k l ns (A ++ rowL l ns ns[A.length] :: B) ns (ns.length : Int) ((A.length + 1 : Nat) : Int)) R) :
  ∀ (d j : Nat), j ≤ ns.length → ns.length - j = d → Ev (fun k => d_Footprint.l1 k l ns (A ++ (rowL l ns ns[A.length]).take j :: B) (A.length : Int) ns[A.length] ns (ns.length : Int) (A.length : Int) ns (ns.length : Int) (j : Int)) R := by
 intro d
 induction d with
 | zero =>
  intro j hj hd
  obtain rfl : j = ns.length := by omega
  refine Ev.succ ?_
  simp only [d_Footprint.l1]
  rw [List.take_of_length_le (by rw [rowL_len]; omega), wrap_succ (i := A.length) (by omega)]
  exact Ev.neg (by omega) hnext
 | succ d ih =>
  intro j hj hd
  have hlt : j < ns.length := by omega
  have hrl : j < (rowL l ns ns[A.length]).length := by rw [rowL_len]; exact hlt
  have hih := ih (j + 1) (by omega) (by omega)
  refine Ev.succ ?_
  simp only [d_Footprint.l1]
  rw [get_mid, rdOf_get hlt, Int.toNat_natCast, wrap_succ (i := j) (by omega)]
  refine Ev.pos (by omega) (Ev.pos (by omega) (Ev.pos (by omega) (Ev.pos (by omega) (Ev.pos (by simp only [List.length_append, List.length_cons]; omega) ?_))))
  refine Ev.bind (erelation h ns[A.length] ns[j]) ?_
  rw [set_mid]
  refine Ev.pos (by rw [List.length_take]; omega) ?_
  rw [List.take_succ_eq_append_getElem hrl, rowL_get l ns _ hlt] at hih
  exact hih
theorem efoot_l0 {l : List (List ByteArray)} (h : Few l) (ns : List ByteArray) (hn : ns.length ≤ 12) :
  ∀ (d i : Nat), i ≤ ns.length → ns.length - i = d → Ev (fun k => d_Footprint.l0 k l ns ((matL l ns).take i ++ List.replicate (ns.length - i) []) ns (ns.length : Int) (i : Int)) (matL l ns, 0) := by
 intro d
 induction d with
 | zero =>
  intro i hi hd
  obtain rfl : i = ns.length := by omega
  refine Ev.succ ?_
  simp only [d_Footprint.l0]
  rw [Nat.sub_self, List.replicate_zero, List.append_nil, List.take_of_length_le (by simp [matL])]
  exact Ev.neg (by omega) (Ev.now _)
 | succ d ih =>
  intro i hi hd
  have hlt : i < ns.length := by omega
  have hml : i < (matL l ns).length := by simp [matL]; exact hlt
  have hA : ((matL l ns).take i).length = i := by rw [List.length_take]; omega
  have hih := ih (i + 1) (by omega) (by omega)
  refine Ev.succ ?_
  simp only [d_Footprint.l0]
  rw [rdOf_get hlt]
  refine Ev.pos (by omega) (Ev.pos (by omega) (Ev.pos (by omega) ?_))
  have hg : (matL l ns)[i] = rowL l ns ns[i] := by simp [matL]
  rw [List.take_succ_eq_append_getElem hml, hg, List.append_assoc, List.singleton_append] at hih
  have hrep : List.replicate (ns.length - i) ([] : List Int) = [] :: List.replicate (ns.length - (i + 1)) [] := by
   rw [show ns.length - i = (ns.length - (i + 1)) + 1 by omega, List.replicate_succ]
  rw [hrep]
  have := efoot_l1 h ns hn ((matL l ns).take i) (List.replicate (ns.length - (i + 1)) []) (by rw [hA]; exact hlt) (matL l ns, 0)
  simp only [hA] at this
  exact this hih _ 0 (by omega) rfl
theorem efoot {l : List (List ByteArray)} (h : Big l) : Ev (fun k => d_Footprint.f k l) (footB l) := by
 have hT := h.total
 unfold d_Footprint.f footB
 refine Ev.bind (echeck h) ?_
 by_cases hc : (checkB l).1 = 0
 ·rw [if_pos hc]
  refine Ev.pos hc (Ev.bind (eacts h.small) ?_)
  by_cases h0 : (acts l).length = 0
  ·rw [if_pos h0]; exact Ev.pos (by omega) (Ev.now _)
  ·rw [if_neg h0]
   refine Ev.neg (by omega) ?_
   by_cases h12 : 12 < (acts l).length
   ·rw [if_pos h12]; exact Ev.pos (by omega) (Ev.now _)
   ·rw [if_neg h12]
    refine Ev.neg (by omega) (Ev.pos (by omega) (Ev.pos (by rw [Int.toNat_natCast]; omega) ?_))
    have := efoot_l0 (check_few h hc) (acts l) (by omega) _ 0 (by omega) rfl
    rw [Int.toNat_natCast]
    simpa using this
 ·rw [if_neg hc]
  exact Ev.neg hc (Ev.now _)
theorem foot_len {l : List (List ByteArray)} (h : (footB l).2 = 0) : (footB l).1.length = (acts l).length := by
 unfold footB at h ⊢
 split at h
 ·split at h
  ·simp at h
  ·split at h
   ·simp at h
   ·rename_i h1 h2 h3
    rw [if_pos h1, if_neg h2, if_neg h3]; simp [matL]
 ·rename_i h1; exact absurd h h1
end Go.Proofs.YtejchnmhlcbfcaaDoor.Feet

/- First and last activities of a log, as the program lists them; a log and its reverse. -/
namespace Go.Proofs.YtejchnmhlcbfcaaDoor.Feet
open Go.RowKit Go.Proofs.YtejchnmhlcbfcaaDoor.Pr Go.Proofs.YtejchnmhlcbfcaaDoor.Evs Go.Proofs.YtejchnmhlcbfcaaDoor.Logs Go.Proofs.YtejchnmhlcbfcaaDoor.Names Go.Proofs.YtejchnmhlcbfcaaDoorW.PrintWords Go.Proofs.YtejchnmhlcbfcaaDoorW.PrintLast Go.Proofs.YtejchnmhlcbfcaaDoorW.PrintMore
set_option linter.unusedVariables false
set_option linter.unusedSimpArgs false

/-- The names that g takes out of the traces, in order and once each. -/
def sel (g : List ByteArray → Option ByteArray) (l : List (List ByteArray)) : List ByteArray := (l.filterMap g).foldl ins []
theorem sel_mem (g : List ByteArray → Option ByteArray) (l : List (List ByteArray)) (y : ByteArray) : y ∈ sel g l ↔ ∃ t ∈ l, g t = some y := by
 unfold sel
 rw [foldIns_mem]
 simp
theorem sel_len (g : List ByteArray → Option ByteArray) (l : List (List ByteArray)) : (sel g l).length ≤ l.length := by
 have h1 := foldIns_len (l.filterMap g) []
 have h2 := List.length_filterMap_le g l
 simp at h1
 unfold sel; omega
theorem sel_none {g : List ByteArray → Option ByteArray} {l : List (List ByteArray)} {t : List ByteArray} (h : g t = none) : sel g (l ++ [t]) = sel g l := by
 simp [sel, List.filterMap_append, h]
theorem sel_some {g : List ByteArray → Option ByteArray} {l : List (List ByteArray)} {t : List ByteArray} {x : ByteArray} (h : g t = some x) : sel g (l ++ [t]) = ins (sel g l) x := by
 simp [sel, List.filterMap_append, h]
theorem insert_ev {o : List ByteArray} {s : ByteArray} (h : o.length ≤ 1048576) : e_insert.f o s = some (ins o s) := by
 unfold e_insert.f
 rw [if_pos (by omega), insS_eq]
theorem efirst_l0 {l : List (List ByteArray)} (h : Small l) : ∀ d i, i ≤ l.length → l.length - i = d → Ev (fun k => e_First.l0 k (sel List.head? (l.take i)) l (l.length : Int) (i : Int)) (sel List.head? l) := by
 have hl := h.len
 intro d
 induction d with
 | zero =>
  intro i hi hd
  obtain rfl : i = l.length := by omega
  refine Ev.succ ?_
  simp only [e_First.l0]
  rw [List.take_length]
  exact Ev.neg (by omega) (Ev.now _)
 | succ d ih =>
  intro i hi hd
  have hlt : i < l.length := by omega
  have hih := ih (i + 1) (by omega) (by omega)
  rw [List.take_succ_eq_append_getElem hlt] at hih
  have hsl := sel_len List.head? (l.take i)
  rw [List.length_take] at hsl
  refine Ev.succ ?_
  simp only [e_First.l0, rd_L1_get hlt]
  rw [wrap_succ (i := i) (by omega)]
  refine Ev.pos (by omega) (Ev.pos (by omega) (Ev.pos (by omega) ?_))
  by_cases h0 : 0 < l[i].length
  ·have e : List.head? l[i] = some l[i][0] := by rw [List.head?_eq_getElem?, List.getElem?_eq_getElem h0]
   rw [sel_some e] at hih
   have hr : rdOf ByteArray.empty l[i] 0 = l[i][0] := rdOf_get (i := 0) h0
   refine Ev.pos (by omega) (Ev.pos (by omega) ?_)
   rw [hr, insert_ev (by omega)]
   exact hih
  ·have e : List.head? l[i] = none := by rw [List.head?_eq_getElem?, List.getElem?_eq_none (by omega)]
   rw [sel_none e] at hih
   exact Ev.neg (by omega) hih
theorem efirst {l : List (List ByteArray)} (h : Small l) : Ev (fun k => e_First.f k l) (sel List.head? l) := efirst_l0 h _ 0 (by omega) rfl
theorem elast_l0 {l : List (List ByteArray)} (h : Small l) (ht : ∀ t ∈ l, t.length ≤ 1048576) : ∀ d i, i ≤ l.length → l.length - i = d → Ev (fun k => e_Last.l0 k (sel List.getLast? (l.take i)) l (l.length : Int) (i : Int)) (sel List.getLast? l) := by
 have hl := h.len
 intro d
 induction d with
 | zero =>
  intro i hi hd
  obtain rfl : i = l.length := by omega
  refine Ev.succ ?_
  simp only [e_Last.l0]
  rw [List.take_length]
  exact Ev.neg (by omega) (Ev.now _)
 | succ d ih =>
  intro i hi hd
  have hlt : i < l.length := by omega
  have hti := ht _ (List.getElem_mem hlt)
  have hih := ih (i + 1) (by omega) (by omega)
  rw [List.take_succ_eq_append_getElem hlt] at hih
  have hsl := sel_len List.getLast? (l.take i)
  rw [List.length_take] at hsl
  refine Ev.succ ?_
  simp only [e_Last.l0, rd_L1_get hlt]
  rw [wrap_succ (i := i) (by omega)]
  refine Ev.pos (by omega) (Ev.pos (by omega) (Ev.pos (by omega) ?_))
  by_cases h0 : 0 < l[i].length
  ·have e : List.getLast? l[i] = some (l[i][l[i].length - 1]'(by omega)) := by rw [List.getLast?_eq_getElem?, List.getElem?_eq_getElem (by omega)]
   rw [sel_some e] at hih
   rw [wrap_pred (q := l[i].length) (by omega) (by omega), rdOf_get (show l[i].length - 1 < l[i].length by omega)]
   refine Ev.pos (by omega) (Ev.pos (by omega) (Ev.pos (by omega) ?_))
   rw [insert_ev (by omega)]
   exact hih
  ·have e : List.getLast? l[i] = none := by rw [List.getLast?_eq_getElem?, List.getElem?_eq_none (by omega)]
   rw [sel_none e] at hih
   exact Ev.neg (by omega) hih
theorem elast {l : List (List ByteArray)} (h : Small l) (ht : ∀ t ∈ l, t.length ≤ 1048576) : Ev (fun k => e_Last.f k l) (sel List.getLast? l) := elast_l0 h ht _ 0 (by omega) rfl
theorem eamong_l0 (l : List ByteArray) (s : ByteArray) (hl : l.length ≤ 1048576) : ∀ d i, i ≤ l.length → l.length - i = d → (∀ x ∈ l.take i, x ≠ s) → Ev (fun k => d_among.l0 k s l (l.length : Int) (i : Int)) (hasB l s) := by
 intro d
 induction d with
 | zero =>
  intro i hi hd hno
  obtain rfl : i = l.length := by omega
  refine Ev.succ ?_
  simp only [d_among.l0]
  rw [List.take_length] at hno
  exact Ev.neg (by omega) (Ev.val (hasB_not fun h => hno s h rfl).symm)
 | succ d ih =>
  intro i hi hd hno
  have hlt : i < l.length := by omega
  refine Ev.succ ?_
  simp only [d_among.l0, rdOf_get hlt]
  rw [wrap_succ (i := i) (by omega)]
  refine Ev.pos (by omega) (Ev.pos (by omega) (Ev.pos (by omega) ?_))
  by_cases e : l[i] = s
  ·exact Ev.pos ((bytes_eq _ _).2 e) (Ev.val (hasB_iff.2 (e ▸ List.getElem_mem hlt)).symm)
  ·refine Ev.neg (fun h => e ((bytes_eq _ _).1 h)) (ih (i + 1) (by omega) (by omega) fun x hx => ?_)
   rw [List.take_succ_eq_append_getElem hlt, List.mem_append, List.mem_singleton] at hx
   rcases hx with hx | rfl
   ·exact hno x hx
   ·exact e
theorem eamong (l : List ByteArray) (s : ByteArray) (hl : l.length ≤ 1048576) : Ev (fun k => d_among.f k l s) (hasB l s) := eamong_l0 l s hl _ 0 (by omega) rfl (by simp)
end Go.Proofs.YtejchnmhlcbfcaaDoor.Feet

/- What the reference's bits and sets answer (chapter 49). -/
namespace Go.Proofs.YtejchnmhlcbfcaaDoor.Sets
open Go.RowKit Go.Proofs.YtejchnmhlcbfcaaDoor.Evs Go.Proofs.YtejchnmhlcbfcaaDoor.Pr Go.Proofs.YtejchnmhlcbfcaaDoor.Bits Go.Proofs.YtejchnmhlcbfcaaDoorW.PrintWords Go.Proofs.YtejchnmhlcbfcaaDoorW.PrintLast Go.Proofs.YtejchnmhlcbfcaaDoorW.PrintMore
set_option linter.unusedVariables false
set_option linter.unusedSimpArgs false

theorem tp_double {i : Nat} (h : i + 1 < 64) : IntKind.u64.wrap (U (tp i) * 2) = U (tp (i + 1)) := by
 rw [U_tp (by omega), U_tp h, IntKind.wrap_u64, Int.pow_succ]
 have h1 : (2 : Int) ^ (i + 1) < 2 ^ 64 := by
  have : 2 ^ (i + 1) < 2 ^ 64 := Nat.pow_lt_pow_right (by decide) h
  have := (Int.ofNat_lt).2 this
  simpa using this
 have h0 : (0 : Int) < 2 ^ i := Int.pow_pos (by decide)
 rw [Int.pow_succ] at h1
 omega
theorem bit_l0 (n : Nat) (hn : n < 64) : ∀ (d i : Nat), i ≤ n → n - i = d → Ev (fun k => r06_bit.l0 k (n : Int) (U (tp i)) (i : Int)) (U (tp n)) := by
 intro d
 induction d with
 | zero =>
  intro i hi hd
  obtain rfl : i = n := by omega
  refine Ev.succ ?_
  simp only [r06_bit.l0]
  exact Ev.same (funext fun k => by rw [if_neg (by omega)])
 | succ d ih =>
  intro i hi hd
  refine Ev.succ ?_
  simp only [r06_bit.l0]
  refine Ev.congr (fun k => ?_) (ih (i + 1) (by omega) (by omega))
  rw [if_pos (by omega), tp_double (by omega), wrap_succ (by omega)]
theorem tp_zero : U (tp 0) = 1 := by rw [U_tp (by decide)]; rfl
theorem rbit {n : Nat} (hn : n < 64) : Ev (fun k => r06_bit.f k (n : Int)) (U (tp n)) := by
 have h := bit_l0 n hn _ 0 (by omega) rfl
 rw [tp_zero] at h
 exact h
theorem rhas (a : BitVec 64) (i : Int) : Ev (fun k => r06_Has.f k (U a) i) (decide (0 ≤ i) && a.getLsbD i.toNat) := by
 unfold r06_Has.f
 by_cases h0 : 0 ≤ i
 ·by_cases h1 : i < 64
  ·obtain ⟨n, rfl⟩ := Int.eq_ofNat_of_zero_le h0
   simp only [ge_iff_le, h0, h1, if_true]
   refine Ev.bind (rbit (by omega)) ?_
   have hne : ¬ U (tp n) = 0 := by
    rw [U_tp (by omega)]
    exact Int.ne_of_gt (Int.pow_pos (by decide))
   refine Ev.same (funext fun k => ?_)
   rw [if_neg hne]
   congr 1
   have e1 : Int.tdiv (U a) (U (tp n)) = U a / 2 ^ n := by
    rw [Int.tdiv_eq_ediv_of_nonneg (U_nonneg _), U_tp (by omega)]
   have e2 : IntKind.u64.wrap (U a / 2 ^ n) = U a / 2 ^ n := by
    rw [div_U, IntKind.wrap_u64]
    have := U_nonneg (a >>> n); have := U_lt (a >>> n); omega
   rw [e1, e2, Int.tmod_eq_emod_of_nonneg (by rw [div_U]; exact U_nonneg _), div_bit]
   cases hb : a.getLsbD n <;> simp [hb]
  ·simp only [ge_iff_le, h0, h1, if_true, if_false]
   rw [BitVec.getLsbD_of_ge _ _ (by omega), Bool.and_false]
   exact Ev.now _
 ·simp only [ge_iff_le, h0, if_false]
  exact Ev.same (funext fun k => by simp [h0])
theorem has_U (a : BitVec 64) {i : Nat} (h : i < 64) : d_has.f (U a) (i : Int) = some (a.getLsbD i) := by
 unfold d_has.f
 rw [wrap_idx (by omega) (by omega), if_pos (by omega), shr_at h, bit_at]
end Go.Proofs.YtejchnmhlcbfcaaDoor.Sets

/- Causal pairs of sets, as the program lists them. -/
namespace Go.Proofs.YtejchnmhlcbfcaaDoor.Caus
open Go.RowKit Go.Proofs.YtejchnmhlcbfcaaDoor.Pr Go.Proofs.YtejchnmhlcbfcaaDoor.Evs Go.Proofs.YtejchnmhlcbfcaaDoor.Bits Go.Proofs.YtejchnmhlcbfcaaDoor.Sets Go.Proofs.YtejchnmhlcbfcaaDoor.Logs Go.Proofs.YtejchnmhlcbfcaaDoor.Feet Go.Proofs.YtejchnmhlcbfcaaDoorW.PrintWords Go.Proofs.YtejchnmhlcbfcaaDoorW.PrintLast Go.Proofs.YtejchnmhlcbfcaaDoorW.PrintMore
set_option linter.unusedVariables false
set_option linter.unusedSimpArgs false

def M (f : List (List Int)) (i k : Nat) : Int := rd (rd_L5 f (i : Int)) (k : Int)
structure Mat (f : List (List Int)) (n : Nat) : Prop where
 len : f.length = n
 small : n ≤ 12
 rows : ∀ r ∈ f, r.length = n
 sym0 : ∀ i k, i < n → k < n → M f i k = 0 → M f k i = 0
 sym1 : ∀ i k, i < n → k < n → (M f i k = 1 ↔ M f k i = 2)
theorem row_len {f : List (List Int)} {n i : Nat} (hm : Mat f n) (hi : i < n) : (rd_L5 f (i : Int)).length = n := by
 have h : i < f.length := by rw [hm.len]; exact hi
 rw [rd_L h]; exact hm.rows _ (List.getElem_mem h)
theorem M_matL (l : List (List ByteArray)) (ns : List ByteArray) {i k : Nat} (hi : i < ns.length) (hk : k < ns.length) : M (matL l ns) i k = relL l ns[i] ns[k] := by
 unfold M
 have h1 : i < (matL l ns).length := by simpa [matL] using hi
 rw [rd_L h1]
 have h2 : (matL l ns)[i] = rowL l ns ns[i] := by simp [matL]
 rw [h2, rd_get (by rw [rowL_len]; exact hk), rowL_get l ns _ hk]
theorem matL_mat (l : List (List ByteArray)) (ns : List ByteArray) (h : ns.length ≤ 12) : Mat (matL l ns) ns.length := by
 refine ⟨by simp [matL], h, fun r hr => ?_, fun i k hi hk => ?_, fun i k hi hk => ?_⟩
 ·simp only [matL, List.mem_map] at hr
  obtain ⟨a, _, rfl⟩ := hr
  exact rowL_len _ _ _
 ·rw [M_matL l ns hi hk, M_matL l ns hk hi]
  unfold relL relOf
  split <;> split <;> simp_all
 ·rw [M_matL l ns hi hk, M_matL l ns hk hi]
  unfold relL relOf
  split <;> split <;> simp_all

/-! ### causal pairs -/
structure Cz (f : List (List Int)) (n : Nat) (a b : BitVec 64) : Prop where
 ab : ∀ i k, i < n → k < n → a.getLsbD i = true → b.getLsbD k = true → M f i k = 1
 aa : ∀ i k, i < n → k < n → a.getLsbD i = true → a.getLsbD k = true → M f i k = 0
 bb : ∀ i k, i < n → k < n → b.getLsbD i = true → b.getLsbD k = true → M f i k = 0
def Sub (n : Nat) (a : BitVec 64) : Prop := ∀ i, a.getLsbD i = true → i < n
def Inc (a b : BitVec 64) : Prop := ∀ i, a.getLsbD i = true → b.getLsbD i = true
theorem Cz.down {f : List (List Int)} {n : Nat} {a b c d : BitVec 64} (h : Cz f n c d) (h1 : Inc a c) (h2 : Inc b d) : Cz f n a b :=
 ⟨fun i k hi hk x y => h.ab i k hi hk (h1 i x) (h2 k y), fun i k hi hk x y => h.aa i k hi hk (h1 i x) (h1 k y), fun i k hi hk x y => h.bb i k hi hk (h2 i x) (h2 k y)⟩
theorem or_tp {a : BitVec 64} {i j : Nat} (hi : i < 64) : (a ||| tp i).getLsbD j = true ↔ a.getLsbD j = true ∨ j = i := by
 rw [BitVec.getLsbD_or, tp_bit]
 simp [hi]
 constructor
 ·rintro (h | h)
  ·exact .inl h
  ·exact .inr h.symm
 ·rintro (h | h)
  ·exact .inl h
  ·exact .inr h.symm
theorem or_tp_false {a : BitVec 64} {i j : Nat} (h : j ≠ i) : (a ||| tp i).getLsbD j = a.getLsbD j := by
 rw [BitVec.getLsbD_or, tp_bit]
 have : decide (i = j) = false := decide_eq_false fun e => h e.symm
 rw [this]; simp
theorem inc_or {a b : BitVec 64} {i : Nat} (hi : i < 64) (h : Inc a b) (hb : b.getLsbD i = true) : Inc (a ||| tp i) b := fun j hj => by
 rcases (or_tp hi).1 hj with h1 | rfl
 ·exact h j h1
 ·exact hb
theorem inc_refl (a : BitVec 64) : Inc a a := fun _ h => h
theorem sub_eq {n : Nat} {a b : BitVec 64} (ha : Sub n a) (hb : Sub n b) (h : ∀ i, i < n → a.getLsbD i = b.getLsbD i) : a = b := by
 apply ext_bit
 intro i _
 by_cases hi : i < n
 ·exact h i hi
 ·cases e : a.getLsbD i with
  | true => exact absurd (ha i e) hi
  | false => cases e2 : b.getLsbD i with
   | true => exact absurd (hb i e2) hi
   | false => rfl
/-- What one more activity asks for. -/
theorem add0 {f : List (List Int)} {n : Nat} (hm : Mat f n) {a b : BitVec 64} (h : Cz f n a b) {i : Nat} (hi : i < n) :
  Cz f n (a ||| tp i) b ↔ M f i i = 0 ∧ (∀ k, k < n → a.getLsbD k = true → M f i k = 0) ∧ (∀ k, k < n → b.getLsbD k = true → M f i k = 1) := by
 have h64 : i < 64 := by have := hm.small; omega
 have hin : (a ||| tp i).getLsbD i = true := (or_tp h64).2 (.inr rfl)
 have hup : ∀ k, a.getLsbD k = true → (a ||| tp i).getLsbD k = true := fun k hk => (or_tp h64).2 (.inl hk)
 constructor
 ·intro c
  exact ⟨c.aa i i hi hi hin hin, fun k hk x => c.aa i k hi hk hin (hup k x), fun k hk x => c.ab i k hi hk hin x⟩
 ·rintro ⟨h1, h2, h3⟩
  refine ⟨fun j k hj hk x y => ?_, fun j k hj hk x y => ?_, h.bb⟩
  ·rcases (or_tp h64).1 x with x | rfl
   ·exact h.ab j k hj hk x y
   ·exact h3 k hk y
  ·rcases (or_tp h64).1 x with x1 | rfl <;> rcases (or_tp h64).1 y with y1 | rfl
   ·exact h.aa j k hj hk x1 y1
   ·exact hm.sym0 _ _ hi hj (h2 j hj x1)
   ·exact h2 k hk y1
   ·exact h1
theorem add1 {f : List (List Int)} {n : Nat} (hm : Mat f n) {a b : BitVec 64} (h : Cz f n a b) {i : Nat} (hi : i < n) :
  Cz f n a (b ||| tp i) ↔ M f i i = 0 ∧ (∀ k, k < n → b.getLsbD k = true → M f i k = 0) ∧ (∀ k, k < n → a.getLsbD k = true → M f i k = 2) := by
 have h64 : i < 64 := by have := hm.small; omega
 have hin : (b ||| tp i).getLsbD i = true := (or_tp h64).2 (.inr rfl)
 have hup : ∀ k, b.getLsbD k = true → (b ||| tp i).getLsbD k = true := fun k hk => (or_tp h64).2 (.inl hk)
 constructor
 ·intro c
  exact ⟨c.bb i i hi hi hin hin, fun k hk x => c.bb i k hi hk hin (hup k x), fun k hk x => (hm.sym1 k i hk hi).1 (c.ab k i hk hi x hin)⟩
 ·rintro ⟨h1, h2, h3⟩
  refine ⟨fun j k hj hk x y => ?_, h.aa, fun j k hj hk x y => ?_⟩
  ·rcases (or_tp h64).1 y with y | rfl
   ·exact h.ab j k hj hk x y
   ·exact (hm.sym1 j _ hj hi).2 (h3 j hj x)
  ·rcases (or_tp h64).1 x with x1 | rfl <;> rcases (or_tp h64).1 y with y1 | rfl
   ·exact h.bb j k hj hk x1 y1
   ·exact hm.sym0 _ _ hi hj (h2 j hj x1)
   ·exact h2 k hk y1
   ·exact h1

/-! ### all, fits, grown -/
theorem all_l0 {f : List (List Int)} {n : Nat} (hm : Mat f n) (i : Nat) (hi : i < n) (s : BitVec 64) (w : Int) : ∀ d k, k ≤ n → n - k = d → (∀ j, j < k → s.getLsbD j = true → M f i j = w) →
  ∃ r, Ev (fun q => d_all.l0 q f (i : Int) (U s) w (n : Int) (k : Int)) r ∧ (r = true ↔ ∀ j, j < n → s.getLsbD j = true → M f i j = w) := by
 have hsm := hm.small
 have hil : i < f.length := by rw [hm.len]; exact hi
 intro d
 induction d with
 | zero =>
  intro k hk hd hall
  obtain rfl : k = n := by omega
  refine ⟨true, Ev.succ ?_, ⟨fun _ => hall, fun _ => rfl⟩⟩
  simp only [d_all.l0]
  exact Ev.neg (by omega) (Ev.now _)
 | succ d ih =>
  intro k hk hd hall
  have hlt : k < n := by omega
  have hrl := row_len hm hi
  cases hb : s.getLsbD k with
  | false =>
   obtain ⟨r, hr, hr'⟩ := ih (k + 1) (by omega) (by omega) (fun j hj x => by
    by_cases e : j = k
    ·subst e; rw [hb] at x; cases x
    ·exact hall j (by omega) x)
   refine ⟨r, Ev.succ ?_, hr'⟩
   simp only [d_all.l0, has_U s (show k < 64 by omega), Option.bind_some, hb]
   refine Ev.pos (by omega) (Ev.neg (by decide) ?_)
   rw [wrap_succ (by omega)]
   exact hr
  | true =>
   by_cases hw : M f i k = w
   ·obtain ⟨r, hr, hr'⟩ := ih (k + 1) (by omega) (by omega) (fun j hj x => by
     by_cases e : j = k
     ·subst e; exact hw
     ·exact hall j (by omega) x)
    refine ⟨r, Ev.succ ?_, hr'⟩
    simp only [d_all.l0, has_U s (show k < 64 by omega), Option.bind_some, hb]
    refine Ev.pos (by omega) (Ev.pos trivial (Ev.pos (by omega) (Ev.pos (by omega) (Ev.pos (by omega) (Ev.pos (by rw [hrl]; omega) (Ev.pos hw ?_))))))
    rw [wrap_succ (by omega)]
    exact hr
   ·refine ⟨false, Ev.succ ?_, ⟨fun h => (by cases h), fun h => absurd (h k hlt hb) hw⟩⟩
    simp only [d_all.l0, has_U s (show k < 64 by omega), Option.bind_some, hb]
    exact Ev.pos (by omega) (Ev.pos trivial (Ev.pos (by omega) (Ev.pos (by omega) (Ev.pos (by omega) (Ev.pos (by rw [hrl]; omega) (Ev.neg hw (Ev.now _)))))))
theorem eall {f : List (List Int)} {n : Nat} (hm : Mat f n) (i : Nat) (hi : i < n) (s : BitVec 64) (w : Int) :
  ∃ r, Ev (fun q => d_all.f q f (i : Int) (U s) w) r ∧ (r = true ↔ ∀ j, j < n → s.getLsbD j = true → M f i j = w) := by
 obtain ⟨r, h, h'⟩ := all_l0 hm i hi s w _ 0 (by omega) rfl (by simp)
 refine ⟨r, ?_, h'⟩
 unfold d_all.f
 rw [hm.len]
 exact h
theorem fits0 {f : List (List Int)} {n : Nat} (hm : Mat f n) {a b : BitVec 64} (h : Cz f n a b) {i : Nat} (hi : i < n) :
  ∃ r, Ev (fun q => d_fits.f q f (U a) (U b) (i : Int) 0) r ∧ (r = true ↔ Cz f n (a ||| tp i) b) := by
 have hil : i < f.length := by rw [hm.len]; exact hi
 have hrl := row_len hm hi
 obtain ⟨r1, h1, h1'⟩ := eall hm i hi a 0
 obtain ⟨r2, h2, h2'⟩ := eall hm i hi b 1
 rw [add0 hm h hi]
 have go : ∀ r, Ev (fun q => d_fits0.f q f (U a) (U b) (i : Int)) r → Ev (fun q => d_fits.f q f (U a) (U b) (i : Int) 0) r := fun r hr => Ev.congr (fun _ => by unfold d_fits.f; rw [if_pos rfl]) hr
 by_cases h0 : M f i i = 0
 ·cases r1 with
  | true => cases r2 with
   | true =>
    refine ⟨true, go _ ?_, ⟨fun _ => ⟨h0, h1'.1 rfl, h2'.1 rfl⟩, fun _ => rfl⟩⟩
    unfold d_fits0.f
    exact Ev.pos (by omega) (Ev.pos (by omega) (Ev.pos (by rw [hrl]; omega) (Ev.pos h0 (Ev.bind h1 (Ev.pos rfl (Ev.bind h2 (Ev.now _)))))))
   | false =>
    refine ⟨false, go _ ?_, ⟨fun e => (by cases e), fun e => h2'.2 e.2.2⟩⟩
    unfold d_fits0.f
    exact Ev.pos (by omega) (Ev.pos (by omega) (Ev.pos (by rw [hrl]; omega) (Ev.pos h0 (Ev.bind h1 (Ev.pos rfl (Ev.bind h2 (Ev.now _)))))))
  | false =>
   refine ⟨false, go _ ?_, ⟨fun e => (by cases e), fun e => h1'.2 e.2.1⟩⟩
   unfold d_fits0.f
   exact Ev.pos (by omega) (Ev.pos (by omega) (Ev.pos (by rw [hrl]; omega) (Ev.pos h0 (Ev.bind h1 (Ev.neg (by decide) (Ev.now _))))))
 ·refine ⟨false, go _ ?_, ⟨fun e => (by cases e), fun e => absurd e.1 h0⟩⟩
  unfold d_fits0.f
  exact Ev.pos (by omega) (Ev.pos (by omega) (Ev.pos (by rw [hrl]; omega) (Ev.neg h0 (Ev.now _))))
theorem fits1 {f : List (List Int)} {n : Nat} (hm : Mat f n) {a b : BitVec 64} (h : Cz f n a b) {i : Nat} (hi : i < n) :
  ∃ r, Ev (fun q => d_fits.f q f (U a) (U b) (i : Int) 1) r ∧ (r = true ↔ Cz f n a (b ||| tp i)) := by
 have hil : i < f.length := by rw [hm.len]; exact hi
 have hrl := row_len hm hi
 obtain ⟨r1, h1, h1'⟩ := eall hm i hi b 0
 obtain ⟨r2, h2, h2'⟩ := eall hm i hi a 2
 rw [add1 hm h hi]
 have go : ∀ r, Ev (fun q => d_fits1.f q f (U a) (U b) (i : Int)) r → Ev (fun q => d_fits.f q f (U a) (U b) (i : Int) 1) r := fun r hr => Ev.congr (fun _ => by unfold d_fits.f; rw [if_neg (by decide), if_pos rfl]) hr
 by_cases h0 : M f i i = 0
 ·cases r1 with
  | true => cases r2 with
   | true =>
    refine ⟨true, go _ ?_, ⟨fun _ => ⟨h0, h1'.1 rfl, h2'.1 rfl⟩, fun _ => rfl⟩⟩
    unfold d_fits1.f
    exact Ev.pos (by omega) (Ev.pos (by omega) (Ev.pos (by rw [hrl]; omega) (Ev.pos h0 (Ev.bind h1 (Ev.pos rfl (Ev.bind h2 (Ev.now _)))))))
   | false =>
    refine ⟨false, go _ ?_, ⟨fun e => (by cases e), fun e => h2'.2 e.2.2⟩⟩
    unfold d_fits1.f
    exact Ev.pos (by omega) (Ev.pos (by omega) (Ev.pos (by rw [hrl]; omega) (Ev.pos h0 (Ev.bind h1 (Ev.pos rfl (Ev.bind h2 (Ev.now _)))))))
  | false =>
   refine ⟨false, go _ ?_, ⟨fun e => (by cases e), fun e => h1'.2 e.2.1⟩⟩
   unfold d_fits1.f
   exact Ev.pos (by omega) (Ev.pos (by omega) (Ev.pos (by rw [hrl]; omega) (Ev.pos h0 (Ev.bind h1 (Ev.neg (by decide) (Ev.now _))))))
 ·refine ⟨false, go _ ?_, ⟨fun e => (by cases e), fun e => absurd e.1 h0⟩⟩
  unfold d_fits1.f
  exact Ev.pos (by omega) (Ev.pos (by omega) (Ev.pos (by rw [hrl]; omega) (Ev.neg h0 (Ev.now _))))
theorem or_ne {a : BitVec 64} {i : Nat} (h64 : i < 64) (h : a.getLsbD i = false) : a ||| tp i ≠ a := fun e => by
 have := (or_tp (a := a) (j := i) h64).2 (.inr rfl)
 rw [e, h] at this; cases this
theorem shl_or {a : BitVec 64} {i : Nat} (h : i < 64) : Go.bits .or .u64 (U a) (shl .u64 1 (IntKind.u64.wrap (i : Int))) = U (a ||| tp i) := by
 rw [wrap_idx (by omega) (by omega), shl_one h, bits_or]
theorem grown1 {f : List (List Int)} {n : Nat} (hm : Mat f n) {a b : BitVec 64} (h : Cz f n a b) : ∀ d i, i ≤ n → n - i = d →
  ∃ q, Ev (fun k => d_grown.l1 k f (n : Int) (i : Int) (U a) (U b)) q ∧ (q = (U a, U b) ↔ ∀ j, i ≤ j → j < n → b.getLsbD j = false → ¬ Cz f n a (b ||| tp j)) := by
 have hsm := hm.small
 intro d
 induction d with
 | zero =>
  intro i hi hd
  obtain rfl : i = n := by omega
  refine ⟨_, Ev.succ ?_, ⟨fun _ j h1 h2 => by omega, fun _ => rfl⟩⟩
  simp only [d_grown.l1]
  exact Ev.neg (by omega) (Ev.now _)
 | succ d ih =>
  intro i hi hd
  have hlt : i < n := by omega
  obtain ⟨q, hq, hq'⟩ := ih (i + 1) (by omega) (by omega)
  have skip : (b.getLsbD i = false → ¬ Cz f n a (b ||| tp i)) → (q = (U a, U b) ↔ ∀ j, i ≤ j → j < n → b.getLsbD j = false → ¬ Cz f n a (b ||| tp j)) := fun hs => by
   rw [hq']
   constructor
   ·intro x j h1 h2
    by_cases e : j = i
    ·subst e; exact hs
    ·exact x j (by omega) h2
   ·intro x j h1 h2
    exact x j (by omega) h2
  cases hb : b.getLsbD i with
  | true =>
   refine ⟨q, Ev.succ ?_, skip (fun e => by rw [hb] at e; cases e)⟩
   simp only [d_grown.l1, has_U b (show i < 64 by omega), Option.bind_some, hb]
   refine Ev.pos (by omega) (Ev.pos trivial ?_)
   rw [wrap_succ (by omega)]
   exact hq
  | false =>
   obtain ⟨r, hr, hr'⟩ := fits1 hm h hlt
   cases r with
   | true =>
    refine ⟨(U a, U (b ||| tp i)), Ev.succ ?_, ⟨fun e => ?_, fun e => absurd (hr'.1 rfl) (e i (by omega) hlt hb)⟩⟩
    ·simp only [d_grown.l1, has_U b (show i < 64 by omega), Option.bind_some, hb, shl_or (a := b) (show i < 64 by omega)]
     exact Ev.pos (by omega) (Ev.neg (by decide) (Ev.bind hr (Ev.pos rfl (Ev.pos (by rw [wrap_idx (by omega) (by omega)]; omega) (Ev.now _)))))
    ·exact absurd (U_inj.1 (Prod.mk.inj e).2) (or_ne (by omega) hb)
   | false =>
    refine ⟨q, Ev.succ ?_, skip (fun _ c => by have := hr'.2 c; cases this)⟩
    simp only [d_grown.l1, has_U b (show i < 64 by omega), Option.bind_some, hb]
    refine Ev.pos (by omega) (Ev.neg (by decide) (Ev.bind hr (Ev.neg (by decide) ?_)))
    rw [wrap_succ (by omega)]
    exact hq
def Max (f : List (List Int)) (n : Nat) (a b : BitVec 64) : Prop :=
 (∀ j, j < n → a.getLsbD j = false → ¬ Cz f n (a ||| tp j) b) ∧ (∀ j, j < n → b.getLsbD j = false → ¬ Cz f n a (b ||| tp j))
theorem grown0 {f : List (List Int)} {n : Nat} (hm : Mat f n) {a b : BitVec 64} (h : Cz f n a b) : ∀ d i, i ≤ n → n - i = d →
  ∃ q, Ev (fun k => d_grown.l0 k f (n : Int) (i : Int) (U a) (U b)) q ∧ (q = (U a, U b) ↔ (∀ j, i ≤ j → j < n → a.getLsbD j = false → ¬ Cz f n (a ||| tp j) b) ∧ (∀ j, j < n → b.getLsbD j = false → ¬ Cz f n a (b ||| tp j))) := by
 have hsm := hm.small
 intro d
 induction d with
 | zero =>
  intro i hi hd
  obtain rfl : i = n := by omega
  obtain ⟨q, hq, hq'⟩ := grown1 hm h _ 0 (by omega) rfl
  refine ⟨q, Ev.succ ?_, ?_⟩
  ·simp only [d_grown.l0, hm.len]
   exact Ev.neg (by omega) hq
  ·rw [hq']
   exact ⟨fun x => ⟨fun j h1 h2 => by omega, fun j hj => x j (by omega) hj⟩, fun x j _ hj => x.2 j hj⟩
 | succ d ih =>
  intro i hi hd
  have hlt : i < n := by omega
  obtain ⟨q, hq, hq'⟩ := ih (i + 1) (by omega) (by omega)
  have skip : (a.getLsbD i = false → ¬ Cz f n (a ||| tp i) b) → (q = (U a, U b) ↔ (∀ j, i ≤ j → j < n → a.getLsbD j = false → ¬ Cz f n (a ||| tp j) b) ∧ (∀ j, j < n → b.getLsbD j = false → ¬ Cz f n a (b ||| tp j))) := fun hs => by
   rw [hq']
   constructor
   ·intro x
    refine ⟨fun j h1 h2 => ?_, x.2⟩
    by_cases e : j = i
    ·subst e; exact hs
    ·exact x.1 j (by omega) h2
   ·intro x
    exact ⟨fun j h1 h2 => x.1 j (by omega) h2, x.2⟩
  cases hb : a.getLsbD i with
  | true =>
   refine ⟨q, Ev.succ ?_, skip (fun e => by rw [hb] at e; cases e)⟩
   simp only [d_grown.l0, has_U a (show i < 64 by omega), Option.bind_some, hb]
   refine Ev.pos (by omega) (Ev.pos trivial ?_)
   rw [wrap_succ (by omega)]
   exact hq
  | false =>
   obtain ⟨r, hr, hr'⟩ := fits0 hm h hlt
   cases r with
   | true =>
    refine ⟨(U (a ||| tp i), U b), Ev.succ ?_, ⟨fun e => ?_, fun e => absurd (hr'.1 rfl) (e.1 i (by omega) hlt hb)⟩⟩
    ·simp only [d_grown.l0, has_U a (show i < 64 by omega), Option.bind_some, hb, shl_or (a := a) (show i < 64 by omega)]
     exact Ev.pos (by omega) (Ev.neg (by decide) (Ev.bind hr (Ev.pos rfl (Ev.pos (by rw [wrap_idx (by omega) (by omega)]; omega) (Ev.now _)))))
    ·exact absurd (U_inj.1 (Prod.mk.inj e).1) (or_ne (by omega) hb)
   | false =>
    refine ⟨q, Ev.succ ?_, skip (fun _ c => by have := hr'.2 c; cases this)⟩
    simp only [d_grown.l0, has_U a (show i < 64 by omega), Option.bind_some, hb]
    refine Ev.pos (by omega) (Ev.neg (by decide) (Ev.bind hr (Ev.neg (by decide) ?_)))
    rw [wrap_succ (by omega)]
    exact hq
theorem egrown {f : List (List Int)} {n : Nat} (hm : Mat f n) {a b : BitVec 64} (h : Cz f n a b) :
  ∃ q, Ev (fun k => d_grown.f k f (U a) (U b)) q ∧ (q = (U a, U b) ↔ Max f n a b) := by
 obtain ⟨q, hq, hq'⟩ := grown0 hm h _ 0 (by omega) rfl
 refine ⟨q, ?_, ?_⟩
 ·unfold d_grown.f
  rw [hm.len]
  exact hq
 ·rw [hq']
  exact ⟨fun x => ⟨fun j hj => x.1 j (by omega) hj, x.2⟩, fun x => ⟨fun j _ hj => x.1 j hj, x.2⟩⟩

/-! ### grow -/
def prS (x : BitVec 64 × BitVec 64) : S76 := ⟨U x.1, U x.2⟩
theorem growE_spec {f : List (List Int)} {n : Nat} (hm : Mat f n) {a b : BitVec 64} (h : Cz f n a b) :
  ∃ L : List (BitVec 64), Ev (fun k => growE k f (U a) (U b)) (L.map fun c => prS (a, c)) ∧ L.Nodup ∧ L.length ≤ 1 ∧ ∀ c, c ∈ L ↔ c = b ∧ b ≠ 0#64 ∧ Max f n a b := by
 unfold growE
 by_cases hb : b = 0#64
 ·refine ⟨[], Ev.pos (by rw [hb]; rfl) (Ev.now _), by simp, by simp, fun c => ?_⟩
  simp [hb]
 ·have hb' : ¬ U b = 0 := fun e => hb (U_eq_zero.1 e)
  obtain ⟨q, hq, hq'⟩ := egrown hm h
  by_cases hx : q = (U a, U b)
  ·refine ⟨[b], Ev.neg hb' (Ev.bind hq (Ev.pos (by rw [hx]; exact ⟨rfl, rfl⟩) (Ev.now _))), by simp, by simp, fun c => ?_⟩
   simp only [List.mem_singleton]
   exact ⟨fun e => ⟨e, hb, hq'.1 hx⟩, fun e => e.1⟩
  ·refine ⟨[], Ev.neg hb' (Ev.bind hq (Ev.neg (fun e => hx (Prod.ext e.1 e.2)) (Ev.now _))), by simp, by simp, fun c => ?_⟩
   simp only [List.not_mem_nil, false_iff]
   rintro ⟨_, _, e⟩
   exact hx (hq'.2 e)
theorem grow1_spec {f : List (List Int)} {n : Nat} (hm : Mat f n) : ∀ m, m ≤ n → ∀ a b : BitVec 64, Cz f n a b → Sub (n - m) b →
  ∃ L : List (BitVec 64), Ev (fun k => grow1 k f m (U a) (U b)) (L.map fun c => prS (a, c)) ∧ L.Nodup ∧ L.length ≤ 2 ^ m ∧
   ∀ c, c ∈ L ↔ Sub n c ∧ c ≠ 0#64 ∧ (∀ i, i < n - m → c.getLsbD i = b.getLsbD i) ∧ Cz f n a c ∧ Max f n a c
 | 0, _, a, b, h, hb => by
  obtain ⟨L, h1, h2, h3, h4⟩ := growE_spec hm h
  refine ⟨L, h1, h2, h3, fun c => ?_⟩
  rw [h4]
  constructor
  ·rintro ⟨rfl, h5, h6⟩
   exact ⟨hb, h5, fun _ _ => rfl, h, h6⟩
  ·rintro ⟨h5, h6, h7, h8, h9⟩
   obtain rfl : c = b := sub_eq h5 hb h7
   exact ⟨rfl, h6, h9⟩
 | m + 1, hmn, a, b, h, hb => by
  have hsm := hm.small
  have hfl : f.length = n := hm.len
  obtain ⟨i, hi⟩ : ∃ i, i = n - (m + 1) := ⟨_, rfl⟩
  have hin : i < n := by omega
  have hni : n - m = i + 1 := by omega
  have hbi : b.getLsbD i = false := by
   cases e : b.getLsbD i with
   | false => rfl
   | true => have := hb i e; omega
  obtain ⟨L1, a1, a2, a3, a4⟩ := grow1_spec hm m (by omega) a b h (fun j hj => by have := hb j hj; omega)
  obtain ⟨r, hr, hr'⟩ := fits1 hm h hin
  have hpow : 2 ^ (m + 1) = 2 ^ m + 2 ^ m := by rw [Nat.pow_succ]; omega
  cases r with
  | false =>
   refine ⟨L1, ?_, a2, by omega, fun c => ?_⟩
   ·simp only [grow1, hfl, ← hi]
    exact Ev.bind a1 (Ev.bind hr (Ev.neg (by decide) (Ev.now _)))
   ·rw [a4]
    constructor
    ·rintro ⟨h5, h6, h7, h8⟩
     exact ⟨h5, h6, fun j hj => h7 j (by omega), h8⟩
    ·rintro ⟨h5, h6, h7, h8, h9⟩
     refine ⟨h5, h6, fun j hj => ?_, h8, h9⟩
     by_cases e : j = i
     ·subst e
      rw [hbi]
      cases e2 : c.getLsbD j with
      | false => rfl
      | true =>
       have : Cz f n a (b ||| tp j) := h8.down (inc_refl a) (inc_or (by omega) (fun q hq => by have := hb q hq; rw [h7 q (by omega)]; exact hq) e2)
       have := hr'.2 this
       cases this
     ·exact h7 j (by omega)
  | true =>
   have hc := hr'.1 rfl
   obtain ⟨L2, b1, b2, b3, b4⟩ := grow1_spec hm m (by omega) a (b ||| tp i) hc (fun j hj => by
    rcases (or_tp (show i < 64 by omega)).1 hj with h1 | rfl
    ·have := hb j h1; omega
    ·omega)
   refine ⟨L1 ++ L2, ?_, ?_, by rw [List.length_append]; omega, fun c => ?_⟩
   ·simp only [grow1, hfl, ← hi, List.map_append]
    refine Ev.bind a1 (Ev.bind hr (Ev.pos rfl (Ev.bind ?_ (Ev.now _))))
    unfold orB
    rw [shl_or (by omega)]
    exact b1
   ·rw [List.nodup_append]
    refine ⟨a2, b2, fun x hx y hy e => ?_⟩
    subst e
    have h1 := ((a4 x).1 hx).2.2.1 i (by omega)
    have h2 := ((b4 x).1 hy).2.2.1 i (by omega)
    rw [h1, hbi] at h2
    have := (or_tp (a := b) (j := i) (show i < 64 by omega)).2 (.inr rfl)
    rw [← h2] at this; cases this
   ·rw [List.mem_append, a4, b4]
    constructor
    ·rintro (⟨h5, h6, h7, h8⟩ | ⟨h5, h6, h7, h8⟩)
     ·exact ⟨h5, h6, fun j hj => h7 j (by omega), h8⟩
     ·exact ⟨h5, h6, fun j hj => (h7 j (by omega)).trans (or_tp_false (by omega)), h8⟩
    ·rintro ⟨h5, h6, h7, h8⟩
     cases e2 : c.getLsbD i with
     | false =>
      refine .inl ⟨h5, h6, fun j hj => ?_, h8⟩
      by_cases e : j = i
      ·subst e; rw [e2, hbi]
      ·exact h7 j (by omega)
     | true =>
      refine .inr ⟨h5, h6, fun j hj => ?_, h8⟩
      by_cases e : j = i
      ·subst e; rw [e2]; exact ((or_tp (show j < 64 by omega)).2 (.inr rfl)).symm
      ·rw [or_tp_false e]; exact h7 j (by omega)
theorem cz_zero {f : List (List Int)} {n : Nat} {a : BitVec 64} {c : BitVec 64} (h : Cz f n a c) : Cz f n a 0#64 := h.down (inc_refl a) (fun i hi => by simp at hi)
theorem grow0_spec {f : List (List Int)} {n : Nat} (hm : Mat f n) : ∀ m, m ≤ n → ∀ a : BitVec 64, Cz f n a 0#64 → Sub (n - m) a →
  ∃ L : List (BitVec 64 × BitVec 64), Ev (fun k => grow0 k f m (U a) 0) (L.map prS) ∧ L.Nodup ∧ L.length ≤ 2 ^ m * 2 ^ n ∧
   ∀ x, x ∈ L ↔ Sub n x.1 ∧ Sub n x.2 ∧ x.1 ≠ 0#64 ∧ x.2 ≠ 0#64 ∧ (∀ i, i < n - m → x.1.getLsbD i = a.getLsbD i) ∧ Cz f n x.1 x.2 ∧ Max f n x.1 x.2
 | 0, _, a, h, hb => by
  have hp : 0 < 2 ^ n := Nat.two_pow_pos n
  by_cases ha : a = 0#64
  ·refine ⟨[], ?_, by simp, by simp, fun x => ?_⟩
   ·simp only [grow0]
    exact Ev.pos (by rw [ha]; rfl) (Ev.now _)
   ·simp only [List.not_mem_nil, false_iff]
    rintro ⟨h1, _, h3, _, h5, _⟩
    exact h3 ((sub_eq h1 hb h5).trans ha)
  ·obtain ⟨L, h1, h2, h3, h4⟩ := grow1_spec hm n (Nat.le_refl _) a 0#64 h (fun i hi => by simp at hi)
   refine ⟨L.map fun c => (a, c), ?_, ?_, by rw [List.length_map]; omega, fun x => ?_⟩
   ·simp only [grow0, hm.len]
    rw [List.map_map]
    exact Ev.neg (fun e => ha (U_eq_zero.1 e)) h1
   ·rw [List.nodup_iff_pairwise_ne, List.pairwise_map]
    exact List.Pairwise.imp (fun hne e => hne (Prod.mk.inj e).2) (List.nodup_iff_pairwise_ne.1 h2)
   ·simp only [List.mem_map]
    constructor
    ·rintro ⟨c, hc, rfl⟩
     obtain ⟨k1, k2, k3, k4, k5⟩ := (h4 c).1 hc
     exact ⟨hb, k1, ha, k2, fun _ _ => rfl, k4, k5⟩
    ·rintro ⟨k1, k2, k3, k4, k5, k6, k7⟩
     have e : x.1 = a := sub_eq k1 hb k5
     refine ⟨x.2, (h4 _).2 ⟨k2, k4, fun i hi => by omega, e ▸ k6, e ▸ k7⟩, by rw [← e]⟩
 | m + 1, hmn, a, h, hb => by
  have hsm := hm.small
  have hfl : f.length = n := hm.len
  obtain ⟨i, hi⟩ : ∃ i, i = n - (m + 1) := ⟨_, rfl⟩
  have hin : i < n := by omega
  have hni : n - m = i + 1 := by omega
  have hbi : a.getLsbD i = false := by
   cases e : a.getLsbD i with
   | false => rfl
   | true => have := hb i e; omega
  obtain ⟨L1, a1, a2, a3, a4⟩ := grow0_spec hm m (by omega) a h (fun j hj => by have := hb j hj; omega)
  obtain ⟨r, hr, hr'⟩ := fits0 hm h hin
  have hpow : 2 ^ (m + 1) * 2 ^ n = 2 ^ m * 2 ^ n + 2 ^ m * 2 ^ n := by rw [Nat.pow_succ, Nat.mul_assoc, Nat.mul_comm 2, ← Nat.mul_assoc]; omega
  have hU : (0 : Int) = U 0#64 := rfl
  cases r with
  | false =>
   refine ⟨L1, ?_, a2, by omega, fun x => ?_⟩
   ·simp only [grow0, hfl, ← hi]
    exact Ev.bind a1 (Ev.bind hr (Ev.neg (by decide) (Ev.now _)))
   ·rw [a4]
    constructor
    ·rintro ⟨h1, h2, h3, h4, h5, h6⟩
     exact ⟨h1, h2, h3, h4, fun j hj => h5 j (by omega), h6⟩
    ·rintro ⟨h1, h2, h3, h4, h5, h6, h7⟩
     refine ⟨h1, h2, h3, h4, fun j hj => ?_, h6, h7⟩
     by_cases e : j = i
     ·subst e
      rw [hbi]
      cases e2 : x.1.getLsbD j with
      | false => rfl
      | true =>
       have : Cz f n (a ||| tp j) 0#64 := (cz_zero h6).down (inc_or (by omega) (fun q hq => by have := hb q hq; rw [h5 q (by omega)]; exact hq) e2) (inc_refl _)
       have := hr'.2 this
       cases this
     ·exact h5 j (by omega)
  | true =>
   have hc := hr'.1 rfl
   obtain ⟨L2, b1, b2, b3, b4⟩ := grow0_spec hm m (by omega) (a ||| tp i) hc (fun j hj => by
    rcases (or_tp (show i < 64 by omega)).1 hj with h1 | rfl
    ·have := hb j h1; omega
    ·omega)
   refine ⟨L1 ++ L2, ?_, ?_, by rw [List.length_append]; omega, fun x => ?_⟩
   ·simp only [grow0, hfl, ← hi, List.map_append]
    refine Ev.bind a1 (Ev.bind hr (Ev.pos rfl (Ev.bind ?_ (Ev.now _))))
    unfold orB
    rw [shl_or (by omega)]
    exact b1
   ·rw [List.nodup_append]
    refine ⟨a2, b2, fun x hx y hy e => ?_⟩
    subst e
    have h1 := ((a4 x).1 hx).2.2.2.2.1 i (by omega)
    have h2 := ((b4 x).1 hy).2.2.2.2.1 i (by omega)
    rw [h1, hbi] at h2
    have := (or_tp (a := a) (j := i) (show i < 64 by omega)).2 (.inr rfl)
    rw [← h2] at this; cases this
   ·rw [List.mem_append, a4, b4]
    constructor
    ·rintro (⟨h1, h2, h3, h4, h5, h6⟩ | ⟨h1, h2, h3, h4, h5, h6⟩)
     ·exact ⟨h1, h2, h3, h4, fun j hj => h5 j (by omega), h6⟩
     ·exact ⟨h1, h2, h3, h4, fun j hj => (h5 j (by omega)).trans (or_tp_false (by omega)), h6⟩
    ·rintro ⟨h1, h2, h3, h4, h5, h6⟩
     cases e2 : x.1.getLsbD i with
     | false =>
      refine .inl ⟨h1, h2, h3, h4, fun j hj => ?_, h6⟩
      by_cases e : j = i
      ·subst e; rw [e2, hbi]
      ·exact h5 j (by omega)
     | true =>
      refine .inr ⟨h1, h2, h3, h4, fun j hj => ?_, h6⟩
      by_cases e : j = i
      ·subst e; rw [e2]; exact ((or_tp (show j < 64 by omega)).2 (.inr rfl)).symm
      ·rw [or_tp_false e]; exact h5 j (by omega)
theorem cz_nil (f : List (List Int)) (n : Nat) : Cz f n 0#64 0#64 := ⟨fun i k _ _ h => by simp at h, fun i k _ _ h => by simp at h, fun i k _ _ h => by simp at h⟩
/-- The program's list of maximal causal pairs. -/
theorem epairs {f : List (List Int)} {n : Nat} (hm : Mat f n) :
  ∃ L : List (BitVec 64 × BitVec 64), Ev (fun k => d_pairs.f k f) (L.map prS) ∧ L.Nodup ∧ L.length ≤ 16777216 ∧
   ∀ x, x ∈ L ↔ Sub n x.1 ∧ Sub n x.2 ∧ x.1 ≠ 0#64 ∧ x.2 ≠ 0#64 ∧ Cz f n x.1 x.2 ∧ Max f n x.1 x.2 := by
 obtain ⟨L, h1, h2, h3, h4⟩ := grow0_spec hm n (Nat.le_refl _) 0#64 (cz_nil f n) (fun i hi => by simp at hi)
 have hl : L.length ≤ 16777216 := by
  refine Nat.le_trans h3 ?_
  have : 2 ^ n ≤ 2 ^ 12 := Nat.pow_le_pow_right (by omega) hm.small
  exact Nat.mul_le_mul this this
 refine ⟨L, ?_, h2, hl, fun x => ?_⟩
 ·unfold d_pairs.f
  rw [hm.len]
  have hsm := hm.small
  exact Ev.pos (by omega) (Ev.bind h1 (Ev.pos (by rw [List.length_map]; omega) (Ev.now _)))
 ·rw [h4]
  exact ⟨fun ⟨k1, k2, k3, k4, _, k6⟩ => ⟨k1, k2, k3, k4, k6⟩, fun ⟨k1, k2, k3, k4, k6⟩ => ⟨k1, k2, k3, k4, fun i hi => by omega, k6⟩⟩
end Go.Proofs.YtejchnmhlcbfcaaDoor.Caus

/- The program's sorted row of maximal causal pairs. -/
namespace Go.Proofs.YtejchnmhlcbfcaaDoor.Caus
open Go.RowKit Go.Proofs.YtejchnmhlcbfcaaDoor.Pr Go.Proofs.YtejchnmhlcbfcaaDoor.Evs Go.Proofs.YtejchnmhlcbfcaaDoor.Bits Go.Proofs.YtejchnmhlcbfcaaDoor.Sets Go.Proofs.YtejchnmhlcbfcaaDoor.Logs Go.Proofs.YtejchnmhlcbfcaaDoor.Feet Go.Proofs.YtejchnmhlcbfcaaDoorW.PrintWords Go.Proofs.YtejchnmhlcbfcaaDoorW.PrintLast Go.Proofs.YtejchnmhlcbfcaaDoorW.PrintMore
set_option linter.unusedVariables false
set_option linter.unusedSimpArgs false

def B2 (q p : S57) : Prop := q.f0 < p.f0 ∨ (q.f0 = p.f0 ∧ q.f1 < p.f1)
theorem B2.irrefl (p : S57) : ¬ B2 p p := by unfold B2; omega
theorem B2.trans {a b c : S57} (h : B2 a b) (k : B2 b c) : B2 a c := by unfold B2 at *; omega
theorem B2.total {a b : S57} (h : ¬ B2 a b) (k : a ≠ b) : B2 b a := by
 unfold B2 at *
 by_cases e : a.f0 = b.f0
 ·by_cases e1 : a.f1 = b.f1
  ·exact absurd (by cases a; cases b; simp_all) k
  ·omega
 ·omega
theorem befB_iff {q : S57} {p : S76} : befB q p = true ↔ B2 q (toP p) := by
 unfold befB B2 toP
 split
 ·simp_all
 ·split
  ·simp_all
  ·simp_all
def insQ : List S57 → S76 → List S57
 | [], p => [toP p]
 | x :: l, p => if befB x p = true then x :: insQ l p else toP p :: x :: l
theorem insP_eq : ∀ (l : List S57) (p : S76), insP l p = insQ l p
 | [], p => rfl
 | x :: l, p => by
  have ih := insP_eq l p
  unfold insQ
  by_cases h : befB x p = true
  ·rw [if_pos h, ← ih]
   unfold insP posP
   rw [List.takeWhile_cons, if_pos h]
   simp
  ·rw [if_neg h]
   unfold insP posP
   rw [List.takeWhile_cons, if_neg h]
   simp
theorem insQ_mem : ∀ (l : List S57) (p : S76) (y : S57), y ∈ insQ l p ↔ y = toP p ∨ y ∈ l
 | [], p, y => by simp [insQ]
 | x :: l, p, y => by
  have ih := insQ_mem l p y
  unfold insQ
  split
  ·simp only [List.mem_cons, ih]
   constructor
   ·rintro (h | h | h)
    ·exact .inr (.inl h)
    ·exact .inl h
    ·exact .inr (.inr h)
   ·rintro (h | h | h)
    ·exact .inr (.inl h)
    ·exact .inl h
    ·exact .inr (.inr h)
  ·simp only [List.mem_cons]
theorem insQ_srt : ∀ (l : List S57) (p : S76), l.Pairwise B2 → toP p ∉ l → (insQ l p).Pairwise B2
 | [], p, _, _ => by simp [insQ]
 | x :: l, p, h, hn => by
  obtain ⟨h1, h2⟩ := List.pairwise_cons.1 h
  have hn2 : toP p ∉ l := fun e => hn (List.mem_cons_of_mem _ e)
  have hne : x ≠ toP p := fun e => hn (by rw [e]; exact List.mem_cons_self ..)
  have ih := insQ_srt l p h2 hn2
  unfold insQ
  split
  ·rename_i hb
   refine List.pairwise_cons.2 ⟨fun y hy => ?_, ih⟩
   rcases (insQ_mem l p y).1 hy with rfl | hy
   ·exact befB_iff.1 hb
   ·exact h1 y hy
  ·rename_i hb
   have h0 : B2 (toP p) x := B2.total (fun e => hb (befB_iff.2 e)) hne
   refine List.pairwise_cons.2 ⟨fun y hy => ?_, h⟩
   rcases List.mem_cons.1 hy with rfl | hy
   ·exact h0
   ·exact h0.trans (h1 y hy)
def tS (x : BitVec 64 × BitVec 64) : S57 := ⟨U x.1, U x.2⟩
theorem tS_inj {x y : BitVec 64 × BitVec 64} (h : tS x = tS y) : x = y := by
 unfold tS at h
 injection h with h1 h2
 exact Prod.ext (U_inj.1 h1) (U_inj.1 h2)
theorem toP_prS (x : BitVec 64 × BitVec 64) : toP (prS x) = tS x := rfl
theorem fold_ins : ∀ (L : List (BitVec 64 × BitVec 64)) (out : List S57), L.Nodup → out.Pairwise B2 → (∀ x ∈ L, tS x ∉ out) →
  ((L.map prS).foldl insP out).Pairwise B2 ∧ ∀ y, y ∈ (L.map prS).foldl insP out ↔ y ∈ out ∨ ∃ x ∈ L, y = tS x
 | [], out, _, h, _ => ⟨h, fun y => by simp⟩
 | x :: L, out, hd, h, hn => by
  obtain ⟨hx, hd2⟩ := List.nodup_cons.1 hd
  rw [List.map_cons, List.foldl_cons, insP_eq]
  obtain ⟨h1, h2⟩ := fold_ins L (insQ out (prS x)) hd2 (insQ_srt out _ h (by rw [toP_prS]; exact hn x (List.mem_cons_self ..))) (fun z hz e => by
   rcases (insQ_mem out (prS x) (tS z)).1 e with e | e
   ·rw [toP_prS] at e
    exact hx (tS_inj e ▸ hz)
   ·exact hn z (List.mem_cons_of_mem _ hz) e)
  refine ⟨h1, fun y => ?_⟩
  rw [h2, insQ_mem, toP_prS]
  constructor
  ·rintro ((rfl | e) | ⟨z, hz, rfl⟩)
   ·exact .inr ⟨x, List.mem_cons_self .., rfl⟩
   ·exact .inl e
   ·exact .inr ⟨z, List.mem_cons_of_mem _ hz, rfl⟩
  ·rintro (e | ⟨z, hz, rfl⟩)
   ·exact .inl (.inr e)
   ·rcases List.mem_cons.1 hz with rfl | hz
    ·exact .inl (.inl rfl)
    ·exact .inr ⟨z, hz, rfl⟩
/-- The members of the answer. -/
def Best (f : List (List Int)) (n : Nat) (x : BitVec 64 × BitVec 64) : Prop := Sub n x.1 ∧ Sub n x.2 ∧ x.1 ≠ 0#64 ∧ x.2 ≠ 0#64 ∧ Cz f n x.1 x.2 ∧ Max f n x.1 x.2
structure Ans (f : List (List Int)) (n : Nat) (R : List S57) : Prop where
 srt : R.Pairwise B2
 mem : ∀ y, y ∈ R ↔ ∃ x, Best f n x ∧ y = tS x
theorem eans {l : List (List ByteArray)} (h : Big l) (he : (footB l).2 = 0) (hm : Mat (footB l).1 (footB l).1.length) :
  ∃ R, Ev (fun k => d_Pairs.f k l) (R, 0) ∧ Ans (footB l).1 (footB l).1.length R := by
 obtain ⟨L, h1, h2, h3, h4⟩ := epairs hm
 obtain ⟨s1, s2⟩ := fold_ins L [] h2 List.Pairwise.nil (by simp)
 refine ⟨(L.map prS).foldl insP [], ?_, s1, fun y => ?_⟩
 ·unfold d_Pairs.f
  exact Ev.bind (efoot h) (Ev.pos he (Ev.bind h1 (Ev.pos (by rw [List.length_map]; omega) (Ev.now _))))
 ·rw [s2]
  constructor
  ·rintro (e | ⟨x, hx, rfl⟩)
   ·cases e
   ·exact ⟨x, (h4 x).1 hx, rfl⟩
  ·rintro ⟨x, hx, rfl⟩
   exact .inr ⟨x, (h4 x).2 hx, rfl⟩
theorem foot_mat {l : List (List ByteArray)} (he : (footB l).2 = 0) : Mat (footB l).1 (footB l).1.length := by
 have key : footB l = (matL l (acts l), 0) ∧ (acts l).length ≤ 12 := by
  unfold footB at he ⊢
  split at he
  ·split at he
   ·simp at he
   ·split at he
    ·simp at he
    ·rename_i h1 h2 h3
     rw [if_pos h1, if_neg h2, if_neg h3]
     exact ⟨rfl, by omega⟩
  ·rename_i h1; exact absurd he h1
 rw [key.1]
 have : (matL l (acts l)).length = (acts l).length := by simp [matL]
 rw [show ((matL l (acts l), (0 : Int)).1).length = (acts l).length from this]
 exact matL_mat l (acts l) key.2
end Go.Proofs.YtejchnmhlcbfcaaDoor.Caus

/- The log of one sequence of different activities: its footprint and its maximal pairs. -/
namespace Go.Proofs.YtejchnmhlcbfcaaDoor.Chain
open Go.RowKit Go.Proofs.YtejchnmhlcbfcaaDoor.Pr Go.Proofs.YtejchnmhlcbfcaaDoor.Evs Go.Proofs.YtejchnmhlcbfcaaDoor.Bits Go.Proofs.YtejchnmhlcbfcaaDoor.Sets Go.Proofs.YtejchnmhlcbfcaaDoor.Logs Go.Proofs.YtejchnmhlcbfcaaDoor.Feet Go.Proofs.YtejchnmhlcbfcaaDoor.Caus Go.Proofs.YtejchnmhlcbfcaaDoor.Names Go.Proofs.YtejchnmhlcbfcaaDoorW.PrintWords Go.Proofs.YtejchnmhlcbfcaaDoorW.PrintLast Go.Proofs.YtejchnmhlcbfcaaDoorW.PrintMore
set_option linter.unusedVariables false
set_option linter.unusedSimpArgs false

/-- t many of one trace. -/
def logR (tr : List ByteArray) (t : Nat) : List (List ByteArray) := List.replicate t tr
structure Ch (tr : List ByteArray) (t : Nat) : Prop where
 nd : tr.Nodup
 lo : 1 ≤ tr.length
 hi : tr.length ≤ 10
 t0 : 1 ≤ t
 t1 : t ≤ 10
section
variable {tr : List ByteArray} {t : Nat}
theorem log_mem (h : Ch tr t) {x : List ByteArray} : x ∈ logR tr t ↔ x = tr := by
 unfold logR
 rw [List.mem_replicate]
 have := h.t0
 exact ⟨fun e => e.2, fun e => ⟨by omega, e⟩⟩
theorem acts_tr (h : Ch tr t) {y : ByteArray} : y ∈ acts (logR tr t) ↔ y ∈ tr := by
 rw [acts_mem]
 exact ⟨fun ⟨x, hx, hy⟩ => (log_mem h).1 hx ▸ hy, fun hy => ⟨tr, (log_mem h).2 rfl, hy⟩⟩
theorem acts_nd (tr : List ByteArray) (t : Nat) : (acts (logR tr t)).Nodup := srt_nodup (acts_srt _)
theorem acts_len' (h : Ch tr t) : (acts (logR tr t)).length = tr.length :=
 ((List.perm_ext_iff_of_nodup (acts_nd tr t) h.nd).2 fun _ => acts_tr h).length_eq
/-- The number of the trace's activity i. -/
def tau (tr : List ByteArray) (t i : Nat) : Nat := (acts (logR tr t)).findIdx (fun x => decide (x = tr.getD i ByteArray.empty))
theorem getD_tr {i : Nat} (hi : i < tr.length) : tr.getD i ByteArray.empty = tr[i] := by simp [hi]
theorem tau_lt (h : Ch tr t) {i : Nat} (hi : i < tr.length) : tau tr t i < (acts (logR tr t)).length := by
 refine List.findIdx_lt_length_of_exists ⟨tr[i], (acts_tr h).2 (List.getElem_mem hi), ?_⟩
 rw [getD_tr hi]; exact decide_eq_true rfl
theorem tau_get (h : Ch tr t) {i : Nat} (hi : i < tr.length) : (acts (logR tr t))[tau tr t i]'(tau_lt h hi) = tr[i] := by
 have := List.findIdx_getElem (xs := acts (logR tr t)) (p := fun x => decide (x = tr.getD i ByteArray.empty)) (w := tau_lt h hi)
 rw [← getD_tr hi]
 exact of_decide_eq_true this
theorem tau_inj (h : Ch tr t) {i j : Nat} (hi : i < tr.length) (hj : j < tr.length) (e : tau tr t i = tau tr t j) : i = j := by
 have h1 := tau_get h hi
 have h2 := tau_get h hj
 have : tr[i] = tr[j] := by rw [← h1, ← h2]; simp [e]
 exact (List.getElem_inj h.nd).1 this
theorem tau_onto (h : Ch tr t) {a : Nat} (ha : a < (acts (logR tr t)).length) : ∃ i, i < tr.length ∧ tau tr t i = a := by
 have hm := (acts_tr h).1 (List.getElem_mem ha)
 obtain ⟨i, hi, e⟩ := List.getElem_of_mem hm
 refine ⟨i, hi, ?_⟩
 have h1 := tau_get h hi
 rw [e] at h1
 exact (List.getElem_inj (acts_nd tr t)).1 h1

/-! ### the footprint -/
theorem fol_pos (t : List ByteArray) (a b : ByteArray) : ∀ j, 0 < fol t a b j ↔ ∃ q, 1 ≤ q ∧ q < j ∧ t[q - 1]? = some a ∧ t[q]? = some b
 | 0 => by simp [fol]
 | j + 1 => by
  have ih := fol_pos t a b j
  rw [fol]
  by_cases c : 1 ≤ j ∧ t[j - 1]? = some a ∧ t[j]? = some b
  ·rw [if_pos c]
   exact ⟨fun _ => ⟨j, c.1, by omega, c.2⟩, fun _ => by omega⟩
  ·rw [if_neg c, Nat.add_zero, ih]
   constructor
   ·rintro ⟨q, h1, h2, h3⟩
    exact ⟨q, h1, by omega, h3⟩
   ·rintro ⟨q, h1, h2, h3⟩
    by_cases e : q = j
    ·subst e; exact absurd ⟨h1, h3⟩ c
    ·exact ⟨q, h1, by omega, h3⟩
theorem folR_pos (l : List (List ByteArray)) (a b : ByteArray) : ∀ n, n ≤ l.length → (0 < folL l a b n ↔ ∃ t ∈ l.take n, 0 < fol t a b t.length)
 | 0, _ => by simp [folL]
 | n + 1, h => by
  have hlt : n < l.length := by omega
  have ih := folR_pos l a b n (by omega)
  have hg : l.getD n [] = l[n] := by rw [List.getD_eq_getElem?_getD, List.getElem?_eq_getElem hlt]; rfl
  rw [folL, hg, List.take_succ_eq_append_getElem hlt]
  simp only [List.mem_append, List.mem_singleton]
  constructor
  ·intro e
   by_cases e1 : 0 < folL l a b n
   ·obtain ⟨t, h1, h2⟩ := ih.1 e1
    exact ⟨t, .inl h1, h2⟩
   ·exact ⟨l[n], .inr rfl, by omega⟩
  ·rintro ⟨t, h1 | rfl, h2⟩
   ·have := ih.2 ⟨t, h1, h2⟩; omega
   ·omega
theorem fol_tau (h : Ch tr t) {i j : Nat} (hi : i < tr.length) (hj : j < tr.length) : 0 < folL (logR tr t) tr[i] tr[j] (logR tr t).length ↔ j = i + 1 := by
 rw [folR_pos _ _ _ _ (Nat.le_refl _), List.take_length]
 constructor
 ·rintro ⟨x, hx, hp⟩
  obtain rfl := (log_mem h).1 hx
  obtain ⟨q, h1, h2, h3, h4⟩ := (fol_pos _ _ _ _).1 hp
  rw [List.getElem?_eq_getElem (by omega), Option.some.injEq] at h3 h4
  have e1 := (List.getElem_inj h.nd).1 h3
  have e2 := (List.getElem_inj h.nd).1 h4
  omega
 ·rintro rfl
  refine ⟨tr, (log_mem h).2 rfl, (fol_pos _ _ _ _).2 ⟨i + 1, by omega, hj, ?_, ?_⟩⟩
  ·rw [Nat.add_sub_cancel, List.getElem?_eq_getElem hi]
  ·rw [List.getElem?_eq_getElem hj]
theorem rel_1 (h : Ch tr t) {i j : Nat} (hi : i < tr.length) (hj : j < tr.length) : relL (logR tr t) tr[i] tr[j] = 1 ↔ j = i + 1 := by
 have h1 := fol_tau h hi hj
 have h2 := fol_tau h hj hi
 unfold relL relOf
 by_cases c1 : 0 < folL (logR tr t) tr[i] tr[j] (logR tr t).length <;> by_cases c2 : 0 < folL (logR tr t) tr[j] tr[i] (logR tr t).length
 ·have := h1.1 c1; have := h2.1 c2; omega
 ·rw [if_pos (by omega), if_neg (by omega)]; exact ⟨fun _ => h1.1 c1, fun _ => rfl⟩
 ·rw [if_neg (by omega), if_pos (by omega)]; exact ⟨fun e => absurd e (by decide), fun e => absurd (h1.2 e) c1⟩
 ·rw [if_neg (by omega), if_neg (by omega)]; exact ⟨fun e => absurd e (by decide), fun e => absurd (h1.2 e) c1⟩
theorem rel_0 (h : Ch tr t) {i j : Nat} (hi : i < tr.length) (hj : j < tr.length) : relL (logR tr t) tr[i] tr[j] = 0 ↔ j ≠ i + 1 ∧ i ≠ j + 1 := by
 have h1 := fol_tau h hi hj
 have h2 := fol_tau h hj hi
 unfold relL relOf
 by_cases c1 : 0 < folL (logR tr t) tr[i] tr[j] (logR tr t).length <;> by_cases c2 : 0 < folL (logR tr t) tr[j] tr[i] (logR tr t).length
 ·have := h1.1 c1; have := h2.1 c2; omega
 ·rw [if_pos (by omega), if_neg (by omega)]; exact ⟨fun e => absurd e (by decide), fun e => absurd (h1.1 c1) e.1⟩
 ·rw [if_neg (by omega), if_pos (by omega)]; exact ⟨fun e => absurd e (by decide), fun e => absurd (h2.1 c2) e.2⟩
 ·rw [if_neg (by omega), if_neg (by omega)]; exact ⟨fun _ => ⟨fun e => c1 (h1.2 e), fun e => c2 (h2.2 e)⟩, fun _ => rfl⟩
abbrev mt (tr : List ByteArray) (t : Nat) : List (List Int) := matL (logR tr t) (acts (logR tr t))
theorem M_tau (h : Ch tr t) {i j : Nat} (hi : i < tr.length) (hj : j < tr.length) : M (mt tr t) (tau tr t i) (tau tr t j) = relL (logR tr t) tr[i] tr[j] := by
 rw [M_matL _ _ (tau_lt h hi) (tau_lt h hj), tau_get h hi, tau_get h hj]

/-! ### the maximal pairs -/
def pr (tr : List ByteArray) (t i : Nat) : BitVec 64 × BitVec 64 := (tp (tau tr t i), tp (tau tr t (i + 1)))
theorem tp_iff {a j : Nat} (ha : a < 64) : (tp a).getLsbD j = true ↔ j = a := by
 rw [tp_bit]
 simp [ha]
 exact ⟨fun e => e.symm, fun e => e.symm⟩
theorem exists_bit {a : BitVec 64} (h : a ≠ 0#64) : ∃ j, a.getLsbD j = true := by
 apply Classical.byContradiction
 intro hn
 exact h (ext_bit fun i _ => by
  cases e : a.getLsbD i with
  | true => exact absurd ⟨i, e⟩ hn
  | false => simp)
theorem best_iff (h : Ch tr t) (x : BitVec 64 × BitVec 64) : Best (mt tr t) (acts (logR tr t)).length x ↔ ∃ i, i + 1 < tr.length ∧ x = pr tr t i := by
 have hlen := acts_len' h
 have hhi := h.hi
 have ht64 : ∀ {i : Nat}, i < tr.length → tau tr t i < 64 := fun hi => by have := tau_lt h hi; omega
 constructor
 ·rintro ⟨s1, s2, n1, n2, cz, mx⟩
  obtain ⟨a, ha⟩ := exists_bit n1
  obtain ⟨b, hb⟩ := exists_bit n2
  obtain ⟨i, hi, rfl⟩ := tau_onto h (s1 a ha)
  obtain ⟨j, hj, rfl⟩ := tau_onto h (s2 b hb)
  have hM := cz.ab _ _ (s1 _ ha) (s2 _ hb) ha hb
  rw [M_tau h hi hj] at hM
  have hji := (rel_1 h hi hj).1 hM
  subst hji
  refine ⟨i, hj, ?_⟩
  have e1 : x.1 = tp (tau tr t i) := by
   apply ext_bit
   intro k _
   rw [Bool.eq_iff_iff, tp_iff (ht64 hi)]
   constructor
   ·intro hk
    obtain ⟨i', hi', rfl⟩ := tau_onto h (s1 k hk)
    have := cz.ab _ _ (s1 _ hk) (s2 _ hb) hk hb
    rw [M_tau h hi' hj] at this
    have := (rel_1 h hi' hj).1 this
    rw [show i' = i by omega]
   ·rintro rfl; exact ha
  have e2 : x.2 = tp (tau tr t (i + 1)) := by
   apply ext_bit
   intro k _
   rw [Bool.eq_iff_iff, tp_iff (ht64 hj)]
   constructor
   ·intro hk
    obtain ⟨j', hj', rfl⟩ := tau_onto h (s2 k hk)
    have := cz.ab _ _ (s1 _ ha) (s2 _ hk) ha hk
    rw [M_tau h hi hj'] at this
    have := (rel_1 h hi hj').1 this
    rw [show j' = i + 1 by omega]
   ·rintro rfl; exact hb
  exact Prod.ext e1 e2
 ·rintro ⟨i, hj, rfl⟩
  have hi : i < tr.length := by omega
  have b1 : ∀ {k : Nat}, (pr tr t i).1.getLsbD k = true ↔ k = tau tr t i := fun {k} => tp_iff (ht64 hi)
  have b2 : ∀ {k : Nat}, (pr tr t i).2.getLsbD k = true ↔ k = tau tr t (i + 1) := fun {k} => tp_iff (ht64 hj)
  have hM : M (mt tr t) (tau tr t i) (tau tr t (i + 1)) = 1 := by rw [M_tau h hi hj]; exact (rel_1 h hi hj).2 rfl
  have h0 : ∀ {k : Nat}, k < tr.length → M (mt tr t) (tau tr t k) (tau tr t k) = 0 := fun {k} hk => by rw [M_tau h hk hk]; exact (rel_0 h hk hk).2 ⟨by omega, by omega⟩
  refine ⟨fun k hk => ?_, fun k hk => ?_, fun e => ?_, fun e => ?_, ⟨fun p q _ _ hp hq => ?_, fun p q _ _ hp hq => ?_, fun p q _ _ hp hq => ?_⟩, ⟨fun k hk hf hc => ?_, fun k hk hf hc => ?_⟩⟩
  ·rw [b1.1 hk]; exact tau_lt h hi
  ·rw [b2.1 hk]; exact tau_lt h hj
  ·have := b1.2 rfl; rw [e] at this; simp at this
  ·have := b2.2 rfl; rw [e] at this; simp at this
  ·rw [b1.1 hp, b2.1 hq]; exact hM
  ·rw [b1.1 hp, b1.1 hq]; exact h0 hi
  ·rw [b2.1 hp, b2.1 hq]; exact h0 hj
  ·have := hc.ab k (tau tr t (i + 1)) hk (tau_lt h hj) ((or_tp (by omega)).2 (.inr rfl)) (b2.2 rfl)
   obtain ⟨k', hk', rfl⟩ := tau_onto h hk
   rw [M_tau h hk' hj] at this
   have e := (rel_1 h hk' hj).1 this
   rw [show k' = i by omega] at hf
   rw [b1.2 rfl] at hf; cases hf
  ·have := hc.ab (tau tr t i) k (tau_lt h hi) hk (b1.2 rfl) ((or_tp (by omega)).2 (.inr rfl))
   obtain ⟨k', hk', rfl⟩ := tau_onto h hk
   rw [M_tau h hi hk'] at this
   have e := (rel_1 h hi hk').1 this
   rw [e] at hf
   rw [b2.2 rfl] at hf; cases hf
theorem pr_inj (h : Ch tr t) {i j : Nat} (hi : i + 1 < tr.length) (hj : j + 1 < tr.length) (e : pr tr t i = pr tr t j) : i = j := by
 have hlen := acts_len' h
 have hhi := h.hi
 have h1 := tau_lt h (show i < tr.length by omega)
 have h2 := tau_lt h (show j < tr.length by omega)
 have e1 : tp (tau tr t i) = tp (tau tr t j) := (Prod.mk.inj e).1
 have := (tp_iff (a := tau tr t j) (by omega)).1 (by rw [← e1]; exact (tp_iff (by omega)).2 rfl)
 exact tau_inj h (by omega) (by omega) this
/-- The program's pairs of the chain. -/
structure Qs (tr : List ByteArray) (t : Nat) (Q : List (BitVec 64 × BitVec 64)) : Prop where
 nd : Q.Nodup
 mem : ∀ x, x ∈ Q ↔ ∃ i, i + 1 < tr.length ∧ x = pr tr t i
theorem qs_of (h : Ch tr t) {Q : List (BitVec 64 × BitVec 64)} (a : Ans (mt tr t) (acts (logR tr t)).length (Q.map tS)) : Qs tr t Q := by
 constructor
 ·have := a.srt
  rw [List.pairwise_map] at this
  exact List.nodup_iff_pairwise_ne.2 (this.imp fun {x y} hb e => by rw [e] at hb; exact B2.irrefl _ hb)
 ·intro x
  rw [← best_iff h]
  have := a.mem (tS x)
  constructor
  ·intro hx
   obtain ⟨y, hy, e⟩ := this.1 (List.mem_map.2 ⟨x, hx, rfl⟩)
   exact tS_inj e ▸ hy
  ·intro hx
   obtain ⟨y, hy, e⟩ := List.mem_map.1 (this.2 ⟨x, hx, rfl⟩)
   exact tS_inj e ▸ hy
theorem qs_len (h : Ch tr t) {Q : List (BitVec 64 × BitVec 64)} (q : Qs tr t Q) : Q.length + 1 = tr.length := by
 have hlo := h.lo
 have hp : ((List.range (tr.length - 1)).map (pr tr t)).Nodup := by
  rw [List.nodup_iff_pairwise_ne, List.pairwise_map]
  have hr : (List.range (tr.length - 1)).Pairwise (fun a b => a < b ∧ a ∈ List.range (tr.length - 1) ∧ b ∈ List.range (tr.length - 1)) := by
   rw [List.pairwise_iff_getElem]
   intro i j hi hj hij
   refine ⟨?_, List.getElem_mem hi, List.getElem_mem hj⟩
   simpa using hij
  refine hr.imp fun {a b} hab e => ?_
  have h1 := List.mem_range.1 hab.2.1
  have h2 := List.mem_range.1 hab.2.2
  have := pr_inj h (by omega) (by omega) e
  omega
 have := ((List.perm_ext_iff_of_nodup q.nd hp).2 fun x => by
  rw [q.mem, List.mem_map]
  constructor
  ·rintro ⟨i, hi, rfl⟩; exact ⟨i, List.mem_range.2 (by omega), rfl⟩
  ·rintro ⟨i, hi, rfl⟩; have := List.mem_range.1 hi; exact ⟨i, by omega, rfl⟩).length_eq
 simp at this
 omega
end
end Go.Proofs.YtejchnmhlcbfcaaDoor.Chain

/- What the references' Name answers: the same of bytes as Names.nameB. -/
namespace Go.Proofs.YtejchnmhlcbfcaaDoor.RName
open Go.RowKit Go.Proofs.YtejchnmhlcbfcaaDoor.Pr Go.Proofs.YtejchnmhlcbfcaaDoor.Evs Go.Proofs.YtejchnmhlcbfcaaDoor.Names Go.Proofs.YtejchnmhlcbfcaaDoorW.PrintWords Go.Proofs.YtejchnmhlcbfcaaDoorW.PrintLast Go.Proofs.YtejchnmhlcbfcaaDoorW.PrintMore
set_option linter.unusedVariables false
set_option linter.unusedSimpArgs false

theorem bt_byte {s : ByteArray} {i : Nat} (h : i < s.size) : bt s (i : Int) = (byteAt s i : Int) := by
 rw [byteAt_get s i h]
 simp [bt, h]
set_option maxHeartbeats 2000000 in
theorem name_l0 (s : ByteArray) (h1 : 1 ≤ s.size) (h16 : s.size ≤ 16) : ∀ (d i : Nat), i ≤ s.size → s.size - i = d → (∀ j, j < i → okB j (byteAt s j) = true) → Ev (fun k => r09_Name.l0 k s (i : Int)) (nameB s) := by
 intro d
 induction d with
 | zero =>
  intro i hi hd hok
  obtain rfl : i = s.size := by omega
  refine Ev.succ ?_
  simp only [r09_Name.l0]
  exact Ev.neg (by omega) (Ev.val (nameB_true h1 h16 hok).symm)
 | succ d ih =>
  intro i hi hd hok
  have hlt : i < s.size := by omega
  have hb := bt_byte hlt
  obtain ⟨c, hc⟩ : ∃ c, byteAt s i = c := ⟨_, rfl⟩
  rw [hc] at hb
  have hgo : okB i c = true → Ev (fun k => r09_Name.l0 k s (wrap64 ((i : Int) + 1))) (nameB s) := by
   intro hk
   rw [wrap_succ (by omega)]
   refine ih (i + 1) (by omega) (by omega) (fun j hj => ?_)
   by_cases hji : j = i
   ·subst hji; rw [hc]; exact hk
   ·exact hok j (by omega)
  have hstop : okB i c = false → Ev (fun _ : Nat => some false) (nameB s) := fun hk => Ev.val (nameB_false hlt (by rw [hc]; exact hk)).symm
  refine Ev.succ ?_
  simp only [r09_Name.l0, hb]
  refine Ev.pos (by omega) (Ev.pos (by omega) ?_)
  repeat' (refine Ev.ite (fun _ => ?_) (fun _ => ?_))
  all_goals first
   | exact hgo (okB_of (by omega))
   | exact hstop (okB_not (by omega))
   | (exfalso; omega)
theorem rname (s : ByteArray) : Ev (fun k => r09_Name.f k s) (nameB s) := by
 unfold r09_Name.f
 have hj : ∀ b : Bool, (b = true → nameB s = false) → (b = false → 1 ≤ s.size ∧ s.size ≤ 16) → Ev (fun k => r09_Name.j0 k s b) (nameB s) := by
  intro b ht hf
  refine Ev.succ ?_
  simp only [r09_Name.j0]
  refine Ev.ite (fun h => Ev.val (ht h).symm) (fun h => ?_)
  obtain ⟨h1, h2⟩ := hf (by simpa using h)
  exact name_l0 s h1 h2 _ 0 (by omega) rfl (fun j hj => by omega)
 refine Ev.ite (fun h => hj true (fun _ => ?_) (fun h => by cases h)) (fun h => hj _ (fun h2 => ?_) (fun h2 => ?_))
 ·unfold nameB; rw [decide_eq_false (show ¬ 1 ≤ s.size by omega)]; rfl
 ·have h3 := of_decide_eq_true h2
  unfold nameB; rw [decide_eq_false (show ¬ s.size ≤ 16 by omega)]; simp
 ·have h3 := of_decide_eq_false h2
  omega
end Go.Proofs.YtejchnmhlcbfcaaDoor.RName

/- The reference's look at a net, told of its places and transitions. -/
namespace Go.Proofs.YtejchnmhlcbfcaaDoor.Nets
open Go.RowKit Go.Proofs.YtejchnmhlcbfcaaDoor.Pr Go.Proofs.YtejchnmhlcbfcaaDoor.Evs Go.Proofs.YtejchnmhlcbfcaaDoor.Names Go.Proofs.YtejchnmhlcbfcaaDoor.RName Go.Proofs.YtejchnmhlcbfcaaDoor.Bits Go.Proofs.YtejchnmhlcbfcaaDoorW.PrintWords Go.Proofs.YtejchnmhlcbfcaaDoorW.PrintLast Go.Proofs.YtejchnmhlcbfcaaDoorW.PrintMore
set_option linter.unusedVariables false
set_option linter.unusedSimpArgs false

abbrev Pl := S59
abbrev Ar := S62
abbrev Tr := S41
theorem rdP {l : List Pl} {i : Nat} : rd_T59 l (i : Int) = l.getD i z59 := by simp [rd_T59]
theorem rdA {l : List Ar} {i : Nat} : rd_T62 l (i : Int) = l.getD i z62 := by simp [rd_T62]
theorem rdT {l : List Tr} {i : Nat} : rd_T41 l (i : Int) = l.getD i z41 := by simp [rd_T41]
def plE (p : Pl) : Int := if p.f2 < 0 ∨ 1048576 < p.f2 then 1 else if p.f1 < 0 ∨ 1048576 < p.f1 then 10 else if p.f2 = 0 then 0 else if p.f2 < p.f1 then 10 else 0
def arcE (np : Int) (l : List Ar) (i : Nat) : Int := if (l.getD i z62).f0 < 0 ∨ np ≤ (l.getD i z62).f0 then 7 else if 0 < i ∧ (l.getD i z62).f0 ≤ (l.getD (i - 1) z62).f0 then 8 else if (l.getD i z62).f1 < 1 ∨ 99 < (l.getD i z62).f1 then 9 else 0
def arcsE (np : Int) (l : List Ar) : Nat → Nat → Int
 | 0, _ => 0
 | d + 1, i => if arcE np l i = 0 then arcsE np l d (i + 1) else arcE np l i
theorem arcsE_go {np : Int} {l : List Ar} {d i : Nat} (h : arcE np l i = 0) : arcsE np l (d + 1) i = arcsE np l d (i + 1) := by rw [arcsE, if_pos h]
theorem arcsE_no {np : Int} {l : List Ar} {d i : Nat} {e : Int} (h : arcE np l i = e) (he : ¬ e = 0) : arcsE np l (d + 1) i = e := by rw [arcsE, h, if_neg he]
theorem arcE_7 {np : Int} {l : List Ar} {i : Nat} (h : (l.getD i z62).f0 < 0 ∨ np ≤ (l.getD i z62).f0) : arcE np l i = 7 := by rw [arcE, if_pos h]
theorem arcE_8 {np : Int} {l : List Ar} {i : Nat} (h : ¬ ((l.getD i z62).f0 < 0 ∨ np ≤ (l.getD i z62).f0)) (h2 : 0 < i ∧ (l.getD i z62).f0 ≤ (l.getD (i - 1) z62).f0) : arcE np l i = 8 := by rw [arcE, if_neg h, if_pos h2]
theorem arcE_9 {np : Int} {l : List Ar} {i : Nat} (h : ¬ ((l.getD i z62).f0 < 0 ∨ np ≤ (l.getD i z62).f0)) (h2 : ¬ (0 < i ∧ (l.getD i z62).f0 ≤ (l.getD (i - 1) z62).f0)) (h3 : (l.getD i z62).f1 < 1 ∨ 99 < (l.getD i z62).f1) : arcE np l i = 9 := by rw [arcE, if_neg h, if_neg h2, if_pos h3]
theorem arcE_0 {np : Int} {l : List Ar} {i : Nat} (h : ¬ ((l.getD i z62).f0 < 0 ∨ np ≤ (l.getD i z62).f0)) (h2 : ¬ (0 < i ∧ (l.getD i z62).f0 ≤ (l.getD (i - 1) z62).f0)) (h3 : ¬ ((l.getD i z62).f1 < 1 ∨ 99 < (l.getD i z62).f1)) : arcE np l i = 0 := by rw [arcE, if_neg h, if_neg h2, if_neg h3]
def arcsV (np : Int) (l : List Ar) : Int := arcsE np l l.length 0
def trE (np : Int) (t : Tr) : Int := if t.f4 < 0 ∨ 9 < t.f4 then 1 else if arcsV np t.f1 = 0 then (if arcsV np t.f2 = 0 then arcsV np t.f3 else arcsV np t.f2) else arcsV np t.f1
def nmE (names : List ByteArray) (s : ByteArray) : Int := if nameB s then (if (names.any fun y => y.toList == s.toList) then 6 else 0) else 5
theorem nmE_names {names : List ByteArray} {s : ByteArray} : nmE names s = if nameB s then (if (names.any fun y => y.toList == s.toList) then 6 else 0) else 5 := rfl
def chkPV : List Pl → Nat → List ByteArray → (Int × Int) ⊕ List ByteArray
 | [], _, names => .inr names
 | p :: ps, i, names => if nmE names p.f0 = 0 then (if plE p = 0 then chkPV ps (i + 1) (names ++ [p.f0]) else .inl (plE p, (i : Int))) else .inl (nmE names p.f0, (i : Int))
def chkTV (np : Nat) : List Tr → Nat → List ByteArray → Int × Int
 | [], _, names => (0, 0)
 | t :: ts, i, names => if nmE names t.f0 = 0 then (if trE np t = 0 then chkTV np ts (i + 1) (names ++ [t.f0]) else (trE np t, ((np + i : Nat) : Int))) else (nmE names t.f0, ((np + i : Nat) : Int))
def checkV (a : ByteArray) (l1 : List Pl) (l2 : List Tr) : Int × Int :=
 if nameB a then (if l1.length < 1 ∨ 24 < l1.length ∨ 24 < l2.length then (2, 0) else match chkPV l1 0 [] with | .inl e => e | .inr names => chkTV l1.length l2 0 names) else (5, 0)
def Short (l2 : List Tr) : Prop := ∀ t ∈ l2, t.f1.length ≤ 26 ∧ t.f2.length ≤ 26 ∧ t.f3.length ≤ 26

theorem rArcs_l0 (a : ByteArray) (l1 : List Pl) (l2 : List Tr) (l : List Ar) (hl : l.length ≤ 1000) : ∀ (d i : Nat), i ≤ l.length → l.length - i = d → Ev (fun k => r09_arcs.l0 k l (i : Int) a l1 l2) (arcsE l1.length l d i) := by
 intro d
 induction d with
 | zero =>
  intro i hi hd
  refine Ev.succ ?_
  simp only [r09_arcs.l0]
  exact Ev.neg (by omega) (Ev.now _)
 | succ d ih =>
  intro i hi hd
  have hih := ih (i + 1) (by omega) (by omega)
  refine Ev.succ ?_
  simp only [r09_arcs.l0, rdA]
  have hj2 : ∀ b : Bool, ¬ ((l.getD i z62).f0 < 0 ∨ (l1.length : Int) ≤ (l.getD i z62).f0) → b = decide (0 < i ∧ (l.getD i z62).f0 ≤ (l.getD (i - 1) z62).f0) → Ev (fun k => r09_arcs.j2 k l (i : Int) b a l1 l2) (arcsE l1.length l (d + 1) i) := by
   intro b h7 hb
   refine Ev.succ ?_
   simp only [r09_arcs.j2, rdA]
   refine Ev.ite (fun h => ?_) (fun h => ?_)
   ·rw [hb] at h
    exact Ev.val (arcsE_no (arcE_8 h7 (of_decide_eq_true h)) (by decide)).symm
   ·have h8 : ¬ (0 < i ∧ (l.getD i z62).f0 ≤ (l.getD (i - 1) z62).f0) := by rw [hb] at h; intro hh; exact h (decide_eq_true hh)
    refine Ev.pos (by omega) (Ev.pos (by omega) (Ev.ite (fun h2 => Ev.val (arcsE_no (arcE_9 h7 h8 (.inl h2)) (by decide)).symm) (fun h2 => Ev.ite (fun h3 => Ev.val (arcsE_no (arcE_9 h7 h8 (.inr h3)) (by decide)).symm) (fun h3 => ?_))))
    rw [arcsE_go (arcE_0 h7 h8 (by omega)), wrap_succ (by omega)]
    exact hih
  have hj1 : ∀ b : Bool, b = decide ((l.getD i z62).f0 < 0 ∨ (l1.length : Int) ≤ (l.getD i z62).f0) → Ev (fun k => r09_arcs.j1 k l (i : Int) b a l1 l2) (arcsE l1.length l (d + 1) i) := by
   intro b hb
   refine Ev.succ ?_
   simp only [r09_arcs.j1]
   refine Ev.ite (fun h => ?_) (fun h => ?_)
   ·rw [hb] at h
    exact Ev.val (arcsE_no (arcE_7 (of_decide_eq_true h)) (by decide)).symm
   ·rw [hb] at h
    have h7 : ¬ ((l.getD i z62).f0 < 0 ∨ (l1.length : Int) ≤ (l.getD i z62).f0) := fun hh => h (decide_eq_true hh)
    refine Ev.ite (fun h2 => ?_) (fun h2 => hj2 _ h7 ?_)
    ·rw [wrap_pred (by omega) (by omega)]
     refine Ev.pos (by omega) (Ev.pos (by omega) (Ev.pos (by omega) (Ev.pos (by omega) ?_)))
     rw [rdA, rdA]
     exact hj2 _ h7 (decide_eq_decide.2 (by omega))
    ·exact (decide_eq_false (by omega)).symm
  refine Ev.pos (by omega) (Ev.pos (by omega) ?_)
  refine Ev.ite (fun h => hj1 _ ?_) (fun h => hj1 _ ?_)
  ·exact (decide_eq_true (.inl h)).symm
  ·exact decide_eq_decide.2 (by omega)
theorem rArcs (a : ByteArray) (l1 : List Pl) (l2 : List Tr) (l : List Ar) (hl : l.length ≤ 1000) : Ev (fun k => r09_arcs.f k a l1 l2 l) (arcsV l1.length l) := rArcs_l0 a l1 l2 l hl _ 0 (by omega) rfl
theorem namesP (l1 : List Pl) (i : Nat) (s : ByteArray) : (((l1.take i).map fun p => p.f0).any fun y => y.toList == s.toList) = ((l1.take i).any fun y => y.f0.toList == s.toList) := by
 rw [List.any_map]
 rfl
theorem rPlace (a : ByteArray) (l1 : List Pl) (l2 : List Tr) (i : Nat) (hi : i < l1.length) (hl : l1.length ≤ 1000) : Ev (fun k => r09_place.f k a l1 l2 (i : Int)) (if nmE ((l1.take i).map fun p => p.f0) (l1.getD i z59).f0 = 0 then plE (l1.getD i z59) else nmE ((l1.take i).map fun p => p.f0) (l1.getD i z59).f0) := by
 unfold r09_place.f placeF
 rw [nmE_names, namesP]
 refine Ev.pos ⟨by omega, by omega, hl⟩ ?_
 rw [rdP, Int.toNat_natCast]
 refine Ev.bind (rname _) (Ev.ite (fun h => ?_) (fun h => Ev.val (by rw [if_neg h]; rfl)))
 rw [if_pos h]
 refine Ev.ite (fun hm => Ev.val (by rw [if_pos hm]; rfl)) (fun hm => Ev.val (by rw [if_neg hm, if_pos rfl]; rfl))
theorem namesT (l1 : List Pl) (l2 : List Tr) (i : Nat) (s : ByteArray) : (((l1.map fun p => p.f0) ++ ((l2.take i).map fun t => t.f0)).any fun y => y.toList == s.toList) = ((l1.any fun y => y.f0.toList == s.toList) || ((l2.take i).any fun y => y.f0.toList == s.toList)) := by
 rw [List.any_append, List.any_map, List.any_map]
 rfl
theorem rTrans (a : ByteArray) (l1 : List Pl) (l2 : List Tr) (hs : Short l2) (i : Nat) (hi : i < l2.length) (hl : l2.length ≤ 1000) (hl1 : l1.length ≤ 1000) : Ev (fun k => r09_trans.f k a l1 l2 (i : Int)) (if nmE ((l1.map fun p => p.f0) ++ ((l2.take i).map fun t => t.f0)) (l2.getD i z41).f0 = 0 then trE l1.length (l2.getD i z41) else nmE ((l1.map fun p => p.f0) ++ ((l2.take i).map fun t => t.f0)) (l2.getD i z41).f0) := by
 have hb : (l2.getD i z41).f1.length ≤ 26 ∧ (l2.getD i z41).f2.length ≤ 26 ∧ (l2.getD i z41).f3.length ≤ 26 := by
  rw [show l2.getD i z41 = l2[i] by simp [hi]]
  exact hs _ (List.getElem_mem hi)
 unfold r09_trans.f transF
 rw [nmE_names, namesT]
 refine Ev.pos ⟨by omega, by omega, hl1, hl⟩ ?_
 rw [rdT, Int.toNat_natCast]
 refine Ev.bind (rname _) (Ev.ite (fun h => ?_) (fun h => Ev.val (by rw [if_neg h]; rfl)))
 rw [if_pos h]
 refine Ev.ite (fun hm => Ev.val (by rw [if_pos hm]; rfl)) (fun hm => ?_)
 rw [if_neg hm, if_pos rfl]
 unfold trE
 refine Ev.ite (fun h4 => Ev.val (by rw [if_pos h4])) (fun h4 => ?_)
 rw [if_neg h4]
 refine Ev.bind (rArcs a l1 l2 _ (by omega)) (Ev.ite (fun e1 => ?_) (fun e1 => Ev.val (by rw [if_neg e1])))
 rw [if_pos e1]
 refine Ev.bind (rArcs a l1 l2 _ (by omega)) (Ev.ite (fun e2 => ?_) (fun e2 => Ev.val (by rw [if_neg e2])))
 rw [if_pos e2]
 exact rArcs a l1 l2 _ (by omega)
theorem rCheck_l1 (a : ByteArray) (l1 : List Pl) (l2 : List Tr) (hs : Short l2) (hl : l2.length ≤ 1000) (hl1 : l1.length ≤ 1000) : ∀ (d i : Nat), i ≤ l2.length → l2.length - i = d → Ev (fun k => r09_Check.l1 k (i : Int) a l1 l2) (chkTV l1.length (l2.drop i) i ((l1.map fun p => p.f0) ++ ((l2.take i).map fun t => t.f0))) := by
 intro d
 induction d with
 | zero =>
  intro i hi hd
  refine Ev.succ ?_
  simp only [r09_Check.l1]
  exact Ev.neg (by omega) (Ev.val (by rw [List.drop_eq_nil_of_le (by omega)]; rfl))
 | succ d ih =>
  intro i hi hd
  have hlt : i < l2.length := by omega
  have hih := ih (i + 1) (by omega) (by omega)
  have e : l2.getD i z41 = l2[i] := by simp [hlt]
  have hr := rTrans a l1 l2 hs i hlt hl hl1
  rw [e] at hr
  rw [List.take_succ_eq_append_getElem hlt, List.map_append, ← List.append_assoc, List.map_singleton] at hih
  refine Ev.succ ?_
  simp only [r09_Check.l1]
  rw [List.drop_eq_getElem_cons hlt, chkTV]
  refine Ev.pos (by omega) (Ev.bind hr ?_)
  by_cases h1 : nmE ((l1.map fun p => p.f0) ++ ((l2.take i).map fun t => t.f0)) l2[i].f0 = 0
  ·rw [if_pos h1, if_pos h1]
   refine Ev.ite (fun h2 => ?_) (fun h2 => Ev.val ?_)
   ·rw [if_pos h2, wrap_succ (by omega)]; exact hih
   ·rw [if_neg h2, show wrap64 ((l1.length : Int) + (i : Int)) = ((l1.length + i : Nat) : Int) by unfold wrap64; omega]
  ·rw [if_neg h1, if_neg h1]
   exact Ev.neg h1 (Ev.val (by rw [show wrap64 ((l1.length : Int) + (i : Int)) = ((l1.length + i : Nat) : Int) by unfold wrap64; omega]))
theorem rCheck_l0 (a : ByteArray) (l1 : List Pl) (l2 : List Tr) (hs : Short l2) (hl : l2.length ≤ 1000) (hl1 : l1.length ≤ 1000) : ∀ (d i : Nat), i ≤ l1.length → l1.length - i = d → Ev (fun k => r09_Check.l0 k (i : Int) a l1 l2) (match chkPV (l1.drop i) i ((l1.take i).map fun p => p.f0) with | .inl e => e | .inr names => chkTV l1.length l2 0 names) := by
 intro d
 induction d with
 | zero =>
  intro i hi hd
  obtain rfl : i = l1.length := by omega
  refine Ev.succ ?_
  simp only [r09_Check.l0]
  rw [List.drop_length, List.take_length, chkPV]
  have := rCheck_l1 a l1 l2 hs hl hl1 _ 0 (by omega) rfl
  rw [List.drop_zero, List.take_zero, List.map_nil, List.append_nil] at this
  exact Ev.neg (by omega) this
 | succ d ih =>
  intro i hi hd
  have hlt : i < l1.length := by omega
  have hih := ih (i + 1) (by omega) (by omega)
  have e : l1.getD i z59 = l1[i] := by simp [hlt]
  have hr := rPlace a l1 l2 i hlt hl1
  rw [e] at hr
  rw [List.take_succ_eq_append_getElem hlt, List.map_append, List.map_singleton] at hih
  refine Ev.succ ?_
  simp only [r09_Check.l0]
  rw [List.drop_eq_getElem_cons hlt, chkPV]
  refine Ev.pos (by omega) (Ev.bind hr ?_)
  by_cases h1 : nmE ((l1.take i).map fun p => p.f0) l1[i].f0 = 0
  ·rw [if_pos h1, if_pos h1]
   refine Ev.ite (fun h2 => ?_) (fun h2 => Ev.val ?_)
   ·rw [if_pos h2, wrap_succ (by omega)]; exact hih
   ·rw [if_neg h2]
  ·rw [if_neg h1, if_neg h1]
   exact Ev.neg h1 (Ev.now _)
theorem rCheck (a : ByteArray) (l1 : List Pl) (l2 : List Tr) (hs : Short l2) (hl : l2.length ≤ 1000) (hl1 : l1.length ≤ 1000) : Ev (fun k => r09_Check.f k a l1 l2) (checkV a l1 l2) := by
 unfold r09_Check.f checkV
 refine Ev.bind (rname a) (Ev.ite (fun h => ?_) (fun h => Ev.val (by rw [if_neg h])))
 rw [if_pos h]
 have hj : ∀ b : Bool, b = decide (l1.length < 1 ∨ 24 < l1.length ∨ 24 < l2.length) → Ev (fun k => r09_Check.j0 k b a l1 l2) (if l1.length < 1 ∨ 24 < l1.length ∨ 24 < l2.length then (2, 0) else match chkPV l1 0 [] with | .inl e => e | .inr names => chkTV l1.length l2 0 names) := by
  intro b hb
  refine Ev.succ ?_
  simp only [r09_Check.j0]
  by_cases h2 : l1.length < 1 ∨ 24 < l1.length ∨ 24 < l2.length
  ·rw [if_pos h2]; exact Ev.pos (by rw [hb]; exact decide_eq_true h2) (Ev.now _)
  ·rw [if_neg h2]
   refine Ev.neg (by rw [hb, decide_eq_false h2]; simp) ?_
   have := rCheck_l0 a l1 l2 hs hl hl1 _ 0 (by omega) rfl
   rw [List.drop_zero, List.take_zero, List.map_nil] at this
   exact this
 refine Ev.ite (fun h2 => hj _ ?_) (fun h2 => Ev.ite (fun h3 => hj _ ?_) (fun h3 => hj _ ?_))
 ·exact (decide_eq_true (.inl (by omega))).symm
 ·exact (decide_eq_true (.inr (.inl (by omega)))).symm
 ·exact decide_eq_decide.2 (by omega)
theorem rValid (a : ByteArray) (l1 : List Pl) (l2 : List Tr) (hs : Short l2) (hl1 : l1.length ≤ 1000) (hl : l2.length ≤ 1000) : Ev (fun k => r09_Valid.f k a l1 l2) (decide ((checkV a l1 l2).1 = 0)) := by
 unfold r09_Valid.f
 exact Ev.bind (rCheck a l1 l2 hs hl hl1) (Ev.val (by rw [Bool.eq_iff_iff, beq_iff_eq, decide_eq_true_eq]))
end Go.Proofs.YtejchnmhlcbfcaaDoor.Nets

/- The net of a log, as the program makes it. -/
namespace Go.Proofs.YtejchnmhlcbfcaaDoor.Alpha
open Go.RowKit Go.Proofs.YtejchnmhlcbfcaaDoor.Pr Go.Proofs.YtejchnmhlcbfcaaDoor.Evs Go.Proofs.YtejchnmhlcbfcaaDoor.Bits Go.Proofs.YtejchnmhlcbfcaaDoor.Sets Go.Proofs.YtejchnmhlcbfcaaDoor.Logs Go.Proofs.YtejchnmhlcbfcaaDoor.Feet Go.Proofs.YtejchnmhlcbfcaaDoor.Caus Go.Proofs.YtejchnmhlcbfcaaDoor.Names Go.Proofs.YtejchnmhlcbfcaaDoorW.PrintWords Go.Proofs.YtejchnmhlcbfcaaDoorW.PrintLast Go.Proofs.YtejchnmhlcbfcaaDoorW.PrintMore
set_option linter.unusedVariables false
set_option linter.unusedSimpArgs false

abbrev Pl := S59
abbrev Ar := S62
abbrev Tr := S41
abbrev Pq := BitVec 64 × BitVec 64
/-- The digits of a number below 100. -/
def decD (i : Nat) : List UInt8 := if i < 10 then [UInt8.ofNat (48 + i)] else [UInt8.ofNat (48 + i / 10), UInt8.ofNat (48 + i % 10)]
def dec (i : Nat) : ByteArray := ⟨(decD i).toArray⟩
theorem decD_eq {i : Nat} (h : i < 100) : Go.Lib.decDigits i = decD i := by
 unfold Go.Lib.decDigits decD
 split
 ·rfl
 ·rename_i h1
  unfold Go.Lib.decDigits
  rw [dif_pos (by omega)]
  rfl
theorem dec_size (i : Nat) : (dec i).size ≤ 2 := by
 unfold dec decD
 split <;> exact Nat.le_of_ble_eq_true rfl
theorem eitoa {i : Nat} (h : i < 100) : strconv_Itoa_24.f (i : Int) = some (dec i) := by
 have : strconv_small.f (i : Int) = some (dec i) := by
  unfold strconv_small.f
  rw [if_pos (by omega), Int.toNat_natCast, decD_eq h]; rfl
 simp only [strconv_Itoa_24.f, strconv_Itoa_47.f, strconv_FormatInt.f]
 rw [if_pos (by first | exact ⟨rfl, by omega, by omega⟩ | exact ⟨trivial, by omega, by omega⟩), this]
 rfl

/-! ### the parts of the net -/
def plName (k : Nat) : ByteArray := (⟨#[95, 112]⟩ : ByteArray) ++ dec k
def plUp : Nat → List Pl
 | 0 => [(⟨(⟨#[95, 105, 110]⟩ : ByteArray), 1, 0⟩ : Pl), (⟨(⟨#[95, 111, 117, 116]⟩ : ByteArray), 0, 0⟩ : Pl)]
 | k + 1 => plUp k ++ [(⟨plName k, 0, 0⟩ : Pl)]
theorem plUp_len : ∀ k, (plUp k).length = k + 2
 | 0 => rfl
 | k + 1 => by rw [plUp, List.length_append, plUp_len k]; rfl
/-- The arcs of the pairs in front of k whose side g has activity i. -/
def arUp (g : Pq → BitVec 64) (Q : List Pq) (i : Nat) : Nat → List Ar
 | 0 => []
 | k + 1 => arUp g Q i k ++ if (g (Q.getD k (0#64, 0#64))).getLsbD i = true then [(⟨((k + 2 : Nat) : Int), 1⟩ : Ar)] else []
theorem arUp_len (g : Pq → BitVec 64) (Q : List Pq) (i : Nat) : ∀ k, (arUp g Q i k).length ≤ k
 | 0 => by simp [arUp]
 | k + 1 => by
  have := arUp_len g Q i k
  rw [arUp, List.length_append]
  split
  ·rw [List.length_singleton]; omega
  ·simp; omega
def endAr (l : List ByteArray) (s : ByteArray) (p : Int) : List Ar := if hasB l s = true then [(⟨p, 1⟩ : Ar)] else []
theorem endAr_t {l : List ByteArray} {s : ByteArray} (h : hasB l s = true) (p : Int) : endAr l s p = [(⟨p, 1⟩ : Ar)] := by unfold endAr; rw [if_pos h]
theorem endAr_f {l : List ByteArray} {s : ByteArray} (h : hasB l s = false) (p : Int) : endAr l s p = [] := by unfold endAr; rw [if_neg (by rw [h]; decide)]
theorem endAr_len (l : List ByteArray) (s : ByteArray) (p : Int) : (endAr l s p).length ≤ 1 := by unfold endAr; split <;> simp
def trOf (Q : List Pq) (fs ls : List ByteArray) (i : Nat) (s : ByteArray) : Tr :=
 ⟨s, endAr fs s 0 ++ arUp (·.2) Q i Q.length, endAr ls s 1 ++ arUp (·.1) Q i Q.length, [], 0⟩
def trUp (Q : List Pq) (fs ls ns : List ByteArray) : Nat → List Tr
 | 0 => []
 | i + 1 => trUp Q fs ls ns i ++ [trOf Q fs ls i (ns.getD i ByteArray.empty)]
theorem trUp_len (Q : List Pq) (fs ls ns : List ByteArray) : ∀ k, (trUp Q fs ls ns k).length = k
 | 0 => rfl
 | k + 1 => by rw [trUp, List.length_append, trUp_len Q fs ls ns k]; rfl
theorem trUp_mem {Q : List Pq} {fs ls ns : List ByteArray} : ∀ {k : Nat} {t : Tr}, t ∈ trUp Q fs ls ns k → ∃ i, i < k ∧ t = trOf Q fs ls i (ns.getD i ByteArray.empty)
 | 0, t, h => by simp [trUp] at h
 | k + 1, t, h => by
  rw [trUp, List.mem_append, List.mem_singleton] at h
  rcases h with h | rfl
  ·obtain ⟨i, h1, h2⟩ := trUp_mem h
   exact ⟨i, by omega, h2⟩
  ·exact ⟨k, by omega, rfl⟩
def clash (ps : List Pl) (s : ByteArray) : Prop := ∃ p ∈ ps, p.f0 = s
instance (ps : List Pl) (s : ByteArray) : Decidable (clash ps s) := inferInstanceAs (Decidable (∃ p ∈ ps, p.f0 = s))
abbrev NetR := ByteArray × List Pl × List Tr × Int
def errR (e : Int) : NetR := ((⟨#[]⟩ : ByteArray), [], [], e)
def netName : ByteArray := ⟨#[97, 108, 112, 104, 97]⟩
/-- What Alpha returns behind the pairs. -/
def netR (Q : List Pq) (fs ls ns : List ByteArray) : NetR :=
 if ∃ s ∈ ns, clash (plUp Q.length) s then errR 6 else (netName, plUp Q.length, trUp Q fs ls ns ns.length, 0)

/-! ### the loops -/
theorem rd_T59g {l : List Pl} {i : Nat} (h : i < l.length) : rd_T59 l (i : Int) = l[i] := by simp [rd_T59, h]
theorem rd_T57g {Q : List Pq} {i : Nat} (h : i < Q.length) : rd_T57 (Q.map tS) (i : Int) = tS Q[i] := by simp [rd_T57, h]
theorem alpha_l3 (Q : List Pq) (hQ : Q.length ≤ 22) (fs ls ns : List ByteArray) (i : Nat) (hi : i < 12) (L : Int) (nm : ByteArray) (ps : List Pl) (ts : List Tr) (hts : ts.length ≤ 12) (s : ByteArray) (A B : List Ar) (hA : A.length ≤ 1) (hB : B.length ≤ 1) (R : NetR)
  (hnext : Ev (fun k => d_Alpha.l1 k (Q.map tS) fs ls ns L ((i + 1 : Nat) : Int) nm ps (ts ++ [(⟨s, A ++ arUp (·.2) Q i Q.length, B ++ arUp (·.1) Q i Q.length, [], 0⟩ : Tr)])) R) :
  ∀ d k, k ≤ Q.length → Q.length - k = d →
   Ev (fun j => d_Alpha.l3 j (Q.map tS) fs ls (i : Int) ns L (i : Int) (Q.map tS) (Q.length : Int) (k : Int) nm ps ts s (A ++ arUp (·.2) Q i k) (B ++ arUp (·.1) Q i k) 0) R := by
 intro d
 induction d with
 | zero =>
  intro k hk hd
  obtain rfl : k = Q.length := by omega
  refine Ev.succ ?_
  simp only [d_Alpha.l3]
  rw [wrap_succ (i := i) (by omega)]
  exact Ev.neg (by omega) (Ev.pos (by omega) hnext)
 | succ d ih =>
  intro k hk hd
  have hlt : k < Q.length := by omega
  have hih := ih (k + 1) (by omega) (by omega)
  have hg : Q.getD k (0#64, 0#64) = Q[k] := by rw [List.getD_eq_getElem?_getD, List.getElem?_eq_getElem hlt]; rfl
  rw [arUp, arUp, hg] at hih
  have hw : wrap64 ((k : Int) + 2) = ((k + 2 : Nat) : Int) := by unfold wrap64; omega
  have hl2 := arUp_len (·.2) Q i k
  have hl1 := arUp_len (·.1) Q i k
  refine Ev.succ ?_
  simp only [d_Alpha.l3, rd_T57g hlt, tS, has_U _ (show i < 64 by omega), Option.bind_some, hw]
  rw [wrap_succ (i := k) (by omega)]
  refine Ev.pos (by omega) (Ev.pos (by omega) (Ev.pos (by rw [List.length_map]; omega) ?_))
  cases h2 : Q[k].2.getLsbD i with
  | true =>
   rw [h2, if_pos rfl] at hih
   refine Ev.pos rfl (Ev.pos (by rw [List.length_append]; omega) ?_)
   cases h1 : Q[k].1.getLsbD i with
   | true =>
    rw [h1, if_pos rfl] at hih
    rw [← List.append_assoc, ← List.append_assoc] at hih
    exact Ev.pos rfl (Ev.pos (by rw [List.length_append]; omega) hih)
   | false =>
    rw [h1, if_neg (by decide), List.append_nil, ← List.append_assoc] at hih
    exact Ev.neg (by decide) hih
  | false =>
   rw [h2, if_neg (by decide), List.append_nil] at hih
   refine Ev.neg (by decide) ?_
   cases h1 : Q[k].1.getLsbD i with
   | true =>
    rw [h1, if_pos rfl, ← List.append_assoc] at hih
    exact Ev.pos rfl (Ev.pos (by rw [List.length_append]; omega) hih)
   | false =>
    rw [h1, if_neg (by decide), List.append_nil] at hih
    exact Ev.neg (by decide) hih
theorem alpha_l2 (Q : List Pq) (hQ : Q.length ≤ 22) (fs ls ns : List ByteArray) (hf : fs.length ≤ 1048576) (hl : ls.length ≤ 1048576) (i : Nat) (hi : i < 12) (L : Int) (nm : ByteArray) (ps : List Pl) (hps : ps.length ≤ 24) (ts : List Tr) (hts : ts.length ≤ 12) (s : ByteArray) (R : NetR)
  (hyes : clash ps s → R = errR 6)
  (hnext : ¬ clash ps s → Ev (fun k => d_Alpha.l1 k (Q.map tS) fs ls ns L ((i + 1 : Nat) : Int) nm ps (ts ++ [trOf Q fs ls i s])) R) :
  ∀ d k, k ≤ ps.length → ps.length - k = d → (∀ p ∈ ps.take k, p.f0 ≠ s) →
   Ev (fun j => d_Alpha.l2 j (Q.map tS) fs ls (i : Int) s ns L (i : Int) ps (ps.length : Int) (k : Int) nm ps ts) R := by
 intro d
 induction d with
 | zero =>
  intro k hk hd hno
  obtain rfl : k = ps.length := by omega
  rw [List.take_length] at hno
  have hn := hnext (by rintro ⟨p, h1, h2⟩; exact hno p h1 h2)
  have h3 := alpha_l3 Q hQ fs ls ns i hi L nm ps ts hts s (endAr fs s 0) (endAr ls s 1) (endAr_len _ _ _) (endAr_len _ _ _) R hn _ 0 (by omega) rfl
  simp only [arUp, List.append_nil] at h3
  have j4 : Ev (fun j => d_Alpha.j4 j (Q.map tS) fs ls (i : Int) ns L (i : Int) nm ps ts s (endAr fs s 0) (endAr ls s 1) 0) R := by
   refine Ev.succ ?_
   simp only [d_Alpha.j4, List.length_map]
   exact h3
  have j3 : Ev (fun j => d_Alpha.j3 j (Q.map tS) fs ls (i : Int) s ns L (i : Int) nm ps ts s (endAr fs s 0) 0) R := by
   refine Ev.succ ?_
   simp only [d_Alpha.j3]
   refine Ev.bind (eamong ls s hl) ?_
   cases hb : hasB ls s with
   | true =>
    rw [endAr_t hb] at j4
    exact Ev.pos rfl (Ev.pos (by decide) j4)
   | false =>
    rw [endAr_f hb] at j4
    exact Ev.neg (by decide) j4
  refine Ev.succ ?_
  simp only [d_Alpha.l2]
  refine Ev.neg (by omega) (Ev.bind (eamong fs s hf) ?_)
  cases hb : hasB fs s with
  | true =>
   rw [endAr_t hb] at j3
   exact Ev.pos rfl (Ev.pos (by decide) j3)
  | false =>
   rw [endAr_f hb] at j3
   exact Ev.neg (by decide) j3
 | succ d ih =>
  intro k hk hd hno
  have hlt : k < ps.length := by omega
  refine Ev.succ ?_
  simp only [d_Alpha.l2, rd_T59g hlt]
  rw [wrap_succ (i := k) (by omega)]
  refine Ev.pos (by omega) (Ev.pos (by omega) (Ev.pos (by omega) ?_))
  by_cases e : ps[k].f0 = s
  ·exact Ev.pos ((bytes_eq _ _).2 e) (Ev.val (hyes ⟨_, List.getElem_mem hlt, e⟩).symm)
  ·refine Ev.neg (fun h => e ((bytes_eq _ _).1 h)) (ih (k + 1) (by omega) (by omega) fun p hp => ?_)
   rw [List.take_succ_eq_append_getElem hlt, List.mem_append, List.mem_singleton] at hp
   rcases hp with hp | rfl
   ·exact hno p hp
   ·exact e
theorem alpha_l1 (Q : List Pq) (hQ : Q.length ≤ 22) (fs ls ns : List ByteArray) (hf : fs.length ≤ 1048576) (hl : ls.length ≤ 1048576) (hns : ns.length ≤ 12) :
  ∀ d i, i ≤ ns.length → ns.length - i = d → (∀ s ∈ ns.take i, ¬ clash (plUp Q.length) s) →
   Ev (fun k => d_Alpha.l1 k (Q.map tS) fs ls ns (ns.length : Int) (i : Int) netName (plUp Q.length) (trUp Q fs ls ns i)) (netR Q fs ls ns) := by
 have hpl := plUp_len Q.length
 intro d
 induction d with
 | zero =>
  intro i hi hd hno
  obtain rfl : i = ns.length := by omega
  rw [List.take_length] at hno
  refine Ev.succ ?_
  simp only [d_Alpha.l1]
  refine Ev.neg (by omega) (Ev.val ?_)
  unfold netR
  rw [if_neg (by rintro ⟨s, h1, h2⟩; exact hno s h1 h2)]
 | succ d ih =>
  intro i hi hd hno
  have hlt : i < ns.length := by omega
  have htl := trUp_len Q fs ls ns i
  have hg : ns.getD i ByteArray.empty = ns[i] := by rw [List.getD_eq_getElem?_getD, List.getElem?_eq_getElem hlt]; rfl
  refine Ev.succ ?_
  simp only [d_Alpha.l1, rdOf_get hlt]
  refine Ev.pos (by omega) (Ev.pos (by omega) (Ev.pos (by omega) ?_))
  refine alpha_l2 Q hQ fs ls ns hf hl i (by omega) _ netName (plUp Q.length) (by omega) _ (by omega) ns[i] _ (fun h => ?_) (fun h => ?_) _ 0 (by omega) rfl (by simp)
  ·unfold netR
   rw [if_pos ⟨_, List.getElem_mem hlt, h⟩]
  ·have hih := ih (i + 1) (by omega) (by omega) fun s hs => by
    rw [List.take_succ_eq_append_getElem hlt, List.mem_append, List.mem_singleton] at hs
    rcases hs with hs | rfl
    ·exact hno s hs
    ·exact h
   rw [trUp, hg] at hih
   exact hih
theorem alpha_l0 (Q : List Pq) (hQ : Q.length ≤ 22) (l : List (List ByteArray)) (fs ls ns : List ByteArray) (hf : fs.length ≤ 1048576) (hl : ls.length ≤ 1048576) (hns : ns.length ≤ 12)
  (e1 : Ev (fun k => e_First.f k l) fs) (e2 : Ev (fun k => e_Last.f k l) ls) (e3 : Ev (fun k => e_Activities.f k l) ns) :
  ∀ d i, i ≤ Q.length → Q.length - i = d → Ev (fun k => d_Alpha.l0 k l (Q.map tS) (Q.length : Int) (i : Int) netName (plUp i)) (netR Q fs ls ns) := by
 intro d
 induction d with
 | zero =>
  intro i hi hd
  obtain rfl : i = Q.length := by omega
  refine Ev.succ ?_
  simp only [d_Alpha.l0]
  exact Ev.neg (by omega) (Ev.bind e1 (Ev.bind e2 (Ev.bind e3 (alpha_l1 Q hQ fs ls ns hf hl hns _ 0 (by omega) rfl (by simp)))))
 | succ d ih =>
  intro i hi hd
  have hlt : i < Q.length := by omega
  have hpl := plUp_len i
  have hsz := dec_size i
  refine Ev.succ ?_
  simp only [d_Alpha.l0, eitoa (show i < 100 by omega), Option.bind_some]
  rw [wrap_succ (i := i) (by omega)]
  exact Ev.pos (by omega) (Ev.pos (by omega) (Ev.pos (by omega) (ih (i + 1) (by omega) (by omega))))

/-- A sorted row of maximal pairs, told of sets. -/
theorem ans_map {f : List (List Int)} {n : Nat} {R : List S57} (h : Ans f n R) : ∃ Q : List Pq, R = Q.map tS := by
 have key : ∀ R : List S57, (∀ y ∈ R, ∃ x, y = tS x) → ∃ Q : List Pq, R = Q.map tS := by
  intro R
  induction R with
  | nil => intro _; exact ⟨[], rfl⟩
  | cons y R ih =>
   intro h
   obtain ⟨x, rfl⟩ := h _ (List.mem_cons_self ..)
   obtain ⟨Q, rfl⟩ := ih fun z hz => h z (List.mem_cons_of_mem _ hz)
   exact ⟨x :: Q, rfl⟩
 exact key R fun y hy => by
  obtain ⟨x, _, e⟩ := (h.mem y).1 hy
  exact ⟨x, e⟩
/-- What Alpha returns, out of the pairs. -/
def alphaB (Q : List Pq) (fs ls ns : List ByteArray) : NetR := if 22 < Q.length then errR 2 else netR Q fs ls ns
theorem ealpha_ok (l : List (List ByteArray)) (Q : List Pq) (hQ : Q.length ≤ 17000000) (hp : Ev (fun k => d_Pairs.f k l) (Q.map tS, 0)) (hs : Small l) (ht : ∀ t ∈ l, t.length ≤ 1048576) (hns : (acts l).length ≤ 12) :
  Ev (fun k => d_Alpha.f k l) (alphaB Q (sel List.head? l) (sel List.getLast? l) (acts l)) := by
 have hl := hs.len
 have h1 := sel_len List.head? l
 have h2 := sel_len List.getLast? l
 unfold d_Alpha.f alphaB
 refine Ev.bind hp (Ev.pos rfl ?_)
 have hw : wrap64 (((Q.map tS).length : Int) + 2) = ((Q.length + 2 : Nat) : Int) := by rw [List.length_map]; unfold wrap64; omega
 rw [hw]
 by_cases h : 22 < Q.length
 ·rw [if_pos h]
  exact Ev.pos (by omega) (Ev.now _)
 ·rw [if_neg h]
  refine Ev.neg (by omega) ?_
  rw [List.length_map]
  exact alpha_l0 Q (by omega) l _ _ _ (by omega) (by omega) hns (efirst hs) (elast hs ht) (eacts hs) _ 0 (by omega) rfl
theorem ealpha_err (l : List (List ByteArray)) (e : Int) (he : e ≠ 0) (hp : Ev (fun k => d_Pairs.f k l) ([], e)) : Ev (fun k => d_Alpha.f k l) (errR e) := by
 unfold d_Alpha.f
 exact Ev.bind hp (Ev.neg he (Ev.now _))
end Go.Proofs.YtejchnmhlcbfcaaDoor.Alpha

/- The net of a log without a clash of names is valid. -/
namespace Go.Proofs.YtejchnmhlcbfcaaDoor.Alpha
open Go.RowKit Go.Proofs.YtejchnmhlcbfcaaDoor.Pr Go.Proofs.YtejchnmhlcbfcaaDoor.Evs Go.Proofs.YtejchnmhlcbfcaaDoor.Bits Go.Proofs.YtejchnmhlcbfcaaDoor.Logs Go.Proofs.YtejchnmhlcbfcaaDoor.Feet Go.Proofs.YtejchnmhlcbfcaaDoor.Caus Go.Proofs.YtejchnmhlcbfcaaDoor.Names Go.Proofs.YtejchnmhlcbfcaaDoorW.PrintWords Go.Proofs.YtejchnmhlcbfcaaDoorW.PrintLast Go.Proofs.YtejchnmhlcbfcaaDoorW.PrintMore
set_option linter.unusedVariables false
set_option linter.unusedSimpArgs false

/-! ### arcs -/
theorem arUp_mem {g : Pq → BitVec 64} {Q : List Pq} {i : Nat} : ∀ {k : Nat} {a : Ar}, a ∈ arUp g Q i k → ∃ j, j < k ∧ a = ⟨((j + 2 : Nat) : Int), 1⟩
 | 0, a, h => by simp [arUp] at h
 | k + 1, a, h => by
  rw [arUp, List.mem_append] at h
  rcases h with h | h
  ·obtain ⟨j, h1, h2⟩ := arUp_mem h
   exact ⟨j, by omega, h2⟩
  ·split at h
   ·rw [List.mem_singleton] at h
    exact ⟨k, by omega, h⟩
   ·cases h
def ltA (a b : Ar) : Prop := a.f0 < b.f0
theorem arUp_srt (g : Pq → BitVec 64) (Q : List Pq) (i : Nat) : ∀ k, (arUp g Q i k).Pairwise ltA
 | 0 => by simp [arUp]
 | k + 1 => by
  rw [arUp, List.pairwise_append]
  refine ⟨arUp_srt g Q i k, by split <;> simp, fun x hx y hy => ?_⟩
  obtain ⟨j, h1, rfl⟩ := arUp_mem hx
  split at hy
  ·rw [List.mem_singleton] at hy
   subst hy
   unfold ltA
   dsimp only
   omega
  ·cases hy
structure Arcs (np : Int) (l : List Ar) : Prop where
 srt : l.Pairwise ltA
 rng : ∀ a ∈ l, 0 ≤ a.f0 ∧ a.f0 < np ∧ a.f1 = 1
theorem arcs_ok {np : Int} {l : List Ar} (h : Arcs np l) : Nets.arcsV np l = 0 := by
 have key : ∀ d i, i + d = l.length → Nets.arcsE np l d i = 0 := by
  intro d
  induction d with
  | zero => intro i _; rfl
  | succ d ih =>
   intro i hi
   have hlt : i < l.length := by omega
   have hg : l.getD i z62 = l[i] := by simp [hlt]
   have hr := h.rng _ (List.getElem_mem hlt)
   rw [Nets.arcsE_go, ih (i + 1) (by omega)]
   refine Nets.arcE_0 ?_ ?_ ?_
   ·rw [hg]; omega
   ·rw [hg]
    rintro ⟨h0, h1⟩
    have hlt1 : i - 1 < l.length := by omega
    have hg1 : l.getD (i - 1) z62 = l[i - 1] := by simp [hlt1]
    rw [hg1] at h1
    have := List.pairwise_iff_getElem.1 h.srt (i - 1) i hlt1 hlt (by omega)
    unfold ltA at this
    omega
   ·rw [hg]; omega
 exact key _ 0 (by omega)
theorem side_ok (fs : List ByteArray) (s : ByteArray) (p : Int) (h0 : 0 ≤ p) (h1 : p < 2) (g : Pq → BitVec 64) (Q : List Pq) (i : Nat) : Arcs ((Q.length + 2 : Nat) : Int) (endAr fs s p ++ arUp g Q i Q.length) := by
 have he : ∀ a ∈ endAr fs s p, a = ⟨p, 1⟩ := by
  intro a ha
  unfold endAr at ha
  split at ha
  ·exact List.mem_singleton.1 ha
  ·cases ha
 constructor
 ·rw [List.pairwise_append]
  refine ⟨?_, arUp_srt _ _ _ _, fun x hx y hy => ?_⟩
  ·unfold endAr; split <;> simp
  ·rw [he x hx]
   obtain ⟨j, h2, rfl⟩ := arUp_mem hy
   unfold ltA
   dsimp only
   omega
 ·intro a ha
  rw [List.mem_append] at ha
  rcases ha with ha | ha
  ·rw [he a ha]
   dsimp only
   omega
  ·obtain ⟨j, h2, rfl⟩ := arUp_mem ha
   dsimp only
   omega

/-! ### names -/
def plNames (n : Nat) : List ByteArray := (plUp n).map fun p => p.f0
def plOk (n : Nat) : Bool := match Nets.chkPV (plUp n) 0 [] with
 | .inl _ => false
 | .inr names => decide (names = plNames n)
set_option maxRecDepth 100000 in
theorem plOk_all : ∀ n : Fin 23, plOk n.val = true := by decide +kernel
theorem pl_ok {n : Nat} (h : n ≤ 22) : Nets.chkPV (plUp n) 0 [] = .inr (plNames n) := by
 have := plOk_all ⟨n, by omega⟩
 unfold plOk at this
 split at this
 ·cases this
 ·rename_i names e
  rw [e, of_decide_eq_true this]
theorem netName_ok : nameB netName = true := by decide +kernel
theorem tr_ok {np : Nat} : ∀ (ts : List Tr) (i : Nat) (names : List ByteArray), (∀ t ∈ ts, nameB t.f0 = true ∧ Nets.trE np t = 0 ∧ t.f0 ∉ names) → (ts.map fun t => t.f0).Nodup → Nets.chkTV np ts i names = (0, 0)
 | [], i, names, _, _ => rfl
 | t :: ts, i, names, h, hd => by
  obtain ⟨h1, h2, h3⟩ := h t (List.mem_cons_self ..)
  rw [List.map_cons, List.nodup_cons] at hd
  have hn : Nets.nmE names t.f0 = 0 := by
   rw [Nets.nmE_names, if_pos h1, if_neg]
   intro e
   obtain ⟨y, hy, e2⟩ := List.any_eq_true.1 e
   have := (bytes_eq y t.f0).1 (beq_iff_eq.1 e2)
   exact h3 (this ▸ hy)
  unfold Nets.chkTV
  rw [if_pos hn, if_pos h2]
  refine tr_ok ts (i + 1) _ (fun u hu => ?_) hd.2
  obtain ⟨k1, k2, k3⟩ := h u (List.mem_cons_of_mem _ hu)
  refine ⟨k1, k2, fun e => ?_⟩
  rw [List.mem_append, List.mem_singleton] at e
  rcases e with e | e
  ·exact k3 e
  ·exact hd.1 (List.mem_map.2 ⟨u, hu, e⟩)
theorem trUp_names (Q : List Pq) (fs ls ns : List ByteArray) : ∀ k, k ≤ ns.length → (trUp Q fs ls ns k).map (fun t => t.f0) = ns.take k
 | 0, _ => by simp [trUp]
 | k + 1, h => by
  have hlt : k < ns.length := by omega
  have hg : ns.getD k ByteArray.empty = ns[k] := by rw [List.getD_eq_getElem?_getD, List.getElem?_eq_getElem hlt]; rfl
  rw [trUp, List.map_append, trUp_names Q fs ls ns k (by omega), List.take_succ_eq_append_getElem hlt, hg]
  rfl
theorem net_short (Q : List Pq) (fs ls ns : List ByteArray) (hQ : Q.length ≤ 22) : Nets.Short (trUp Q fs ls ns ns.length) := by
 intro t ht
 obtain ⟨i, _, rfl⟩ := trUp_mem ht
 unfold trOf
 have h1 := arUp_len (·.2) Q i Q.length
 have h2 := arUp_len (·.1) Q i Q.length
 have h3 := endAr_len fs (ns.getD i ByteArray.empty) 0
 have h4 := endAr_len ls (ns.getD i ByteArray.empty) 1
 simp only [List.length_append, List.length_nil]
 omega
theorem net_chk (Q : List Pq) (fs ls ns : List ByteArray) (hQ : Q.length ≤ 22) (hn : ns.length ≤ 12) (hd : ns.Nodup) (hv : ∀ s ∈ ns, nameB s = true) (hc : ¬ ∃ s ∈ ns, clash (plUp Q.length) s) :
  (Nets.checkV netName (plUp Q.length) (trUp Q fs ls ns ns.length)).1 = 0 := by
 have hpl := plUp_len Q.length
 have htl := trUp_len Q fs ls ns ns.length
 unfold Nets.checkV
 rw [if_pos netName_ok, if_neg (by omega), pl_ok hQ]
 dsimp only
 rw [tr_ok]
 ·intro t ht
  obtain ⟨i, hi, rfl⟩ := trUp_mem ht
  have hg : ns.getD i ByteArray.empty = ns[i] := by rw [List.getD_eq_getElem?_getD, List.getElem?_eq_getElem hi]; rfl
  refine ⟨?_, ?_, ?_⟩
  ·show nameB (ns.getD i ByteArray.empty) = true
   rw [hg]; exact hv _ (List.getElem_mem hi)
  ·unfold Nets.trE trOf
   dsimp only
   rw [if_neg (by omega), hpl, arcs_ok (side_ok fs _ 0 (by omega) (by omega) _ Q i), arcs_ok (side_ok ls _ 1 (by omega) (by omega) _ Q i)]
   rfl
  ·show ns.getD i ByteArray.empty ∉ plNames Q.length
   rw [hg]
   intro e
   obtain ⟨p, h1, h2⟩ := List.mem_map.1 e
   exact hc ⟨_, List.getElem_mem hi, p, h1, h2⟩
 ·rw [trUp_names _ _ _ _ _ (Nat.le_refl _), List.take_length]
  exact hd
end Go.Proofs.YtejchnmhlcbfcaaDoor.Alpha

/- Firing, told of the reference: weights, enabled transitions, the next marking; and what a valid net says of its arcs. -/
namespace Go.Proofs.YtejchnmhlcbfcaaDoor.Fires
open Go.RowKit Go.Proofs.YtejchnmhlcbfcaaDoor.Pr Go.Proofs.YtejchnmhlcbfcaaDoor.Evs Go.Proofs.YtejchnmhlcbfcaaDoor.Names Go.Proofs.YtejchnmhlcbfcaaDoor.Nets Go.Proofs.YtejchnmhlcbfcaaDoorW.PrintWords Go.Proofs.YtejchnmhlcbfcaaDoorW.PrintLast Go.Proofs.YtejchnmhlcbfcaaDoorW.PrintMore
set_option linter.unusedVariables false
set_option linter.unusedSimpArgs false

theorem rdN {l : List Int} {i : Nat} : rd l (i : Int) = l.getD i 0 := by simp [rd]
theorem getT {l2 : List Tr} {j : Nat} (h : j < l2.length) : l2.getD j z41 = l2[j] := by simp [h]
/-! ### what a valid net says -/
theorem arcsE_zero {np : Int} {l : List Ar} : ∀ {d i : Nat}, arcsE np l d i = 0 → ∀ j, i ≤ j → j < i + d → arcE np l j = 0
 | 0, i, _, j, h1, h2 => by omega
 | d + 1, i, h, j, h1, h2 => by
  rw [arcsE] at h
  by_cases e : arcE np l i = 0
  ·rw [if_pos e] at h
   by_cases hj : j = i
   ·rw [hj]; exact e
   ·exact arcsE_zero h j (by omega) (by omega)
  ·rw [if_neg e] at h; exact absurd h e
theorem arcs_ok {np : Int} {l : List Ar} (h : arcsV np l = 0) : ∀ a ∈ l, 0 ≤ a.f0 ∧ a.f0 < np ∧ 1 ≤ a.f1 ∧ a.f1 ≤ 99 := by
 intro a ha
 obtain ⟨j, hj, rfl⟩ := List.mem_iff_getElem.1 ha
 have e := arcsE_zero h j (Nat.zero_le _) (by omega)
 have eg : l.getD j z62 = l[j] := by simp [hj]
 unfold arcE at e
 rw [eg] at e
 by_cases c1 : l[j].f0 < 0 ∨ np ≤ l[j].f0
 ·rw [if_pos c1] at e; cases e
 ·rw [if_neg c1] at e
  split at e
  ·cases e
  ·by_cases c3 : l[j].f1 < 1 ∨ 99 < l[j].f1
   ·rw [if_pos c3] at e; cases e
   ·omega
theorem trE_zero {np : Int} {t : Tr} (h : trE np t = 0) : arcsV np t.f1 = 0 ∧ arcsV np t.f2 = 0 ∧ arcsV np t.f3 = 0 ∧ 0 ≤ t.f4 := by
 unfold trE at h
 by_cases c : t.f4 < 0 ∨ 9 < t.f4
 ·rw [if_pos c] at h; cases h
 ·rw [if_neg c] at h
  by_cases c1 : arcsV np t.f1 = 0
  ·rw [if_pos c1] at h
   by_cases c2 : arcsV np t.f2 = 0
   ·rw [if_pos c2] at h; exact ⟨c1, c2, h, by omega⟩
   ·rw [if_neg c2] at h; exact absurd h c2
  ·rw [if_neg c1] at h; exact absurd h c1
structure Net0 (l1 : List Pl) (l2 : List Tr) : Prop where
 places : 1 ≤ l1.length ∧ l1.length ≤ 24
 count : l2.length ≤ 24
 pls : ∀ p ∈ l1, plE p = 0
 trs : ∀ t ∈ l2, trE l1.length t = 0
theorem Net0.pre {l1 : List Pl} {l2 : List Tr} (h : Net0 l1 l2) {t : Tr} (ht : t ∈ l2) : ∀ a ∈ t.f1, 0 ≤ a.f0 ∧ a.f0 < (l1.length : Int) ∧ 1 ≤ a.f1 ∧ a.f1 ≤ 99 := arcs_ok (trE_zero (h.trs t ht)).1
theorem Net0.post {l1 : List Pl} {l2 : List Tr} (h : Net0 l1 l2) {t : Tr} (ht : t ∈ l2) : ∀ a ∈ t.f2, 0 ≤ a.f0 ∧ a.f0 < (l1.length : Int) ∧ 1 ≤ a.f1 ∧ a.f1 ≤ 99 := arcs_ok (trE_zero (h.trs t ht)).2.1
theorem Net0.place {l1 : List Pl} {l2 : List Tr} (h : Net0 l1 l2) {p : Pl} (hp : p ∈ l1) : 0 ≤ p.f1 ∧ p.f1 ≤ 1048576 ∧ 0 ≤ p.f2 := by
 have e := h.pls p hp
 unfold plE at e
 by_cases c1 : p.f2 < 0 ∨ 1048576 < p.f2
 ·rw [if_pos c1] at e; cases e
 ·rw [if_neg c1] at e
  by_cases c2 : p.f1 < 0 ∨ 1048576 < p.f1
  ·rw [if_pos c2] at e; cases e
  ·omega

/-! ### weights -/
def wt : List Ar → Nat → Int
 | [], _ => 0
 | a :: l, p => if a.f0 = (p : Int) then a.f1 else wt l p
theorem rWeight_l0 (l : List Ar) (hl : l.length ≤ 1000) (p : Nat) : ∀ (d i : Nat), i ≤ l.length → l.length - i = d → Ev (fun k => r11_weight.l0 k l (p : Int) (i : Int)) (wt (l.drop i) p) := by
 intro d
 induction d with
 | zero =>
  intro i hi hd
  refine Ev.succ ?_
  simp only [r11_weight.l0]
  exact Ev.neg (by omega) (Ev.val (by rw [List.drop_eq_nil_of_le (by omega)]; rfl))
 | succ d ih =>
  intro i hi hd
  have hlt : i < l.length := by omega
  have hih := ih (i + 1) (by omega) (by omega)
  have e : l.getD i z62 = l[i] := by simp [hlt]
  refine Ev.succ ?_
  simp only [r11_weight.l0, rdA]
  rw [e, wrap_succ (by omega), List.drop_eq_getElem_cons hlt, wt]
  refine Ev.pos (by omega) (Ev.pos (by omega) (Ev.ite (fun h => Ev.val (by rw [if_pos h])) (fun h => ?_)))
  rw [if_neg h]
  exact hih
theorem rWeight (l : List Ar) (hl : l.length ≤ 1000) (p : Nat) : Ev (fun k => r11_weight.f k l (p : Int)) (wt l p) := rWeight_l0 l hl p _ 0 (by omega) rfl

/-! ### markings -/
def okN (x : Int) : Bool := decide (0 ≤ x ∧ x ≤ 1048576)
def okM (m : List Int) : Bool := m.all okN
theorem rMValid_l0 (m : List Int) (hm : m.length ≤ 9223372036854775807) (n : Int) : ∀ (d i : Nat), i ≤ m.length → m.length - i = d → Ev (fun k => r04_Valid.l0 k m n (i : Int)) (okM (m.drop i) && decide ((m.length : Int) = n)) := by
 intro d
 induction d with
 | zero =>
  intro i hi hd
  refine Ev.succ ?_
  simp only [r04_Valid.l0]
  exact Ev.neg (by omega) (Ev.val (by rw [List.drop_eq_nil_of_le (by omega), Bool.eq_iff_iff]; simp [okM]))
 | succ d ih =>
  intro i hi hd
  have hlt : i < m.length := by omega
  have hih := ih (i + 1) (by omega) (by omega)
  have e : m.getD i 0 = m[i] := by simp [hlt]
  refine Ev.succ ?_
  simp only [r04_Valid.l0, rdN]
  rw [e, wrap_succ (by omega), List.drop_eq_getElem_cons hlt, okM, List.all_cons]
  refine Ev.pos (by omega) (Ev.pos (by omega) (Ev.ite (fun h => Ev.val ?_) (fun h => Ev.ite (fun h2 => Ev.val ?_) (fun h2 => ?_))))
  ·rw [show okN m[i] = false from decide_eq_false (by omega)]; rfl
  ·rw [show okN m[i] = false from decide_eq_false (by omega)]; rfl
  ·rw [show okN m[i] = true from decide_eq_true (by omega), Bool.true_and]; exact hih
theorem rMValid (m : List Int) (hm : m.length ≤ 9223372036854775807) (n : Int) : Ev (fun k => r04_Valid.f k m n) (okM m && decide ((m.length : Int) = n)) := rMValid_l0 m hm n _ 0 (by omega) rfl
def goodV (a : ByteArray) (l1 : List Pl) (l2 : List Tr) (m : List Int) : Bool := decide ((checkV a l1 l2).1 = 0) && (okM m && decide ((m.length : Int) = (l1.length : Int)))
theorem rGood (a : ByteArray) (l1 : List Pl) (l2 : List Tr) (hs : Short l2) (hl1 : l1.length ≤ 1000) (hl : l2.length ≤ 1000) (m : List Int) (hm : m.length ≤ 9223372036854775807) : Ev (fun k => r11_Good.f k a l1 l2 m) (goodV a l1 l2 m) := by
 unfold r11_Good.f goodV
 refine Ev.bind (rCheck a l1 l2 hs hl hl1) (Ev.ite (fun h => ?_) (fun h => Ev.val (by rw [decide_eq_false h]; rfl)))
 rw [decide_eq_true h, Bool.true_and]
 exact Ev.bind (rMValid m hm _) (Ev.now _)
theorem good_iff {a : ByteArray} {l1 : List Pl} {l2 : List Tr} {m : List Int} : goodV a l1 l2 m = true ↔ (checkV a l1 l2).1 = 0 ∧ okM m = true ∧ m.length = l1.length := by
 unfold goodV
 simp only [Bool.and_eq_true, decide_eq_true_eq]
 constructor
 ·rintro ⟨h1, h2, h3⟩; exact ⟨h1, h2, by omega⟩
 ·rintro ⟨h1, h2, h3⟩; exact ⟨h1, h2, by omega⟩

/-! ### enabled transitions -/
def newAt (t : Tr) (m : List Int) (p : Nat) : Int := wrap64 (wrap64 (m.getD p 0 - wt t.f1 p) + wt t.f2 p)
def okAt (l1 : List Pl) (t : Tr) (m : List Int) (p : Nat) : Prop := ¬ m.getD p 0 < wt t.f1 p ∧ ¬ (wt t.f3 p > 0 ∧ m.getD p 0 ≥ wt t.f3 p) ∧ ¬ ((l1.getD p z59).f2 > 0 ∧ newAt t m p > (l1.getD p z59).f2)
instance (l1 : List Pl) (t : Tr) (m : List Int) (p : Nat) : Decidable (okAt l1 t m p) := by unfold okAt; exact inferInstance
def readyV (l1 : List Pl) (t : Tr) (m : List Int) : Bool := decide (∀ p, p < l1.length → okAt l1 t m p)
theorem rReady_l0 (a : ByteArray) (l1 : List Pl) (l2 : List Tr) (t : Tr) (h1 : t.f1.length ≤ 1000) (h2 : t.f2.length ≤ 1000) (h3 : t.f3.length ≤ 1000) (m : List Int) (hm : m.length = l1.length) (hl : l1.length ≤ 1000) : ∀ (d i : Nat), i ≤ l1.length → l1.length - i = d → (∀ p, p < i → okAt l1 t m p) → Ev (fun k => r11_Ready.l0 k m (i : Int) a l1 l2 t.f0 t.f1 t.f2 t.f3 t.f4) (readyV l1 t m) := by
 intro d
 induction d with
 | zero =>
  intro i hi hd hok
  refine Ev.succ ?_
  simp only [r11_Ready.l0]
  exact Ev.neg (by omega) (Ev.val (decide_eq_true (fun p hp => hok p (by omega))).symm)
 | succ d ih =>
  intro i hi hd hok
  have hlt : i < l1.length := by omega
  have hno : ¬ okAt l1 t m i → Ev (fun _ : Nat => some false) (readyV l1 t m) := fun hn => Ev.val (decide_eq_false (fun hall => hn (hall i hlt))).symm
  have hgo : okAt l1 t m i → Ev (fun k => r11_Ready.l0 k m ((i + 1 : Nat) : Int) a l1 l2 t.f0 t.f1 t.f2 t.f3 t.f4) (readyV l1 t m) := fun ho => ih (i + 1) (by omega) (by omega) (fun p hp => by
   by_cases e : p = i
   ·rw [e]; exact ho
   ·exact hok p (by omega))
  refine Ev.succ ?_
  simp only [r11_Ready.l0, rdN, rdP]
  rw [wrap_succ (by omega)]
  refine Ev.pos (by omega) (Ev.bind (rWeight t.f3 h3 i) (Ev.pos (by omega) (Ev.pos (by omega) (Ev.bind (rWeight t.f1 h1 i) (Ev.bind (rWeight t.f2 h2 i) (Ev.bind (rWeight t.f1 h1 i) (Ev.ite (fun c => hno (fun h => h.1 c)) (fun c => ?_))))))))
  refine Ev.ite (fun c2 => Ev.ite (fun c3 => hno (fun h => h.2.1 ⟨c2, c3⟩)) (fun c3 => ?_)) (fun c2 => ?_)
  ·refine Ev.ite (fun c4 => Ev.ite (fun c5 => hno (fun h => h.2.2 ⟨c4, c5⟩)) (fun c5 => hgo ⟨c, fun h => c3 h.2, fun h => c5 h.2⟩)) (fun c4 => hgo ⟨c, fun h => c3 h.2, fun h => c4 h.1⟩)
  ·refine Ev.ite (fun c4 => Ev.ite (fun c5 => hno (fun h => h.2.2 ⟨c4, c5⟩)) (fun c5 => hgo ⟨c, fun h => c2 h.1, fun h => c5 h.2⟩)) (fun c4 => hgo ⟨c, fun h => c2 h.1, fun h => c4 h.1⟩)
theorem rReady (a : ByteArray) (l1 : List Pl) (l2 : List Tr) (hs : Short l2) (m : List Int) (hm : m.length = l1.length) (hl : l1.length ≤ 1000) (j : Nat) (hj : j < l2.length) : Ev (fun k => r11_Ready.f k a l1 l2 m (j : Int)) (readyV l1 l2[j] m) := by
 obtain ⟨b1, b2, b3⟩ := hs l2[j] (List.getElem_mem hj)
 unfold r11_Ready.f
 refine Ev.pos (by omega) (Ev.pos (by omega) ?_)
 rw [rdT, getT hj]
 exact rReady_l0 a l1 l2 l2[j] (by omega) (by omega) (by omega) m hm hl _ 0 (by omega) rfl (fun p hp => by omega)

/-! ### the transitions that may fire -/
def rdyL (l1 : List Pl) (l2 : List Tr) (m : List Int) (i : Nat) : List Int := ((List.range i).filter fun j => readyV l1 (l2.getD j z41) m).map Int.ofNat
def mostV (l1 : List Pl) (l2 : List Tr) (m : List Int) : Nat → Int
 | 0 => 0
 | i + 1 => if readyV l1 (l2.getD i z41) m = true then mx (mostV l1 l2 m i) (l2.getD i z41).f4 else mostV l1 l2 m i
def firesV (l1 : List Pl) (l2 : List Tr) (m : List Int) : List Int := (rdyL l1 l2 m l2.length).filter fun j => decide ((l2.getD j.toNat z41).f4 = mostV l1 l2 m l2.length)
theorem rdyL_mem {l1 : List Pl} {l2 : List Tr} {m : List Int} {i : Nat} {x : Int} : x ∈ rdyL l1 l2 m i ↔ ∃ j : Nat, x = (j : Int) ∧ j < i ∧ readyV l1 (l2.getD j z41) m = true := by
 unfold rdyL
 simp only [List.mem_map, List.mem_filter, List.mem_range]
 constructor
 ·rintro ⟨j, ⟨h1, h2⟩, rfl⟩; exact ⟨j, rfl, h1, h2⟩
 ·rintro ⟨j, rfl, h1, h2⟩; exact ⟨j, ⟨h1, h2⟩, rfl⟩
theorem rdyL_len (l1 : List Pl) (l2 : List Tr) (m : List Int) (i : Nat) : (rdyL l1 l2 m i).length ≤ i := by
 unfold rdyL
 rw [List.length_map]
 exact Nat.le_trans (List.length_filter_le _ _) (by rw [List.length_range]; exact Nat.le_refl _)
theorem rFires_l1 (a : ByteArray) (l1 : List Pl) (l2 : List Tr) (R : List Int) (most : Int) (hR : ∀ x ∈ R, ∃ j : Nat, x = (j : Int) ∧ j < l2.length) (hl : R.length ≤ 1000) : ∀ (d i : Nat), i ≤ R.length → R.length - i = d → Ev (fun k => r11_Fires.l1 k R most ((R.take i).filter fun j => decide ((l2.getD j.toNat z41).f4 = most)) (i : Int) a l1 l2) (R.filter fun j => decide ((l2.getD j.toNat z41).f4 = most)) := by
 intro d
 induction d with
 | zero =>
  intro i hi hd
  obtain rfl : i = R.length := by omega
  refine Ev.succ ?_
  simp only [r11_Fires.l1]
  exact Ev.neg (by omega) (Ev.val (by rw [List.take_length]))
 | succ d ih =>
  intro i hi hd
  have hlt : i < R.length := by omega
  have hih := ih (i + 1) (by omega) (by omega)
  have e : R.getD i 0 = R[i] := by simp [hlt]
  obtain ⟨j, hj, hjl⟩ := hR R[i] (List.getElem_mem hlt)
  have hlen : ((R.take i).filter fun j => decide ((l2.getD j.toNat z41).f4 = most)).length ≤ 1000 := Nat.le_trans (List.length_filter_le _ _) (by rw [List.length_take]; omega)
  rw [List.take_succ_eq_append_getElem hlt, List.filter_append] at hih
  refine Ev.succ ?_
  simp only [r11_Fires.l1, rdN]
  rw [e, wrap_succ (by omega), hj]
  refine Ev.pos (by omega) (Ev.pos (by omega) (Ev.pos (by omega) (Ev.pos (by omega) ?_)))
  rw [rdT]
  refine Ev.ite (fun h => Ev.pos (by omega) ?_) (fun h => ?_)
  ·rw [hj, show List.filter (fun j => decide ((l2.getD j.toNat z41).f4 = most)) [(j : Int)] = [(j : Int)] from List.filter_cons_of_pos (by rw [Int.toNat_natCast]; exact decide_eq_true h)] at hih
   exact hih
  ·rw [hj, show List.filter (fun j => decide ((l2.getD j.toNat z41).f4 = most)) [(j : Int)] = [] from List.filter_cons_of_neg (by rw [Int.toNat_natCast]; simpa using h), List.append_nil] at hih
   exact hih
theorem rFires_l0 (a : ByteArray) (l1 : List Pl) (l2 : List Tr) (hs : Short l2) (m : List Int) (hm : m.length = l1.length) (hl1 : l1.length ≤ 1000) (hl : l2.length ≤ 1000) : ∀ (d i : Nat), i ≤ l2.length → l2.length - i = d → Ev (fun k => r11_Fires.l0 k m (rdyL l1 l2 m i) (mostV l1 l2 m i) (i : Int) a l1 l2) (firesV l1 l2 m) := by
 intro d
 induction d with
 | zero =>
  intro i hi hd
  obtain rfl : i = l2.length := by omega
  refine Ev.succ ?_
  simp only [r11_Fires.l0]
  refine Ev.neg (by omega) ?_
  have := rFires_l1 a l1 l2 (rdyL l1 l2 m l2.length) (mostV l1 l2 m l2.length) (fun x hx => by obtain ⟨j, e, h, _⟩ := rdyL_mem.1 hx; exact ⟨j, e, h⟩) (Nat.le_trans (rdyL_len _ _ _ _) hl) _ 0 (by omega) rfl
  rw [List.take_zero] at this
  exact this
 | succ d ih =>
  intro i hi hd
  have hlt : i < l2.length := by omega
  have hih := ih (i + 1) (by omega) (by omega)
  have hlen := rdyL_len l1 l2 m i
  have hr := rReady a l1 l2 hs m hm hl1 i hlt
  have e := getT hlt
  have hR : rdyL l1 l2 m (i + 1) = if readyV l1 l2[i] m = true then rdyL l1 l2 m i ++ [(i : Int)] else rdyL l1 l2 m i := by
   unfold rdyL
   rw [List.range_succ, List.filter_append, List.map_append]
   by_cases hv : readyV l1 l2[i] m = true
   ·rw [if_pos hv, List.filter_cons_of_pos (by rw [e]; exact hv)]; rfl
   ·rw [if_neg hv, List.filter_cons_of_neg (by rw [e]; exact hv)]; simp
  rw [hR, mostV, e] at hih
  refine Ev.succ ?_
  simp only [r11_Fires.l0, rdT]
  rw [e, wrap_succ (by omega)]
  refine Ev.pos (by omega) (Ev.bind hr (Ev.ite (fun h => Ev.pos (by omega) (Ev.pos (by omega) ?_)) (fun h => ?_)))
  ·rw [if_pos h, if_pos h] at hih; exact hih
  ·rw [if_neg h, if_neg h] at hih; exact hih
theorem rFires (a : ByteArray) (l1 : List Pl) (l2 : List Tr) (hs : Short l2) (m : List Int) (hm : m.length = l1.length) (hl1 : l1.length ≤ 1000) (hl : l2.length ≤ 1000) : Ev (fun k => r11_Fires.f k a l1 l2 m) (firesV l1 l2 m) := rFires_l0 a l1 l2 hs m hm hl1 hl _ 0 (by omega) rfl
theorem most_zero {l1 : List Pl} {l2 : List Tr} {m : List Int} (h : ∀ t ∈ l2, t.f4 = 0) : ∀ i, i ≤ l2.length → mostV l1 l2 m i = 0
 | 0, _ => rfl
 | i + 1, hi => by
  have hlt : i < l2.length := by omega
  rw [mostV, most_zero h i (by omega), getT hlt, h _ (List.getElem_mem hlt)]
  split <;> rfl
theorem rDead (a : ByteArray) (l1 : List Pl) (l2 : List Tr) (hs : Short l2) (hl1 : l1.length ≤ 1000) (hl : l2.length ≤ 1000) (m : List Int) (hm : m.length ≤ 9223372036854775807) : Ev (fun k => r11_Dead.f k a l1 l2 m) (goodV a l1 l2 m && decide (firesV l1 l2 m = [])) := by
 unfold r11_Dead.f
 refine Ev.bind (rGood a l1 l2 hs hl1 hl m hm) (Ev.ite (fun h => ?_) (fun h => Ev.val (by rw [Bool.not_eq_true] at h; rw [h]; rfl)))
 rw [h, Bool.true_and]
 refine Ev.bind (rFires a l1 l2 hs m (good_iff.1 h).2.2 hl1 hl) (Ev.val ?_)
 rw [Bool.eq_iff_iff, beq_iff_eq, decide_eq_true_eq, ← List.length_eq_zero_iff]
 omega

/-! ### plain and ordinary nets -/
end Go.Proofs.YtejchnmhlcbfcaaDoor.Fires

/- Firing, told of the reference: the next marking. -/
namespace Go.Proofs.YtejchnmhlcbfcaaDoor.Nexts
open Go.RowKit Go.Proofs.YtejchnmhlcbfcaaDoor.Pr Go.Proofs.YtejchnmhlcbfcaaDoor.Evs Go.Proofs.YtejchnmhlcbfcaaDoor.Nets Go.Proofs.YtejchnmhlcbfcaaDoor.Fires Go.Proofs.YtejchnmhlcbfcaaDoorW.PrintWords Go.Proofs.YtejchnmhlcbfcaaDoorW.PrintLast Go.Proofs.YtejchnmhlcbfcaaDoorW.PrintMore
set_option linter.unusedVariables false
set_option linter.unusedSimpArgs false

/-! ### the next marking -/
theorem rHas_l0 (l : List Int) (hl : l.length ≤ 1000) (x : Int) : ∀ (d i : Nat), i ≤ l.length → l.length - i = d → Ev (fun k => r11_has.l0 k l x (i : Int)) (decide (x ∈ l.drop i)) := by
 intro d
 induction d with
 | zero =>
  intro i hi hd
  refine Ev.succ ?_
  simp only [r11_has.l0]
  exact Ev.neg (by omega) (Ev.val (by rw [List.drop_eq_nil_of_le (by omega)]; rfl))
 | succ d ih =>
  intro i hi hd
  have hlt : i < l.length := by omega
  have hih := ih (i + 1) (by omega) (by omega)
  have e : l.getD i 0 = l[i] := by simp [hlt]
  refine Ev.succ ?_
  simp only [r11_has.l0, rdN]
  rw [e, wrap_succ (by omega), List.drop_eq_getElem_cons hlt]
  refine Ev.pos (by omega) (Ev.pos (by omega) (Ev.ite (fun h => Ev.val ?_) (fun h => ?_)))
  ·exact (decide_eq_true (by rw [h]; exact List.mem_cons_self)).symm
  ·rw [show decide (x ∈ l[i] :: l.drop (i + 1)) = decide (x ∈ l.drop (i + 1)) from decide_eq_decide.2 (by rw [List.mem_cons]; exact ⟨fun hh => hh.resolve_left (fun e => h e.symm), .inr⟩)]
   exact hih
def afterGo (t : Tr) (m : List Int) : Nat → Nat → List Int → List Int × Bool
 | 0, _, acc => (acc, true)
 | d + 1, i, acc => if newAt t m i > 1048576 then ([], false) else afterGo t m d (i + 1) (acc ++ [newAt t m i])
theorem rAfter_l0 (a : ByteArray) (l1 : List Pl) (l2 : List Tr) (hs : Short l2) (m : List Int) (hm : m.length = l1.length) (hl : l1.length ≤ 1000) (j : Nat) (hj : j < l2.length) : ∀ (d i : Nat) (acc : List Int), i ≤ l1.length → l1.length - i = d → acc.length = i → Ev (fun k => r11_After.l0 k m (j : Int) acc (i : Int) a l1 l2) (afterGo l2[j] m d i acc) := by
 obtain ⟨b1, b2, b3⟩ := hs l2[j] (List.getElem_mem hj)
 intro d
 induction d with
 | zero =>
  intro i acc hi hd ha
  refine Ev.succ ?_
  simp only [r11_After.l0]
  exact Ev.neg (by omega) (Ev.now _)
 | succ d ih =>
  intro i acc hi hd ha
  refine Ev.succ ?_
  simp only [r11_After.l0, rdN, rdT]
  rw [getT hj, wrap_succ (by omega), afterGo]
  refine Ev.pos (by omega) (Ev.pos (by omega) (Ev.pos (by omega) (Ev.pos (by omega) (Ev.pos (by omega) (Ev.bind (rWeight l2[j].f1 (by omega) i) (Ev.bind (rWeight l2[j].f2 (by omega) i) (Ev.ite (fun h => Ev.val (by rw [if_pos (show newAt l2[j] m i > 1048576 from h)])) (fun h => Ev.pos (by omega) ?_))))))))
  rw [if_neg (show ¬ newAt l2[j] m i > 1048576 from h)]
  exact ih (i + 1) _ (by omega) (by omega) (by simp [ha])
end Go.Proofs.YtejchnmhlcbfcaaDoor.Nexts

/- The net of the chain and its firing. -/
namespace Go.Proofs.YtejchnmhlcbfcaaDoor.Chain
open Go.RowKit Go.Proofs.YtejchnmhlcbfcaaDoor.Pr Go.Proofs.YtejchnmhlcbfcaaDoor.Evs Go.Proofs.YtejchnmhlcbfcaaDoor.Bits Go.Proofs.YtejchnmhlcbfcaaDoor.Sets Go.Proofs.YtejchnmhlcbfcaaDoor.Logs Go.Proofs.YtejchnmhlcbfcaaDoor.Feet Go.Proofs.YtejchnmhlcbfcaaDoor.Caus Go.Proofs.YtejchnmhlcbfcaaDoor.Alpha Go.Proofs.YtejchnmhlcbfcaaDoor.Names Go.Proofs.YtejchnmhlcbfcaaDoorW.PrintWords Go.Proofs.YtejchnmhlcbfcaaDoorW.PrintLast Go.Proofs.YtejchnmhlcbfcaaDoorW.PrintMore
set_option linter.unusedVariables false
set_option linter.unusedSimpArgs false

section
variable {tr : List ByteArray} {t : Nat} {Q : List Pq}
def kap (tr : List ByteArray) (t : Nat) (Q : List Pq) (i : Nat) : Nat := Q.findIdx (fun x => decide (x = pr tr t i))
theorem kap_lt (q : Qs tr t Q) {i : Nat} (hi : i + 1 < tr.length) : kap tr t Q i < Q.length :=
 List.findIdx_lt_length_of_exists ⟨pr tr t i, (q.mem _).2 ⟨i, hi, rfl⟩, decide_eq_true rfl⟩
theorem kap_get (q : Qs tr t Q) {i : Nat} (hi : i + 1 < tr.length) : Q[kap tr t Q i]'(kap_lt q hi) = pr tr t i := by
 have := List.findIdx_getElem (xs := Q) (p := fun x => decide (x = pr tr t i)) (w := kap_lt q hi)
 exact of_decide_eq_true this
theorem kap_inj (h : Ch tr t) (q : Qs tr t Q) {i j : Nat} (hi : i + 1 < tr.length) (hj : j + 1 < tr.length) (e : kap tr t Q i = kap tr t Q j) : i = j := by
 have h1 := kap_get q hi
 have h2 := kap_get q hj
 refine pr_inj h hi hj ?_
 rw [← h1, ← h2]
 simp [e]
theorem kap_iff (q : Qs tr t Q) {i k : Nat} (hi : i + 1 < tr.length) (hk : k < Q.length) : Q[k] = pr tr t i ↔ k = kap tr t Q i := by
 constructor
 ·intro e
  rw [← kap_get q hi] at e
  exact (List.getElem_inj q.nd).1 e
 ·rintro rfl; exact kap_get q hi
/-- The place that the token passes as number i. -/
def pp (tr : List ByteArray) (t : Nat) (Q : List Pq) (i : Nat) : Nat := if i = 0 then 0 else if i = tr.length then 1 else kap tr t Q (i - 1) + 2
theorem pp_0 : pp tr t Q 0 = 0 := by simp [pp]
theorem pp_m (h : Ch tr t) : pp tr t Q tr.length = 1 := by have := h.lo; unfold pp; rw [if_neg (by omega), if_pos rfl]
theorem pp_i {i : Nat} (h0 : 1 ≤ i) (h1 : i < tr.length) : pp tr t Q i = kap tr t Q (i - 1) + 2 := by unfold pp; rw [if_neg (by omega), if_neg (by omega)]
theorem pp_lt (h : Ch tr t) (q : Qs tr t Q) {i : Nat} (hi : i ≤ tr.length) : pp tr t Q i < Q.length + 2 := by
 by_cases h0 : i = 0
 ·subst h0; rw [pp_0]; omega
 ·by_cases h1 : i = tr.length
  ·subst h1; rw [pp_m h]; omega
  ·rw [pp_i (by omega) (by omega)]
   have := kap_lt q (i := i - 1) (by omega)
   omega
theorem pp_inj (h : Ch tr t) (q : Qs tr t Q) {i j : Nat} (hi : i ≤ tr.length) (hj : j ≤ tr.length) (e : pp tr t Q i = pp tr t Q j) : i = j := by
 by_cases a0 : i = 0
 ·subst a0
  rw [pp_0] at e
  by_cases b0 : j = 0
  ·exact b0.symm
  ·by_cases b1 : j = tr.length
   ·subst b1; rw [pp_m h] at e; omega
   ·rw [pp_i (by omega) (by omega)] at e; omega
 ·by_cases a1 : i = tr.length
  ·subst a1
   rw [pp_m h] at e
   by_cases b0 : j = 0
   ·subst b0; rw [pp_0] at e; omega
   ·by_cases b1 : j = tr.length
    ·exact b1.symm
    ·rw [pp_i (by omega) (by omega)] at e; omega
  ·rw [pp_i (by omega) (by omega)] at e
   by_cases b0 : j = 0
   ·subst b0; rw [pp_0] at e; omega
   ·by_cases b1 : j = tr.length
    ·subst b1; rw [pp_m h] at e; omega
    ·rw [pp_i (by omega) (by omega)] at e
     have := kap_inj h q (i := i - 1) (j := j - 1) (by omega) (by omega) (by omega)
     omega

/-! ### the arcs -/
theorem arUp_of {g : Pq → BitVec 64} {a k0 : Nat} (hb : ∀ k, (hk : k < Q.length) → ((g Q[k]).getLsbD a = true ↔ k = k0)) : ∀ K, K ≤ Q.length → arUp g Q a K = if k0 < K then [(⟨((k0 + 2 : Nat) : Int), 1⟩ : Ar)] else []
 | 0, _ => by simp [arUp]
 | K + 1, h => by
  have hlt : K < Q.length := by omega
  have hg : Q.getD K (0#64, 0#64) = Q[K] := by rw [List.getD_eq_getElem?_getD, List.getElem?_eq_getElem hlt]; rfl
  rw [arUp, arUp_of hb K (by omega), hg]
  by_cases e : K = k0
  ·subst e
   rw [if_neg (by omega), if_pos ((hb K hlt).2 rfl), if_pos (by omega)]; rfl
  ·rw [if_neg (fun x => e ((hb K hlt).1 x)), List.append_nil]
   by_cases c : k0 < K
   ·rw [if_pos c, if_pos (by omega)]
   ·rw [if_neg c, if_neg (by omega)]
theorem arUp_no {g : Pq → BitVec 64} {a : Nat} (hb : ∀ k, (hk : k < Q.length) → ¬ (g Q[k]).getLsbD a = true) : ∀ K, K ≤ Q.length → arUp g Q a K = []
 | 0, _ => by simp [arUp]
 | K + 1, h => by
  have hlt : K < Q.length := by omega
  have hg : Q.getD K (0#64, 0#64) = Q[K] := by rw [List.getD_eq_getElem?_getD, List.getElem?_eq_getElem hlt]; rfl
  rw [arUp, arUp_no hb K (by omega), hg, if_neg (hb K hlt)]; rfl
theorem tau64 (h : Ch tr t) {i : Nat} (hi : i < tr.length) : tau tr t i < 64 := by
 have := tau_lt h hi; have := acts_len' h; have := h.hi; omega
theorem bit2 (h : Ch tr t) (q : Qs tr t Q) {i k : Nat} (hi : i < tr.length) (hk : k < Q.length) : (Q[k].2).getLsbD (tau tr t i) = true ↔ 1 ≤ i ∧ k = kap tr t Q (i - 1) := by
 obtain ⟨j, hj, e⟩ := (q.mem _).1 (List.getElem_mem hk)
 rw [e]
 show (tp (tau tr t (j + 1))).getLsbD (tau tr t i) = true ↔ _
 rw [tp_iff (tau64 h hj)]
 constructor
 ·intro x
  obtain rfl := tau_inj h hi hj x
  exact ⟨by omega, (kap_iff q (by omega) hk).1 e⟩
 ·rintro ⟨h1, h2⟩
  have := (kap_iff q (i := i - 1) (by omega) hk).2 h2
  have := pr_inj h hj (show i - 1 + 1 < tr.length by omega) (e.symm.trans this)
  rw [show j + 1 = i by omega]
theorem bit1 (h : Ch tr t) (q : Qs tr t Q) {i k : Nat} (hi : i < tr.length) (hk : k < Q.length) : (Q[k].1).getLsbD (tau tr t i) = true ↔ i + 1 < tr.length ∧ k = kap tr t Q i := by
 obtain ⟨j, hj, e⟩ := (q.mem _).1 (List.getElem_mem hk)
 rw [e]
 show (tp (tau tr t j)).getLsbD (tau tr t i) = true ↔ _
 rw [tp_iff (tau64 h (show j < tr.length by omega))]
 constructor
 ·intro x
  obtain rfl := tau_inj h hi (show j < tr.length by omega) x
  exact ⟨hj, (kap_iff q hj hk).1 e⟩
 ·rintro ⟨h1, h2⟩
  have := (kap_iff q h1 hk).2 h2
  have := pr_inj h hj h1 (e.symm.trans this)
  rw [this]
theorem first_iff (h : Ch tr t) {i : Nat} (hi : i < tr.length) : hasB (sel List.head? (logR tr t)) tr[i] = true ↔ i = 0 := by
 have hlo := h.lo
 rw [hasB_iff, sel_mem]
 have e : List.head? tr = some tr[0] := by rw [List.head?_eq_getElem?, List.getElem?_eq_getElem]
 constructor
 ·rintro ⟨x, hx, hy⟩
  obtain rfl := (log_mem h).1 hx
  rw [e, Option.some.injEq] at hy
  exact ((List.getElem_inj h.nd).1 hy).symm
 ·rintro rfl; exact ⟨tr, (log_mem h).2 rfl, e⟩
theorem last_iff (h : Ch tr t) {i : Nat} (hi : i < tr.length) : hasB (sel List.getLast? (logR tr t)) tr[i] = true ↔ i + 1 = tr.length := by
 have hlo := h.lo
 rw [hasB_iff, sel_mem]
 have e : List.getLast? tr = some (tr[tr.length - 1]'(by omega)) := by rw [List.getLast?_eq_getElem?, List.getElem?_eq_getElem (by omega)]
 constructor
 ·rintro ⟨x, hx, hy⟩
  obtain rfl := (log_mem h).1 hx
  rw [e, Option.some.injEq] at hy
  have := (List.getElem_inj h.nd).1 hy
  omega
 ·intro hl
  refine ⟨tr, (log_mem h).2 rfl, ?_⟩
  rw [e]
  have : tr.length - 1 = i := by omega
  simp [this]
abbrev fsT (tr : List ByteArray) (t : Nat) := sel List.head? (logR tr t)
abbrev lsT (tr : List ByteArray) (t : Nat) := sel List.getLast? (logR tr t)
theorem pre_eq (h : Ch tr t) (q : Qs tr t Q) {i : Nat} (hi : i < tr.length) : endAr (fsT tr t) tr[i] 0 ++ arUp (·.2) Q (tau tr t i) Q.length = [(⟨((pp tr t Q i : Nat) : Int), 1⟩ : Ar)] := by
 by_cases h0 : i = 0
 ·subst h0
  rw [endAr_t ((first_iff h hi).2 rfl), arUp_no (fun k hk e => by have := ((bit2 h q hi hk).1 e).1; omega) _ (Nat.le_refl _), pp_0]; rfl
 ·have hf : hasB (fsT tr t) tr[i] = false := by
   cases e : hasB (fsT tr t) tr[i] with
   | false => rfl
   | true => exact absurd ((first_iff h hi).1 e) h0
  rw [endAr_f hf, List.nil_append, arUp_of (k0 := kap tr t Q (i - 1)) (fun k hk => (bit2 h q hi hk).trans ⟨fun x => x.2, fun x => ⟨by omega, x⟩⟩) _ (Nat.le_refl _), if_pos (kap_lt q (by omega)), pp_i (by omega) hi]
theorem post_eq (h : Ch tr t) (q : Qs tr t Q) {i : Nat} (hi : i < tr.length) : endAr (lsT tr t) tr[i] 1 ++ arUp (·.1) Q (tau tr t i) Q.length = [(⟨((pp tr t Q (i + 1) : Nat) : Int), 1⟩ : Ar)] := by
 by_cases h0 : i + 1 = tr.length
 ·rw [endAr_t ((last_iff h hi).2 h0), arUp_no (fun k hk e => by have := ((bit1 h q hi hk).1 e).1; omega) _ (Nat.le_refl _), h0, pp_m h]; rfl
 ·have hf : hasB (lsT tr t) tr[i] = false := by
   cases e : hasB (lsT tr t) tr[i] with
   | false => rfl
   | true => exact absurd ((last_iff h hi).1 e) h0
  rw [endAr_f hf, List.nil_append, arUp_of (k0 := kap tr t Q i) (fun k hk => (bit1 h q hi hk).trans ⟨fun x => x.2, fun x => ⟨by omega, x⟩⟩) _ (Nat.le_refl _), if_pos (kap_lt q (by omega)), pp_i (by omega) (by omega), Nat.add_sub_cancel]

/-! ### the net -/
abbrev l1T (Q : List Pq) : List Pl := plUp Q.length
abbrev l2T (tr : List ByteArray) (t : Nat) (Q : List Pq) : List Tr := trUp Q (fsT tr t) (lsT tr t) (acts (logR tr t)) (acts (logR tr t)).length
def trT (tr : List ByteArray) (t : Nat) (Q : List Pq) (i : Nat) (s : ByteArray) : Tr := ⟨s, [(⟨((pp tr t Q i : Nat) : Int), 1⟩ : Ar)], [(⟨((pp tr t Q (i + 1) : Nat) : Int), 1⟩ : Ar)], [], 0⟩
theorem trUp_get (Q : List Pq) (fs ls ns : List ByteArray) : ∀ k j, (hj : j < (trUp Q fs ls ns k).length) → (trUp Q fs ls ns k)[j] = trOf Q fs ls j (ns.getD j ByteArray.empty)
 | 0, j, hj => by simp [trUp] at hj
 | k + 1, j, hj => by
  have hl := trUp_len Q fs ls ns k
  by_cases e : j < (trUp Q fs ls ns k).length
  ·simp only [trUp]
   rw [List.getElem_append_left e, trUp_get Q fs ls ns k j e]
  ·rw [trUp_len] at hj
   have : j = k := by omega
   subst this
   simp only [trUp]
   rw [List.getElem_append_right (by omega)]
   simp
theorem l2_len (h : Ch tr t) : (l2T tr t Q).length = tr.length := by unfold l2T; rw [trUp_len, acts_len' h]
theorem l2_get (h : Ch tr t) (q : Qs tr t Q) {i : Nat} (hi : i < tr.length) : (l2T tr t Q)[tau tr t i]'(by rw [l2_len h, ← acts_len' h]; exact tau_lt h hi) = trT tr t Q i tr[i] := by
 have hg : (acts (logR tr t)).getD (tau tr t i) ByteArray.empty = tr[i] := by
  rw [List.getD_eq_getElem?_getD, List.getElem?_eq_getElem (tau_lt h hi), tau_get h hi]; rfl
 rw [trUp_get, hg]
 unfold trOf trT
 rw [pre_eq h q hi, post_eq h q hi]
theorem plUp_cap : ∀ n, ∀ p ∈ plUp n, p.f2 = 0
 | 0, p, hp => by
  simp only [plUp, List.mem_cons, List.not_mem_nil, or_false] at hp
  rcases hp with rfl | rfl <;> rfl
 | n + 1, p, hp => by
  rw [plUp, List.mem_append, List.mem_singleton] at hp
  rcases hp with hp | rfl
  ·exact plUp_cap n p hp
  ·rfl
theorem plUp_init : ∀ n, (plUp n).map (fun p => p.f1) = (List.range (n + 2)).map fun p => if p = 0 then (1 : Int) else 0
 | 0 => rfl
 | n + 1 => by
  have e : List.range (n + 1 + 2) = List.range (n + 2) ++ [n + 2] := List.range_succ
  rw [plUp, List.map_append, plUp_init n, e, List.map_append]
  simp

/-! ### markings -/
def mk (tr : List ByteArray) (t : Nat) (Q : List Pq) (i : Nat) : List Int := (List.range (Q.length + 2)).map fun p => if p = pp tr t Q i then (1 : Int) else 0
theorem mk_len (i : Nat) : (mk tr t Q i).length = Q.length + 2 := by simp [mk]
theorem mk_get {i p : Nat} (hp : p < Q.length + 2) : (mk tr t Q i).getD p 0 = if p = pp tr t Q i then 1 else 0 := by simp [mk, hp]
theorem mk_ok (i : Nat) : Fires.okM (mk tr t Q i) = true := by
 unfold Fires.okM mk
 rw [List.all_map, List.all_eq_true]
 intro p _
 refine decide_eq_true ?_
 show (0 : Int) ≤ (if p = pp tr t Q i then 1 else 0) ∧ (if p = pp tr t Q i then (1 : Int) else 0) ≤ 1048576
 split <;> omega
theorem wt_one (x p : Nat) : Fires.wt [(⟨(x : Int), 1⟩ : Ar)] p = if p = x then 1 else 0 := by
 simp only [Fires.wt]
 by_cases e : p = x
 ·subst e; simp
 ·rw [if_neg (by show ¬ (x : Int) = (p : Int); omega), if_neg e]
theorem ready_iff (h : Ch tr t) (q : Qs tr t Q) {i j : Nat} (hi : i ≤ tr.length) (hj : j < tr.length) : Fires.readyV (l1T Q) (trT tr t Q j tr[j]) (mk tr t Q i) = decide (j = i) := by
 unfold Fires.readyV
 rw [decide_eq_decide]
 have hpl := plUp_len Q.length
 have hlt := pp_lt h q (show j ≤ tr.length by omega)
 constructor
 ·intro ha
  have := (ha (pp tr t Q j) (by rw [hpl]; exact hlt)).1
  rw [mk_get hlt] at this
  unfold trT at this
  dsimp only at this
  rw [wt_one, if_pos rfl] at this
  by_cases e : pp tr t Q j = pp tr t Q i
  ·exact pp_inj h q (by omega) hi e
  ·rw [if_neg e] at this; omega
 ·rintro rfl p hp
  rw [hpl] at hp
  refine ⟨?_, ?_, ?_⟩
  ·rw [mk_get hp]
   unfold trT
   dsimp only
   rw [wt_one]
   split <;> omega
  ·unfold trT
   dsimp only
   simp [Fires.wt]
  ·have hlt2 : p < (plUp Q.length).length := by omega
   have e : (plUp Q.length).getD p z59 = (plUp Q.length)[p] := by simp [hlt2]
   rw [show l1T Q = plUp Q.length from rfl, e, plUp_cap _ _ (List.getElem_mem hlt2)]
   omega
theorem filter_one (a : Nat) : ∀ n, (List.range n).filter (fun j => decide (j = a)) = if a < n then [a] else []
 | 0 => by simp
 | n + 1 => by
  rw [List.range_succ, List.filter_append, filter_one a n]
  by_cases e : n = a
  ·subst e; simp
  ·by_cases c : a < n
   ·rw [if_pos c, if_pos (by omega)]; simp [e]
   ·rw [if_neg c, if_neg (by omega)]; simp [e]
theorem filter_none : ∀ n, (List.range n).filter (fun _ => false) = [] := fun n => by simp
theorem prio0 (h : Ch tr t) (q : Qs tr t Q) : ∀ x ∈ l2T tr t Q, x.f4 = 0 := fun x hx => by
 obtain ⟨i, _, rfl⟩ := trUp_mem hx
 rfl
theorem fires_eq (h : Ch tr t) (q : Qs tr t Q) {i : Nat} (hi : i ≤ tr.length) : Fires.firesV (l1T Q) (l2T tr t Q) (mk tr t Q i) = if i < tr.length then [((tau tr t i : Nat) : Int)] else [] := by
 have hl2 := l2_len (Q := Q) h
 have hal := acts_len' h
 have hr : Fires.rdyL (l1T Q) (l2T tr t Q) (mk tr t Q i) (l2T tr t Q).length = if i < tr.length then [((tau tr t i : Nat) : Int)] else [] := by
  unfold Fires.rdyL
  have hcg : (List.range (l2T tr t Q).length).filter (fun j => Fires.readyV (l1T Q) ((l2T tr t Q).getD j z41) (mk tr t Q i)) = (List.range (l2T tr t Q).length).filter (fun j => decide (i < tr.length ∧ j = tau tr t i)) := by
   refine List.filter_congr fun j hj => ?_
   have hj' := List.mem_range.1 hj
   obtain ⟨j', hj2, rfl⟩ := tau_onto h (show j < (acts (logR tr t)).length by omega)
   have e : (l2T tr t Q).getD (tau tr t j') z41 = trT tr t Q j' tr[j'] := by
    rw [List.getD_eq_getElem?_getD, List.getElem?_eq_getElem hj', l2_get h q hj2]; rfl
   rw [e, ready_iff h q hi hj2, decide_eq_decide]
   constructor
   ·rintro rfl; exact ⟨hj2, rfl⟩
   ·rintro ⟨h1, h2⟩; exact tau_inj h hj2 h1 h2
  rw [hcg]
  by_cases c : i < tr.length
  ·rw [if_pos c]
   have : (fun j => decide (i < tr.length ∧ j = tau tr t i)) = (fun j => decide (j = tau tr t i)) := funext fun j => decide_eq_decide.2 ⟨fun x => x.2, fun x => ⟨c, x⟩⟩
   rw [this, filter_one, if_pos (by rw [hl2, ← hal]; exact tau_lt h c)]; rfl
  ·rw [if_neg c]
   have : (fun j => decide (i < tr.length ∧ j = tau tr t i)) = (fun _ => false) := funext fun j => decide_eq_false fun x => c x.1
   rw [this, filter_none]; rfl
 unfold Fires.firesV
 rw [List.filter_eq_self.2, hr]
 intro x hx
 obtain ⟨j, rfl, hj, _⟩ := Fires.rdyL_mem.1 hx
 rw [Fires.most_zero (prio0 h q) _ (Nat.le_refl _), Int.toNat_natCast]
 refine decide_eq_true ?_
 rw [List.getD_eq_getElem?_getD, List.getElem?_eq_getElem hj]
 exact prio0 h q _ (List.getElem_mem hj)
theorem new_eq (h : Ch tr t) (q : Qs tr t Q) {i p : Nat} (hi : i < tr.length) (hp : p < Q.length + 2) : Fires.newAt (trT tr t Q i tr[i]) (mk tr t Q i) p = if p = pp tr t Q (i + 1) then 1 else 0 := by
 unfold Fires.newAt
 rw [mk_get hp]
 unfold trT
 dsimp only
 rw [wt_one, wt_one]
 have hne : pp tr t Q i ≠ pp tr t Q (i + 1) := fun e => by have := pp_inj h q (by omega) (by omega) e; omega
 by_cases e1 : p = pp tr t Q i
 ·rw [if_pos e1, if_neg (fun e2 => hne (e1.symm.trans e2))]; unfold wrap64; omega
 ·rw [if_neg e1]
  by_cases e2 : p = pp tr t Q (i + 1)
  ·rw [if_pos e2]; unfold wrap64; omega
  ·rw [if_neg e2]; unfold wrap64; omega
theorem after_val {x : Tr} {m : List Int} : ∀ (d i : Nat), (∀ p, i ≤ p → p < i + d → Fires.newAt x m p ≤ 1048576) → Nexts.afterGo x m d i ((List.range i).map (Fires.newAt x m)) = ((List.range (i + d)).map (Fires.newAt x m), true)
 | 0, i, _ => rfl
 | d + 1, i, hp => by
  rw [Nexts.afterGo, if_neg (by have := hp i (Nat.le_refl _) (by omega); omega)]
  have e : (List.range i).map (Fires.newAt x m) ++ [Fires.newAt x m i] = (List.range (i + 1)).map (Fires.newAt x m) := by rw [List.range_succ, List.map_append]; rfl
  rw [e, after_val d (i + 1) fun p h1 h2 => hp p (by omega) (by omega), show i + 1 + d = i + (d + 1) by omega]
end
end Go.Proofs.YtejchnmhlcbfcaaDoor.Chain

/- The example of the chapter. -/
namespace Go.Proofs.YtejchnmhlcbfcaaDoor.Feet
open Go.RowKit Go.Proofs.YtejchnmhlcbfcaaDoor.Pr Go.Proofs.YtejchnmhlcbfcaaDoor.Evs Go.Proofs.YtejchnmhlcbfcaaDoorW.PrintWords Go.Proofs.YtejchnmhlcbfcaaDoorW.PrintLast Go.Proofs.YtejchnmhlcbfcaaDoorW.PrintMore
set_option maxRecDepth 100000 in
theorem alive_now : l49_exampleHolds.f 60 = some true := by decide +kernel
theorem alive : Ev (fun k => l49_exampleHolds.f k) true := Ev.of l49_exampleHolds.mono alive_now
theorem alive' : Ev (fun k => (l49_exampleHolds.f k).bind fun t => some t) true := Ev.bind alive (Ev.now _)
end Go.Proofs.YtejchnmhlcbfcaaDoor.Feet

/- The net of a log that repeats one sequence of different activities is a chain: it fires the activities one by one, and is dead at its end. -/
namespace Go.Proofs.YtejchnmhlcbfcaaDoor.Pure
open Go.RowKit Go.Proofs.YtejchnmhlcbfcaaDoor.Pr Go.Proofs.YtejchnmhlcbfcaaDoor.Evs Go.Proofs.YtejchnmhlcbfcaaDoor.Logs Go.Proofs.YtejchnmhlcbfcaaDoor.Feet Go.Proofs.YtejchnmhlcbfcaaDoor.Caus Go.Proofs.YtejchnmhlcbfcaaDoor.Names Go.Proofs.YtejchnmhlcbfcaaDoor.Alpha Go.Proofs.YtejchnmhlcbfcaaDoor.Chain Go.Proofs.YtejchnmhlcbfcaaDoorW.PrintWords Go.Proofs.YtejchnmhlcbfcaaDoorW.PrintLast Go.Proofs.YtejchnmhlcbfcaaDoorW.PrintMore
set_option linter.unusedVariables false
set_option linter.unusedSimpArgs false

theorem checkR {tr : List ByteArray} {t : Nat} (h : Ch tr t) : (checkB (logR tr t)).1 = 0 ∧ (∀ s ∈ tr, nameB s = true) ∨ (checkB (logR tr t)).1 = 5 := by
 have h64 : ¬ 64 < tr.length := by have := h.hi; omega
 have key : ∀ n i, (checkGo (List.replicate n tr) i).1 = 0 ∧ (1 ≤ n → tr.all nameB = true) ∨ (checkGo (List.replicate n tr) i).1 = 5 := by
  intro n
  induction n with
  | zero => intro i; exact .inl ⟨rfl, fun h => by omega⟩
  | succ n ih =>
   intro i
   rw [List.replicate_succ]
   unfold checkGo
   rw [if_neg h64]
   cases hn : tr.all nameB with
   | false => right; simp
   | true =>
    simp only [if_true]
    rcases ih (i + 1) with hh | hh
    ·exact .inl ⟨hh.1, fun _ => trivial⟩
    ·exact .inr hh
 unfold checkB
 rw [if_neg (by have := h.t1; simp [logR]; omega)]
 rcases key t 0 with hh | hh
 ·exact .inl ⟨hh.1, fun s hs => List.all_eq_true.1 (hh.2 h.t0) s hs⟩
 ·exact .inr hh
theorem total_rep (tr : List ByteArray) : ∀ n, Logs.total (List.replicate n tr) = n * tr.length
 | 0 => by simp [Logs.total]
 | n + 1 => by
  have := total_rep tr n
  unfold Logs.total at this ⊢
  rw [List.replicate_succ, List.map_cons, List.sum_cons, this, Nat.succ_mul]; omega
theorem smallR {tr : List ByteArray} {t : Nat} (h : Ch tr t) : Small (logR tr t) := by
 have h1 := h.t1
 have h2 := h.hi
 refine ⟨by simp [logR]; omega, ?_⟩
 unfold logR
 rw [total_rep]
 exact Nat.le_trans (Nat.mul_le_mul h1 h2) (by decide)
theorem echeckR {tr : List ByteArray} {t : Nat} (h : Ch tr t) : Ev (fun k => e_Check.f k (logR tr t)) (checkB (logR tr t)) := by
 have h1 := h.t1
 have hl : (logR tr t).length = t := by simp [logR]
 unfold e_Check.f checkB
 rw [if_neg (by omega)]
 exact Ev.neg (by omega) (echeck_l0 _ (by omega) (fun x hx => by rw [(log_mem h).1 hx]; have := h.hi; omega) _ 0 (by omega) rfl)
theorem bigR {tr : List ByteArray} {t : Nat} (h : Ch tr t) (hv : ∀ s ∈ tr, nameB s = true) : Big (logR tr t) := by
 have h1 := h.t1
 have h2 := h.hi
 refine ⟨by simp [logR]; omega, ?_, fun x hx => ?_⟩
 ·unfold logR
  rw [total_rep]
  exact Nat.le_trans (Nat.mul_le_mul h1 h2) (by decide)
 ·rw [(log_mem h).1 hx]
  refine ⟨by omega, fun s hs => ?_⟩
  have := hv s hs
  unfold nameB at this
  simp only [Bool.and_eq_true, decide_eq_true_eq] at this
  omega
theorem footR {tr : List ByteArray} {t : Nat} (h : Ch tr t) (hc : (checkB (logR tr t)).1 = 0) : footB (logR tr t) = (mt tr t, 0) := by
 have hl := acts_len' h
 have h1 := h.lo
 have h2 := h.hi
 unfold footB
 rw [if_pos hc, if_neg (by omega), if_neg (by omega)]

/-! ### the walk along the chain -/
section
variable {tr : List ByteArray} {t : Nat} {Q : List Pq}
structure Net (tr : List ByteArray) (t : Nat) (Q : List Pq) : Prop where
 ch : Ch tr t
 qs : Qs tr t Q
 nm : ∀ s ∈ tr, nameB s = true
 nc : ¬ ∃ s ∈ acts (logR tr t), clash (plUp Q.length) s
theorem Net.ql (n : Net tr t Q) : Q.length ≤ 22 := by have := qs_len n.ch n.qs; have := n.ch.hi; omega
theorem Net.chk (n : Net tr t Q) : (Nets.checkV netName (l1T Q) (l2T tr t Q)).1 = 0 := by
 have hl := acts_len' n.ch
 have := n.ch.hi
 exact net_chk Q _ _ _ n.ql (by omega) (acts_nd tr t) (fun s hs => n.nm s ((acts_tr n.ch).1 hs)) n.nc
theorem Net.sh (n : Net tr t Q) : Nets.Short (l2T tr t Q) := net_short Q _ _ _ n.ql
theorem Net.len1 (n : Net tr t Q) : (l1T Q).length = tr.length + 1 := by
 have := qs_len n.ch n.qs
 have : (plUp Q.length).length = Q.length + 2 := plUp_len _
 show (plUp Q.length).length = _
 omega
theorem Net.small (n : Net tr t Q) : (l1T Q).length ≤ 1000 ∧ (l2T tr t Q).length ≤ 1000 := by
 have h1 := n.len1
 have h2 := l2_len (Q := Q) n.ch
 have := n.ch.hi
 omega
theorem Net.mlen (n : Net tr t Q) (i : Nat) : (Chain.mk tr t Q i).length = (l1T Q).length := by
 rw [mk_len]
 exact (plUp_len _).symm
theorem Net.good (n : Net tr t Q) (i : Nat) : Fires.goodV netName (l1T Q) (l2T tr t Q) (Chain.mk tr t Q i) = true := Fires.good_iff.2 ⟨n.chk, mk_ok i, n.mlen i⟩
theorem Net.big (n : Net tr t Q) (i : Nat) : (Chain.mk tr t Q i).length ≤ 9223372036854775807 := by have := n.mlen i; have := n.small; omega
theorem rList (n : Net tr t Q) {i : Nat} (hi : i < tr.length) : Ev (fun k => r11_List.f k netName (l1T Q) (l2T tr t Q) (mk tr t Q i)) [((tau tr t i : Nat) : Int)] := by
 have hg := Fires.rGood netName (l1T Q) (l2T tr t Q) n.sh n.small.1 n.small.2 (mk tr t Q i) (n.big i)
 rw [n.good i] at hg
 have hf := Fires.rFires netName (l1T Q) (l2T tr t Q) n.sh (mk tr t Q i) (n.mlen i) n.small.1 n.small.2
 rw [fires_eq n.ch n.qs (by omega), if_pos hi] at hf
 unfold r11_List.f
 exact Ev.bind hg (Ev.pos rfl (Ev.bind hf (Ev.now _)))
theorem rDeadC (n : Net tr t Q) : Ev (fun k => r11_Dead.f k netName (l1T Q) (l2T tr t Q) (mk tr t Q tr.length)) true := by
 have h := Fires.rDead netName (l1T Q) (l2T tr t Q) n.sh n.small.1 n.small.2 (mk tr t Q tr.length) (n.big _)
 rw [n.good, fires_eq n.ch n.qs (Nat.le_refl _), if_neg (by omega)] at h
 exact h
theorem rFireC (n : Net tr t Q) {i : Nat} (hi : i < tr.length) : Ev (fun k => r11_Fire.f k netName (l1T Q) (l2T tr t Q) (mk tr t Q i) ((tau tr t i : Nat) : Int)) (mk tr t Q (i + 1), 0) := by
 have hal := acts_len' n.ch
 have hl2 := l2_len (Q := Q) n.ch
 have htl := tau_lt n.ch hi
 have hj : tau tr t i < (l2T tr t Q).length := by omega
 have hc := Nets.rCheck netName (l1T Q) (l2T tr t Q) n.sh n.small.2 n.small.1
 have hv := Fires.rMValid (mk tr t Q i) (n.big i) ((l1T Q).length : Int)
 have hvt : (Fires.okM (mk tr t Q i) && decide (((mk tr t Q i).length : Int) = ((l1T Q).length : Int))) = true := by
  rw [mk_ok, decide_eq_true (by have := n.mlen i; omega)]; rfl
 have hf := Fires.rFires netName (l1T Q) (l2T tr t Q) n.sh (mk tr t Q i) (n.mlen i) n.small.1 n.small.2
 rw [fires_eq n.ch n.qs (by omega), if_pos hi] at hf
 have hh := Nexts.rHas_l0 [((tau tr t i : Nat) : Int)] (by simp) ((tau tr t i : Nat) : Int) _ 0 (by simp) rfl
 have ha := Nexts.rAfter_l0 netName (l1T Q) (l2T tr t Q) n.sh (mk tr t Q i) (n.mlen i) n.small.1 (tau tr t i) hj _ 0 [] (by omega) rfl rfl
 rw [l2_get n.ch n.qs hi] at ha
 have hlq : (l1T Q).length = Q.length + 2 := plUp_len _
 have hav := after_val (x := trT tr t Q i tr[i]) (m := mk tr t Q i) ((l1T Q).length - 0) 0 fun p _ hp => by
  rw [new_eq n.ch n.qs hi (by omega)]; split <;> omega
 simp only [List.range_zero, List.map_nil] at hav
 rw [hav] at ha
 have hmk : (List.range (0 + ((l1T Q).length - 0))).map (Fires.newAt (trT tr t Q i tr[i]) (mk tr t Q i)) = mk tr t Q (i + 1) := by
  rw [show 0 + ((l1T Q).length - 0) = Q.length + 2 by omega]
  refine List.map_congr_left fun p hp => ?_
  exact new_eq n.ch n.qs hi (List.mem_range.1 hp)
 rw [hmk] at ha
 unfold r11_Fire.f
 refine Ev.bind hc (Ev.pos n.chk (Ev.bind hv (Ev.pos hvt (Ev.neg (by omega) (Ev.neg (by omega) (Ev.bind hf (Ev.bind hh (Ev.pos (by simp) (Ev.bind ha (Ev.pos rfl (Ev.now _)))))))))))
theorem rInitC (n : Net tr t Q) : Ev (fun k => r09_Initial.f k netName (l1T Q) (l2T tr t Q)) (mk tr t Q 0) := by
 have hv := Nets.rValid netName (l1T Q) (l2T tr t Q) n.sh n.small.1 n.small.2
 rw [decide_eq_true n.chk] at hv
 have hlq : (l1T Q).length = Q.length + 2 := plUp_len _
 have hsm := n.small
 have hi : (l1T Q).map (fun p => p.f1) = mk tr t Q 0 := by
  unfold mk
  rw [pp_0]
  exact plUp_init Q.length
 have key : ∀ d i, i ≤ (l1T Q).length → (l1T Q).length - i = d → Ev (fun k => r09_Initial.l0 k (((l1T Q).take i).map fun p => p.f1) (i : Int) netName (l1T Q) (l2T tr t Q)) ((l1T Q).map fun p => p.f1) := by
  intro d
  induction d with
  | zero =>
   intro i hi hd
   obtain rfl : i = (l1T Q).length := by omega
   refine Ev.succ ?_
   simp only [r09_Initial.l0]
   exact Ev.neg (by omega) (Ev.val (by rw [List.take_length]))
  | succ d ih =>
   intro i hi hd
   have hlt : i < (l1T Q).length := by omega
   have hih := ih (i + 1) (by omega) (by omega)
   rw [List.take_succ_eq_append_getElem hlt, List.map_append] at hih
   refine Ev.succ ?_
   simp only [r09_Initial.l0, rd_T59g hlt]
   rw [wrap_succ (by omega)]
   exact Ev.pos (by omega) (Ev.bind hv (Ev.pos rfl (Ev.pos (by omega) (Ev.pos (by rw [List.length_map, List.length_take]; omega) hih))))
 have := key _ 0 (by omega) rfl
 rw [hi] at this
 exact this
theorem rdI {l : List Int} {i : Nat} (h : i < l.length) : rd l (i : Int) = l.getD i 0 := by simp [rd, h]
theorem rTotalC (n : Net tr t Q) : Ev (fun k => r04_Total.f k (mk tr t Q tr.length)) 1 := by
 have hlen := mk_len (tr := tr) (t := t) (Q := Q) tr.length
 have hql := n.ql
 have hv := Fires.rMValid (mk tr t Q tr.length) (n.big _) ((mk tr t Q tr.length).length : Int)
 rw [mk_ok, decide_eq_true rfl, Bool.true_and] at hv
 have hpm := pp_m (Q := Q) n.ch
 have key : ∀ d i, i ≤ Q.length + 2 → Q.length + 2 - i = d → Ev (fun k => r04_Total.l0 k (mk tr t Q tr.length) (if 1 < i then 1 else 0) (i : Int)) 1 := by
  intro d
  induction d with
  | zero =>
   intro i hi hd
   obtain rfl : i = Q.length + 2 := by omega
   refine Ev.succ ?_
   simp only [r04_Total.l0]
   exact Ev.neg (by omega) (Ev.val (by rw [if_pos (by omega)]))
  | succ d ih =>
   intro i hi hd
   have hlt : i < Q.length + 2 := by omega
   have hih := ih (i + 1) (by omega) (by omega)
   refine Ev.succ ?_
   simp only [r04_Total.l0]
   rw [rdI (by omega), mk_get hlt, hpm, wrap_succ (i := i) (by omega)]
   refine Ev.pos (by omega) (Ev.pos (by omega) ?_)
   have e : wrap64 ((if 1 < i then (1 : Int) else 0) + (if i = 1 then 1 else 0)) = if 1 < i + 1 then 1 else 0 := by
    by_cases c : i = 1
    ·subst c; simp [wrap64]
    ·by_cases c2 : 1 < i
     ·rw [if_pos c2, if_neg c, if_pos (by omega)]; unfold wrap64; omega
     ·rw [if_neg c2, if_neg c, if_neg (by omega)]; unfold wrap64; omega
   rw [e]
   exact hih
 have h0 := key _ 0 (by omega) rfl
 rw [if_neg (by omega)] at h0
 have hj : Ev (fun k => r04_Total.j0 k (mk tr t Q tr.length) false) 1 := by
  refine Ev.succ ?_
  simp only [r04_Total.j0]
  exact Ev.neg (by decide) h0
 unfold r04_Total.f
 refine Ev.bind hv (Ev.pos rfl ?_)
 have hq := qs_len n.ch n.qs
 have := n.ch.hi
 rw [decide_eq_false (by omega)]
 exact hj
theorem chain_l2 (n : Net tr t Q) : ∀ d i, i ≤ tr.length → tr.length - i = d → Ev (fun k => l49_DiscoverChains.l2 k tr (mk tr t Q i) (i : Int) netName (l1T Q) (l2T tr t Q)) true := by
 have hhi := n.ch.hi
 have hlo := n.ch.lo
 have hal := acts_len' n.ch
 have hl2 := l2_len (Q := Q) n.ch
 intro d
 induction d with
 | zero =>
  intro i hi hd
  obtain rfl : i = tr.length := by omega
  have h1 := n.len1
  have hlq : (l1T Q).length = Q.length + 2 := plUp_len _
  refine Ev.succ ?_
  simp only [l49_DiscoverChains.l2]
  rw [wrap_succ (by omega)]
  refine Ev.neg (by omega) (Ev.pos (by omega) (Ev.bind (rTotalC n) (Ev.pos rfl (Ev.pos (by rw [mk_len]; omega) (Ev.pos ?_ (Ev.bind (rDeadC n) (Ev.pos rfl alive')))))))
  have := rdI (l := mk tr t Q tr.length) (i := 1) (by rw [mk_len]; omega)
  rw [show ((1 : Nat) : Int) = 1 from rfl] at this
  rw [this, mk_get (by omega), pp_m n.ch, if_pos rfl]
 | succ d ih =>
  intro i hi hd
  have hlt : i < tr.length := by omega
  have htl := tau_lt n.ch hlt
  have hih := ih (i + 1) (by omega) (by omega)
  have hrd : rd [((tau tr t i : Nat) : Int)] 0 = ((tau tr t i : Nat) : Int) := rfl
  have hnm : (rd_T41 (l2T tr t Q) ((tau tr t i : Nat) : Int)).f0 = tr[i] := by
   have : tau tr t i < (l2T tr t Q).length := by omega
   rw [show rd_T41 (l2T tr t Q) ((tau tr t i : Nat) : Int) = (l2T tr t Q)[tau tr t i] by simp [rd_T41, this], l2_get n.ch n.qs hlt]; rfl
  have j4 : Ev (fun k => l49_DiscoverChains.j4 k tr (mk tr t Q i) (i : Int) [((tau tr t i : Nat) : Int)] false netName (l1T Q) (l2T tr t Q)) true := by
   refine Ev.succ ?_
   simp only [l49_DiscoverChains.j4, hrd]
   rw [wrap_succ (i := i) (by omega)]
   exact Ev.neg (by decide) (Ev.pos (by simp) (Ev.bind (rFireC n hlt) (Ev.pos rfl hih)))
  refine Ev.succ ?_
  simp only [l49_DiscoverChains.l2]
  refine Ev.pos (by omega) (Ev.bind (rList n hlt) (Ev.pos rfl (Ev.pos (by simp) ?_)))
  rw [hrd]
  refine Ev.pos (by omega) (Ev.pos (by omega) (Ev.pos (by omega) ?_))
  rw [hnm, rdOf_get hlt, bne_self_eq_false]
  exact j4
end
theorem chain_main {tr : List ByteArray} {t : Nat} (h : Ch tr t) : Ev (fun k => l49_DiscoverChains.l1 k tr (t : Int) (logR tr t) (t : Int)) true := by
 have hhi := h.hi
 have hlo := h.lo
 refine Ev.succ ?_
 simp only [l49_DiscoverChains.l1]
 refine Ev.neg (by omega) ?_
 rcases checkR h with ⟨hc, hv⟩ | hc
 ·have hb := bigR h hv
  have hf := footR h hc
  have hal := acts_len' h
  have he : (footB (logR tr t)).2 = 0 := by rw [hf]
  obtain ⟨R, e1, a1⟩ := eans hb he (foot_mat he)
  rw [foot_len he, hf] at a1
  obtain ⟨Q, rfl⟩ := ans_map a1
  have q := qs_of h a1
  have hql := qs_len h q
  have r1 := ealpha_ok (logR tr t) Q (by omega) e1 (smallR h) (fun x hx => by rw [(log_mem h).1 hx]; omega) (by omega)
  unfold alphaB at r1
  rw [if_neg (by omega)] at r1
  unfold netR at r1
  by_cases hcl : ∃ s ∈ acts (logR tr t), clash (plUp Q.length) s
  ·rw [if_pos hcl] at r1
   exact Ev.bind r1 (Ev.neg (by simp [errR]) (Ev.neg (by simp [errR]) (Ev.pos rfl alive')))
  ·rw [if_neg hcl] at r1
   have n : Net tr t Q := ⟨h, q, hv, hcl⟩
   have h2 := chain_l2 n _ 0 (by omega) rfl
   exact Ev.bind r1 (Ev.pos rfl (Ev.bind (rInitC n) h2))
 ·have hp : Ev (fun k => d_Pairs.f k (logR tr t)) ([], 5) := by
   have hfo : Ev (fun k => d_Footprint.f k (logR tr t)) ([], 5) := by
    unfold d_Footprint.f
    have hk := echeckR h
    refine Ev.bind hk (Ev.neg (by rw [hc]; decide) (Ev.val (by rw [hc])))
   unfold d_Pairs.f
   exact Ev.bind hfo (Ev.neg (by decide) (Ev.now _))
  have r1 := ealpha_err (logR tr t) 5 (by decide) hp
  exact Ev.bind r1 (Ev.neg (by simp [errR]) (Ev.pos rfl alive'))
theorem chain_l1 {tr : List ByteArray} {t : Nat} (h : Ch tr t) : ∀ d i, i ≤ t → t - i = d → Ev (fun k => l49_DiscoverChains.l1 k tr (t : Int) (logR tr i) (i : Int)) true := by
 have ht := h.t1
 intro d
 induction d with
 | zero =>
  intro i hi hd
  obtain rfl : i = t := by omega
  exact chain_main h
 | succ d ih =>
  intro i hi hd
  have hih := ih (i + 1) (by omega) (by omega)
  have e : logR tr (i + 1) = logR tr i ++ [tr] := by unfold logR; rw [List.replicate_succ']
  rw [e] at hih
  refine Ev.succ ?_
  simp only [l49_DiscoverChains.l1]
  rw [wrap_succ (by omega)]
  exact Ev.pos (by omega) (Ev.pos (by simp [logR]; omega) hih)
theorem chain_l0 (tr : List ByteArray) (t : Nat) (h1 : 1 ≤ tr.length) (h2 : tr.length ≤ 10) (h3 : 1 ≤ t) (h4 : t ≤ 10) : ∀ d i, i ≤ tr.length → tr.length - i = d → (tr.take i).Nodup → Ev (fun k => l49_DiscoverChains.l0 k tr (t : Int) (i : Int)) true := by
 intro d
 induction d with
 | zero =>
  intro i hi hd hn
  obtain rfl : i = tr.length := by omega
  rw [List.take_length] at hn
  refine Ev.succ ?_
  simp only [l49_DiscoverChains.l0]
  exact Ev.neg (by omega) (chain_l1 ⟨hn, h1, h2, h3, h4⟩ _ 0 (by omega) rfl)
 | succ d ih =>
  intro i hi hd hn
  have hlt : i < tr.length := by omega
  refine Ev.succ ?_
  simp only [l49_DiscoverChains.l0]
  rw [rdOf_get hlt, Int.toNat_natCast, wrap_succ (by omega)]
  refine Ev.pos (by omega) (Ev.pos (by omega) (Ev.pos (by omega) (Ev.bind (rhas (tr.take i) tr[i] (by rw [List.length_take]; omega)) ?_)))
  cases hb : hasB (tr.take i) tr[i] with
  | true => exact Ev.pos rfl alive'
  | false =>
   refine Ev.neg (by decide) (ih (i + 1) (by omega) (by omega) ?_)
   rw [List.take_succ_eq_append_getElem hlt, List.nodup_append]
   refine ⟨hn, by simp, fun x hx y hy e => ?_⟩
   rw [List.mem_singleton] at hy
   have := hasB_iff.2 (hy ▸ e ▸ hx)
   rw [hb] at this; cases this
theorem DiscoverChains (a : List ByteArray) (t : Int) {P0 P1 : Prop} (h0 : P0) (h1 : P1) : ∃ k, l49_DiscoverChains.f k a t = some true := by
 apply Ev.rounds
 unfold l49_DiscoverChains.f
 have hyes : Ev (fun k => l49_DiscoverChains.j0 k a t true) true := by
  refine Ev.succ ?_
  simp only [l49_DiscoverChains.j0]
  exact Ev.pos trivial alive'
 refine Ev.ite (fun _ => hyes) (fun c1 => Ev.ite (fun _ => hyes) (fun c2 => Ev.ite (fun _ => hyes) (fun c3 => ?_)))
 by_cases c4 : t > 10
 ·rw [decide_eq_true c4]; exact hyes
 ·rw [decide_eq_false c4]
  obtain ⟨n, rfl⟩ := Int.eq_ofNat_of_zero_le (show 0 ≤ t by omega)
  refine Ev.succ ?_
  simp only [l49_DiscoverChains.j0]
  exact Ev.neg (by decide) (chain_l0 a n (by omega) (by omega) (by omega) (by omega) _ 0 (by omega) rfl (by simp))
end Go.Proofs.YtejchnmhlcbfcaaDoor.Pure

/-
 DERIVED. GIVEN WITH THE SEED: THE CARDS: each row of YtejchnmhlcbfcaaDoorRows.lean that lists a variable, with what it lists TIED to the program's text (the seventh form; the later family's looks); each row that meets fmt, with fmt's text TOLD by the authors' own Lean function (tested against real Go, not proved from fmt's source: count such statements apart). THE CARD IS WHAT COUNTS. Prove the row's statement (the work); the ties are given (YtejchnmhlcbfcaaDoorTie.lean); close each card by the builder's one call (the guide's Derived/Test/ToyasCard.lean, 'card_holds'). Laid BY PROGRAM, IN A SANDBOX (cutbox-door.mjs). By AI agents, Wed Nov 11 2026. No macro, syntax, notation, axiom, sorry.
-/
namespace Go.Proofs.YtejchnmhlcbfcaaDoor
namespace Rows

/-- THE TIED CARD OF 'petrinetlaw49.DiscoverChains'. -/
def discoverChainsCard : Claim7 := { stood := { row := discoverChainsRow, standIns := [], harness := (true, "77565be1076ce014ec4aba3d17fa3295ea803b379bef6a53e836d7d5afb2bf46"), looks := false }, kinds := [], alts := [], laidByText := true, laidKinds := [.data, .data, .data], laidTests := true, laidLooks := .later }
def DiscoverChainsCardSaid : Prop := Claim7.holds Tryd.pinned (.plain (OpenSpec.ofChange discoverChainsSpec)) discoverChainsCard

end Rows
end Go.Proofs.YtejchnmhlcbfcaaDoor

/-
 DERIVED. GIVEN WITH THE SEED: THE PROGRAM's TIES (one call each: nine closed facts by the kernel) AND EACH ROW's TIE, after the 31st guide's Derived/Test/Toyas{Tie, Card}.lean. No idea stands in it: it is a product of the set-up. Laid BY PROGRAM, IN A SANDBOX (cutbox-door.mjs). By AI agents, Wed Nov 11 2026. No macro, syntax, notation, axiom, sorry.
-/
namespace Go.Proofs.YtejchnmhlcbfcaaDoor
open Go
set_option maxRecDepth 100000
theorem seatTie1 : Tryd.prog.laidByTextLater [("math/bits.deBruijn32tab", Rows.laid_math_bits_deBruijn32tab), ("math/bits.deBruijn64tab", Rows.laid_math_bits_deBruijn64tab), ("internal/strconv.uint64pow10", Rows.laid_internal_strconv_uint64pow10)] [.data, .data, .data] true :=
 Program.laidByTextLater_by_one 24 8 65 (by kernel_rfl) (by kernel_rfl) (by kernel_rfl) (by kernel_rfl) (by kernel_rfl) (by kernel_rfl) (fun _ _ => by kernel_rfl)
theorem noOwnUnsafe : Tryd.pinned.checked.prog.headLifts.contains "ownunsafe" = false := by kernel_rfl
theorem tie : Tryd.prog.laidByTextLater [("math/bits.deBruijn32tab", Rows.laid_math_bits_deBruijn32tab), ("math/bits.deBruijn64tab", Rows.laid_math_bits_deBruijn64tab), ("internal/strconv.uint64pow10", Rows.laid_internal_strconv_uint64pow10)] [.data, .data, .data] true :=
 Program.laidByTextLater.sub seatTie1 ["math/bits.deBruijn32tab", "math/bits.deBruijn64tab", "internal/strconv.uint64pow10"] (by kernel_rfl) (by kernel_rfl)
theorem discoverChains_row_tie : Rows.discoverChainsRow.laidByTextAt .later Tryd.pinned [.data, .data, .data] true :=
 OpenClaim.laidByTextAt_later rfl rfl tie noOwnUnsafe
end Go.Proofs.YtejchnmhlcbfcaaDoor

