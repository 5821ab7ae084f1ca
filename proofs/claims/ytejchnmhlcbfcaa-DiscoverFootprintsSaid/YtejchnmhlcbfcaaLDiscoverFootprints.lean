/- For all logs Footprint and Same of package discover return what the reference returns. -/
import Derived.Test.YtejchnmhlcbfcaaQDiscoverFootprints0
import Derived.Test.YtejchnmhlcbfcaaQDiscoverFootprints1
import Derived.Test.YtejchnmhlcbfcaaQDiscoverFootprints2
import Derived.Test.YtejchnmhlcbfcaaQDiscoverFootprints3
import Derived.Test.YtejchnmhlcbfcaaVDiscoverFootprints
import Derived.Deep.Slices
import Derived.ChangeArms
import Derived.SizedLaws
import Derived.Test.YtejchnmhlcbfcaaBDiscoverFootprints
/- A datum that is read deep, within the reach of a machine: rows of rows and texts that fit into its memory. -/
namespace Go.Proofs.Ytejchnmhlcbfcaa.Reach
set_option linter.unusedVariables false
open Go.RowKit Go.WideShapes Go.Deep Go.Proofs.YtejchnmhlcbfcaaW.PrintWords

/-- What the statements' reader finds at cells of type t, in a datum within reach, is what d tells of some a with ok. -/
structure OpensZ {α H : Type} (enc : TypeId × Value → H) (P : Program) (w : World) (base : Nat) (spare : Nat → Bool) (held : Bool) (d : Kd α) (t : TypeId) (ok : α → Prop) : Prop where
  cells : P.cellsOf t = d.sz
  opens : ∀ (fuel : Nat) (cs : List Value) (x : DataW H × List MemPlace), DataW.trod enc P w base spare held fuel t cs = some x → (∀ n ∈ x.1.weights P t, n ≤ reachBytes) → ∃ a, d.K w a cs ∧ ok a

section
variable {H : Type} {enc : TypeId × Value → H} {P : Program} {w : World} {base : Nat} {spare : Nat → Bool} {held : Bool}
theorem string {t : TypeId} (ht : P.underlying t = some .string) (hc : P.cellsOf t = 1) : OpensZ enc P w base spare held Kd.string t (fun s => s.size ≤ 140737488351232) :=
  ⟨hc, fun fuel cs x h hz => by
    obtain ⟨s, rfl, rfl, hs⟩ := DataW.trod_string ht h
    exact ⟨s, rfl, by
      have h1 := hz _ (List.mem_singleton.2 rfl)
      rw [Array.length_toList] at h1
      exact h1⟩⟩
theorem list_of {α : Type} {p : Nat → α → Prop} : ∀ (n : Nat), (∀ i, i < n → ∃ a, p i a) → ∃ xs : List α, xs.length = n ∧ ∀ i a, xs[i]? = some a → p i a
  | 0, _ => ⟨[], rfl, fun i a h => by simp at h⟩
  | n + 1, h => by
    obtain ⟨xs, hl, hx⟩ := list_of n (fun i hi => h i (by omega))
    obtain ⟨a, ha⟩ := h n (by omega)
    refine ⟨xs ++ [a], by simp [hl], fun i b hb => ?_⟩
    by_cases hi : i < xs.length
    · rw [List.getElem?_append_left hi] at hb; exact hx i b hb
    · have hlt := (List.getElem?_eq_some_iff.1 hb).1
      simp only [List.length_append, List.length_cons, List.length_nil] at hlt
      obtain rfl : i = n := by omega
      rw [List.getElem?_append_right (by omega)] at hb
      simp [hl] at hb
      rw [← hb]; exact ha
theorem weightsAll_mem {e : TypeId} : ∀ (l : List (DataW H)) (d : DataW H), d ∈ l → ∀ n ∈ d.weights P e, n ∈ DataW.weightsAll P e l
  | [], _, h, _, _ => by simp at h
  | x :: r, d, h, n, hn => by
    rw [DataW.weightsAll]
    rcases List.mem_cons.1 h with rfl | h
    · exact List.mem_append_left _ hn
    · exact List.mem_append_right _ (weightsAll_mem r d h n hn)
theorem slice {α : Type} {d : Kd α} {t e : TypeId} {ok : α → Prop} (h : OpensZ enc P w base spare held d e ok) (ht : P.underlying t = some (.slice e)) (hc : P.cellsOf t = 1) (hb : 16 ≤ P.bytesOf e) :
    OpensZ enc P w base spare held (Kd.slice e d) t (fun xs => xs.length ≤ 8796093022208 ∧ ∀ x ∈ xs, ok x) := by
  refine ⟨hc, fun fuel cs x hx hz => ?_⟩
  rcases open_slice ht hx with ⟨rfl, _⟩ | ⟨a, len, cap, m, n, D, Pl, rfl, _, hl, hm, hmm, rfl, hi⟩
  · exact ⟨[], ⟨none, 0, rfl, Nat.le_refl _, Kd.C_nil _ _⟩, by simp, by simp⟩
  · have hlm : len ≤ m := by rw [hmm]; split <;> omega
    simp only [DataW.weights, ht] at hz
    have hlen : len ≤ 8796093022208 := by
      have h1 := hz _ List.mem_cons_self
      have h2 : (((List.range len).map D).length + ((List.range (m - len)).map fun j => D (len + j)).length) * 16 ≤ reachBytes := Nat.le_trans (Nat.mul_le_mul_left _ hb) h1
      simp only [List.length_map, List.length_range] at h2
      unfold reachBytes at h2
      omega
    obtain ⟨xs, hxl, hxs⟩ := list_of (p := fun i b => ∃ c, c.length = d.sz ∧ d.K w b c ∧ ok b ∧ ∀ j u, c[j]? = some u → w.cell? (a.add (i * d.sz + j)) = some u) len (fun i hlt => by
      obtain ⟨cs', h1, h2⟩ := hi i (by omega)
      obtain ⟨b, hK, hok⟩ := h.opens _ _ _ h2 (fun n hn => hz n (List.mem_cons_of_mem _ (List.mem_append_left _ (weightsAll_mem _ (D i) (List.mem_map.2 ⟨i, by simpa using hlt, rfl⟩) n hn))))
      obtain ⟨_, hlen, hcell⟩ := World.cells?_some h1
      refine ⟨b, cs', by rw [hlen, h.cells], hK, hok, fun j u hu => ?_⟩
      have hj := (List.getElem?_eq_some_iff.1 hu).1
      rw [← hu, ← hcell j (by omega), h.cells, Addr.add_add])
    subst hxl
    refine ⟨xs, ⟨some a, cap, rfl, hl, rfl, by unfold maxLen at hm; omega, fun _ => ⟨a, rfl, fun j p hp => ?_⟩⟩, hlen, fun y hy => ?_⟩
    · obtain ⟨c, h1, h2, _, h4⟩ := hxs j p hp
      exact ⟨c, h1, h2, h4⟩
    · obtain ⟨j, hj⟩ := List.mem_iff_getElem?.1 hy
      obtain ⟨c, _, _, h3, _⟩ := hxs j y hj
      exact h3
/-- A parameter that is a row. -/
theorem param {α : Type} {d : Kd α} {t e : TypeId} {ok : α → Prop} (h : OpensZ enc P w base spare held d e ok) (ht : P.underlying t = some (.slice e)) (hc : P.cellsOf t = 1) (hb : 16 ≤ P.bytesOf e) {a : Option Addr} {len cap : Nat} {D : DataW H} {ps : List MemPlace}
    (hd : DataW.Trod enc P w base spare held t (.slice a len cap) D ps) (hz : ∀ n ∈ D.weights P t, n ≤ reachBytes) : ∃ xs : List α, len = xs.length ∧ xs.length ≤ cap ∧ d.C w a xs.length xs ∧ xs.length ≤ 8796093022208 ∧ ∀ x ∈ xs, ok x := by
  obtain ⟨fuel, hf⟩ := hd
  obtain ⟨xs, ⟨A, c, he, hcap, hC⟩, hl, hx⟩ := (slice h ht hc hb).opens _ _ _ hf hz
  have he' : [Value.slice a len cap] = [.slice A xs.length c] := he
  simp only [List.cons.injEq, Value.slice.injEq, and_true] at he'
  obtain ⟨rfl, rfl, rfl⟩ := he'
  exact ⟨xs, rfl, hcap, hC, hl, hx⟩
/-- What the sizes tell of one datum of the call. -/
theorem each_sized {ts : List TypeId} {ds : List (DataW H)} (h : (DataW.weightsEach P ts ds).all (· ≤ reachBytes) = true) {j : Nat} {t : TypeId} {d : DataW H} (ht : ts[j]? = some t) (hd : ds[j]? = some d) : ∀ n ∈ d.weights P t, n ≤ reachBytes :=
  fun n hn => by simpa using List.all_eq_true.1 h n (DataW.weights_mem_each ht hd n hn)
end
end Go.Proofs.Ytejchnmhlcbfcaa.Reach

/- What the functions of the reference of eventlog answer. -/
namespace Go.Proofs.Ytejchnmhlcbfcaa.Logs
open Go.RowKit Go.Proofs.Ytejchnmhlcbfcaa.Pr Go.Proofs.Ytejchnmhlcbfcaa.Evs Go.Proofs.Ytejchnmhlcbfcaa.Parts Go.Proofs.Ytejchnmhlcbfcaa.Names Go.Proofs.YtejchnmhlcbfcaaW.PrintWords Go.Proofs.YtejchnmhlcbfcaaW.PrintLast Go.Proofs.YtejchnmhlcbfcaaW.PrintMore
set_option linter.unusedVariables false
set_option linter.unusedSimpArgs false

/-! ### names -/
theorem bt_byte {s : ByteArray} {i : Nat} (h : i < s.size) : bt s (i : Int) = (byteAt s i : Int) := by
  rw [byteAt_get s i h]
  simp [bt, h]
theorem name_l0 (s : ByteArray) (hs : s.size < 9223372036854775807) : ∀ (d i : Nat), i ≤ s.size → s.size - i = d → (∀ j, j < i → okB j (byteAt s j) = true) → Ev (fun k => petrinetref48_Name.l0 k s (i : Int)) (nameB s) := by
  intro d
  induction d with
  | zero =>
    intro i hi hd hok
    obtain rfl : i = s.size := by omega
    refine Ev.succ ?_
    simp only [petrinetref48_Name.l0]
    refine Ev.neg (by omega) ?_
    have hall : ((List.range s.size).all fun j => okB j (byteAt s j)) = true := by
      rw [List.all_eq_true]
      intro j hj
      exact hok j (List.mem_range.1 hj)
    by_cases h1 : (s.size : Int) ≥ 1
    · refine Ev.pos h1 (Ev.same (funext fun _ => ?_))
      unfold nameB
      rw [hall, Bool.and_true, decide_eq_true (show 1 ≤ s.size by omega), Bool.true_and]
      congr 1
      exact decide_eq_decide.2 (by omega)
    · refine Ev.neg h1 (Ev.same (funext fun _ => ?_))
      unfold nameB
      rw [decide_eq_false (show ¬ 1 ≤ s.size by omega)]
      rfl
  | succ d ih =>
    intro i hi hd hok
    have hlt : i < s.size := by omega
    have hb := bt_byte hlt
    obtain ⟨c, hc⟩ : ∃ c, byteAt s i = c := ⟨_, rfl⟩
    rw [hc] at hb
    have hgo : okB i c = true → Ev (fun k => petrinetref48_Name.l0 k s (wrap64 ((i : Int) + 1))) (nameB s) := by
      intro hk
      rw [wrap_succ (by omega)]
      refine ih (i + 1) (by omega) (by omega) (fun j hj => ?_)
      by_cases hji : j = i
      · subst hji; rw [hc]; exact hk
      · exact hok j (by omega)
    have hno : okB i c = false → nameB s = false := fun hk => nameB_false hlt (by rw [hc]; exact hk)
    have hstop : okB i c = false → Ev (fun _ : Nat => some false) (nameB s) := fun hk => by rw [hno hk]; exact Ev.now _
    refine Ev.succ ?_
    simp only [petrinetref48_Name.l0, hb]
    refine Ev.pos (by omega) (Ev.pos (by omega) ?_)
    have hnl : ¬ (97 ≤ c ∧ c ≤ 122) → ¬ c = 95 → Ev (fun k => if (i : Int) = 0 then some false else if (c : Int) = 46 then petrinetref48_Name.l0 k s (wrap64 ((i : Int) + 1)) else if (c : Int) < 48 then some false else if (c : Int) > 57 then some false else petrinetref48_Name.l0 k s (wrap64 ((i : Int) + 1))) (nameB s) := by
      intro h1 h2
      by_cases h0 : (i : Int) = 0
      · exact Ev.pos h0 (hstop (okB_not (by omega)))
      · refine Ev.neg h0 ?_
        by_cases h46 : (c : Int) = 46
        · exact Ev.pos h46 (hgo (okB_of (by omega)))
        · refine Ev.neg h46 ?_
          by_cases h48 : (c : Int) < 48
          · exact Ev.pos h48 (hstop (okB_not (by omega)))
          · refine Ev.neg h48 ?_
            by_cases h57 : (c : Int) > 57
            · exact Ev.pos h57 (hstop (okB_not (by omega)))
            · exact Ev.neg h57 (hgo (okB_of (by omega)))
    by_cases h97 : (c : Int) ≥ 97
    · refine Ev.pos h97 ?_
      by_cases h122 : (c : Int) ≤ 122
      · exact Ev.pos h122 (hgo (okB_of (by omega)))
      · refine Ev.neg h122 ?_
        exact Ev.neg (by omega) (hnl (by omega) (by omega))
    · refine Ev.neg h97 ?_
      by_cases h95 : (c : Int) = 95
      · exact Ev.pos h95 (hgo (okB_of (by omega)))
      · exact Ev.neg h95 (hnl (by omega) (by omega))
theorem rname (s : ByteArray) (hs : s.size < 9223372036854775807) : Ev (fun k => petrinetref48_Name.f k s) (nameB s) := name_l0 s hs s.size 0 (by omega) (by omega) (fun _ h => by omega)

/-! ### parts and words -/
/-! ### equal lists of lists -/
theorem same_l0 (a b : List ByteArray) (hab : a.length = b.length) (hl : a.length < 9223372036854775807) : ∀ (d i : Nat), i ≤ a.length → a.length - i = d → a.take i = b.take i → Ev (fun k => petrinetref48_Same.l0 k a b (i : Int)) (decide (a = b)) := by
  intro d
  induction d with
  | zero =>
    intro i hi hd he
    obtain rfl : i = a.length := by omega
    refine Ev.succ ?_
    simp only [petrinetref48_Same.l0]
    refine Ev.neg (by omega) ?_
    rw [List.take_length, hab, List.take_length] at he
    rw [decide_eq_true he]
    exact Ev.now _
  | succ d ih =>
    intro i hi hd he
    have hlt : i < a.length := by omega
    have hlb : i < b.length := by omega
    refine Ev.succ ?_
    simp only [petrinetref48_Same.l0]
    refine Ev.pos (by omega) (Ev.pos (by omega) (Ev.pos (by omega) ?_))
    rw [rdOf_get hlt, rdOf_get hlb, wrap_succ (by omega)]
    by_cases h : a[i] = b[i]
    · exact Ev.pos ((bytes_eq _ _).2 h) (ih (i + 1) (by omega) (by omega) (by rw [List.take_succ_eq_append_getElem hlt, List.take_succ_eq_append_getElem hlb, he, h]))
    · rw [decide_eq_false (fun e => h (by simp [e]))]
      exact Ev.neg (fun e => h ((bytes_eq _ _).1 e)) (Ev.now _)
theorem rsameS (a b : List ByteArray) (hl : a.length < 9223372036854775807) : Ev (fun k => petrinetref48_Same.f k a b) (decide (a = b)) := by
  unfold petrinetref48_Same.f
  by_cases h : a.length = b.length
  · exact Ev.pos (by omega) (same_l0 a b h hl _ 0 (by omega) rfl rfl)
  · rw [decide_eq_false (fun e => h (by rw [e]))]
    exact Ev.neg (by omega) (Ev.now _)
theorem rd_L1_get {l : List (List ByteArray)} {i : Nat} (h : i < l.length) : rd_L1 l (i : Int) = l[i] := by simp [rd_L1, h]
/-! ### Parse -/
end Go.Proofs.Ytejchnmhlcbfcaa.Logs

/- How often one name follows another, and which logs are few. -/
namespace Go.Proofs.Ytejchnmhlcbfcaa.Logs
open Go.RowKit Go.Proofs.Ytejchnmhlcbfcaa.Pr Go.Proofs.Ytejchnmhlcbfcaa.Evs Go.Proofs.YtejchnmhlcbfcaaW.PrintWords Go.Proofs.YtejchnmhlcbfcaaW.PrintLast Go.Proofs.YtejchnmhlcbfcaaW.PrintMore
set_option linter.unusedVariables false
set_option linter.unusedSimpArgs false

/-! ### few -/
def total (l : List (List ByteArray)) : Nat := (l.map List.length).sum
structure Few (l : List (List ByteArray)) : Prop where
  len : l.length ≤ 80
  total : total l ≤ 400
  each : ∀ t ∈ l, t.length ≤ 80 ∧ ∀ s ∈ t, s.size ≤ 40
theorem total_snoc (l : List (List ByteArray)) (t : List ByteArray) : total (l ++ [t]) = total l + t.length := by simp [Logs.total]
/-! ### Follows -/
/-- How often b comes directly after a in front of place j. -/
def fol (t : List ByteArray) (a b : ByteArray) : Nat → Nat
  | 0 => 0
  | j + 1 => fol t a b j + if 1 ≤ j ∧ t[j - 1]? = some a ∧ t[j]? = some b then 1 else 0
theorem fol_le (t : List ByteArray) (a b : ByteArray) : ∀ j, fol t a b j ≤ j
  | 0 => Nat.le_refl _
  | j + 1 => by have := fol_le t a b j; unfold fol; split <;> omega
theorem fol_stop (t : List ByteArray) (a b : ByteArray) : ∀ (d : Nat), fol t a b (t.length + d) = fol t a b t.length
  | 0 => rfl
  | d + 1 => by
    rw [← Nat.add_assoc, fol, fol_stop t a b d, if_neg, Nat.add_zero]
    rintro ⟨_, _, h⟩
    rw [List.getElem?_eq_none (by omega)] at h; cases h
def folL (l : List (List ByteArray)) (a b : ByteArray) : Nat → Nat
  | 0 => 0
  | i + 1 => folL l a b i + fol (l.getD i []) a b (l.getD i []).length
theorem folL_le {l : List (List ByteArray)} (h : ∀ t ∈ l, t.length ≤ 80) (a b : ByteArray) : ∀ i, folL l a b i ≤ 80 * i
  | 0 => by simp [folL]
  | i + 1 => by
    have h1 := folL_le h a b i
    have h2 := fol_le (l.getD i []) a b (l.getD i []).length
    have h3 : (l.getD i []).length ≤ 80 := by
      by_cases hi : i < l.length
      · rw [List.getD_eq_getElem?_getD, List.getElem?_eq_getElem hi]; exact h _ (List.getElem_mem hi)
      · rw [List.getD_eq_getElem?_getD, List.getElem?_eq_none (by omega)]; simp
    rw [folL]; omega
theorem fol_step {t : List ByteArray} {a b : ByteArray} {q : Nat} (h1 : 1 ≤ q) (hq : q < t.length) : fol t a b (q + 1) = fol t a b q + if (t[q - 1]'(by omega)).toList = a.toList ∧ t[q].toList = b.toList then 1 else 0 := by
  rw [fol, List.getElem?_eq_getElem hq, List.getElem?_eq_getElem (show q - 1 < t.length by omega)]
  simp only [Option.some.injEq, bytes_eq, h1, true_and]
theorem efol_l1 (l : List (List ByteArray)) (a b : ByteArray) (i : Nat) (t : List ByteArray) (ht : t.length ≤ 80) (n : Nat) (hn : n ≤ 100000) (L : Int) (R : Int)
    (hnext : Ev (fun k => eventlog_Follows.l0 k a b ((n + fol t a b t.length : Nat) : Int) l L (wrap64 ((i : Int) + 1))) R) : ∀ (d q : Nat), 1 ≤ q → t.length - q = d → Ev (fun k => eventlog_Follows.l1 k a b ((n + fol t a b q : Nat) : Int) t (q : Int) l L (i : Int)) R := by
  intro d
  induction d with
  | zero =>
    intro q h1 hd
    refine Ev.succ ?_
    simp only [eventlog_Follows.l1]
    refine Ev.neg (by omega) ?_
    obtain ⟨d, rfl⟩ : ∃ d, q = t.length + d := ⟨q - t.length, by omega⟩
    rw [fol_stop]
    exact hnext
  | succ d ih =>
    intro q h1 hd
    have hq : q < t.length := by omega
    have hle := fol_le t a b q
    have hih := ih (q + 1) (by omega) (by omega)
    rw [fol_step h1 hq] at hih
    refine Ev.succ ?_
    simp only [eventlog_Follows.l1]
    rw [wrap_pred h1 (by omega), rdOf_get hq, rdOf_get (show q - 1 < t.length by omega), wrap_succ (i := q) (by omega)]
    refine Ev.pos (by omega) (Ev.pos (by omega) (Ev.pos (by omega) ?_))
    by_cases ha : (t[q - 1]'(by omega)).toList = a.toList
    · refine Ev.pos ha (Ev.pos (by omega) ?_)
      by_cases hb : t[q].toList = b.toList
      · rw [if_pos ⟨ha, hb⟩] at hih
        rw [wrap_succ (by omega)]
        exact Ev.pos hb hih
      · rw [if_neg (fun h => hb h.2)] at hih
        exact Ev.neg hb hih
    · rw [if_neg (fun h => ha h.1)] at hih
      exact Ev.neg ha hih
theorem efol_l0 (l : List (List ByteArray)) (a b : ByteArray) (hl : l.length ≤ 80) (ht : ∀ t ∈ l, t.length ≤ 80) : ∀ (d i : Nat), i ≤ l.length → l.length - i = d → Ev (fun k => eventlog_Follows.l0 k a b (folL l a b i : Int) l (l.length : Int) (i : Int)) (folL l a b l.length : Int) := by
  intro d
  induction d with
  | zero =>
    intro i hi hd
    obtain rfl : i = l.length := by omega
    refine Ev.succ ?_
    simp only [eventlog_Follows.l0]
    exact Ev.neg (by omega) (Ev.now _)
  | succ d ih =>
    intro i hi hd
    have hlt : i < l.length := by omega
    have hle := folL_le ht a b i
    have hih := ih (i + 1) (by omega) (by omega)
    have hg : l.getD i [] = l[i] := by rw [List.getD_eq_getElem?_getD, List.getElem?_eq_getElem hlt]; rfl
    rw [folL, hg] at hih
    refine Ev.succ ?_
    simp only [eventlog_Follows.l0]
    refine Ev.pos (by omega) (Ev.pos (by omega) (Ev.pos (by omega) ?_))
    rw [rd_L1_get hlt]
    exact efol_l1 l a b i l[i] (ht _ (List.getElem_mem hlt)) (folL l a b i) (by omega) _ _ (by rw [wrap_succ (by omega)]; exact hih) _ 1 (Nat.le_refl _) rfl
theorem efollows {l : List (List ByteArray)} (h : Few l) (a b : ByteArray) : Ev (fun k => eventlog_Follows.f k l a b) (folL l a b l.length : Int) := efol_l0 l a b h.len (fun t ht => (h.each t ht).1) _ 0 (by omega) rfl
theorem rfol_l1 (l : List (List ByteArray)) (a b : ByteArray) (i : Nat) (hi : i < l.length) (ht : l[i].length ≤ 80) (n : Nat) (hn : n ≤ 100000) (R : Int)
    (hnext : Ev (fun k => petrinetref48_Follows.l0 k l a b ((n + fol l[i] a b l[i].length : Nat) : Int) (wrap64 ((i : Int) + 1))) R) : ∀ (d q : Nat), 1 ≤ q → l[i].length - q = d → Ev (fun k => petrinetref48_Follows.l1 k l a b ((n + fol l[i] a b q : Nat) : Int) (i : Int) (q : Int)) R := by
  intro d
  induction d with
  | zero =>
    intro q h1 hd
    refine Ev.succ ?_
    simp only [petrinetref48_Follows.l1, rd_L1_get hi]
    refine Ev.pos (by omega) (Ev.pos (by omega) (Ev.neg (by omega) ?_))
    obtain ⟨d, rfl⟩ : ∃ d, q = l[i].length + d := ⟨q - l[i].length, by omega⟩
    rw [fol_stop]
    exact hnext
  | succ d ih =>
    intro q h1 hd
    have hq : q < l[i].length := by omega
    have hle := fol_le l[i] a b q
    have hih := ih (q + 1) (by omega) (by omega)
    rw [fol_step h1 hq] at hih
    refine Ev.succ ?_
    simp only [petrinetref48_Follows.l1, rd_L1_get hi]
    rw [wrap_pred h1 (by omega), rdOf_get hq, rdOf_get (show q - 1 < l[i].length by omega), wrap_succ (i := q) (by omega)]
    refine Ev.pos (by omega) (Ev.pos (by omega) (Ev.pos (by omega) (Ev.pos (by omega) (Ev.pos (by omega) ?_))))
    by_cases ha : (l[i][q - 1]'(by omega)).toList = a.toList
    · refine Ev.pos ha (Ev.pos (by omega) ?_)
      by_cases hb : l[i][q].toList = b.toList
      · rw [if_pos ⟨ha, hb⟩] at hih
        rw [wrap_succ (by omega)]
        exact Ev.pos hb hih
      · rw [if_neg (fun h => hb h.2)] at hih
        exact Ev.neg hb hih
    · rw [if_neg (fun h => ha h.1)] at hih
      exact Ev.neg ha hih
theorem rfol_l0 (l : List (List ByteArray)) (a b : ByteArray) (hl : l.length ≤ 80) (ht : ∀ t ∈ l, t.length ≤ 80) : ∀ (d i : Nat), i ≤ l.length → l.length - i = d → Ev (fun k => petrinetref48_Follows.l0 k l a b (folL l a b i : Int) (i : Int)) (folL l a b l.length : Int) := by
  intro d
  induction d with
  | zero =>
    intro i hi hd
    obtain rfl : i = l.length := by omega
    refine Ev.succ ?_
    simp only [petrinetref48_Follows.l0]
    exact Ev.neg (by omega) (Ev.now _)
  | succ d ih =>
    intro i hi hd
    have hlt : i < l.length := by omega
    have hle := folL_le ht a b i
    have hih := ih (i + 1) (by omega) (by omega)
    have hg : l.getD i [] = l[i] := by rw [List.getD_eq_getElem?_getD, List.getElem?_eq_getElem hlt]; rfl
    rw [folL, hg] at hih
    refine Ev.succ ?_
    simp only [petrinetref48_Follows.l0]
    refine Ev.pos (by omega) ?_
    exact rfol_l1 l a b i hlt (ht _ (List.getElem_mem hlt)) (folL l a b i) (by omega) _ (by rw [wrap_succ (by omega)]; exact hih) _ 1 (Nat.le_refl _) rfl
theorem rfollows {l : List (List ByteArray)} (h : Few l) (a b : ByteArray) : Ev (fun k => petrinetref48_Follows.f k l a b) (folL l a b l.length : Int) := rfol_l0 l a b h.len (fun t ht => (h.each t ht).1) _ 0 (by omega) rfl
theorem erelation {l : List (List ByteArray)} (h : Few l) (a b : ByteArray) : Ev (fun k => eventlog_Relation.f k l a b) (relOf (folL l a b l.length : Int) (folL l b a l.length : Int)) :=
  Ev.bind (efollows h a b) (Ev.bind (efollows h b a) (Ev.now _))
theorem rrelation {l : List (List ByteArray)} (h : Few l) (a b : ByteArray) : Ev (fun k => petrinetref48_Relation.f k l a b) (relOf (folL l a b l.length : Int) (folL l b a l.length : Int)) :=
  Ev.bind (rfollows h a b) (Ev.bind (rfollows h b a) (Ev.now _))
end Go.Proofs.Ytejchnmhlcbfcaa.Logs

/- The names of a log: an ascending list. -/
namespace Go.Proofs.Ytejchnmhlcbfcaa.Logs
open Go.RowKit Go.Proofs.Ytejchnmhlcbfcaa.Pr Go.Proofs.Ytejchnmhlcbfcaa.Evs Go.Proofs.YtejchnmhlcbfcaaW.PrintWords Go.Proofs.YtejchnmhlcbfcaaW.PrintLast Go.Proofs.YtejchnmhlcbfcaaW.PrintMore
set_option linter.unusedVariables false
set_option linter.unusedSimpArgs false

/-! ### the order of texts -/
theorem bl_irrefl : ∀ x : List UInt8, Op.bytesLess x x = false
  | [] => rfl
  | a :: x => by
    have h : ¬ a < a := by rw [UInt8.lt_iff_toNat_lt]; omega
    simp [Op.bytesLess, h, bl_irrefl x]
theorem bl_trans : ∀ x y z : List UInt8, Op.bytesLess x y = true → Op.bytesLess y z = true → Op.bytesLess x z = true
  | x, y, [], _, h => by cases y <;> simp [Op.bytesLess] at h
  | x, [], _ :: _, h, _ => by cases x <;> simp [Op.bytesLess] at h
  | [], _ :: _, _ :: _, _, _ => rfl
  | a :: x, b :: y, c :: z, h1, h2 => by
    simp only [Op.bytesLess, Bool.or_eq_true, Bool.and_eq_true, decide_eq_true_eq, beq_iff_eq] at h1 h2 ⊢
    rcases h1 with h1 | ⟨rfl, h1⟩ <;> rcases h2 with h2 | ⟨rfl, h2⟩
    · left; rw [UInt8.lt_iff_toNat_lt] at *; omega
    · exact .inl h1
    · exact .inl h2
    · exact .inr ⟨rfl, bl_trans x y z h1 h2⟩
theorem bl_total : ∀ x y : List UInt8, Op.bytesLess x y = false → Op.bytesLess y x = false → x = y
  | [], [], _, _ => rfl
  | [], _ :: _, h, _ => by simp [Op.bytesLess] at h
  | _ :: _, [], _, h => by simp [Op.bytesLess] at h
  | a :: x, b :: y, h1, h2 => by
    simp only [Op.bytesLess, Bool.or_eq_false_iff, decide_eq_false_iff_not] at h1 h2
    have hab : a = b := by
      rw [← UInt8.toNat_inj]
      have h3 := h1.1; have h4 := h2.1
      rw [UInt8.lt_iff_toNat_lt] at h3 h4
      omega
    subst hab
    have e1 := h1.2; have e2 := h2.2
    simp at e1 e2
    rw [bl_total x y e1 e2]
theorem less_irrefl (a : ByteArray) : lessB a a = false := bl_irrefl _
theorem less_trans {a b c : ByteArray} (h : lessB a b = true) (k : lessB b c = true) : lessB a c = true := bl_trans _ _ _ h k
theorem less_total {a b : ByteArray} (h : lessB a b = false) (k : lessB b a = false) : a = b := (bytes_eq a b).1 (bl_total _ _ h k)

/-! ### insert -/
def ins : List ByteArray → ByteArray → List ByteArray
  | [], s => [s]
  | x :: xs, s => if lessB x s = true then x :: ins xs s else if x = s then x :: xs else s :: x :: xs
theorem insS_eq : ∀ (l : List ByteArray) (s : ByteArray), insS l s = ins l s
  | [], s => by simp [insS, posS, ins]
  | x :: xs, s => by
    have ih := insS_eq xs s
    unfold insS posS at ih ⊢
    unfold ins
    cases h : lessB x s with
    | true =>
      rw [List.takeWhile_cons, if_pos h, List.length_cons, List.getElem?_cons_succ, List.take_succ_cons, List.drop_succ_cons, if_pos rfl]
      rw [← ih]
      split <;> rfl
    | false =>
      have htw : (x :: xs).takeWhile (lessB · s) = [] := by simp [List.takeWhile_cons, h]
      rw [htw]
      simp only [List.length_nil, List.getElem?_cons_zero, Option.map_some, Option.some.injEq, bytes_eq, List.take_zero, List.drop_zero, List.nil_append, Bool.false_eq_true, if_false]
theorem ins_mem : ∀ (l : List ByteArray) (s y : ByteArray), y ∈ ins l s ↔ y = s ∨ y ∈ l
  | [], s, y => by simp [ins]
  | x :: xs, s, y => by
    unfold ins
    split
    · rw [List.mem_cons, ins_mem xs s y, List.mem_cons]
      constructor
      · rintro (h | h | h)
        · exact .inr (.inl h)
        · exact .inl h
        · exact .inr (.inr h)
      · rintro (h | h | h)
        · exact .inr (.inl h)
        · exact .inl h
        · exact .inr (.inr h)
    · split
      · rename_i hx
        subst hx
        simp
      · simp
theorem ins_len : ∀ (l : List ByteArray) (s : ByteArray), (ins l s).length ≤ l.length + 1
  | [], s => by simp [ins]
  | x :: xs, s => by
    have := ins_len xs s
    unfold ins
    split
    · simp only [List.length_cons]; omega
    · split <;> simp
/-- Ascending. -/
def Srt (l : List ByteArray) : Prop := l.Pairwise (fun a b => lessB a b = true)
theorem ins_srt : ∀ (l : List ByteArray) (s : ByteArray), Srt l → Srt (ins l s)
  | [], s, _ => by simp [ins, Srt]
  | x :: xs, s, h => by
    obtain ⟨h1, h2⟩ := List.pairwise_cons.1 h
    unfold ins
    split
    · rename_i hx
      refine List.pairwise_cons.2 ⟨fun y hy => ?_, ins_srt xs s h2⟩
      rcases (ins_mem xs s y).1 hy with rfl | hy
      · exact hx
      · exact h1 y hy
    · rename_i hx
      split
      · exact h
      · rename_i hne
        have hsx : lessB s x = true := by
          cases hs : lessB s x with
          | true => rfl
          | false => exact absurd (less_total (by simpa using hx) hs) hne
        refine List.pairwise_cons.2 ⟨fun y hy => ?_, h⟩
        rcases List.mem_cons.1 hy with rfl | hy
        · exact hsx
        · exact less_trans hsx (h1 y hy)
theorem ins_of_mem : ∀ (l : List ByteArray) (s : ByteArray), Srt l → s ∈ l → ins l s = l
  | [], s, _, h => by simp at h
  | x :: xs, s, h, hm => by
    obtain ⟨h1, h2⟩ := List.pairwise_cons.1 h
    unfold ins
    split
    · rename_i hx
      rcases List.mem_cons.1 hm with rfl | hm
      · rw [less_irrefl] at hx; cases hx
      · rw [ins_of_mem xs s h2 hm]
    · rename_i hx
      split
      · rfl
      · rename_i hne
        rcases List.mem_cons.1 hm with rfl | hm
        · exact absurd rfl hne
        · exact absurd (h1 s hm) hx
/-! ### what the two functions 'insert' tell -/
def hasB (l : List ByteArray) (s : ByteArray) : Bool := l.any (fun x => decide (x = s))
theorem hasB_iff {l : List ByteArray} {s : ByteArray} : hasB l s = true ↔ s ∈ l := by simp [hasB]
theorem hasB_not {l : List ByteArray} {s : ByteArray} (h : ¬ s ∈ l) : hasB l s = false := by cases e : hasB l s with | false => rfl | true => exact absurd (hasB_iff.1 e) h
theorem has_l0 (l : List ByteArray) (s : ByteArray) (hl : l.length < 9223372036854775807) : ∀ (d i : Nat), i ≤ l.length → l.length - i = d → (∀ x ∈ l.take i, ¬ x = s) → Ev (fun k => petrinetref48_Has.l0 k l s (i : Int)) (hasB l s) := by
  intro d
  induction d with
  | zero =>
    intro i hi hd hno
    obtain rfl : i = l.length := by omega
    rw [List.take_length] at hno
    refine Ev.succ ?_
    simp only [petrinetref48_Has.l0]
    rw [hasB_not (fun h => hno s h rfl)]
    exact Ev.neg (by omega) (Ev.now _)
  | succ d ih =>
    intro i hi hd hno
    have hlt : i < l.length := by omega
    refine Ev.succ ?_
    simp only [petrinetref48_Has.l0]
    rw [rdOf_get hlt, wrap_succ (by omega)]
    refine Ev.pos (by omega) (Ev.pos (by omega) ?_)
    by_cases h : l[i] = s
    · rw [hasB_iff.2 (by rw [← h]; exact List.getElem_mem hlt)]
      exact Ev.pos ((bytes_eq _ _).2 h) (Ev.now _)
    · refine Ev.neg (fun e => h ((bytes_eq _ _).1 e)) (ih (i + 1) (by omega) (by omega) (fun x hx => ?_))
      rw [List.take_succ_eq_append_getElem hlt] at hx
      rcases List.mem_append.1 hx with hx | hx
      · exact hno x hx
      · rw [List.mem_singleton.1 hx]; exact h
theorem rhas (l : List ByteArray) (s : ByteArray) (hl : l.length < 9223372036854775807) : Ev (fun k => petrinetref48_Has.f k l s) (hasB l s) := has_l0 l s hl _ 0 (by omega) rfl (by simp)
theorem insert_put (l : List ByteArray) (s : ByteArray) (hl : l.length ≤ 1099511627776) : ∀ (d i : Nat), i ≤ l.length → l.length - i = d → ∀ out : List ByteArray, out.length ≤ i + 1 → Ev (fun k => petrinetref48_Insert.l0 k l s out true (i : Int)) (out ++ l.drop i) := by
  intro d
  induction d with
  | zero =>
    intro i hi hd out ho
    obtain rfl : i = l.length := by omega
    refine Ev.succ ?_
    simp only [petrinetref48_Insert.l0]
    rw [List.drop_length, List.append_nil]
    exact Ev.neg (by omega) (Ev.pos trivial (Ev.now _))
  | succ d ih =>
    intro i hi hd out ho
    have hlt : i < l.length := by omega
    have hih := ih (i + 1) (by omega) (by omega) (out ++ [l[i]]) (by simp; omega)
    rw [List.append_assoc, List.singleton_append, ← List.drop_eq_getElem_cons hlt] at hih
    refine Ev.succ ?_
    simp only [petrinetref48_Insert.l0]
    rw [rdOf_get hlt, wrap_succ (by omega)]
    exact Ev.pos (by omega) (Ev.pos trivial (Ev.pos (by omega) (Ev.pos (by omega) hih)))
theorem insert_l0 (l : List ByteArray) (s : ByteArray) (hl : l.length ≤ 1099511627776) (hs : ¬ s ∈ l) : ∀ (d i : Nat), i ≤ l.length → l.length - i = d → ∀ out : List ByteArray, out.length ≤ i → Ev (fun k => petrinetref48_Insert.l0 k l s out false (i : Int)) (out ++ ins (l.drop i) s) := by
  intro d
  induction d with
  | zero =>
    intro i hi hd out ho
    obtain rfl : i = l.length := by omega
    refine Ev.succ ?_
    simp only [petrinetref48_Insert.l0]
    rw [List.drop_length]
    exact Ev.neg (by omega) (Ev.neg (by decide) (Ev.pos (by omega) (Ev.now _)))
  | succ d ih =>
    intro i hi hd out ho
    have hlt : i < l.length := by omega
    have hne : ¬ l[i] = s := fun e => hs (by rw [← e]; exact List.getElem_mem hlt)
    refine Ev.succ ?_
    simp only [petrinetref48_Insert.l0]
    rw [rdOf_get hlt, wrap_succ (by omega), List.drop_eq_getElem_cons hlt, ins]
    refine Ev.pos (by omega) (Ev.neg (by decide) (Ev.pos (by omega) ?_))
    cases h : lessB l[i] s with
    | true =>
      have h2 : ¬ Op.bytesLess s.toList l[i].toList = true := fun h3 => by
        have := less_trans h (show lessB s l[i] = true from h3)
        rw [less_irrefl] at this; cases this
      have hih := ih (i + 1) (by omega) (by omega) (out ++ [l[i]]) (by simp; omega)
      rw [List.append_assoc, List.singleton_append] at hih
      rw [if_pos rfl]
      exact Ev.neg h2 (Ev.pos (by omega) hih)
    | false =>
      have h2 : Op.bytesLess s.toList l[i].toList = true := by
        cases h3 : Op.bytesLess s.toList l[i].toList with
        | true => rfl
        | false => exact absurd (less_total h h3) hne
      rw [if_neg (by decide), if_neg hne]
      have hp := insert_put l s hl _ (i + 1) (by omega) rfl ((out ++ [s]) ++ [l[i]]) (by simp; omega)
      have e : ((out ++ [s]) ++ [l[i]]) ++ l.drop (i + 1) = out ++ s :: l[i] :: l.drop (i + 1) := by simp
      rw [← e]
      refine Ev.pos h2 (Ev.pos (by omega) ?_)
      simp only [Option.bind_some]
      exact Ev.pos (by simp; omega) hp
theorem rinsert (l : List ByteArray) (s : ByteArray) (hl : l.length ≤ 1099511627776) (hs : Srt l) : Ev (fun k => petrinetref48_Insert.f k l s) (ins l s) := by
  unfold petrinetref48_Insert.f
  refine Ev.bind (rhas l s (by omega)) ?_
  cases e : hasB l s with
  | true => rw [ins_of_mem l s hs (hasB_iff.1 e)]; exact Ev.pos rfl (Ev.now _)
  | false =>
    have h : ¬ s ∈ l := fun h => by rw [hasB_iff.2 h] at e; cases e
    exact Ev.neg (by decide) (insert_l0 l s hl h _ 0 (by omega) rfl [] (by simp))

/-! ### Activities -/
def acts (l : List (List ByteArray)) : List ByteArray := l.foldl (fun o t => t.foldl ins o) []
theorem acts_snoc (l : List (List ByteArray)) (t : List ByteArray) : acts (l ++ [t]) = t.foldl ins (acts l) := by simp [acts]
theorem foldIns_srt : ∀ (t o : List ByteArray), Srt o → Srt (t.foldl ins o)
  | [], o, h => h
  | x :: t, o, h => foldIns_srt t _ (ins_srt o x h)
theorem foldIns_len : ∀ (t o : List ByteArray), (t.foldl ins o).length ≤ o.length + t.length
  | [], o => by simp
  | x :: t, o => by
    have h1 := foldIns_len t (ins o x)
    have h2 := ins_len o x
    rw [List.foldl_cons, List.length_cons]; omega
theorem actsFrom_srt : ∀ (l : List (List ByteArray)) (o : List ByteArray), Srt o → Srt (l.foldl (fun o t => t.foldl ins o) o)
  | [], o, h => h
  | t :: l, o, h => actsFrom_srt l _ (foldIns_srt t o h)
theorem acts_srt (l : List (List ByteArray)) : Srt (acts l) := actsFrom_srt l [] List.Pairwise.nil
/-- A log that is no longer than what a machine reads. -/
structure Small (l : List (List ByteArray)) : Prop where
  len : l.length ≤ 1048576
  total : total l ≤ 1048576
theorem Few.small {l : List (List ByteArray)} (h : Few l) : Small l := ⟨by have := h.len; omega, by have := h.total; omega⟩
theorem total_app_cons (a : List (List ByteArray)) (t : List ByteArray) (b : List (List ByteArray)) : total (a ++ t :: b) = total a + (t.length + total b) := by simp [Logs.total]
theorem total_take_le (l : List (List ByteArray)) (i : Nat) (hi : i < l.length) : total (l.take i) + l[i].length ≤ total l := by
  have h : l = l.take i ++ l[i] :: l.drop (i + 1) := by rw [← List.drop_eq_getElem_cons hi, List.take_append_drop]
  have h2 : total (l.take i ++ l[i] :: l.drop (i + 1)) = total (l.take i) + (l[i].length + total (l.drop (i + 1))) := total_app_cons _ _ _
  have h3 := congrArg Logs.total h
  omega
theorem acts_len (l : List (List ByteArray)) : ∀ i, i ≤ l.length → (acts (l.take i)).length ≤ total (l.take i) := by
  intro i
  induction i with
  | zero => intro _; simp [acts]
  | succ i ih =>
    intro hi
    have hlt : i < l.length := by omega
    have h1 := ih (by omega)
    have h2 := foldIns_len l[i] (acts (l.take i))
    rw [List.take_succ_eq_append_getElem hlt, acts_snoc, total_snoc]; omega
theorem eact_l1 (l : List (List ByteArray)) (i : Nat) (t : List ByteArray) (ht : t.length ≤ 1048576) (o : List ByteArray) (ho : o.length ≤ 1048576) (L : Int) (R : List ByteArray)
    (hnext : Ev (fun k => eventlog_Activities.l0 k (t.foldl ins o) l L (wrap64 ((i : Int) + 1))) R) : ∀ (d q : Nat), q ≤ t.length → t.length - q = d → Ev (fun k => eventlog_Activities.l1 k ((t.take q).foldl ins o) l L (i : Int) t (t.length : Int) (q : Int)) R := by
  intro d
  induction d with
  | zero =>
    intro q hq hd
    obtain rfl : q = t.length := by omega
    refine Ev.succ ?_
    simp only [eventlog_Activities.l1]
    rw [List.take_length]
    exact Ev.neg (by omega) hnext
  | succ d ih =>
    intro q hq hd
    have hlt : q < t.length := by omega
    have hih := ih (q + 1) (by omega) (by omega)
    have hln := foldIns_len (t.take q) o
    rw [List.length_take] at hln
    rw [List.take_succ_eq_append_getElem hlt, List.foldl_append] at hih
    refine Ev.succ ?_
    simp only [eventlog_Activities.l1]
    rw [rdOf_get hlt, wrap_succ (i := q) (by omega), eventlog_insert.f, if_pos (by omega), insS_eq]
    exact Ev.pos (by omega) (Ev.pos (by omega) (Ev.pos (by omega) hih))
theorem eact_l0 {l : List (List ByteArray)} (h : Small l) : ∀ (d i : Nat), i ≤ l.length → l.length - i = d → Ev (fun k => eventlog_Activities.l0 k (acts (l.take i)) l (l.length : Int) (i : Int)) (acts l) := by
  have hl := h.len
  have hT := h.total
  intro d
  induction d with
  | zero =>
    intro i hi hd
    obtain rfl : i = l.length := by omega
    refine Ev.succ ?_
    simp only [eventlog_Activities.l0]
    rw [List.take_length]
    exact Ev.neg (by omega) (Ev.now _)
  | succ d ih =>
    intro i hi hd
    have hlt : i < l.length := by omega
    have hih := ih (i + 1) (by omega) (by omega)
    have h1 := total_take_le l i hlt
    have h2 := acts_len l i (by omega)
    rw [List.take_succ_eq_append_getElem hlt, acts_snoc] at hih
    refine Ev.succ ?_
    simp only [eventlog_Activities.l0]
    rw [rd_L1_get hlt]
    refine Ev.pos (by omega) (Ev.pos (by omega) (Ev.pos (by omega) ?_))
    exact eact_l1 l i l[i] (by omega) (acts (l.take i)) (by omega) _ _ (by rw [wrap_succ (by omega)]; exact hih) _ 0 (by omega) rfl
theorem eacts {l : List (List ByteArray)} (h : Small l) : Ev (fun k => eventlog_Activities.f k l) (acts l) := eact_l0 h _ 0 (by omega) rfl
theorem ract_l1 (l : List (List ByteArray)) (i : Nat) (hi : i < l.length) (ht : l[i].length ≤ 1048576) (o : List ByteArray) (ho : o.length ≤ 1048576) (hs : Srt o) (R : List ByteArray)
    (hnext : Ev (fun k => petrinetref48_Activities.l0 k l (l[i].foldl ins o) (wrap64 ((i : Int) + 1))) R) : ∀ (d q : Nat), q ≤ l[i].length → l[i].length - q = d → Ev (fun k => petrinetref48_Activities.l1 k l ((l[i].take q).foldl ins o) (i : Int) (q : Int)) R := by
  intro d
  induction d with
  | zero =>
    intro q hq hd
    obtain rfl : q = l[i].length := by omega
    refine Ev.succ ?_
    simp only [petrinetref48_Activities.l1, rd_L1_get hi]
    rw [List.take_length]
    exact Ev.pos (by omega) (Ev.pos (by omega) (Ev.neg (by omega) hnext))
  | succ d ih =>
    intro q hq hd
    have hlt : q < l[i].length := by omega
    have hih := ih (q + 1) (by omega) (by omega)
    have hln := foldIns_len (l[i].take q) o
    rw [List.length_take] at hln
    rw [List.take_succ_eq_append_getElem hlt, List.foldl_append] at hih
    refine Ev.succ ?_
    simp only [petrinetref48_Activities.l1, rd_L1_get hi]
    rw [rdOf_get hlt, wrap_succ (i := q) (by omega)]
    exact Ev.pos (by omega) (Ev.pos (by omega) (Ev.pos (by omega) (Ev.pos (by omega) (Ev.bind (rinsert _ _ (by omega) (foldIns_srt _ _ hs)) hih))))
theorem ract_l0 {l : List (List ByteArray)} (h : Small l) : ∀ (d i : Nat), i ≤ l.length → l.length - i = d → Ev (fun k => petrinetref48_Activities.l0 k l (acts (l.take i)) (i : Int)) (acts l) := by
  have hl := h.len
  have hT := h.total
  intro d
  induction d with
  | zero =>
    intro i hi hd
    obtain rfl : i = l.length := by omega
    refine Ev.succ ?_
    simp only [petrinetref48_Activities.l0]
    rw [List.take_length]
    exact Ev.neg (by omega) (Ev.now _)
  | succ d ih =>
    intro i hi hd
    have hlt : i < l.length := by omega
    have hih := ih (i + 1) (by omega) (by omega)
    have h1 := total_take_le l i hlt
    have h2 := acts_len l i (by omega)
    rw [List.take_succ_eq_append_getElem hlt, acts_snoc] at hih
    refine Ev.succ ?_
    simp only [petrinetref48_Activities.l0]
    refine Ev.pos (by omega) ?_
    exact ract_l1 l i hlt (by omega) (acts (l.take i)) (by omega) (acts_srt _) _ (by rw [wrap_succ (by omega)]; exact hih) _ 0 (by omega) rfl
theorem racts {l : List (List ByteArray)} (h : Small l) : Ev (fun k => petrinetref48_Activities.f k l) (acts l) := ract_l0 h _ 0 (by omega) rfl
end Go.Proofs.Ytejchnmhlcbfcaa.Logs

/- The first fault of a log, and the text of a log. -/
namespace Go.Proofs.Ytejchnmhlcbfcaa.Logs
open Go.RowKit Go.Proofs.Ytejchnmhlcbfcaa.Pr Go.Proofs.Ytejchnmhlcbfcaa.Evs Go.Proofs.Ytejchnmhlcbfcaa.Names Go.Proofs.YtejchnmhlcbfcaaW.PrintWords Go.Proofs.YtejchnmhlcbfcaaW.PrintLast Go.Proofs.YtejchnmhlcbfcaaW.PrintMore
set_option linter.unusedVariables false
set_option linter.unusedSimpArgs false

/-! ### Check -/
/-- What a log is that is not large for the statements. -/
structure Big (l : List (List ByteArray)) : Prop where
  len : l.length ≤ 80
  total : total l ≤ 400
  each : ∀ t ∈ l, t.length ≤ 400 ∧ ∀ s ∈ t, s.size ≤ 40
theorem Big.small {l : List (List ByteArray)} (h : Big l) : Small l := ⟨by have := h.len; omega, by have := h.total; omega⟩

def checkGo : List (List ByteArray) → Nat → Int × Int
  | [], _ => (0, 0)
  | t :: ts, i => if 64 < t.length then (2, (i : Int)) else if t.all nameB then checkGo ts (i + 1) else (5, (i : Int))
def checkB (l : List (List ByteArray)) : Int × Int := if 64 < l.length then (2, 0) else checkGo l 0
theorem echeck_l1 (l : List (List ByteArray)) (i : Nat) (t : List ByteArray) (ht : t.length ≤ 400) (L : Int) (R : Int × Int) (hno : t.all nameB = false → R = (5, (i : Int)))
    (hnext : t.all nameB = true → Ev (fun k => eventlog_Check.l0 k l L (wrap64 ((i : Int) + 1))) R) : ∀ (d q : Nat), q ≤ t.length → t.length - q = d → (t.take q).all nameB = true → Ev (fun k => eventlog_Check.l1 k (i : Int) l L (i : Int) t (t.length : Int) (q : Int)) R := by
  intro d
  induction d with
  | zero =>
    intro q hq hd hok
    obtain rfl : q = t.length := by omega
    rw [List.take_length] at hok
    refine Ev.succ ?_
    simp only [eventlog_Check.l1]
    exact Ev.neg (by omega) (hnext hok)
  | succ d ih =>
    intro q hq hd hok
    have hlt : q < t.length := by omega
    refine Ev.succ ?_
    simp only [eventlog_Check.l1]
    refine Ev.pos (by omega) (Ev.pos (by omega) (Ev.pos (by omega) ?_))
    rw [rdOf_get hlt, wrap_succ (i := q) (by omega)]
    simp only [eventlog_Name.f, Option.bind_some]
    cases hn : nameB t[q] with
    | true => exact Ev.pos rfl (ih (q + 1) (by omega) (by omega) (by rw [List.take_succ_eq_append_getElem hlt, List.all_append, hok]; simp [hn]))
    | false =>
      have hall : t.all nameB = false := by rw [List.all_eq_false]; exact ⟨_, List.getElem_mem hlt, by simp [hn]⟩
      rw [hno hall]
      exact Ev.neg (by decide) (Ev.now _)
theorem echeck_l0 (l : List (List ByteArray)) (hl : l.length ≤ 80) (ht : ∀ t ∈ l, t.length ≤ 400) : ∀ (d i : Nat), i ≤ l.length → l.length - i = d → Ev (fun k => eventlog_Check.l0 k l (l.length : Int) (i : Int)) (checkGo (l.drop i) i) := by
  intro d
  induction d with
  | zero =>
    intro i hi hd
    obtain rfl : i = l.length := by omega
    refine Ev.succ ?_
    simp only [eventlog_Check.l0]
    rw [List.drop_length]
    exact Ev.neg (by omega) (Ev.now _)
  | succ d ih =>
    intro i hi hd
    have hlt : i < l.length := by omega
    refine Ev.succ ?_
    simp only [eventlog_Check.l0]
    rw [List.drop_eq_getElem_cons hlt, rd_L1_get hlt, checkGo]
    refine Ev.pos (by omega) (Ev.pos (by omega) (Ev.pos (by omega) ?_))
    by_cases h64 : 64 < l[i].length
    · rw [if_pos h64]; exact Ev.pos (by omega) (Ev.now _)
    · rw [if_neg h64]
      refine Ev.neg (by omega) ?_
      refine echeck_l1 l i l[i] (ht _ (List.getElem_mem hlt)) _ _ (fun h => by rw [h]; rfl) (fun h => ?_) _ 0 (by omega) rfl rfl
      rw [if_pos h, wrap_succ (by omega)]
      exact ih (i + 1) (by omega) (by omega)
theorem echeck {l : List (List ByteArray)} (h : Big l) : Ev (fun k => eventlog_Check.f k l) (checkB l) := by
  unfold eventlog_Check.f checkB
  by_cases h64 : 64 < l.length
  · rw [if_pos h64]; exact Ev.pos (by omega) (Ev.now _)
  · rw [if_neg h64]; exact Ev.neg (by omega) (echeck_l0 l h.len (fun t ht => (h.each t ht).1) _ 0 (by omega) rfl)
theorem rcheck_l1 (l : List (List ByteArray)) (i : Nat) (hi : i < l.length) (ht : l[i].length ≤ 400) (hs : ∀ s ∈ l[i], s.size ≤ 40) (R : Int × Int) (hno : l[i].all nameB = false → R = (5, (i : Int)))
    (hnext : l[i].all nameB = true → Ev (fun k => petrinetref48_Check.l0 k l (wrap64 ((i : Int) + 1))) R) : ∀ (d q : Nat), q ≤ l[i].length → l[i].length - q = d → (l[i].take q).all nameB = true → Ev (fun k => petrinetref48_Check.l1 k l (i : Int) (q : Int)) R := by
  intro d
  induction d with
  | zero =>
    intro q hq hd hok
    obtain rfl : q = l[i].length := by omega
    rw [List.take_length] at hok
    refine Ev.succ ?_
    simp only [petrinetref48_Check.l1, rd_L1_get hi]
    exact Ev.pos (by omega) (Ev.pos (by omega) (Ev.neg (by omega) (hnext hok)))
  | succ d ih =>
    intro q hq hd hok
    have hlt : q < l[i].length := by omega
    refine Ev.succ ?_
    simp only [petrinetref48_Check.l1, rd_L1_get hi]
    refine Ev.pos (by omega) (Ev.pos (by omega) (Ev.pos (by omega) (Ev.pos (by omega) ?_)))
    rw [rdOf_get hlt, wrap_succ (i := q) (by omega)]
    refine Ev.bind (rname l[i][q] (by have := hs _ (List.getElem_mem hlt); omega)) ?_
    cases hn : nameB l[i][q] with
    | true => exact Ev.pos rfl (ih (q + 1) (by omega) (by omega) (by rw [List.take_succ_eq_append_getElem hlt, List.all_append, hok]; simp [hn]))
    | false =>
      have hall : l[i].all nameB = false := by rw [List.all_eq_false]; exact ⟨_, List.getElem_mem hlt, by simp [hn]⟩
      rw [hno hall]
      exact Ev.neg (by decide) (Ev.now _)
theorem rcheck_l0 (l : List (List ByteArray)) (hl : l.length ≤ 80) (ht : ∀ t ∈ l, t.length ≤ 400 ∧ ∀ s ∈ t, s.size ≤ 40) : ∀ (d i : Nat), i ≤ l.length → l.length - i = d → Ev (fun k => petrinetref48_Check.l0 k l (i : Int)) (checkGo (l.drop i) i) := by
  intro d
  induction d with
  | zero =>
    intro i hi hd
    obtain rfl : i = l.length := by omega
    refine Ev.succ ?_
    simp only [petrinetref48_Check.l0]
    rw [List.drop_length]
    exact Ev.neg (by omega) (Ev.now _)
  | succ d ih =>
    intro i hi hd
    have hlt : i < l.length := by omega
    have hti := ht _ (List.getElem_mem hlt)
    refine Ev.succ ?_
    simp only [petrinetref48_Check.l0]
    rw [List.drop_eq_getElem_cons hlt, rd_L1_get hlt, checkGo]
    refine Ev.pos (by omega) (Ev.pos (by omega) ?_)
    by_cases h64 : 64 < l[i].length
    · rw [if_pos h64]; exact Ev.pos (by omega) (Ev.now _)
    · rw [if_neg h64]
      refine Ev.neg (by omega) ?_
      refine rcheck_l1 l i hlt hti.1 hti.2 _ (fun h => by rw [h]; rfl) (fun h => ?_) _ 0 (by omega) rfl rfl
      rw [if_pos h, wrap_succ (by omega)]
      exact ih (i + 1) (by omega) (by omega)
theorem rcheck {l : List (List ByteArray)} (h : Big l) : Ev (fun k => petrinetref48_Check.f k l) (checkB l) := by
  unfold petrinetref48_Check.f checkB
  by_cases h64 : 64 < l.length
  · rw [if_pos h64]; exact Ev.pos (by omega) (Ev.now _)
  · rw [if_neg h64]; exact Ev.neg (by omega) (rcheck_l0 l h.len h.each _ 0 (by omega) rfl)

/-- A log without a fault is few. -/
theorem checkGo_few : ∀ (l : List (List ByteArray)) (i : Nat), (checkGo l i).1 = 0 → ∀ t ∈ l, t.length ≤ 64
  | [], _, _, _, h => by simp at h
  | t :: ts, i, h, x, hx => by
    unfold checkGo at h
    by_cases h64 : 64 < t.length
    · rw [if_pos h64] at h; simp at h
    · rw [if_neg h64] at h
      cases hn : t.all nameB with
      | false => rw [hn] at h; simp at h
      | true =>
        rw [hn] at h
        rcases List.mem_cons.1 hx with rfl | hx
        · omega
        · exact checkGo_few ts (i + 1) h x hx
theorem check_few {l : List (List ByteArray)} (h : Big l) (hc : (checkB l).1 = 0) : Few l := by
  unfold checkB at hc
  by_cases h64 : 64 < l.length
  · rw [if_pos h64] at hc; simp at hc
  · rw [if_neg h64] at hc
    exact ⟨h.len, h.total, fun t ht => ⟨by have := checkGo_few l 0 hc t ht; omega, (h.each t ht).2⟩⟩
end Go.Proofs.Ytejchnmhlcbfcaa.Logs

/- The footprint of a log, as the program and the reference tell it. -/
namespace Go.Proofs.Ytejchnmhlcbfcaa.Feet
open Go.RowKit Go.Proofs.Ytejchnmhlcbfcaa.Pr Go.Proofs.Ytejchnmhlcbfcaa.Evs Go.Proofs.Ytejchnmhlcbfcaa.Logs Go.Proofs.Ytejchnmhlcbfcaa.Names Go.Proofs.YtejchnmhlcbfcaaW.PrintWords Go.Proofs.YtejchnmhlcbfcaaW.PrintLast Go.Proofs.YtejchnmhlcbfcaaW.PrintMore
set_option linter.unusedVariables false
set_option linter.unusedSimpArgs false

theorem rd_get {l : List Int} {i : Nat} (h : i < l.length) : rd l (i : Int) = l[i] := by simp [rd, h]
theorem rd_L {l : List (List Int)} {i : Nat} (h : i < l.length) : rd_L5 l (i : Int) = l[i] := by simp [rd_L5, h]
theorem rsame (xs ys : List Int) (hx : xs.length < 4611686018427387904) : Ev (fun k => petrinetref04_Same.f k xs ys) (decide (xs = ys)) := by
  unfold petrinetref04_Same.f
  by_cases hl : xs.length = ys.length
  · refine Ev.pos (by omega) ?_
    have hk : ∀ dd i, xs.length - i = dd → i ≤ xs.length → (xs.take i = ys.take i) → Ev (fun k => petrinetref04_Same.l0 k xs ys (i : Int)) (decide (xs = ys)) := by
      intro dd
      induction dd with
      | zero =>
        intro i hd hi he
        obtain rfl : i = xs.length := by omega
        refine Ev.succ ?_
        simp only [petrinetref04_Same.l0]
        refine Ev.neg (by omega) (Ev.val ?_)
        rw [List.take_length, hl, List.take_length] at he
        simp [he]
      | succ dd ih =>
        intro i hd hi he
        have h1 : i < xs.length := by omega
        have h2 : i < ys.length := by omega
        refine Ev.succ ?_
        simp only [petrinetref04_Same.l0, rd_get h1, rd_get h2]
        refine Ev.pos (by omega) (Ev.pos (by omega) (Ev.pos (by omega) ?_))
        refine Ev.ite (fun h => ?_) (fun h => Ev.val ?_)
        · rw [wrap_succ (by omega)]
          refine ih (i + 1) (by omega) (by omega) ?_
          rw [List.take_succ_eq_append_getElem h1, List.take_succ_eq_append_getElem h2, he, h]
        · symm; rw [decide_eq_false_iff_not]
          rintro rfl; exact h rfl
    exact hk _ 0 rfl (by omega) (by simp)
  · refine Ev.neg (by omega) (Ev.val ?_)
    symm; rw [decide_eq_false_iff_not]
    rintro rfl; exact hl rfl
theorem rlists (xs ys : List (List Int)) (hx : xs.length < 4611686018427387904) (hxs : ∀ l ∈ xs, l.length < 4611686018427387904) : Ev (fun k => petrinetref04_Lists.f k xs ys) (decide (xs = ys)) := by
  unfold petrinetref04_Lists.f
  by_cases hl : xs.length = ys.length
  · refine Ev.pos (by omega) ?_
    have hk : ∀ dd i, xs.length - i = dd → i ≤ xs.length → (xs.take i = ys.take i) → Ev (fun k => petrinetref04_Lists.l0 k xs ys (i : Int)) (decide (xs = ys)) := by
      intro dd
      induction dd with
      | zero =>
        intro i hd hi he
        obtain rfl : i = xs.length := by omega
        refine Ev.succ ?_
        simp only [petrinetref04_Lists.l0]
        refine Ev.neg (by omega) (Ev.val ?_)
        rw [List.take_length, hl, List.take_length] at he
        simp [he]
      | succ dd ih =>
        intro i hd hi he
        have h1 : i < xs.length := by omega
        have h2 : i < ys.length := by omega
        refine Ev.succ ?_
        simp only [petrinetref04_Lists.l0, rd_L h1, rd_L h2]
        refine Ev.pos (by omega) (Ev.pos (by omega) (Ev.pos (by omega) ?_))
        refine Ev.bind (rsame _ _ (hxs _ (List.getElem_mem h1))) ?_
        refine Ev.ite (fun h => ?_) (fun h => Ev.val ?_)
        · rw [wrap_succ (by omega)]
          refine ih (i + 1) (by omega) (by omega) ?_
          rw [List.take_succ_eq_append_getElem h1, List.take_succ_eq_append_getElem h2, he, of_decide_eq_true h]
        · symm; rw [decide_eq_false_iff_not]
          rintro rfl; exact h (decide_eq_true rfl)
    exact hk _ 0 rfl (by omega) (by simp)
  · refine Ev.neg (by omega) (Ev.val ?_)
    symm; rw [decide_eq_false_iff_not]
    rintro rfl; exact hl rfl

/-! ### Large -/
def LogZ (l : List (List ByteArray)) : Prop := l.length ≤ 8796093022208 ∧ ∀ t ∈ l, t.length ≤ 8796093022208 ∧ ∀ s ∈ t, s.size ≤ 140737488351232
theorem large_l1 (l : List (List ByteArray)) (i : Nat) (hi : i < l.length) (hl : l.length ≤ 70) (hm : l[i].length ≤ 8796093022208) (n : Int) (p : Prop)
    (hnext : ∃ b, Ev (fun k => petrinetref49_Large.l0 k l n ((i + 1 : Nat) : Int)) b ∧ (b = false → p)) : ∀ (d q : Nat), q ≤ l[i].length → l[i].length - q = d → ∃ b, Ev (fun k => petrinetref49_Large.l1 k l n (i : Int) (q : Int)) b ∧ (b = false → (∀ s ∈ l[i].drop q, s.size ≤ 40) ∧ p) := by
  intro d
  induction d with
  | zero =>
    intro q hq hd
    obtain rfl : q = l[i].length := by omega
    obtain ⟨b, hb, hp⟩ := hnext
    refine ⟨b, Ev.succ ?_, fun h => ⟨by rw [List.drop_length]; simp, hp h⟩⟩
    simp only [petrinetref49_Large.l1, rd_L1_get hi]
    refine Ev.pos (by omega) (Ev.pos (by omega) (Ev.neg (by omega) ?_))
    rw [wrap_succ (by omega)]
    exact hb
  | succ d ih =>
    intro q hq hd
    have hlt : q < l[i].length := by omega
    by_cases h40 : (l[i][q].size : Int) > 40
    · refine ⟨true, Ev.succ ?_, fun h => by cases h⟩
      simp only [petrinetref49_Large.l1, rd_L1_get hi, rdOf_get hlt]
      exact Ev.pos (by omega) (Ev.pos (by omega) (Ev.pos (by omega) (Ev.pos (by omega) (Ev.pos h40 (Ev.now _)))))
    · obtain ⟨b, hb, hp⟩ := ih (q + 1) (by omega) (by omega)
      refine ⟨b, Ev.succ ?_, fun h => ⟨fun s hs => ?_, (hp h).2⟩⟩
      · simp only [petrinetref49_Large.l1, rd_L1_get hi, rdOf_get hlt]
        refine Ev.pos (by omega) (Ev.pos (by omega) (Ev.pos (by omega) (Ev.pos (by omega) (Ev.neg h40 ?_))))
        rw [wrap_succ (by omega)]
        exact hb
      · rw [List.drop_eq_getElem_cons hlt] at hs
        rcases List.mem_cons.1 hs with rfl | hs
        · omega
        · exact (hp h).1 s hs
theorem total_le {l : List (List ByteArray)} {t : List ByteArray} (h : t ∈ l) : t.length ≤ Logs.total l := by
  obtain ⟨a, b, rfl⟩ := List.append_of_mem h
  rw [total_app_cons]; omega
theorem large (l : List (List ByteArray)) (hl : LogZ l) : ∃ b, Ev (fun k => petrinetref49_Large.f k l) b ∧ (b = false → Big l) := by
  unfold petrinetref49_Large.f
  by_cases h70 : (l.length : Int) > 70
  · exact ⟨true, Ev.pos h70 (Ev.now _), fun h => by cases h⟩
  · have l0 : ∀ d i, l.length - i = d → i ≤ l.length → Logs.total (l.take i) ≤ i * 8796093022208 → ∃ b, Ev (fun k => petrinetref49_Large.l0 k l (Logs.total (l.take i) : Int) (i : Int)) b ∧ (b = false → (∀ t ∈ l.drop i, ∀ s ∈ t, s.size ≤ 40) ∧ Logs.total l ≤ 400) := by
      intro d
      induction d with
      | zero =>
        intro i hd hi hT
        obtain rfl : i = l.length := by omega
        refine ⟨decide ((Logs.total l : Int) > 400), Ev.succ ?_, fun h => ⟨by rw [List.drop_length]; simp, ?_⟩⟩
        · simp only [petrinetref49_Large.l0]
          rw [List.take_length]
          exact Ev.neg (by omega) (Ev.now _)
        · have := of_decide_eq_false h; omega
      | succ d ih =>
        intro i hd hi hT
        have hlt : i < l.length := by omega
        have hm := (hl.2 _ (List.getElem_mem hlt)).1
        have hsn : Logs.total (l.take (i + 1)) = Logs.total (l.take i) + l[i].length := by rw [List.take_succ_eq_append_getElem hlt, total_snoc]
        have hT2 : Logs.total (l.take (i + 1)) ≤ (i + 1) * 8796093022208 := by rw [hsn, Nat.add_mul, Nat.one_mul]; omega
        obtain ⟨b, hb, hp⟩ := large_l1 l i hlt (by omega) hm (Logs.total (l.take (i + 1)) : Int) _ (ih (i + 1) (by omega) (by omega) hT2) _ 0 (by omega) rfl
        refine ⟨b, Ev.succ ?_, fun h => ⟨fun t ht => ?_, (hp h).2.2⟩⟩
        · simp only [petrinetref49_Large.l0, rd_L1_get hlt]
          have hw : wrap64 ((Logs.total (l.take i) : Int) + (l[i].length : Int)) = (Logs.total (l.take (i + 1)) : Int) := by
            rw [hsn]; unfold wrap64; omega
          rw [hw]
          exact Ev.pos (by omega) (Ev.pos (by omega) hb)
        · rw [List.drop_eq_getElem_cons hlt] at ht
          rcases List.mem_cons.1 ht with rfl | ht
          · exact fun s hs => (hp h).1 s (by rw [List.drop_zero]; exact hs)
          · exact (hp h).2.1 t ht
    obtain ⟨b, hb, hp⟩ := l0 _ 0 rfl (by omega) (by simp [Logs.total])
    refine ⟨b, Ev.neg h70 hb, fun h => ⟨by omega, (hp h).2, fun t ht => ⟨?_, (hp h).1 t ht⟩⟩⟩
    have := total_le ht
    have := (hp h).2
    omega

/-! ### the footprint -/
def relL (l : List (List ByteArray)) (a b : ByteArray) : Int := relOf (folL l a b l.length : Int) (folL l b a l.length : Int)
def rowL (l : List (List ByteArray)) (ns : List ByteArray) (a : ByteArray) : List Int := ns.map (relL l a)
def matL (l : List (List ByteArray)) (ns : List ByteArray) : List (List Int) := ns.map (rowL l ns)
def footB (l : List (List ByteArray)) : List (List Int) × Int :=
  if (checkB l).1 = 0 then (if (acts l).length = 0 then ([], 19) else if 12 < (acts l).length then ([], 2) else (matL l (acts l), 0)) else ([], (checkB l).1)
theorem rowL_len (l : List (List ByteArray)) (ns : List ByteArray) (a : ByteArray) : (rowL l ns a).length = ns.length := by simp [rowL]
theorem rowL_get (l : List (List ByteArray)) (ns : List ByteArray) (a : ByteArray) {j : Nat} (h : j < ns.length) : (rowL l ns a)[j]'(by rw [rowL_len]; exact h) = relL l a ns[j] := by simp [rowL]
theorem set_mid {α : Type} (A : List α) (x y : α) (B : List α) : (A ++ x :: B).set A.length y = A ++ y :: B := by simp
theorem get_mid (A : List (List Int)) (x : List Int) (B : List (List Int)) : rd_L5 (A ++ x :: B) (A.length : Int) = x := by simp [rd_L5]
theorem efoot_l1 {l : List (List ByteArray)} (h : Few l) (ns : List ByteArray) (hn : ns.length ≤ 12) (A B : List (List Int)) (hi : A.length < ns.length) (R : List (List Int) × Int)
    (hnext : Ev (fun k => discover_Footprint.l0 k l ns (A ++ rowL l ns ns[A.length] :: B) ns (ns.length : Int) ((A.length + 1 : Nat) : Int)) R) :
    ∀ (d j : Nat), j ≤ ns.length → ns.length - j = d → Ev (fun k => discover_Footprint.l1 k l ns (A ++ (rowL l ns ns[A.length]).take j :: B) (A.length : Int) ns[A.length] ns (ns.length : Int) (A.length : Int) ns (ns.length : Int) (j : Int)) R := by
  intro d
  induction d with
  | zero =>
    intro j hj hd
    obtain rfl : j = ns.length := by omega
    refine Ev.succ ?_
    simp only [discover_Footprint.l1]
    rw [List.take_of_length_le (by rw [rowL_len]; omega), wrap_succ (i := A.length) (by omega)]
    exact Ev.neg (by omega) hnext
  | succ d ih =>
    intro j hj hd
    have hlt : j < ns.length := by omega
    have hrl : j < (rowL l ns ns[A.length]).length := by rw [rowL_len]; exact hlt
    have hih := ih (j + 1) (by omega) (by omega)
    refine Ev.succ ?_
    simp only [discover_Footprint.l1]
    rw [get_mid, rdOf_get hlt, Int.toNat_natCast, wrap_succ (i := j) (by omega)]
    refine Ev.pos (by omega) (Ev.pos (by omega) (Ev.pos (by omega) (Ev.pos (by omega) (Ev.pos (by simp only [List.length_append, List.length_cons]; omega) ?_))))
    refine Ev.bind (erelation h ns[A.length] ns[j]) ?_
    rw [set_mid]
    refine Ev.pos (by rw [List.length_take]; omega) ?_
    rw [List.take_succ_eq_append_getElem hrl, rowL_get l ns _ hlt] at hih
    exact hih
theorem efoot_l0 {l : List (List ByteArray)} (h : Few l) (ns : List ByteArray) (hn : ns.length ≤ 12) :
    ∀ (d i : Nat), i ≤ ns.length → ns.length - i = d → Ev (fun k => discover_Footprint.l0 k l ns ((matL l ns).take i ++ List.replicate (ns.length - i) []) ns (ns.length : Int) (i : Int)) (matL l ns, 0) := by
  intro d
  induction d with
  | zero =>
    intro i hi hd
    obtain rfl : i = ns.length := by omega
    refine Ev.succ ?_
    simp only [discover_Footprint.l0]
    rw [Nat.sub_self, List.replicate_zero, List.append_nil, List.take_of_length_le (by simp [matL])]
    exact Ev.neg (by omega) (Ev.now _)
  | succ d ih =>
    intro i hi hd
    have hlt : i < ns.length := by omega
    have hml : i < (matL l ns).length := by simp [matL]; exact hlt
    have hA : ((matL l ns).take i).length = i := by rw [List.length_take]; omega
    have hih := ih (i + 1) (by omega) (by omega)
    refine Ev.succ ?_
    simp only [discover_Footprint.l0]
    rw [rdOf_get hlt]
    refine Ev.pos (by omega) (Ev.pos (by omega) (Ev.pos (by omega) ?_))
    have hg : (matL l ns)[i] = rowL l ns ns[i] := by simp [matL]
    rw [List.take_succ_eq_append_getElem hml, hg, List.append_assoc, List.singleton_append] at hih
    have hrep : List.replicate (ns.length - i) ([] : List Int) = [] :: List.replicate (ns.length - (i + 1)) [] := by
      rw [show ns.length - i = (ns.length - (i + 1)) + 1 by omega, List.replicate_succ]
    rw [hrep]
    have := efoot_l1 h ns hn ((matL l ns).take i) (List.replicate (ns.length - (i + 1)) []) (by rw [hA]; exact hlt) (matL l ns, 0)
    simp only [hA] at this
    exact this hih _ 0 (by omega) rfl
theorem efoot {l : List (List ByteArray)} (h : Big l) : Ev (fun k => discover_Footprint.f k l) (footB l) := by
  have hT := h.total
  unfold discover_Footprint.f footB
  refine Ev.bind (echeck h) ?_
  by_cases hc : (checkB l).1 = 0
  · rw [if_pos hc]
    refine Ev.pos hc (Ev.bind (eacts h.small) ?_)
    by_cases h0 : (acts l).length = 0
    · rw [if_pos h0]; exact Ev.pos (by omega) (Ev.now _)
    · rw [if_neg h0]
      refine Ev.neg (by omega) ?_
      by_cases h12 : 12 < (acts l).length
      · rw [if_pos h12]; exact Ev.pos (by omega) (Ev.now _)
      · rw [if_neg h12]
        refine Ev.neg (by omega) (Ev.pos (by omega) (Ev.pos (by rw [Int.toNat_natCast]; omega) ?_))
        have := efoot_l0 (check_few h hc) (acts l) (by omega) _ 0 (by omega) rfl
        rw [Int.toNat_natCast]
        simpa using this
  · rw [if_neg hc]
    exact Ev.neg hc (Ev.now _)
theorem rfoot_l1 {l : List (List ByteArray)} (h : Few l) (ns : List ByteArray) (hn : ns.length ≤ 12) (A : List (List Int)) (hi : A.length < ns.length) (R : List (List Int) × Int)
    (hnext : Ev (fun k => petrinetref49_Footprint.l0 k l ns (A ++ [rowL l ns ns[A.length]]) ((A.length + 1 : Nat) : Int)) R) :
    ∀ (d j : Nat), j ≤ ns.length → ns.length - j = d → Ev (fun k => petrinetref49_Footprint.l1 k l ns A (A.length : Int) ((rowL l ns ns[A.length]).take j) (j : Int)) R := by
  intro d
  induction d with
  | zero =>
    intro j hj hd
    obtain rfl : j = ns.length := by omega
    refine Ev.succ ?_
    simp only [petrinetref49_Footprint.l1]
    rw [List.take_of_length_le (by rw [rowL_len]; omega), wrap_succ (i := A.length) (by omega)]
    exact Ev.neg (by omega) (Ev.pos (by omega) hnext)
  | succ d ih =>
    intro j hj hd
    have hlt : j < ns.length := by omega
    have hrl : j < (rowL l ns ns[A.length]).length := by rw [rowL_len]; exact hlt
    have hih := ih (j + 1) (by omega) (by omega)
    refine Ev.succ ?_
    simp only [petrinetref49_Footprint.l1]
    rw [rdOf_get hlt, rdOf_get hi, wrap_succ (i := j) (by omega)]
    refine Ev.pos (by omega) (Ev.pos (by omega) (Ev.pos (by omega) (Ev.pos (by omega) ?_)))
    refine Ev.bind (rrelation h ns[A.length] ns[j]) (Ev.pos (by rw [List.length_take]; omega) ?_)
    rw [List.take_succ_eq_append_getElem hrl, rowL_get l ns _ hlt] at hih
    exact hih
theorem rfoot_l0 {l : List (List ByteArray)} (h : Few l) (ns : List ByteArray) (hn : ns.length ≤ 12) :
    ∀ (d i : Nat), i ≤ ns.length → ns.length - i = d → Ev (fun k => petrinetref49_Footprint.l0 k l ns ((matL l ns).take i) (i : Int)) (matL l ns, 0) := by
  intro d
  induction d with
  | zero =>
    intro i hi hd
    obtain rfl : i = ns.length := by omega
    refine Ev.succ ?_
    simp only [petrinetref49_Footprint.l0]
    rw [List.take_of_length_le (by simp [matL])]
    exact Ev.neg (by omega) (Ev.now _)
  | succ d ih =>
    intro i hi hd
    have hlt : i < ns.length := by omega
    have hml : i < (matL l ns).length := by simp [matL]; exact hlt
    have hA : ((matL l ns).take i).length = i := by rw [List.length_take]; omega
    have hih := ih (i + 1) (by omega) (by omega)
    refine Ev.succ ?_
    simp only [petrinetref49_Footprint.l0]
    refine Ev.pos (by omega) ?_
    have hg : (matL l ns)[i] = rowL l ns ns[i] := by simp [matL]
    rw [List.take_succ_eq_append_getElem hml, hg] at hih
    have := rfoot_l1 h ns hn ((matL l ns).take i) (by rw [hA]; exact hlt) (matL l ns, 0)
    simp only [hA] at this
    exact this hih _ 0 (by omega) rfl
theorem rfoot {l : List (List ByteArray)} (h : Big l) : Ev (fun k => petrinetref49_Footprint.f k l) (footB l) := by
  have hT := h.total
  unfold petrinetref49_Footprint.f footB
  refine Ev.bind (rcheck h) ?_
  by_cases hc : (checkB l).1 = 0
  · rw [if_pos hc]
    refine Ev.pos hc (Ev.bind (racts h.small) ?_)
    by_cases h0 : (acts l).length = 0
    · rw [if_pos h0]; exact Ev.pos (by omega) (Ev.now _)
    · rw [if_neg h0]
      refine Ev.neg (by omega) ?_
      by_cases h12 : 12 < (acts l).length
      · rw [if_pos h12]; exact Ev.pos (by omega) (Ev.now _)
      · rw [if_neg h12]
        refine Ev.neg (by omega) ?_
        have := rfoot_l0 (check_few h hc) (acts l) (by omega) _ 0 (by omega) rfl
        simpa using this
  · rw [if_neg hc]
    exact Ev.neg hc (Ev.now _)
theorem foot_small (l : List (List ByteArray)) : (footB l).1.length ≤ 12 ∧ ∀ r ∈ (footB l).1, r.length = (footB l).1.length := by
  unfold footB
  split
  · split
    · simp
    · split
      · simp
      · refine ⟨by simp [matL]; omega, fun r hr => ?_⟩
        simp only [matL, List.mem_map] at hr
        obtain ⟨a, _, rfl⟩ := hr
        rw [rowL_len]; simp [matL]
  · simp
theorem foot_len {l : List (List ByteArray)} (h : (footB l).2 = 0) : (footB l).1.length = (acts l).length := by
  unfold footB at h ⊢
  split at h
  · split at h
    · simp at h
    · split at h
      · simp at h
      · rename_i h1 h2 h3
        rw [if_pos h1, if_neg h2, if_neg h3]; simp [matL]
  · rename_i h1; exact absurd h h1
end Go.Proofs.Ytejchnmhlcbfcaa.Feet

/- Whether two logs have the same footprint, as the program and the reference tell it. -/
namespace Go.Proofs.Ytejchnmhlcbfcaa.Feet
open Go.RowKit Go.Proofs.Ytejchnmhlcbfcaa.Pr Go.Proofs.Ytejchnmhlcbfcaa.Evs Go.Proofs.Ytejchnmhlcbfcaa.Logs Go.Proofs.Ytejchnmhlcbfcaa.Names Go.Proofs.YtejchnmhlcbfcaaW.PrintWords Go.Proofs.YtejchnmhlcbfcaaW.PrintLast Go.Proofs.YtejchnmhlcbfcaaW.PrintMore
set_option linter.unusedVariables false
set_option linter.unusedSimpArgs false

/-- The rows of two matrices of one size, compared one by one. -/
theorem esame_l2 (X Y : List (List Int)) (i : Nat) (hX : i < X.length) (hY : i < Y.length) (n : Nat) (hn : n ≤ 12) (h1 : X[i].length = n) (h2 : Y[i].length = n) (L : Int) (R : Bool) (hno : ¬ X[i] = Y[i] → R = false)
    (hnext : X[i] = Y[i] → Ev (fun k => discover_Same.l1 k Y X L (wrap64 ((i : Int) + 1))) R) :
    ∀ (d j : Nat), j ≤ n → n - j = d → X[i].take j = Y[i].take j → Ev (fun k => discover_Same.l2 k Y (i : Int) X L (i : Int) X[i] (X[i].length : Int) (j : Int)) R := by
  intro d
  induction d with
  | zero =>
    intro j hj hd he
    obtain rfl : j = n := by omega
    have e : X[i] = Y[i] := by rw [List.take_of_length_le (by omega), List.take_of_length_le (by omega)] at he; exact he
    refine Ev.succ ?_
    simp only [discover_Same.l2]
    exact Ev.neg (by omega) (hnext e)
  | succ d ih =>
    intro j hj hd he
    have hj1 : j < X[i].length := by omega
    have hj2 : j < Y[i].length := by omega
    refine Ev.succ ?_
    simp only [discover_Same.l2]
    rw [rd_L hY, rd_get hj1, rd_get hj2]
    refine Ev.pos (by omega) (Ev.pos (by omega) (Ev.pos (by omega) (Ev.pos (by omega) (Ev.pos (by omega) (Ev.pos (by omega) ?_)))))
    refine Ev.ite (fun h => ?_) (fun h => Ev.val ?_)
    · rw [wrap_succ (i := j) (by omega)]
      refine ih (j + 1) (by omega) (by omega) ?_
      rw [List.take_succ_eq_append_getElem hj1, List.take_succ_eq_append_getElem hj2, he, h]
    · exact (hno fun e => h (by simp [e])).symm
theorem esame_l1 (X Y : List (List Int)) (n : Nat) (hn : n ≤ 12) (hX : X.length = n) (hY : Y.length = n) (h1 : ∀ r ∈ X, r.length = n) (h2 : ∀ r ∈ Y, r.length = n) :
    ∀ (d i : Nat), i ≤ n → n - i = d → X.take i = Y.take i → Ev (fun k => discover_Same.l1 k Y X (X.length : Int) (i : Int)) (decide (X = Y)) := by
  intro d
  induction d with
  | zero =>
    intro i hi hd he
    obtain rfl : i = n := by omega
    have e : X = Y := by rw [List.take_of_length_le (by omega), List.take_of_length_le (by omega)] at he; exact he
    refine Ev.succ ?_
    simp only [discover_Same.l1]
    rw [decide_eq_true e]
    exact Ev.neg (by omega) (Ev.now _)
  | succ d ih =>
    intro i hi hd he
    have hi1 : i < X.length := by omega
    have hi2 : i < Y.length := by omega
    refine Ev.succ ?_
    simp only [discover_Same.l1]
    rw [rd_L hi1]
    refine Ev.pos (by omega) (Ev.pos (by omega) (Ev.pos (by omega) ?_))
    refine esame_l2 X Y i hi1 hi2 n hn (h1 _ (List.getElem_mem hi1)) (h2 _ (List.getElem_mem hi2)) _ _ (fun h => decide_eq_false fun e => h (by simp [e])) (fun h => ?_) _ 0 (by omega) rfl rfl
    rw [wrap_succ (by omega)]
    refine ih (i + 1) (by omega) (by omega) ?_
    rw [List.take_succ_eq_append_getElem hi1, List.take_succ_eq_append_getElem hi2, he, h]
theorem esame_l0 (X Y : List (List Int)) (n : Nat) (hn : n ≤ 12) (hX : X.length = n) (hY : Y.length = n) (h1 : ∀ r ∈ X, r.length = n) (h2 : ∀ r ∈ Y, r.length = n) (a b : List ByteArray) (ha : a.length = n) (hb : b.length = n) :
    ∀ (d i : Nat), i ≤ n → n - i = d → a.take i = b.take i → Ev (fun k => discover_Same.l0 k X Y b a (a.length : Int) (i : Int)) (decide (a = b ∧ X = Y)) := by
  intro d
  induction d with
  | zero =>
    intro i hi hd he
    obtain rfl : i = n := by omega
    have e : a = b := by rw [List.take_of_length_le (by omega), List.take_of_length_le (by omega)] at he; exact he
    refine Ev.succ ?_
    simp only [discover_Same.l0]
    refine Ev.neg (by omega) ?_
    have := esame_l1 X Y i hn hX hY h1 h2 _ 0 (by omega) rfl rfl
    have e2 : decide (a = b ∧ X = Y) = decide (X = Y) := by simp [e]
    rw [e2]
    exact this
  | succ d ih =>
    intro i hi hd he
    have hi1 : i < a.length := by omega
    have hi2 : i < b.length := by omega
    refine Ev.succ ?_
    simp only [discover_Same.l0]
    rw [rdOf_get hi1, rdOf_get hi2]
    refine Ev.pos (by omega) (Ev.pos (by omega) (Ev.pos (by omega) (Ev.pos (by omega) ?_)))
    refine Ev.ite (fun h => ?_) (fun h => Ev.val ?_)
    · rw [wrap_succ (by omega)]
      refine ih (i + 1) (by omega) (by omega) ?_
      rw [List.take_succ_eq_append_getElem hi1, List.take_succ_eq_append_getElem hi2, he, (bytes_eq _ _).1 h]
    · symm; rw [decide_eq_false_iff_not]
      rintro ⟨e, _⟩
      exact h (by simp [e])
def sameB (a b : List (List ByteArray)) : Bool := decide ((footB a).2 = 0 ∧ (footB b).2 = 0 ∧ acts a = acts b ∧ (footB a).1 = (footB b).1)
theorem esame {a b : List (List ByteArray)} (ha : Big a) (hb : Big b) : Ev (fun k => discover_Same.f k a b) (sameB a b) := by
  unfold discover_Same.f
  have hyes : sameB a b = false → Ev (fun k => discover_Same.j0 k a b (footB a).1 (footB b).1 true) (sameB a b) := by
    intro h
    refine Ev.succ ?_
    simp only [discover_Same.j0]
    rw [h]
    exact Ev.pos trivial (Ev.now _)
  refine Ev.bind (efoot ha) (Ev.bind (efoot hb) ?_)
  by_cases h1 : (footB a).2 = 0
  · refine Ev.pos h1 ?_
    by_cases h2 : (footB b).2 = 0
    · refine Ev.pos h2 ?_
      have l1 := foot_len h1
      have l2 := foot_len h2
      have s1 := foot_small a
      have s2 := foot_small b
      by_cases hl : (footB a).1.length = (footB b).1.length
      · have e : ((footB a).1.length : Int) = ((footB b).1.length : Int) := by omega
        have e' : (((footB a).1.length : Int) != ((footB b).1.length : Int)) = false := by rw [e]; exact bne_self_eq_false _
        rw [e']
        refine Ev.succ ?_
        simp only [discover_Same.j0]
        refine Ev.neg (by decide) (Ev.bind (eacts hb.small) (Ev.bind (eacts ha.small) ?_))
        have := esame_l0 (footB a).1 (footB b).1 (footB a).1.length s1.1 rfl hl.symm s1.2 (fun r hr => (s2.2 r hr).trans hl.symm) (acts a) (acts b) l1.symm (l2.symm.trans hl.symm) _ 0 (by omega) rfl rfl
        have e2 : sameB a b = decide (acts a = acts b ∧ (footB a).1 = (footB b).1) := by unfold sameB; simp [h1, h2]
        rw [e2]
        exact this
      · have e' : (((footB a).1.length : Int) != ((footB b).1.length : Int)) = true := bne_iff_ne.2 (by omega)
        rw [e']
        exact hyes (decide_eq_false (by rintro ⟨_, _, _, e⟩; exact hl (by rw [e])))
    · exact Ev.neg h2 (hyes (decide_eq_false (by rintro ⟨_, e, _, _⟩; exact h2 e)))
  · exact Ev.neg h1 (hyes (decide_eq_false (by rintro ⟨e, _, _, _⟩; exact h1 e)))
theorem rlistsF (a b : List (List ByteArray)) : Ev (fun k => petrinetref04_Lists.f k (footB a).1 (footB b).1) (decide ((footB a).1 = (footB b).1)) :=
  rlists _ _ (by have := (foot_small a).1; omega) (fun r hr => by have := (foot_small a).2 r hr; have := (foot_small a).1; omega)
theorem rsame49 {a b : List (List ByteArray)} (ha : Big a) (hb : Big b) : Ev (fun k => petrinetref49_Same.f k a b) (sameB a b) := by
  unfold petrinetref49_Same.f
  refine Ev.bind (rfoot ha) (Ev.bind (rfoot hb) ?_)
  by_cases h1 : (footB a).2 = 0
  · refine Ev.pos h1 ?_
    by_cases h2 : (footB b).2 = 0
    · refine Ev.pos h2 (Ev.bind (racts ha.small) (Ev.bind (racts hb.small) ?_))
      have l1 := foot_len h1
      have s1 := foot_small a
      refine Ev.bind (rsameS (acts a) (acts b) (by omega)) ?_
      by_cases e : acts a = acts b
      · refine Ev.pos (decide_eq_true e) (Ev.bind (rlistsF a b) (Ev.val ?_))
        unfold sameB; simp [h1, h2, e]
      · refine Ev.neg (by simp [e]) (Ev.val ?_)
        unfold sameB; simp [e]
    · exact Ev.neg h2 (Ev.val (by unfold sameB; simp [h2]))
  · exact Ev.neg h1 (Ev.val (by unfold sameB; simp [h1]))
end Go.Proofs.Ytejchnmhlcbfcaa.Feet

/- The example of the chapter. -/
namespace Go.Proofs.Ytejchnmhlcbfcaa.Feet
open Go.RowKit Go.Proofs.Ytejchnmhlcbfcaa.Pr Go.Proofs.Ytejchnmhlcbfcaa.Evs Go.Proofs.YtejchnmhlcbfcaaW.PrintWords Go.Proofs.YtejchnmhlcbfcaaW.PrintLast Go.Proofs.YtejchnmhlcbfcaaW.PrintMore
set_option maxRecDepth 100000 in
theorem alive_now : petrinetlaw49_exampleHolds.f 60 = some true := by decide +kernel
theorem alive : Ev (fun k => petrinetlaw49_exampleHolds.f k) true := Ev.of petrinetlaw49_exampleHolds.mono alive_now
theorem alive' : Ev (fun k => (petrinetlaw49_exampleHolds.f k).bind fun t => some t) true := Ev.bind alive (Ev.now _)
end Go.Proofs.Ytejchnmhlcbfcaa.Feet

/- For all logs Footprint and Same of package discover return what the reference returns. -/
namespace Go.Proofs.Ytejchnmhlcbfcaa.Pure
open Go.RowKit Go.Proofs.Ytejchnmhlcbfcaa.Pr Go.Proofs.Ytejchnmhlcbfcaa.Evs Go.Proofs.Ytejchnmhlcbfcaa.Logs Go.Proofs.Ytejchnmhlcbfcaa.Feet Go.Proofs.YtejchnmhlcbfcaaW.PrintWords Go.Proofs.YtejchnmhlcbfcaaW.PrintLast Go.Proofs.YtejchnmhlcbfcaaW.PrintMore
set_option linter.unusedVariables false
set_option linter.unusedSimpArgs false

theorem DiscoverFootprints (a b : List (List ByteArray)) (ha : LogZ a) (hb : LogZ b) : ∃ k, petrinetlaw49_DiscoverFootprints.f k a b = some true := by
  apply Ev.rounds
  unfold petrinetlaw49_DiscoverFootprints.f
  have hyes : Ev (fun k => petrinetlaw49_DiscoverFootprints.j0 k a b true) true := by
    refine Ev.succ ?_
    simp only [petrinetlaw49_DiscoverFootprints.j0]
    exact Ev.pos trivial alive'
  obtain ⟨x, hx, hX⟩ := large a ha
  refine Ev.bind hx ?_
  cases x with
  | true => exact Ev.pos rfl hyes
  | false =>
    refine Ev.neg (by decide) ?_
    obtain ⟨y, hy, hY⟩ := large b hb
    refine Ev.bind hy ?_
    cases y with
    | true => exact hyes
    | false =>
      refine Ev.succ ?_
      simp only [petrinetlaw49_DiscoverFootprints.j0]
      refine Ev.neg (by decide) (Ev.bind (efoot (hX rfl)) (Ev.bind (rfoot (hX rfl)) (Ev.bind (rlistsF a a) (Ev.pos (by simp) (Ev.pos rfl ?_)))))
      exact Ev.bind (esame (hX rfl) (hY rfl)) (Ev.bind (rsame49 (hX rfl) (hY rfl)) (Ev.pos (by simp) alive'))

end Go.Proofs.Ytejchnmhlcbfcaa.Pure

