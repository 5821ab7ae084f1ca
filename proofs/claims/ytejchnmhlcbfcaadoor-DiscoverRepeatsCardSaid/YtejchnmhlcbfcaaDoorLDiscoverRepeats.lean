/- For all logs Alpha of package discover returns the same net, or the same error, if the traces are repeated in reverse order; and Same says so. -/
import Derived.Test.YtejchnmhlcbfcaaDoorQDiscoverRepeats0
import Derived.Test.YtejchnmhlcbfcaaDoorQDiscoverRepeats1
import Derived.Test.YtejchnmhlcbfcaaDoorQDiscoverRepeats2
import Derived.Test.YtejchnmhlcbfcaaDoorQDiscoverRepeats3
import Derived.Test.YtejchnmhlcbfcaaDoorQDiscoverRepeats4
import Derived.Test.YtejchnmhlcbfcaaDoorQDiscoverRepeats5
import Derived.Test.YtejchnmhlcbfcaaDoorVDiscoverRepeats
import Derived.Deep.Slices
import Derived.ChangeArms
import Derived.SizedLaws
import Derived.Test.YtejchnmhlcbfcaaDoorBDiscoverRepeats
import Derived.Test.YtejchnmhlcbfcaaDoorRows
import GoSem.ClaimSeven
import Derived.LaidByTextLater
import Derived.SevenTiedAt
import Derived.LaidSub
import Derived.LaidOnce
/- A datum that is read deep, within the reach of a machine: rows of rows and texts that fit into its memory. -/
namespace Go.Proofs.YtejchnmhlcbfcaaDoor.Reach
set_option linter.unusedVariables false
open Go.RowKit Go.WideShapes Go.Deep Go.Proofs.YtejchnmhlcbfcaaDoorW.PrintWords

/-- What the statements' reader finds at cells of type t, in a datum within reach, is what d tells of some a with ok. -/
structure OpensZ {α H : Type} (enc : TypeId × Value → H) (P : Program) (w : World) (base : Nat) (spare : Nat → Bool) (held : Bool) (d : Kd α) (t : TypeId) (ok : α → Prop) : Prop where
 cells : P.cellsOf t = d.sz
 opens : ∀ (fuel : Nat) (cs : List Value) (x : DataW H × List MemPlace), DataW.trod enc P w base spare held fuel t cs = some x → (∀ n ∈ x.1.weights P t, n ≤ reachBytes) → ∃ a, d.K w a cs ∧ ok a

section
variable {H : Type} {enc : TypeId × Value → H} {P : Program} {w : World} {base : Nat} {spare : Nat → Bool} {held : Bool}
theorem string {t : TypeId} (ht : P.underlying t = some .string) (hc : P.cellsOf t = 1) : OpensZ enc P w base spare held Kd.string t (fun s => s.size ≤ 140737488351232) :=
 ⟨hc, fun fuel cs x h hz => by
  obtain ⟨s, rfl, rfl, hs⟩ := DataW.trod_string ht h
  exact ⟨s, rfl, by
   have h1 := hz _ (List.mem_singleton.2 rfl)
   rw [Array.length_toList] at h1
   exact h1⟩⟩
theorem list_of {α : Type} {p : Nat → α → Prop} : ∀ (n : Nat), (∀ i, i < n → ∃ a, p i a) → ∃ xs : List α, xs.length = n ∧ ∀ i a, xs[i]? = some a → p i a
 | 0, _ => ⟨[], rfl, fun i a h => by simp at h⟩
 | n + 1, h => by
  obtain ⟨xs, hl, hx⟩ := list_of n (fun i hi => h i (by omega))
  obtain ⟨a, ha⟩ := h n (by omega)
  refine ⟨xs ++ [a], by simp [hl], fun i b hb => ?_⟩
  by_cases hi : i < xs.length
  ·rw [List.getElem?_append_left hi] at hb; exact hx i b hb
  ·have hlt := (List.getElem?_eq_some_iff.1 hb).1
   simp only [List.length_append, List.length_cons, List.length_nil] at hlt
   obtain rfl : i = n := by omega
   rw [List.getElem?_append_right (by omega)] at hb
   simp [hl] at hb
   rw [← hb]; exact ha
theorem weightsAll_mem {e : TypeId} : ∀ (l : List (DataW H)) (d : DataW H), d ∈ l → ∀ n ∈ d.weights P e, n ∈ DataW.weightsAll P e l
 | [], _, h, _, _ => by simp at h
 | x :: r, d, h, n, hn => by
  rw [DataW.weightsAll]
  rcases List.mem_cons.1 h with rfl | h
  ·exact List.mem_append_left _ hn
  ·exact List.mem_append_right _ (weightsAll_mem r d h n hn)
theorem slice {α : Type} {d : Kd α} {t e : TypeId} {ok : α → Prop} (h : OpensZ enc P w base spare held d e ok) (ht : P.underlying t = some (.slice e)) (hc : P.cellsOf t = 1) (hb : 16 ≤ P.bytesOf e) :
  OpensZ enc P w base spare held (Kd.slice e d) t (fun xs => xs.length ≤ 8796093022208 ∧ ∀ x ∈ xs, ok x) := by
 refine ⟨hc, fun fuel cs x hx hz => ?_⟩
 rcases open_slice ht hx with ⟨rfl, _⟩ | ⟨a, len, cap, m, n, D, Pl, rfl, _, hl, hm, hmm, rfl, hi⟩
 ·exact ⟨[], ⟨none, 0, rfl, Nat.le_refl _, Kd.C_nil _ _⟩, by simp, by simp⟩
 ·have hlm : len ≤ m := by rw [hmm]; split <;> omega
  simp only [DataW.weights, ht] at hz
  have hlen : len ≤ 8796093022208 := by
   have h1 := hz _ List.mem_cons_self
   have h2 : (((List.range len).map D).length + ((List.range (m - len)).map fun j => D (len + j)).length) * 16 ≤ reachBytes := Nat.le_trans (Nat.mul_le_mul_left _ hb) h1
   simp only [List.length_map, List.length_range] at h2
   unfold reachBytes at h2
   omega
  obtain ⟨xs, hxl, hxs⟩ := list_of (p := fun i b => ∃ c, c.length = d.sz ∧ d.K w b c ∧ ok b ∧ ∀ j u, c[j]? = some u → w.cell? (a.add (i * d.sz + j)) = some u) len (fun i hlt => by
   obtain ⟨cs', h1, h2⟩ := hi i (by omega)
   obtain ⟨b, hK, hok⟩ := h.opens _ _ _ h2 (fun n hn => hz n (List.mem_cons_of_mem _ (List.mem_append_left _ (weightsAll_mem _ (D i) (List.mem_map.2 ⟨i, by simpa using hlt, rfl⟩) n hn))))
   obtain ⟨_, hlen, hcell⟩ := World.cells?_some h1
   refine ⟨b, cs', by rw [hlen, h.cells], hK, hok, fun j u hu => ?_⟩
   have hj := (List.getElem?_eq_some_iff.1 hu).1
   rw [← hu, ← hcell j (by omega), h.cells, Addr.add_add])
  subst hxl
  refine ⟨xs, ⟨some a, cap, rfl, hl, rfl, by unfold maxLen at hm; omega, fun _ => ⟨a, rfl, fun j p hp => ?_⟩⟩, hlen, fun y hy => ?_⟩
  ·obtain ⟨c, h1, h2, _, h4⟩ := hxs j p hp
   exact ⟨c, h1, h2, h4⟩
  ·obtain ⟨j, hj⟩ := List.mem_iff_getElem?.1 hy
   obtain ⟨c, _, _, h3, _⟩ := hxs j y hj
   exact h3
/-- A parameter that is a row. -/
theorem param {α : Type} {d : Kd α} {t e : TypeId} {ok : α → Prop} (h : OpensZ enc P w base spare held d e ok) (ht : P.underlying t = some (.slice e)) (hc : P.cellsOf t = 1) (hb : 16 ≤ P.bytesOf e) {a : Option Addr} {len cap : Nat} {D : DataW H} {ps : List MemPlace}
  (hd : DataW.Trod enc P w base spare held t (.slice a len cap) D ps) (hz : ∀ n ∈ D.weights P t, n ≤ reachBytes) : ∃ xs : List α, len = xs.length ∧ xs.length ≤ cap ∧ d.C w a xs.length xs ∧ xs.length ≤ 8796093022208 ∧ ∀ x ∈ xs, ok x := by
 obtain ⟨fuel, hf⟩ := hd
 obtain ⟨xs, ⟨A, c, he, hcap, hC⟩, hl, hx⟩ := (slice h ht hc hb).opens _ _ _ hf hz
 have he' : [Value.slice a len cap] = [.slice A xs.length c] := he
 simp only [List.cons.injEq, Value.slice.injEq, and_true] at he'
 obtain ⟨rfl, rfl, rfl⟩ := he'
 exact ⟨xs, rfl, hcap, hC, hl, hx⟩
/-- What the sizes tell of one datum of the call. -/
theorem each_sized {ts : List TypeId} {ds : List (DataW H)} (h : (DataW.weightsEach P ts ds).all (· ≤ reachBytes) = true) {j : Nat} {t : TypeId} {d : DataW H} (ht : ts[j]? = some t) (hd : ds[j]? = some d) : ∀ n ∈ d.weights P t, n ≤ reachBytes :=
 fun n hn => by simpa using List.all_eq_true.1 h n (DataW.weights_mem_each ht hd n hn)
end
end Go.Proofs.YtejchnmhlcbfcaaDoor.Reach

/- What the functions of the reference of eventlog answer. -/
namespace Go.Proofs.YtejchnmhlcbfcaaDoor.Logs
open Go.RowKit Go.Proofs.YtejchnmhlcbfcaaDoor.Pr Go.Proofs.YtejchnmhlcbfcaaDoor.Evs Go.Proofs.YtejchnmhlcbfcaaDoor.Parts Go.Proofs.YtejchnmhlcbfcaaDoor.Names Go.Proofs.YtejchnmhlcbfcaaDoorW.PrintWords Go.Proofs.YtejchnmhlcbfcaaDoorW.PrintLast Go.Proofs.YtejchnmhlcbfcaaDoorW.PrintMore
set_option linter.unusedVariables false
set_option linter.unusedSimpArgs false

/-! ### names -/
/-! ### parts and words -/
/-! ### equal lists of lists -/
theorem rd_L1_get {l : List (List ByteArray)} {i : Nat} (h : i < l.length) : rd_L1 l (i : Int) = l[i] := by simp [rd_L1, h]
/-! ### Parse -/
end Go.Proofs.YtejchnmhlcbfcaaDoor.Logs

/- How often one name follows another, and which logs are few. -/
namespace Go.Proofs.YtejchnmhlcbfcaaDoor.Logs
open Go.RowKit Go.Proofs.YtejchnmhlcbfcaaDoor.Pr Go.Proofs.YtejchnmhlcbfcaaDoor.Evs Go.Proofs.YtejchnmhlcbfcaaDoorW.PrintWords Go.Proofs.YtejchnmhlcbfcaaDoorW.PrintLast Go.Proofs.YtejchnmhlcbfcaaDoorW.PrintMore
set_option linter.unusedVariables false
set_option linter.unusedSimpArgs false

/-! ### few -/
def total (l : List (List ByteArray)) : Nat := (l.map List.length).sum
structure Few (l : List (List ByteArray)) : Prop where
 len : l.length ≤ 80
 total : total l ≤ 800
 each : ∀ t ∈ l, t.length ≤ 80 ∧ ∀ s ∈ t, s.size ≤ 40
theorem total_snoc (l : List (List ByteArray)) (t : List ByteArray) : total (l ++ [t]) = total l + t.length := by simp [Logs.total]
/-! ### Follows -/
/-- How often b comes directly after a in front of place j. -/
def fol (t : List ByteArray) (a b : ByteArray) : Nat → Nat
 | 0 => 0
 | j + 1 => fol t a b j + if 1 ≤ j ∧ t[j - 1]? = some a ∧ t[j]? = some b then 1 else 0
theorem fol_le (t : List ByteArray) (a b : ByteArray) : ∀ j, fol t a b j ≤ j
 | 0 => Nat.le_refl _
 | j + 1 => by have := fol_le t a b j; unfold fol; split <;> omega
theorem fol_stop (t : List ByteArray) (a b : ByteArray) : ∀ (d : Nat), fol t a b (t.length + d) = fol t a b t.length
 | 0 => rfl
 | d + 1 => by
  rw [← Nat.add_assoc, fol, fol_stop t a b d, if_neg, Nat.add_zero]
  rintro ⟨_, _, h⟩
  rw [List.getElem?_eq_none (by omega)] at h; cases h
def folL (l : List (List ByteArray)) (a b : ByteArray) : Nat → Nat
 | 0 => 0
 | i + 1 => folL l a b i + fol (l.getD i []) a b (l.getD i []).length
theorem folL_le {l : List (List ByteArray)} (h : ∀ t ∈ l, t.length ≤ 80) (a b : ByteArray) : ∀ i, folL l a b i ≤ 80 * i
 | 0 => by simp [folL]
 | i + 1 => by
  have h1 := folL_le h a b i
  have h2 := fol_le (l.getD i []) a b (l.getD i []).length
  have h3 : (l.getD i []).length ≤ 80 := by
   by_cases hi : i < l.length
   ·rw [List.getD_eq_getElem?_getD, List.getElem?_eq_getElem hi]; exact h _ (List.getElem_mem hi)
   ·rw [List.getD_eq_getElem?_getD, List.getElem?_eq_none (by omega)]; simp
  rw [folL]; omega
theorem fol_step {t : List ByteArray} {a b : ByteArray} {q : Nat} (h1 : 1 ≤ q) (hq : q < t.length) : fol t a b (q + 1) = fol t a b q + if (t[q - 1]'(by omega)).toList = a.toList ∧ t[q].toList = b.toList then 1 else 0 := by
 rw [fol, List.getElem?_eq_getElem hq, List.getElem?_eq_getElem (show q - 1 < t.length by omega)]
 simp only [Option.some.injEq, bytes_eq, h1, true_and]
theorem efol_l1 (l : List (List ByteArray)) (a b : ByteArray) (i : Nat) (t : List ByteArray) (ht : t.length ≤ 80) (n : Nat) (hn : n ≤ 100000) (L : Int) (R : Int)
  (hnext : Ev (fun k => eventlog_Follows.l0 k a b ((n + fol t a b t.length : Nat) : Int) l L (wrap64 ((i : Int) + 1))) R) : ∀ (d q : Nat), 1 ≤ q → t.length - q = d → Ev (fun k => eventlog_Follows.l1 k a b ((n + fol t a b q : Nat) : Int) t (q : Int) l L (i : Int)) R := by
 intro d
 induction d with
 | zero =>
  intro q h1 hd
  refine Ev.succ ?_
  simp only [eventlog_Follows.l1]
  refine Ev.neg (by omega) ?_
  obtain ⟨d, rfl⟩ : ∃ d, q = t.length + d := ⟨q - t.length, by omega⟩
  rw [fol_stop]
  exact hnext
 | succ d ih =>
  intro q h1 hd
  have hq : q < t.length := by omega
  have hle := fol_le t a b q
  have hih := ih (q + 1) (by omega) (by omega)
  rw [fol_step h1 hq] at hih
  refine Ev.succ ?_
  simp only [eventlog_Follows.l1]
  rw [wrap_pred h1 (by omega), rdOf_get hq, rdOf_get (show q - 1 < t.length by omega), wrap_succ (i := q) (by omega)]
  refine Ev.pos (by omega) (Ev.pos (by omega) (Ev.pos (by omega) ?_))
  by_cases ha : (t[q - 1]'(by omega)).toList = a.toList
  ·refine Ev.pos ha (Ev.pos (by omega) ?_)
   by_cases hb : t[q].toList = b.toList
   ·rw [if_pos ⟨ha, hb⟩] at hih
    rw [wrap_succ (by omega)]
    exact Ev.pos hb hih
   ·rw [if_neg (fun h => hb h.2)] at hih
    exact Ev.neg hb hih
  ·rw [if_neg (fun h => ha h.1)] at hih
   exact Ev.neg ha hih
theorem efol_l0 (l : List (List ByteArray)) (a b : ByteArray) (hl : l.length ≤ 80) (ht : ∀ t ∈ l, t.length ≤ 80) : ∀ (d i : Nat), i ≤ l.length → l.length - i = d → Ev (fun k => eventlog_Follows.l0 k a b (folL l a b i : Int) l (l.length : Int) (i : Int)) (folL l a b l.length : Int) := by
 intro d
 induction d with
 | zero =>
  intro i hi hd
  obtain rfl : i = l.length := by omega
  refine Ev.succ ?_
  simp only [eventlog_Follows.l0]
  exact Ev.neg (by omega) (Ev.now _)
 | succ d ih =>
  intro i hi hd
  have hlt : i < l.length := by omega
  have hle := folL_le ht a b i
  have hih := ih (i + 1) (by omega) (by omega)
  have hg : l.getD i [] = l[i] := by rw [List.getD_eq_getElem?_getD, List.getElem?_eq_getElem hlt]; rfl
  rw [folL, hg] at hih
  refine Ev.succ ?_
  simp only [eventlog_Follows.l0]
  refine Ev.pos (by omega) (Ev.pos (by omega) (Ev.pos (by omega) ?_))
  rw [rd_L1_get hlt]
  exact efol_l1 l a b i l[i] (ht _ (List.getElem_mem hlt)) (folL l a b i) (by omega) _ _ (by rw [wrap_succ (by omega)]; exact hih) _ 1 (Nat.le_refl _) rfl
theorem efollows {l : List (List ByteArray)} (h : Few l) (a b : ByteArray) : Ev (fun k => eventlog_Follows.f k l a b) (folL l a b l.length : Int) := efol_l0 l a b h.len (fun t ht => (h.each t ht).1) _ 0 (by omega) rfl
theorem erelation {l : List (List ByteArray)} (h : Few l) (a b : ByteArray) : Ev (fun k => eventlog_Relation.f k l a b) (relOf (folL l a b l.length : Int) (folL l b a l.length : Int)) :=
 Ev.bind (efollows h a b) (Ev.bind (efollows h b a) (Ev.now _))
end Go.Proofs.YtejchnmhlcbfcaaDoor.Logs

/- The names of a log: an ascending list. -/
namespace Go.Proofs.YtejchnmhlcbfcaaDoor.Logs
open Go.RowKit Go.Proofs.YtejchnmhlcbfcaaDoor.Pr Go.Proofs.YtejchnmhlcbfcaaDoor.Evs Go.Proofs.YtejchnmhlcbfcaaDoorW.PrintWords Go.Proofs.YtejchnmhlcbfcaaDoorW.PrintLast Go.Proofs.YtejchnmhlcbfcaaDoorW.PrintMore
set_option linter.unusedVariables false
set_option linter.unusedSimpArgs false

/-! ### the order of texts -/
theorem bl_irrefl : ∀ x : List UInt8, Op.bytesLess x x = false
 | [] => rfl
 | a :: x => by
  have h : ¬ a < a := by rw [UInt8.lt_iff_toNat_lt]; omega
  simp [Op.bytesLess, h, bl_irrefl x]
theorem bl_trans : ∀ x y z : List UInt8, Op.bytesLess x y = true → Op.bytesLess y z = true → Op.bytesLess x z = true
 | x, y, [], _, h => by cases y <;> simp [Op.bytesLess] at h
 | x, [], _ :: _, h, _ => by cases x <;> simp [Op.bytesLess] at h
 | [], _ :: _, _ :: _, _, _ => rfl
 | a :: x, b :: y, c :: z, h1, h2 => by
  simp only [Op.bytesLess, Bool.or_eq_true, Bool.and_eq_true, decide_eq_true_eq, beq_iff_eq] at h1 h2 ⊢
  rcases h1 with h1 | ⟨rfl, h1⟩ <;> rcases h2 with h2 | ⟨rfl, h2⟩
  ·left; rw [UInt8.lt_iff_toNat_lt] at *; omega
  ·exact .inl h1
  ·exact .inl h2
  ·exact .inr ⟨rfl, bl_trans x y z h1 h2⟩
theorem bl_total : ∀ x y : List UInt8, Op.bytesLess x y = false → Op.bytesLess y x = false → x = y
 | [], [], _, _ => rfl
 | [], _ :: _, h, _ => by simp [Op.bytesLess] at h
 | _ :: _, [], _, h => by simp [Op.bytesLess] at h
 | a :: x, b :: y, h1, h2 => by
  simp only [Op.bytesLess, Bool.or_eq_false_iff, decide_eq_false_iff_not] at h1 h2
  have hab : a = b := by
   rw [← UInt8.toNat_inj]
   have h3 := h1.1; have h4 := h2.1
   rw [UInt8.lt_iff_toNat_lt] at h3 h4
   omega
  subst hab
  have e1 := h1.2; have e2 := h2.2
  simp at e1 e2
  rw [bl_total x y e1 e2]
theorem less_irrefl (a : ByteArray) : lessB a a = false := bl_irrefl _
theorem less_trans {a b c : ByteArray} (h : lessB a b = true) (k : lessB b c = true) : lessB a c = true := bl_trans _ _ _ h k
theorem less_total {a b : ByteArray} (h : lessB a b = false) (k : lessB b a = false) : a = b := (bytes_eq a b).1 (bl_total _ _ h k)

/-! ### insert -/
def ins : List ByteArray → ByteArray → List ByteArray
 | [], s => [s]
 | x :: xs, s => if lessB x s = true then x :: ins xs s else if x = s then x :: xs else s :: x :: xs
theorem insS_eq : ∀ (l : List ByteArray) (s : ByteArray), insS l s = ins l s
 | [], s => by simp [insS, posS, ins]
 | x :: xs, s => by
  have ih := insS_eq xs s
  unfold insS posS at ih ⊢
  unfold ins
  cases h : lessB x s with
  | true =>
   rw [List.takeWhile_cons, if_pos h, List.length_cons, List.getElem?_cons_succ, List.take_succ_cons, List.drop_succ_cons, if_pos rfl]
   rw [← ih]
   split <;> rfl
  | false =>
   have htw : (x :: xs).takeWhile (lessB · s) = [] := by simp [List.takeWhile_cons, h]
   rw [htw]
   simp only [List.length_nil, List.getElem?_cons_zero, Option.map_some, Option.some.injEq, bytes_eq, List.take_zero, List.drop_zero, List.nil_append, Bool.false_eq_true, if_false]
theorem ins_mem : ∀ (l : List ByteArray) (s y : ByteArray), y ∈ ins l s ↔ y = s ∨ y ∈ l
 | [], s, y => by simp [ins]
 | x :: xs, s, y => by
  unfold ins
  split
  ·rw [List.mem_cons, ins_mem xs s y, List.mem_cons]
   constructor
   ·rintro (h | h | h)
    ·exact .inr (.inl h)
    ·exact .inl h
    ·exact .inr (.inr h)
   ·rintro (h | h | h)
    ·exact .inr (.inl h)
    ·exact .inl h
    ·exact .inr (.inr h)
  ·split
   ·rename_i hx
    subst hx
    simp
   ·simp
theorem ins_len : ∀ (l : List ByteArray) (s : ByteArray), (ins l s).length ≤ l.length + 1
 | [], s => by simp [ins]
 | x :: xs, s => by
  have := ins_len xs s
  unfold ins
  split
  ·simp only [List.length_cons]; omega
  ·split <;> simp
/-- Ascending. -/
def Srt (l : List ByteArray) : Prop := l.Pairwise (fun a b => lessB a b = true)
theorem ins_srt : ∀ (l : List ByteArray) (s : ByteArray), Srt l → Srt (ins l s)
 | [], s, _ => by simp [ins, Srt]
 | x :: xs, s, h => by
  obtain ⟨h1, h2⟩ := List.pairwise_cons.1 h
  unfold ins
  split
  ·rename_i hx
   refine List.pairwise_cons.2 ⟨fun y hy => ?_, ins_srt xs s h2⟩
   rcases (ins_mem xs s y).1 hy with rfl | hy
   ·exact hx
   ·exact h1 y hy
  ·rename_i hx
   split
   ·exact h
   ·rename_i hne
    have hsx : lessB s x = true := by
     cases hs : lessB s x with
     | true => rfl
     | false => exact absurd (less_total (by simpa using hx) hs) hne
    refine List.pairwise_cons.2 ⟨fun y hy => ?_, h⟩
    rcases List.mem_cons.1 hy with rfl | hy
    ·exact hsx
    ·exact less_trans hsx (h1 y hy)
/-! ### what the two functions 'insert' tell -/
def hasB (l : List ByteArray) (s : ByteArray) : Bool := l.any (fun x => decide (x = s))
theorem hasB_iff {l : List ByteArray} {s : ByteArray} : hasB l s = true ↔ s ∈ l := by simp [hasB]
theorem hasB_not {l : List ByteArray} {s : ByteArray} (h : ¬ s ∈ l) : hasB l s = false := by cases e : hasB l s with | false => rfl | true => exact absurd (hasB_iff.1 e) h
/-! ### Activities -/
def acts (l : List (List ByteArray)) : List ByteArray := l.foldl (fun o t => t.foldl ins o) []
theorem acts_snoc (l : List (List ByteArray)) (t : List ByteArray) : acts (l ++ [t]) = t.foldl ins (acts l) := by simp [acts]
theorem foldIns_srt : ∀ (t o : List ByteArray), Srt o → Srt (t.foldl ins o)
 | [], o, h => h
 | x :: t, o, h => foldIns_srt t _ (ins_srt o x h)
theorem foldIns_len : ∀ (t o : List ByteArray), (t.foldl ins o).length ≤ o.length + t.length
 | [], o => by simp
 | x :: t, o => by
  have h1 := foldIns_len t (ins o x)
  have h2 := ins_len o x
  rw [List.foldl_cons, List.length_cons]; omega
theorem foldIns_mem : ∀ (t o : List ByteArray) (y : ByteArray), y ∈ t.foldl ins o ↔ y ∈ t ∨ y ∈ o
 | [], o, y => by simp
 | x :: t, o, y => by
  rw [List.foldl_cons, foldIns_mem t _ y, ins_mem, List.mem_cons]
  constructor
  ·rintro (h | h | h)
   ·exact .inl (.inr h)
   ·exact .inl (.inl h)
   ·exact .inr h
  ·rintro ((h | h) | h)
   ·exact .inr (.inl h)
   ·exact .inl h
   ·exact .inr (.inr h)
theorem actsFrom_srt : ∀ (l : List (List ByteArray)) (o : List ByteArray), Srt o → Srt (l.foldl (fun o t => t.foldl ins o) o)
 | [], o, h => h
 | t :: l, o, h => actsFrom_srt l _ (foldIns_srt t o h)
theorem acts_srt (l : List (List ByteArray)) : Srt (acts l) := actsFrom_srt l [] List.Pairwise.nil
theorem actsFrom_mem : ∀ (l : List (List ByteArray)) (o : List ByteArray) (y : ByteArray), y ∈ l.foldl (fun o t => t.foldl ins o) o ↔ (∃ t ∈ l, y ∈ t) ∨ y ∈ o
 | [], o, y => by simp
 | t :: l, o, y => by
  rw [List.foldl_cons, actsFrom_mem l _ y, foldIns_mem]
  simp only [List.mem_cons, exists_eq_or_imp, or_assoc]
  constructor
  ·rintro (h | h | h)
   ·exact .inr (.inl h)
   ·exact .inl h
   ·exact .inr (.inr h)
  ·rintro (h | h | h)
   ·exact .inr (.inl h)
   ·exact .inl h
   ·exact .inr (.inr h)
theorem acts_mem (l : List (List ByteArray)) (y : ByteArray) : y ∈ acts l ↔ ∃ t ∈ l, y ∈ t := by rw [acts, actsFrom_mem]; simp
/-- A log that is no longer than what a machine reads. -/
structure Small (l : List (List ByteArray)) : Prop where
 len : l.length ≤ 1048576
 total : total l ≤ 1048576
theorem Few.small {l : List (List ByteArray)} (h : Few l) : Small l := ⟨by have := h.len; omega, by have := h.total; omega⟩
theorem total_app_cons (a : List (List ByteArray)) (t : List ByteArray) (b : List (List ByteArray)) : total (a ++ t :: b) = total a + (t.length + total b) := by simp [Logs.total]
theorem total_take_le (l : List (List ByteArray)) (i : Nat) (hi : i < l.length) : total (l.take i) + l[i].length ≤ total l := by
 have h : l = l.take i ++ l[i] :: l.drop (i + 1) := by rw [← List.drop_eq_getElem_cons hi, List.take_append_drop]
 have h2 : total (l.take i ++ l[i] :: l.drop (i + 1)) = total (l.take i) + (l[i].length + total (l.drop (i + 1))) := total_app_cons _ _ _
 have h3 := congrArg Logs.total h
 omega
theorem acts_len (l : List (List ByteArray)) : ∀ i, i ≤ l.length → (acts (l.take i)).length ≤ total (l.take i) := by
 intro i
 induction i with
 | zero => intro _; simp [acts]
 | succ i ih =>
  intro hi
  have hlt : i < l.length := by omega
  have h1 := ih (by omega)
  have h2 := foldIns_len l[i] (acts (l.take i))
  rw [List.take_succ_eq_append_getElem hlt, acts_snoc, total_snoc]; omega
theorem eact_l1 (l : List (List ByteArray)) (i : Nat) (t : List ByteArray) (ht : t.length ≤ 1048576) (o : List ByteArray) (ho : o.length ≤ 1048576) (L : Int) (R : List ByteArray)
  (hnext : Ev (fun k => eventlog_Activities.l0 k (t.foldl ins o) l L (wrap64 ((i : Int) + 1))) R) : ∀ (d q : Nat), q ≤ t.length → t.length - q = d → Ev (fun k => eventlog_Activities.l1 k ((t.take q).foldl ins o) l L (i : Int) t (t.length : Int) (q : Int)) R := by
 intro d
 induction d with
 | zero =>
  intro q hq hd
  obtain rfl : q = t.length := by omega
  refine Ev.succ ?_
  simp only [eventlog_Activities.l1]
  rw [List.take_length]
  exact Ev.neg (by omega) hnext
 | succ d ih =>
  intro q hq hd
  have hlt : q < t.length := by omega
  have hih := ih (q + 1) (by omega) (by omega)
  have hln := foldIns_len (t.take q) o
  rw [List.length_take] at hln
  rw [List.take_succ_eq_append_getElem hlt, List.foldl_append] at hih
  refine Ev.succ ?_
  simp only [eventlog_Activities.l1]
  rw [rdOf_get hlt, wrap_succ (i := q) (by omega), eventlog_insert.f, if_pos (by omega), insS_eq]
  exact Ev.pos (by omega) (Ev.pos (by omega) (Ev.pos (by omega) hih))
theorem eact_l0 {l : List (List ByteArray)} (h : Small l) : ∀ (d i : Nat), i ≤ l.length → l.length - i = d → Ev (fun k => eventlog_Activities.l0 k (acts (l.take i)) l (l.length : Int) (i : Int)) (acts l) := by
 have hl := h.len
 have hT := h.total
 intro d
 induction d with
 | zero =>
  intro i hi hd
  obtain rfl : i = l.length := by omega
  refine Ev.succ ?_
  simp only [eventlog_Activities.l0]
  rw [List.take_length]
  exact Ev.neg (by omega) (Ev.now _)
 | succ d ih =>
  intro i hi hd
  have hlt : i < l.length := by omega
  have hih := ih (i + 1) (by omega) (by omega)
  have h1 := total_take_le l i hlt
  have h2 := acts_len l i (by omega)
  rw [List.take_succ_eq_append_getElem hlt, acts_snoc] at hih
  refine Ev.succ ?_
  simp only [eventlog_Activities.l0]
  rw [rd_L1_get hlt]
  refine Ev.pos (by omega) (Ev.pos (by omega) (Ev.pos (by omega) ?_))
  exact eact_l1 l i l[i] (by omega) (acts (l.take i)) (by omega) _ _ (by rw [wrap_succ (by omega)]; exact hih) _ 0 (by omega) rfl
theorem eacts {l : List (List ByteArray)} (h : Small l) : Ev (fun k => eventlog_Activities.f k l) (acts l) := eact_l0 h _ 0 (by omega) rfl
end Go.Proofs.YtejchnmhlcbfcaaDoor.Logs

/- The first fault of a log, and the text of a log. -/
namespace Go.Proofs.YtejchnmhlcbfcaaDoor.Logs
open Go.RowKit Go.Proofs.YtejchnmhlcbfcaaDoor.Pr Go.Proofs.YtejchnmhlcbfcaaDoor.Evs Go.Proofs.YtejchnmhlcbfcaaDoor.Names Go.Proofs.YtejchnmhlcbfcaaDoorW.PrintWords Go.Proofs.YtejchnmhlcbfcaaDoorW.PrintLast Go.Proofs.YtejchnmhlcbfcaaDoorW.PrintMore
set_option linter.unusedVariables false
set_option linter.unusedSimpArgs false

/-! ### Check -/
/-- What a log is that is not large for the statements. -/
structure Big (l : List (List ByteArray)) : Prop where
 len : l.length ≤ 80
 total : total l ≤ 800
 each : ∀ t ∈ l, t.length ≤ 400 ∧ ∀ s ∈ t, s.size ≤ 40
theorem Big.small {l : List (List ByteArray)} (h : Big l) : Small l := ⟨by have := h.len; omega, by have := h.total; omega⟩

def checkGo : List (List ByteArray) → Nat → Int × Int
 | [], _ => (0, 0)
 | t :: ts, i => if 64 < t.length then (2, (i : Int)) else if t.all nameB then checkGo ts (i + 1) else (5, (i : Int))
def checkB (l : List (List ByteArray)) : Int × Int := if 64 < l.length then (2, 0) else checkGo l 0
theorem echeck_l1 (l : List (List ByteArray)) (i : Nat) (t : List ByteArray) (ht : t.length ≤ 400) (L : Int) (R : Int × Int) (hno : t.all nameB = false → R = (5, (i : Int)))
  (hnext : t.all nameB = true → Ev (fun k => eventlog_Check.l0 k l L (wrap64 ((i : Int) + 1))) R) : ∀ (d q : Nat), q ≤ t.length → t.length - q = d → (t.take q).all nameB = true → Ev (fun k => eventlog_Check.l1 k (i : Int) l L (i : Int) t (t.length : Int) (q : Int)) R := by
 intro d
 induction d with
 | zero =>
  intro q hq hd hok
  obtain rfl : q = t.length := by omega
  rw [List.take_length] at hok
  refine Ev.succ ?_
  simp only [eventlog_Check.l1]
  exact Ev.neg (by omega) (hnext hok)
 | succ d ih =>
  intro q hq hd hok
  have hlt : q < t.length := by omega
  refine Ev.succ ?_
  simp only [eventlog_Check.l1]
  refine Ev.pos (by omega) (Ev.pos (by omega) (Ev.pos (by omega) ?_))
  rw [rdOf_get hlt, wrap_succ (i := q) (by omega)]
  simp only [eventlog_Name.f, Option.bind_some]
  cases hn : nameB t[q] with
  | true => exact Ev.pos rfl (ih (q + 1) (by omega) (by omega) (by rw [List.take_succ_eq_append_getElem hlt, List.all_append, hok]; simp [hn]))
  | false =>
   have hall : t.all nameB = false := by rw [List.all_eq_false]; exact ⟨_, List.getElem_mem hlt, by simp [hn]⟩
   rw [hno hall]
   exact Ev.neg (by decide) (Ev.now _)
theorem echeck_l0 (l : List (List ByteArray)) (hl : l.length ≤ 80) (ht : ∀ t ∈ l, t.length ≤ 400) : ∀ (d i : Nat), i ≤ l.length → l.length - i = d → Ev (fun k => eventlog_Check.l0 k l (l.length : Int) (i : Int)) (checkGo (l.drop i) i) := by
 intro d
 induction d with
 | zero =>
  intro i hi hd
  obtain rfl : i = l.length := by omega
  refine Ev.succ ?_
  simp only [eventlog_Check.l0]
  rw [List.drop_length]
  exact Ev.neg (by omega) (Ev.now _)
 | succ d ih =>
  intro i hi hd
  have hlt : i < l.length := by omega
  refine Ev.succ ?_
  simp only [eventlog_Check.l0]
  rw [List.drop_eq_getElem_cons hlt, rd_L1_get hlt, checkGo]
  refine Ev.pos (by omega) (Ev.pos (by omega) (Ev.pos (by omega) ?_))
  by_cases h64 : 64 < l[i].length
  ·rw [if_pos h64]; exact Ev.pos (by omega) (Ev.now _)
  ·rw [if_neg h64]
   refine Ev.neg (by omega) ?_
   refine echeck_l1 l i l[i] (ht _ (List.getElem_mem hlt)) _ _ (fun h => by rw [h]; rfl) (fun h => ?_) _ 0 (by omega) rfl rfl
   rw [if_pos h, wrap_succ (by omega)]
   exact ih (i + 1) (by omega) (by omega)
theorem echeck {l : List (List ByteArray)} (h : Big l) : Ev (fun k => eventlog_Check.f k l) (checkB l) := by
 unfold eventlog_Check.f checkB
 by_cases h64 : 64 < l.length
 ·rw [if_pos h64]; exact Ev.pos (by omega) (Ev.now _)
 ·rw [if_neg h64]; exact Ev.neg (by omega) (echeck_l0 l h.len (fun t ht => (h.each t ht).1) _ 0 (by omega) rfl)
/-- A log without a fault is few. -/
theorem checkGo_few : ∀ (l : List (List ByteArray)) (i : Nat), (checkGo l i).1 = 0 → ∀ t ∈ l, t.length ≤ 64
 | [], _, _, _, h => by simp at h
 | t :: ts, i, h, x, hx => by
  unfold checkGo at h
  by_cases h64 : 64 < t.length
  ·rw [if_pos h64] at h; simp at h
  ·rw [if_neg h64] at h
   cases hn : t.all nameB with
   | false => rw [hn] at h; simp at h
   | true =>
    rw [hn] at h
    rcases List.mem_cons.1 hx with rfl | hx
    ·omega
    ·exact checkGo_few ts (i + 1) h x hx
theorem check_few {l : List (List ByteArray)} (h : Big l) (hc : (checkB l).1 = 0) : Few l := by
 unfold checkB at hc
 by_cases h64 : 64 < l.length
 ·rw [if_pos h64] at hc; simp at hc
 ·rw [if_neg h64] at hc
  exact ⟨h.len, h.total, fun t ht => ⟨by have := checkGo_few l 0 hc t ht; omega, (h.each t ht).2⟩⟩
end Go.Proofs.YtejchnmhlcbfcaaDoor.Logs

/- The footprint of a log, as the program and the reference tell it. -/
namespace Go.Proofs.YtejchnmhlcbfcaaDoor.Feet
open Go.RowKit Go.Proofs.YtejchnmhlcbfcaaDoor.Pr Go.Proofs.YtejchnmhlcbfcaaDoor.Evs Go.Proofs.YtejchnmhlcbfcaaDoor.Logs Go.Proofs.YtejchnmhlcbfcaaDoor.Names Go.Proofs.YtejchnmhlcbfcaaDoorW.PrintWords Go.Proofs.YtejchnmhlcbfcaaDoorW.PrintLast Go.Proofs.YtejchnmhlcbfcaaDoorW.PrintMore
set_option linter.unusedVariables false
set_option linter.unusedSimpArgs false

theorem rd_get {l : List Int} {i : Nat} (h : i < l.length) : rd l (i : Int) = l[i] := by simp [rd, h]
theorem rd_L {l : List (List Int)} {i : Nat} (h : i < l.length) : rd_L5 l (i : Int) = l[i] := by simp [rd_L5, h]
/-! ### Large -/
def LogZ (l : List (List ByteArray)) : Prop := l.length ≤ 8796093022208 ∧ ∀ t ∈ l, t.length ≤ 8796093022208 ∧ ∀ s ∈ t, s.size ≤ 140737488351232
theorem large_l1 (l : List (List ByteArray)) (i : Nat) (hi : i < l.length) (hl : l.length ≤ 70) (hm : l[i].length ≤ 8796093022208) (n : Int) (p : Prop)
  (hnext : ∃ b, Ev (fun k => r49_Large.l0 k l n ((i + 1 : Nat) : Int)) b ∧ (b = false → p)) : ∀ (d q : Nat), q ≤ l[i].length → l[i].length - q = d → ∃ b, Ev (fun k => r49_Large.l1 k l n (i : Int) (q : Int)) b ∧ (b = false → (∀ s ∈ l[i].drop q, s.size ≤ 40) ∧ p) := by
 intro d
 induction d with
 | zero =>
  intro q hq hd
  obtain rfl : q = l[i].length := by omega
  obtain ⟨b, hb, hp⟩ := hnext
  refine ⟨b, Ev.succ ?_, fun h => ⟨by rw [List.drop_length]; simp, hp h⟩⟩
  simp only [r49_Large.l1, rd_L1_get hi]
  refine Ev.pos (by omega) (Ev.pos (by omega) (Ev.neg (by omega) ?_))
  rw [wrap_succ (by omega)]
  exact hb
 | succ d ih =>
  intro q hq hd
  have hlt : q < l[i].length := by omega
  by_cases h40 : (l[i][q].size : Int) > 40
  ·refine ⟨true, Ev.succ ?_, fun h => by cases h⟩
   simp only [r49_Large.l1, rd_L1_get hi, rdOf_get hlt]
   exact Ev.pos (by omega) (Ev.pos (by omega) (Ev.pos (by omega) (Ev.pos (by omega) (Ev.pos h40 (Ev.now _)))))
  ·obtain ⟨b, hb, hp⟩ := ih (q + 1) (by omega) (by omega)
   refine ⟨b, Ev.succ ?_, fun h => ⟨fun s hs => ?_, (hp h).2⟩⟩
   ·simp only [r49_Large.l1, rd_L1_get hi, rdOf_get hlt]
    refine Ev.pos (by omega) (Ev.pos (by omega) (Ev.pos (by omega) (Ev.pos (by omega) (Ev.neg h40 ?_))))
    rw [wrap_succ (by omega)]
    exact hb
   ·rw [List.drop_eq_getElem_cons hlt] at hs
    rcases List.mem_cons.1 hs with rfl | hs
    ·omega
    ·exact (hp h).1 s hs
theorem total_le {l : List (List ByteArray)} {t : List ByteArray} (h : t ∈ l) : t.length ≤ Logs.total l := by
 obtain ⟨a, b, rfl⟩ := List.append_of_mem h
 rw [total_app_cons]; omega
theorem large4 (l : List (List ByteArray)) (hl : LogZ l) : ∃ b, Ev (fun k => r49_Large.f k l) b ∧ (b = false → Big l ∧ Logs.total l ≤ 400) := by
 unfold r49_Large.f
 by_cases h70 : (l.length : Int) > 70
 ·exact ⟨true, Ev.pos h70 (Ev.now _), fun h => by cases h⟩
 ·have l0 : ∀ d i, l.length - i = d → i ≤ l.length → Logs.total (l.take i) ≤ i * 8796093022208 → ∃ b, Ev (fun k => r49_Large.l0 k l (Logs.total (l.take i) : Int) (i : Int)) b ∧ (b = false → (∀ t ∈ l.drop i, ∀ s ∈ t, s.size ≤ 40) ∧ Logs.total l ≤ 400) := by
   intro d
   induction d with
   | zero =>
    intro i hd hi hT
    obtain rfl : i = l.length := by omega
    refine ⟨decide ((Logs.total l : Int) > 400), Ev.succ ?_, fun h => ⟨by rw [List.drop_length]; simp, ?_⟩⟩
    ·simp only [r49_Large.l0]
     rw [List.take_length]
     exact Ev.neg (by omega) (Ev.now _)
    ·have := of_decide_eq_false h; omega
   | succ d ih =>
    intro i hd hi hT
    have hlt : i < l.length := by omega
    have hm := (hl.2 _ (List.getElem_mem hlt)).1
    have hsn : Logs.total (l.take (i + 1)) = Logs.total (l.take i) + l[i].length := by rw [List.take_succ_eq_append_getElem hlt, total_snoc]
    have hT2 : Logs.total (l.take (i + 1)) ≤ (i + 1) * 8796093022208 := by rw [hsn, Nat.add_mul, Nat.one_mul]; omega
    obtain ⟨b, hb, hp⟩ := large_l1 l i hlt (by omega) hm (Logs.total (l.take (i + 1)) : Int) _ (ih (i + 1) (by omega) (by omega) hT2) _ 0 (by omega) rfl
    refine ⟨b, Ev.succ ?_, fun h => ⟨fun t ht => ?_, (hp h).2.2⟩⟩
    ·simp only [r49_Large.l0, rd_L1_get hlt]
     have hw : wrap64 ((Logs.total (l.take i) : Int) + (l[i].length : Int)) = (Logs.total (l.take (i + 1)) : Int) := by
      rw [hsn]; unfold wrap64; omega
     rw [hw]
     exact Ev.pos (by omega) (Ev.pos (by omega) hb)
    ·rw [List.drop_eq_getElem_cons hlt] at ht
     rcases List.mem_cons.1 ht with rfl | ht
     ·exact fun s hs => (hp h).1 s (by rw [List.drop_zero]; exact hs)
     ·exact (hp h).2.1 t ht
  obtain ⟨b, hb, hp⟩ := l0 _ 0 rfl (by omega) (by simp [Logs.total])
  refine ⟨b, Ev.neg h70 hb, fun h => ⟨⟨by omega, by have := (hp h).2; omega, fun t ht => ⟨?_, (hp h).1 t ht⟩⟩, (hp h).2⟩⟩
  have := total_le ht
  have := (hp h).2
  omega

theorem large (l : List (List ByteArray)) (hl : LogZ l) : ∃ b, Ev (fun k => r49_Large.f k l) b ∧ (b = false → Big l) := by
 obtain ⟨b, hb, h⟩ := large4 l hl
 exact ⟨b, hb, fun e => (h e).1⟩

/-! ### the footprint -/
def relL (l : List (List ByteArray)) (a b : ByteArray) : Int := relOf (folL l a b l.length : Int) (folL l b a l.length : Int)
def rowL (l : List (List ByteArray)) (ns : List ByteArray) (a : ByteArray) : List Int := ns.map (relL l a)
def matL (l : List (List ByteArray)) (ns : List ByteArray) : List (List Int) := ns.map (rowL l ns)
def footB (l : List (List ByteArray)) : List (List Int) × Int :=
 if (checkB l).1 = 0 then (if (acts l).length = 0 then ([], 19) else if 12 < (acts l).length then ([], 2) else (matL l (acts l), 0)) else ([], (checkB l).1)
theorem rowL_len (l : List (List ByteArray)) (ns : List ByteArray) (a : ByteArray) : (rowL l ns a).length = ns.length := by simp [rowL]
theorem rowL_get (l : List (List ByteArray)) (ns : List ByteArray) (a : ByteArray) {j : Nat} (h : j < ns.length) : (rowL l ns a)[j]'(by rw [rowL_len]; exact h) = relL l a ns[j] := by simp [rowL]
theorem set_mid {α : Type} (A : List α) (x y : α) (B : List α) : (A ++ x :: B).set A.length y = A ++ y :: B := by simp
theorem get_mid (A : List (List Int)) (x : List Int) (B : List (List Int)) : rd_L5 (A ++ x :: B) (A.length : Int) = x := by simp [rd_L5]
theorem efoot_l1 {l : List (List ByteArray)} (h : Few l) (ns : List ByteArray) (hn : ns.length ≤ 12) (A B : List (List Int)) (hi : A.length < ns.length) (R : List (List Int) × Int)
  (hnext : Ev (fun k => discover_Footprint.l0 k l ns (A ++ rowL l ns ns[A.length] :: B) ns (ns.length : Int) ((A.length + 1 : Nat) : Int)) R) :
  ∀ (d j : Nat), j ≤ ns.length → ns.length - j = d → Ev (fun k => discover_Footprint.l1 k l ns (A ++ (rowL l ns ns[A.length]).take j :: B) (A.length : Int) ns[A.length] ns (ns.length : Int) (A.length : Int) ns (ns.length : Int) (j : Int)) R := by
 intro d
 induction d with
 | zero =>
  intro j hj hd
  obtain rfl : j = ns.length := by omega
  refine Ev.succ ?_
  simp only [discover_Footprint.l1]
  rw [List.take_of_length_le (by rw [rowL_len]; omega), wrap_succ (i := A.length) (by omega)]
  exact Ev.neg (by omega) hnext
 | succ d ih =>
  intro j hj hd
  have hlt : j < ns.length := by omega
  have hrl : j < (rowL l ns ns[A.length]).length := by rw [rowL_len]; exact hlt
  have hih := ih (j + 1) (by omega) (by omega)
  refine Ev.succ ?_
  simp only [discover_Footprint.l1]
  rw [get_mid, rdOf_get hlt, Int.toNat_natCast, wrap_succ (i := j) (by omega)]
  refine Ev.pos (by omega) (Ev.pos (by omega) (Ev.pos (by omega) (Ev.pos (by omega) (Ev.pos (by simp only [List.length_append, List.length_cons]; omega) ?_))))
  refine Ev.bind (erelation h ns[A.length] ns[j]) ?_
  rw [set_mid]
  refine Ev.pos (by rw [List.length_take]; omega) ?_
  rw [List.take_succ_eq_append_getElem hrl, rowL_get l ns _ hlt] at hih
  exact hih
theorem efoot_l0 {l : List (List ByteArray)} (h : Few l) (ns : List ByteArray) (hn : ns.length ≤ 12) :
  ∀ (d i : Nat), i ≤ ns.length → ns.length - i = d → Ev (fun k => discover_Footprint.l0 k l ns ((matL l ns).take i ++ List.replicate (ns.length - i) []) ns (ns.length : Int) (i : Int)) (matL l ns, 0) := by
 intro d
 induction d with
 | zero =>
  intro i hi hd
  obtain rfl : i = ns.length := by omega
  refine Ev.succ ?_
  simp only [discover_Footprint.l0]
  rw [Nat.sub_self, List.replicate_zero, List.append_nil, List.take_of_length_le (by simp [matL])]
  exact Ev.neg (by omega) (Ev.now _)
 | succ d ih =>
  intro i hi hd
  have hlt : i < ns.length := by omega
  have hml : i < (matL l ns).length := by simp [matL]; exact hlt
  have hA : ((matL l ns).take i).length = i := by rw [List.length_take]; omega
  have hih := ih (i + 1) (by omega) (by omega)
  refine Ev.succ ?_
  simp only [discover_Footprint.l0]
  rw [rdOf_get hlt]
  refine Ev.pos (by omega) (Ev.pos (by omega) (Ev.pos (by omega) ?_))
  have hg : (matL l ns)[i] = rowL l ns ns[i] := by simp [matL]
  rw [List.take_succ_eq_append_getElem hml, hg, List.append_assoc, List.singleton_append] at hih
  have hrep : List.replicate (ns.length - i) ([] : List Int) = [] :: List.replicate (ns.length - (i + 1)) [] := by
   rw [show ns.length - i = (ns.length - (i + 1)) + 1 by omega, List.replicate_succ]
  rw [hrep]
  have := efoot_l1 h ns hn ((matL l ns).take i) (List.replicate (ns.length - (i + 1)) []) (by rw [hA]; exact hlt) (matL l ns, 0)
  simp only [hA] at this
  exact this hih _ 0 (by omega) rfl
theorem efoot {l : List (List ByteArray)} (h : Big l) : Ev (fun k => discover_Footprint.f k l) (footB l) := by
 have hT := h.total
 unfold discover_Footprint.f footB
 refine Ev.bind (echeck h) ?_
 by_cases hc : (checkB l).1 = 0
 ·rw [if_pos hc]
  refine Ev.pos hc (Ev.bind (eacts h.small) ?_)
  by_cases h0 : (acts l).length = 0
  ·rw [if_pos h0]; exact Ev.pos (by omega) (Ev.now _)
  ·rw [if_neg h0]
   refine Ev.neg (by omega) ?_
   by_cases h12 : 12 < (acts l).length
   ·rw [if_pos h12]; exact Ev.pos (by omega) (Ev.now _)
   ·rw [if_neg h12]
    refine Ev.neg (by omega) (Ev.pos (by omega) (Ev.pos (by rw [Int.toNat_natCast]; omega) ?_))
    have := efoot_l0 (check_few h hc) (acts l) (by omega) _ 0 (by omega) rfl
    rw [Int.toNat_natCast]
    simpa using this
 ·rw [if_neg hc]
  exact Ev.neg hc (Ev.now _)
theorem foot_small (l : List (List ByteArray)) : (footB l).1.length ≤ 12 ∧ ∀ r ∈ (footB l).1, r.length = (footB l).1.length := by
 unfold footB
 split
 ·split
  ·simp
  ·split
   ·simp
   ·refine ⟨by simp [matL]; omega, fun r hr => ?_⟩
    simp only [matL, List.mem_map] at hr
    obtain ⟨a, _, rfl⟩ := hr
    rw [rowL_len]; simp [matL]
 ·simp
theorem foot_len {l : List (List ByteArray)} (h : (footB l).2 = 0) : (footB l).1.length = (acts l).length := by
 unfold footB at h ⊢
 split at h
 ·split at h
  ·simp at h
  ·split at h
   ·simp at h
   ·rename_i h1 h2 h3
    rw [if_pos h1, if_neg h2, if_neg h3]; simp [matL]
 ·rename_i h1; exact absurd h h1
end Go.Proofs.YtejchnmhlcbfcaaDoor.Feet

/- Whether two logs have the same footprint, as the program and the reference tell it. -/
namespace Go.Proofs.YtejchnmhlcbfcaaDoor.Feet
open Go.RowKit Go.Proofs.YtejchnmhlcbfcaaDoor.Pr Go.Proofs.YtejchnmhlcbfcaaDoor.Evs Go.Proofs.YtejchnmhlcbfcaaDoor.Logs Go.Proofs.YtejchnmhlcbfcaaDoor.Names Go.Proofs.YtejchnmhlcbfcaaDoorW.PrintWords Go.Proofs.YtejchnmhlcbfcaaDoorW.PrintLast Go.Proofs.YtejchnmhlcbfcaaDoorW.PrintMore
set_option linter.unusedVariables false
set_option linter.unusedSimpArgs false

/-- The rows of two matrices of one size, compared one by one. -/
theorem esame_l2 (X Y : List (List Int)) (i : Nat) (hX : i < X.length) (hY : i < Y.length) (n : Nat) (hn : n ≤ 12) (h1 : X[i].length = n) (h2 : Y[i].length = n) (L : Int) (R : Bool) (hno : ¬ X[i] = Y[i] → R = false)
  (hnext : X[i] = Y[i] → Ev (fun k => discover_Same.l1 k Y X L (wrap64 ((i : Int) + 1))) R) :
  ∀ (d j : Nat), j ≤ n → n - j = d → X[i].take j = Y[i].take j → Ev (fun k => discover_Same.l2 k Y (i : Int) X L (i : Int) X[i] (X[i].length : Int) (j : Int)) R := by
 intro d
 induction d with
 | zero =>
  intro j hj hd he
  obtain rfl : j = n := by omega
  have e : X[i] = Y[i] := by rw [List.take_of_length_le (by omega), List.take_of_length_le (by omega)] at he; exact he
  refine Ev.succ ?_
  simp only [discover_Same.l2]
  exact Ev.neg (by omega) (hnext e)
 | succ d ih =>
  intro j hj hd he
  have hj1 : j < X[i].length := by omega
  have hj2 : j < Y[i].length := by omega
  refine Ev.succ ?_
  simp only [discover_Same.l2]
  rw [rd_L hY, rd_get hj1, rd_get hj2]
  refine Ev.pos (by omega) (Ev.pos (by omega) (Ev.pos (by omega) (Ev.pos (by omega) (Ev.pos (by omega) (Ev.pos (by omega) ?_)))))
  refine Ev.ite (fun h => ?_) (fun h => Ev.val ?_)
  ·rw [wrap_succ (i := j) (by omega)]
   refine ih (j + 1) (by omega) (by omega) ?_
   rw [List.take_succ_eq_append_getElem hj1, List.take_succ_eq_append_getElem hj2, he, h]
  ·exact (hno fun e => h (by simp [e])).symm
theorem esame_l1 (X Y : List (List Int)) (n : Nat) (hn : n ≤ 12) (hX : X.length = n) (hY : Y.length = n) (h1 : ∀ r ∈ X, r.length = n) (h2 : ∀ r ∈ Y, r.length = n) :
  ∀ (d i : Nat), i ≤ n → n - i = d → X.take i = Y.take i → Ev (fun k => discover_Same.l1 k Y X (X.length : Int) (i : Int)) (decide (X = Y)) := by
 intro d
 induction d with
 | zero =>
  intro i hi hd he
  obtain rfl : i = n := by omega
  have e : X = Y := by rw [List.take_of_length_le (by omega), List.take_of_length_le (by omega)] at he; exact he
  refine Ev.succ ?_
  simp only [discover_Same.l1]
  rw [decide_eq_true e]
  exact Ev.neg (by omega) (Ev.now _)
 | succ d ih =>
  intro i hi hd he
  have hi1 : i < X.length := by omega
  have hi2 : i < Y.length := by omega
  refine Ev.succ ?_
  simp only [discover_Same.l1]
  rw [rd_L hi1]
  refine Ev.pos (by omega) (Ev.pos (by omega) (Ev.pos (by omega) ?_))
  refine esame_l2 X Y i hi1 hi2 n hn (h1 _ (List.getElem_mem hi1)) (h2 _ (List.getElem_mem hi2)) _ _ (fun h => decide_eq_false fun e => h (by simp [e])) (fun h => ?_) _ 0 (by omega) rfl rfl
  rw [wrap_succ (by omega)]
  refine ih (i + 1) (by omega) (by omega) ?_
  rw [List.take_succ_eq_append_getElem hi1, List.take_succ_eq_append_getElem hi2, he, h]
theorem esame_l0 (X Y : List (List Int)) (n : Nat) (hn : n ≤ 12) (hX : X.length = n) (hY : Y.length = n) (h1 : ∀ r ∈ X, r.length = n) (h2 : ∀ r ∈ Y, r.length = n) (a b : List ByteArray) (ha : a.length = n) (hb : b.length = n) :
  ∀ (d i : Nat), i ≤ n → n - i = d → a.take i = b.take i → Ev (fun k => discover_Same.l0 k X Y b a (a.length : Int) (i : Int)) (decide (a = b ∧ X = Y)) := by
 intro d
 induction d with
 | zero =>
  intro i hi hd he
  obtain rfl : i = n := by omega
  have e : a = b := by rw [List.take_of_length_le (by omega), List.take_of_length_le (by omega)] at he; exact he
  refine Ev.succ ?_
  simp only [discover_Same.l0]
  refine Ev.neg (by omega) ?_
  have := esame_l1 X Y i hn hX hY h1 h2 _ 0 (by omega) rfl rfl
  have e2 : decide (a = b ∧ X = Y) = decide (X = Y) := by simp [e]
  rw [e2]
  exact this
 | succ d ih =>
  intro i hi hd he
  have hi1 : i < a.length := by omega
  have hi2 : i < b.length := by omega
  refine Ev.succ ?_
  simp only [discover_Same.l0]
  rw [rdOf_get hi1, rdOf_get hi2]
  refine Ev.pos (by omega) (Ev.pos (by omega) (Ev.pos (by omega) (Ev.pos (by omega) ?_)))
  refine Ev.ite (fun h => ?_) (fun h => Ev.val ?_)
  ·rw [wrap_succ (by omega)]
   refine ih (i + 1) (by omega) (by omega) ?_
   rw [List.take_succ_eq_append_getElem hi1, List.take_succ_eq_append_getElem hi2, he, (bytes_eq _ _).1 h]
  ·symm; rw [decide_eq_false_iff_not]
   rintro ⟨e, _⟩
   exact h (by simp [e])
def sameB (a b : List (List ByteArray)) : Bool := decide ((footB a).2 = 0 ∧ (footB b).2 = 0 ∧ acts a = acts b ∧ (footB a).1 = (footB b).1)
theorem esame {a b : List (List ByteArray)} (ha : Big a) (hb : Big b) : Ev (fun k => discover_Same.f k a b) (sameB a b) := by
 unfold discover_Same.f
 have hyes : sameB a b = false → Ev (fun k => discover_Same.j0 k a b (footB a).1 (footB b).1 true) (sameB a b) := by
  intro h
  refine Ev.succ ?_
  simp only [discover_Same.j0]
  rw [h]
  exact Ev.pos trivial (Ev.now _)
 refine Ev.bind (efoot ha) (Ev.bind (efoot hb) ?_)
 by_cases h1 : (footB a).2 = 0
 ·refine Ev.pos h1 ?_
  by_cases h2 : (footB b).2 = 0
  ·refine Ev.pos h2 ?_
   have l1 := foot_len h1
   have l2 := foot_len h2
   have s1 := foot_small a
   have s2 := foot_small b
   by_cases hl : (footB a).1.length = (footB b).1.length
   ·have e : ((footB a).1.length : Int) = ((footB b).1.length : Int) := by omega
    have e' : (((footB a).1.length : Int) != ((footB b).1.length : Int)) = false := by rw [e]; exact bne_self_eq_false _
    rw [e']
    refine Ev.succ ?_
    simp only [discover_Same.j0]
    refine Ev.neg (by decide) (Ev.bind (eacts hb.small) (Ev.bind (eacts ha.small) ?_))
    have := esame_l0 (footB a).1 (footB b).1 (footB a).1.length s1.1 rfl hl.symm s1.2 (fun r hr => (s2.2 r hr).trans hl.symm) (acts a) (acts b) l1.symm (l2.symm.trans hl.symm) _ 0 (by omega) rfl rfl
    have e2 : sameB a b = decide (acts a = acts b ∧ (footB a).1 = (footB b).1) := by unfold sameB; simp [h1, h2]
    rw [e2]
    exact this
   ·have e' : (((footB a).1.length : Int) != ((footB b).1.length : Int)) = true := bne_iff_ne.2 (by omega)
    rw [e']
    exact hyes (decide_eq_false (by rintro ⟨_, _, _, e⟩; exact hl (by rw [e])))
  ·exact Ev.neg h2 (hyes (decide_eq_false (by rintro ⟨_, e, _, _⟩; exact h2 e)))
 ·exact Ev.neg h1 (hyes (decide_eq_false (by rintro ⟨e, _, _, _⟩; exact h1 e)))
end Go.Proofs.YtejchnmhlcbfcaaDoor.Feet

/- First and last activities of a log, as the program lists them; a log and its reverse. -/
namespace Go.Proofs.YtejchnmhlcbfcaaDoor.Feet
open Go.RowKit Go.Proofs.YtejchnmhlcbfcaaDoor.Pr Go.Proofs.YtejchnmhlcbfcaaDoor.Evs Go.Proofs.YtejchnmhlcbfcaaDoor.Logs Go.Proofs.YtejchnmhlcbfcaaDoor.Names Go.Proofs.YtejchnmhlcbfcaaDoorW.PrintWords Go.Proofs.YtejchnmhlcbfcaaDoorW.PrintLast Go.Proofs.YtejchnmhlcbfcaaDoorW.PrintMore
set_option linter.unusedVariables false
set_option linter.unusedSimpArgs false

theorem pw_eq {α : Type} {R : α → α → Prop} (irr : ∀ x, ¬ R x x) (tr : ∀ a b c, R a b → R b c → R a c) : ∀ (a b : List α), a.Pairwise R → b.Pairwise R → (∀ y, y ∈ a ↔ y ∈ b) → a = b
 | [], [], _, _, _ => rfl
 | [], y :: b, _, _, h => by have := (h y).2 (List.mem_cons_self ..); cases this
 | x :: a, [], _, _, h => by have := (h x).1 (List.mem_cons_self ..); cases this
 | x :: a, y :: b, ha, hb, h => by
  obtain ⟨a1, a2⟩ := List.pairwise_cons.1 ha
  obtain ⟨b1, b2⟩ := List.pairwise_cons.1 hb
  have e : x = y := by
   rcases List.mem_cons.1 ((h x).1 (List.mem_cons_self ..)) with e | e
   ·exact e
   ·rcases List.mem_cons.1 ((h y).2 (List.mem_cons_self ..)) with f | f
    ·exact f.symm
    ·exact absurd (tr _ _ _ (a1 y f) (b1 x e)) (irr x)
  subst e
  rw [pw_eq irr tr a b a2 b2 fun z => ?_]
  constructor
  ·intro hz
   rcases List.mem_cons.1 ((h z).1 (List.mem_cons_of_mem _ hz)) with rfl | g
   ·exact absurd (a1 z hz) (irr z)
   ·exact g
  ·intro hz
   rcases List.mem_cons.1 ((h z).2 (List.mem_cons_of_mem _ hz)) with rfl | g
   ·exact absurd (b1 z hz) (irr z)
   ·exact g
theorem srt_uniq {a b : List ByteArray} (ha : Srt a) (hb : Srt b) (h : ∀ y, y ∈ a ↔ y ∈ b) : a = b :=
 pw_eq (R := fun a b => lessB a b = true) (fun x e => by rw [less_irrefl] at e; cases e) (fun a b c => less_trans) a b ha hb h

/-- The names that g takes out of the traces, in order and once each. -/
def sel (g : List ByteArray → Option ByteArray) (l : List (List ByteArray)) : List ByteArray := (l.filterMap g).foldl ins []
theorem sel_srt (g : List ByteArray → Option ByteArray) (l : List (List ByteArray)) : Srt (sel g l) := foldIns_srt _ _ List.Pairwise.nil
theorem sel_mem (g : List ByteArray → Option ByteArray) (l : List (List ByteArray)) (y : ByteArray) : y ∈ sel g l ↔ ∃ t ∈ l, g t = some y := by
 unfold sel
 rw [foldIns_mem]
 simp
theorem sel_len (g : List ByteArray → Option ByteArray) (l : List (List ByteArray)) : (sel g l).length ≤ l.length := by
 have h1 := foldIns_len (l.filterMap g) []
 have h2 := List.length_filterMap_le g l
 simp at h1
 unfold sel; omega
theorem sel_none {g : List ByteArray → Option ByteArray} {l : List (List ByteArray)} {t : List ByteArray} (h : g t = none) : sel g (l ++ [t]) = sel g l := by
 simp [sel, List.filterMap_append, h]
theorem sel_some {g : List ByteArray → Option ByteArray} {l : List (List ByteArray)} {t : List ByteArray} {x : ByteArray} (h : g t = some x) : sel g (l ++ [t]) = ins (sel g l) x := by
 simp [sel, List.filterMap_append, h]
theorem insert_ev {o : List ByteArray} {s : ByteArray} (h : o.length ≤ 1048576) : eventlog_insert.f o s = some (ins o s) := by
 unfold eventlog_insert.f
 rw [if_pos (by omega), insS_eq]
theorem efirst_l0 {l : List (List ByteArray)} (h : Small l) : ∀ d i, i ≤ l.length → l.length - i = d → Ev (fun k => eventlog_First.l0 k (sel List.head? (l.take i)) l (l.length : Int) (i : Int)) (sel List.head? l) := by
 have hl := h.len
 intro d
 induction d with
 | zero =>
  intro i hi hd
  obtain rfl : i = l.length := by omega
  refine Ev.succ ?_
  simp only [eventlog_First.l0]
  rw [List.take_length]
  exact Ev.neg (by omega) (Ev.now _)
 | succ d ih =>
  intro i hi hd
  have hlt : i < l.length := by omega
  have hih := ih (i + 1) (by omega) (by omega)
  rw [List.take_succ_eq_append_getElem hlt] at hih
  have hsl := sel_len List.head? (l.take i)
  rw [List.length_take] at hsl
  refine Ev.succ ?_
  simp only [eventlog_First.l0, rd_L1_get hlt]
  rw [wrap_succ (i := i) (by omega)]
  refine Ev.pos (by omega) (Ev.pos (by omega) (Ev.pos (by omega) ?_))
  by_cases h0 : 0 < l[i].length
  ·have e : List.head? l[i] = some l[i][0] := by rw [List.head?_eq_getElem?, List.getElem?_eq_getElem h0]
   rw [sel_some e] at hih
   have hr : rdOf ByteArray.empty l[i] 0 = l[i][0] := rdOf_get (i := 0) h0
   refine Ev.pos (by omega) (Ev.pos (by omega) ?_)
   rw [hr, insert_ev (by omega)]
   exact hih
  ·have e : List.head? l[i] = none := by rw [List.head?_eq_getElem?, List.getElem?_eq_none (by omega)]
   rw [sel_none e] at hih
   exact Ev.neg (by omega) hih
theorem efirst {l : List (List ByteArray)} (h : Small l) : Ev (fun k => eventlog_First.f k l) (sel List.head? l) := efirst_l0 h _ 0 (by omega) rfl
theorem elast_l0 {l : List (List ByteArray)} (h : Small l) (ht : ∀ t ∈ l, t.length ≤ 1048576) : ∀ d i, i ≤ l.length → l.length - i = d → Ev (fun k => eventlog_Last.l0 k (sel List.getLast? (l.take i)) l (l.length : Int) (i : Int)) (sel List.getLast? l) := by
 have hl := h.len
 intro d
 induction d with
 | zero =>
  intro i hi hd
  obtain rfl : i = l.length := by omega
  refine Ev.succ ?_
  simp only [eventlog_Last.l0]
  rw [List.take_length]
  exact Ev.neg (by omega) (Ev.now _)
 | succ d ih =>
  intro i hi hd
  have hlt : i < l.length := by omega
  have hti := ht _ (List.getElem_mem hlt)
  have hih := ih (i + 1) (by omega) (by omega)
  rw [List.take_succ_eq_append_getElem hlt] at hih
  have hsl := sel_len List.getLast? (l.take i)
  rw [List.length_take] at hsl
  refine Ev.succ ?_
  simp only [eventlog_Last.l0, rd_L1_get hlt]
  rw [wrap_succ (i := i) (by omega)]
  refine Ev.pos (by omega) (Ev.pos (by omega) (Ev.pos (by omega) ?_))
  by_cases h0 : 0 < l[i].length
  ·have e : List.getLast? l[i] = some (l[i][l[i].length - 1]'(by omega)) := by rw [List.getLast?_eq_getElem?, List.getElem?_eq_getElem (by omega)]
   rw [sel_some e] at hih
   rw [wrap_pred (q := l[i].length) (by omega) (by omega), rdOf_get (show l[i].length - 1 < l[i].length by omega)]
   refine Ev.pos (by omega) (Ev.pos (by omega) (Ev.pos (by omega) ?_))
   rw [insert_ev (by omega)]
   exact hih
  ·have e : List.getLast? l[i] = none := by rw [List.getLast?_eq_getElem?, List.getElem?_eq_none (by omega)]
   rw [sel_none e] at hih
   exact Ev.neg (by omega) hih
theorem elast {l : List (List ByteArray)} (h : Small l) (ht : ∀ t ∈ l, t.length ≤ 1048576) : Ev (fun k => eventlog_Last.f k l) (sel List.getLast? l) := elast_l0 h ht _ 0 (by omega) rfl
theorem eamong_l0 (l : List ByteArray) (s : ByteArray) (hl : l.length ≤ 1048576) : ∀ d i, i ≤ l.length → l.length - i = d → (∀ x ∈ l.take i, x ≠ s) → Ev (fun k => discover_among.l0 k s l (l.length : Int) (i : Int)) (hasB l s) := by
 intro d
 induction d with
 | zero =>
  intro i hi hd hno
  obtain rfl : i = l.length := by omega
  refine Ev.succ ?_
  simp only [discover_among.l0]
  rw [List.take_length] at hno
  exact Ev.neg (by omega) (Ev.val (hasB_not fun h => hno s h rfl).symm)
 | succ d ih =>
  intro i hi hd hno
  have hlt : i < l.length := by omega
  refine Ev.succ ?_
  simp only [discover_among.l0, rdOf_get hlt]
  rw [wrap_succ (i := i) (by omega)]
  refine Ev.pos (by omega) (Ev.pos (by omega) (Ev.pos (by omega) ?_))
  by_cases e : l[i] = s
  ·exact Ev.pos ((bytes_eq _ _).2 e) (Ev.val (hasB_iff.2 (e ▸ List.getElem_mem hlt)).symm)
  ·refine Ev.neg (fun h => e ((bytes_eq _ _).1 h)) (ih (i + 1) (by omega) (by omega) fun x hx => ?_)
   rw [List.take_succ_eq_append_getElem hlt, List.mem_append, List.mem_singleton] at hx
   rcases hx with hx | rfl
   ·exact hno x hx
   ·exact e
theorem eamong (l : List ByteArray) (s : ByteArray) (hl : l.length ≤ 1048576) : Ev (fun k => discover_among.f k l s) (hasB l s) := eamong_l0 l s hl _ 0 (by omega) rfl (by simp)
end Go.Proofs.YtejchnmhlcbfcaaDoor.Feet

/- What the reference's bits and sets answer (chapter 49). -/
namespace Go.Proofs.YtejchnmhlcbfcaaDoor.Sets
open Go.RowKit Go.Proofs.YtejchnmhlcbfcaaDoor.Evs Go.Proofs.YtejchnmhlcbfcaaDoor.Pr Go.Proofs.YtejchnmhlcbfcaaDoor.Bits Go.Proofs.YtejchnmhlcbfcaaDoorW.PrintWords Go.Proofs.YtejchnmhlcbfcaaDoorW.PrintLast Go.Proofs.YtejchnmhlcbfcaaDoorW.PrintMore
set_option linter.unusedVariables false
set_option linter.unusedSimpArgs false

theorem has_U (a : BitVec 64) {i : Nat} (h : i < 64) : discover_has.f (U a) (i : Int) = some (a.getLsbD i) := by
 unfold discover_has.f
 rw [wrap_idx (by omega) (by omega), if_pos (by omega), shr_at h, bit_at]
end Go.Proofs.YtejchnmhlcbfcaaDoor.Sets

/- Causal pairs of sets, as the program lists them. -/
namespace Go.Proofs.YtejchnmhlcbfcaaDoor.Caus
open Go.RowKit Go.Proofs.YtejchnmhlcbfcaaDoor.Pr Go.Proofs.YtejchnmhlcbfcaaDoor.Evs Go.Proofs.YtejchnmhlcbfcaaDoor.Bits Go.Proofs.YtejchnmhlcbfcaaDoor.Sets Go.Proofs.YtejchnmhlcbfcaaDoor.Logs Go.Proofs.YtejchnmhlcbfcaaDoor.Feet Go.Proofs.YtejchnmhlcbfcaaDoorW.PrintWords Go.Proofs.YtejchnmhlcbfcaaDoorW.PrintLast Go.Proofs.YtejchnmhlcbfcaaDoorW.PrintMore
set_option linter.unusedVariables false
set_option linter.unusedSimpArgs false

def M (f : List (List Int)) (i k : Nat) : Int := rd (rd_L5 f (i : Int)) (k : Int)
structure Mat (f : List (List Int)) (n : Nat) : Prop where
 len : f.length = n
 small : n ≤ 12
 rows : ∀ r ∈ f, r.length = n
 sym0 : ∀ i k, i < n → k < n → M f i k = 0 → M f k i = 0
 sym1 : ∀ i k, i < n → k < n → (M f i k = 1 ↔ M f k i = 2)
theorem row_len {f : List (List Int)} {n i : Nat} (hm : Mat f n) (hi : i < n) : (rd_L5 f (i : Int)).length = n := by
 have h : i < f.length := by rw [hm.len]; exact hi
 rw [rd_L h]; exact hm.rows _ (List.getElem_mem h)
theorem M_matL (l : List (List ByteArray)) (ns : List ByteArray) {i k : Nat} (hi : i < ns.length) (hk : k < ns.length) : M (matL l ns) i k = relL l ns[i] ns[k] := by
 unfold M
 have h1 : i < (matL l ns).length := by simpa [matL] using hi
 rw [rd_L h1]
 have h2 : (matL l ns)[i] = rowL l ns ns[i] := by simp [matL]
 rw [h2, rd_get (by rw [rowL_len]; exact hk), rowL_get l ns _ hk]
theorem matL_mat (l : List (List ByteArray)) (ns : List ByteArray) (h : ns.length ≤ 12) : Mat (matL l ns) ns.length := by
 refine ⟨by simp [matL], h, fun r hr => ?_, fun i k hi hk => ?_, fun i k hi hk => ?_⟩
 ·simp only [matL, List.mem_map] at hr
  obtain ⟨a, _, rfl⟩ := hr
  exact rowL_len _ _ _
 ·rw [M_matL l ns hi hk, M_matL l ns hk hi]
  unfold relL relOf
  split <;> split <;> simp_all
 ·rw [M_matL l ns hi hk, M_matL l ns hk hi]
  unfold relL relOf
  split <;> split <;> simp_all

/-! ### causal pairs -/
structure Cz (f : List (List Int)) (n : Nat) (a b : BitVec 64) : Prop where
 ab : ∀ i k, i < n → k < n → a.getLsbD i = true → b.getLsbD k = true → M f i k = 1
 aa : ∀ i k, i < n → k < n → a.getLsbD i = true → a.getLsbD k = true → M f i k = 0
 bb : ∀ i k, i < n → k < n → b.getLsbD i = true → b.getLsbD k = true → M f i k = 0
def Sub (n : Nat) (a : BitVec 64) : Prop := ∀ i, a.getLsbD i = true → i < n
def Inc (a b : BitVec 64) : Prop := ∀ i, a.getLsbD i = true → b.getLsbD i = true
theorem Cz.down {f : List (List Int)} {n : Nat} {a b c d : BitVec 64} (h : Cz f n c d) (h1 : Inc a c) (h2 : Inc b d) : Cz f n a b :=
 ⟨fun i k hi hk x y => h.ab i k hi hk (h1 i x) (h2 k y), fun i k hi hk x y => h.aa i k hi hk (h1 i x) (h1 k y), fun i k hi hk x y => h.bb i k hi hk (h2 i x) (h2 k y)⟩
theorem or_tp {a : BitVec 64} {i j : Nat} (hi : i < 64) : (a ||| tp i).getLsbD j = true ↔ a.getLsbD j = true ∨ j = i := by
 rw [BitVec.getLsbD_or, tp_bit]
 simp [hi]
 constructor
 ·rintro (h | h)
  ·exact .inl h
  ·exact .inr h.symm
 ·rintro (h | h)
  ·exact .inl h
  ·exact .inr h.symm
theorem or_tp_false {a : BitVec 64} {i j : Nat} (h : j ≠ i) : (a ||| tp i).getLsbD j = a.getLsbD j := by
 rw [BitVec.getLsbD_or, tp_bit]
 have : decide (i = j) = false := decide_eq_false fun e => h e.symm
 rw [this]; simp
theorem inc_or {a b : BitVec 64} {i : Nat} (hi : i < 64) (h : Inc a b) (hb : b.getLsbD i = true) : Inc (a ||| tp i) b := fun j hj => by
 rcases (or_tp hi).1 hj with h1 | rfl
 ·exact h j h1
 ·exact hb
theorem inc_refl (a : BitVec 64) : Inc a a := fun _ h => h
theorem sub_eq {n : Nat} {a b : BitVec 64} (ha : Sub n a) (hb : Sub n b) (h : ∀ i, i < n → a.getLsbD i = b.getLsbD i) : a = b := by
 apply ext_bit
 intro i _
 by_cases hi : i < n
 ·exact h i hi
 ·cases e : a.getLsbD i with
  | true => exact absurd (ha i e) hi
  | false => cases e2 : b.getLsbD i with
   | true => exact absurd (hb i e2) hi
   | false => rfl
/-- What one more activity asks for. -/
theorem add0 {f : List (List Int)} {n : Nat} (hm : Mat f n) {a b : BitVec 64} (h : Cz f n a b) {i : Nat} (hi : i < n) :
  Cz f n (a ||| tp i) b ↔ M f i i = 0 ∧ (∀ k, k < n → a.getLsbD k = true → M f i k = 0) ∧ (∀ k, k < n → b.getLsbD k = true → M f i k = 1) := by
 have h64 : i < 64 := by have := hm.small; omega
 have hin : (a ||| tp i).getLsbD i = true := (or_tp h64).2 (.inr rfl)
 have hup : ∀ k, a.getLsbD k = true → (a ||| tp i).getLsbD k = true := fun k hk => (or_tp h64).2 (.inl hk)
 constructor
 ·intro c
  exact ⟨c.aa i i hi hi hin hin, fun k hk x => c.aa i k hi hk hin (hup k x), fun k hk x => c.ab i k hi hk hin x⟩
 ·rintro ⟨h1, h2, h3⟩
  refine ⟨fun j k hj hk x y => ?_, fun j k hj hk x y => ?_, h.bb⟩
  ·rcases (or_tp h64).1 x with x | rfl
   ·exact h.ab j k hj hk x y
   ·exact h3 k hk y
  ·rcases (or_tp h64).1 x with x1 | rfl <;> rcases (or_tp h64).1 y with y1 | rfl
   ·exact h.aa j k hj hk x1 y1
   ·exact hm.sym0 _ _ hi hj (h2 j hj x1)
   ·exact h2 k hk y1
   ·exact h1
theorem add1 {f : List (List Int)} {n : Nat} (hm : Mat f n) {a b : BitVec 64} (h : Cz f n a b) {i : Nat} (hi : i < n) :
  Cz f n a (b ||| tp i) ↔ M f i i = 0 ∧ (∀ k, k < n → b.getLsbD k = true → M f i k = 0) ∧ (∀ k, k < n → a.getLsbD k = true → M f i k = 2) := by
 have h64 : i < 64 := by have := hm.small; omega
 have hin : (b ||| tp i).getLsbD i = true := (or_tp h64).2 (.inr rfl)
 have hup : ∀ k, b.getLsbD k = true → (b ||| tp i).getLsbD k = true := fun k hk => (or_tp h64).2 (.inl hk)
 constructor
 ·intro c
  exact ⟨c.bb i i hi hi hin hin, fun k hk x => c.bb i k hi hk hin (hup k x), fun k hk x => (hm.sym1 k i hk hi).1 (c.ab k i hk hi x hin)⟩
 ·rintro ⟨h1, h2, h3⟩
  refine ⟨fun j k hj hk x y => ?_, h.aa, fun j k hj hk x y => ?_⟩
  ·rcases (or_tp h64).1 y with y | rfl
   ·exact h.ab j k hj hk x y
   ·exact (hm.sym1 j _ hj hi).2 (h3 j hj x)
  ·rcases (or_tp h64).1 x with x1 | rfl <;> rcases (or_tp h64).1 y with y1 | rfl
   ·exact h.bb j k hj hk x1 y1
   ·exact hm.sym0 _ _ hi hj (h2 j hj x1)
   ·exact h2 k hk y1
   ·exact h1

/-! ### all, fits, grown -/
theorem all_l0 {f : List (List Int)} {n : Nat} (hm : Mat f n) (i : Nat) (hi : i < n) (s : BitVec 64) (w : Int) : ∀ d k, k ≤ n → n - k = d → (∀ j, j < k → s.getLsbD j = true → M f i j = w) →
  ∃ r, Ev (fun q => discover_all.l0 q f (i : Int) (U s) w (n : Int) (k : Int)) r ∧ (r = true ↔ ∀ j, j < n → s.getLsbD j = true → M f i j = w) := by
 have hsm := hm.small
 have hil : i < f.length := by rw [hm.len]; exact hi
 intro d
 induction d with
 | zero =>
  intro k hk hd hall
  obtain rfl : k = n := by omega
  refine ⟨true, Ev.succ ?_, ⟨fun _ => hall, fun _ => rfl⟩⟩
  simp only [discover_all.l0]
  exact Ev.neg (by omega) (Ev.now _)
 | succ d ih =>
  intro k hk hd hall
  have hlt : k < n := by omega
  have hrl := row_len hm hi
  cases hb : s.getLsbD k with
  | false =>
   obtain ⟨r, hr, hr'⟩ := ih (k + 1) (by omega) (by omega) (fun j hj x => by
    by_cases e : j = k
    ·subst e; rw [hb] at x; cases x
    ·exact hall j (by omega) x)
   refine ⟨r, Ev.succ ?_, hr'⟩
   simp only [discover_all.l0, has_U s (show k < 64 by omega), Option.bind_some, hb]
   refine Ev.pos (by omega) (Ev.neg (by decide) ?_)
   rw [wrap_succ (by omega)]
   exact hr
  | true =>
   by_cases hw : M f i k = w
   ·obtain ⟨r, hr, hr'⟩ := ih (k + 1) (by omega) (by omega) (fun j hj x => by
     by_cases e : j = k
     ·subst e; exact hw
     ·exact hall j (by omega) x)
    refine ⟨r, Ev.succ ?_, hr'⟩
    simp only [discover_all.l0, has_U s (show k < 64 by omega), Option.bind_some, hb]
    refine Ev.pos (by omega) (Ev.pos trivial (Ev.pos (by omega) (Ev.pos (by omega) (Ev.pos (by omega) (Ev.pos (by rw [hrl]; omega) (Ev.pos hw ?_))))))
    rw [wrap_succ (by omega)]
    exact hr
   ·refine ⟨false, Ev.succ ?_, ⟨fun h => (by cases h), fun h => absurd (h k hlt hb) hw⟩⟩
    simp only [discover_all.l0, has_U s (show k < 64 by omega), Option.bind_some, hb]
    exact Ev.pos (by omega) (Ev.pos trivial (Ev.pos (by omega) (Ev.pos (by omega) (Ev.pos (by omega) (Ev.pos (by rw [hrl]; omega) (Ev.neg hw (Ev.now _)))))))
theorem eall {f : List (List Int)} {n : Nat} (hm : Mat f n) (i : Nat) (hi : i < n) (s : BitVec 64) (w : Int) :
  ∃ r, Ev (fun q => discover_all.f q f (i : Int) (U s) w) r ∧ (r = true ↔ ∀ j, j < n → s.getLsbD j = true → M f i j = w) := by
 obtain ⟨r, h, h'⟩ := all_l0 hm i hi s w _ 0 (by omega) rfl (by simp)
 refine ⟨r, ?_, h'⟩
 unfold discover_all.f
 rw [hm.len]
 exact h
theorem fits0 {f : List (List Int)} {n : Nat} (hm : Mat f n) {a b : BitVec 64} (h : Cz f n a b) {i : Nat} (hi : i < n) :
  ∃ r, Ev (fun q => discover_fits.f q f (U a) (U b) (i : Int) 0) r ∧ (r = true ↔ Cz f n (a ||| tp i) b) := by
 have hil : i < f.length := by rw [hm.len]; exact hi
 have hrl := row_len hm hi
 obtain ⟨r1, h1, h1'⟩ := eall hm i hi a 0
 obtain ⟨r2, h2, h2'⟩ := eall hm i hi b 1
 rw [add0 hm h hi]
 have go : ∀ r, Ev (fun q => discover_fits0.f q f (U a) (U b) (i : Int)) r → Ev (fun q => discover_fits.f q f (U a) (U b) (i : Int) 0) r := fun r hr => Ev.congr (fun _ => by unfold discover_fits.f; rw [if_pos rfl]) hr
 by_cases h0 : M f i i = 0
 ·cases r1 with
  | true => cases r2 with
   | true =>
    refine ⟨true, go _ ?_, ⟨fun _ => ⟨h0, h1'.1 rfl, h2'.1 rfl⟩, fun _ => rfl⟩⟩
    unfold discover_fits0.f
    exact Ev.pos (by omega) (Ev.pos (by omega) (Ev.pos (by rw [hrl]; omega) (Ev.pos h0 (Ev.bind h1 (Ev.pos rfl (Ev.bind h2 (Ev.now _)))))))
   | false =>
    refine ⟨false, go _ ?_, ⟨fun e => (by cases e), fun e => h2'.2 e.2.2⟩⟩
    unfold discover_fits0.f
    exact Ev.pos (by omega) (Ev.pos (by omega) (Ev.pos (by rw [hrl]; omega) (Ev.pos h0 (Ev.bind h1 (Ev.pos rfl (Ev.bind h2 (Ev.now _)))))))
  | false =>
   refine ⟨false, go _ ?_, ⟨fun e => (by cases e), fun e => h1'.2 e.2.1⟩⟩
   unfold discover_fits0.f
   exact Ev.pos (by omega) (Ev.pos (by omega) (Ev.pos (by rw [hrl]; omega) (Ev.pos h0 (Ev.bind h1 (Ev.neg (by decide) (Ev.now _))))))
 ·refine ⟨false, go _ ?_, ⟨fun e => (by cases e), fun e => absurd e.1 h0⟩⟩
  unfold discover_fits0.f
  exact Ev.pos (by omega) (Ev.pos (by omega) (Ev.pos (by rw [hrl]; omega) (Ev.neg h0 (Ev.now _))))
theorem fits1 {f : List (List Int)} {n : Nat} (hm : Mat f n) {a b : BitVec 64} (h : Cz f n a b) {i : Nat} (hi : i < n) :
  ∃ r, Ev (fun q => discover_fits.f q f (U a) (U b) (i : Int) 1) r ∧ (r = true ↔ Cz f n a (b ||| tp i)) := by
 have hil : i < f.length := by rw [hm.len]; exact hi
 have hrl := row_len hm hi
 obtain ⟨r1, h1, h1'⟩ := eall hm i hi b 0
 obtain ⟨r2, h2, h2'⟩ := eall hm i hi a 2
 rw [add1 hm h hi]
 have go : ∀ r, Ev (fun q => discover_fits1.f q f (U a) (U b) (i : Int)) r → Ev (fun q => discover_fits.f q f (U a) (U b) (i : Int) 1) r := fun r hr => Ev.congr (fun _ => by unfold discover_fits.f; rw [if_neg (by decide), if_pos rfl]) hr
 by_cases h0 : M f i i = 0
 ·cases r1 with
  | true => cases r2 with
   | true =>
    refine ⟨true, go _ ?_, ⟨fun _ => ⟨h0, h1'.1 rfl, h2'.1 rfl⟩, fun _ => rfl⟩⟩
    unfold discover_fits1.f
    exact Ev.pos (by omega) (Ev.pos (by omega) (Ev.pos (by rw [hrl]; omega) (Ev.pos h0 (Ev.bind h1 (Ev.pos rfl (Ev.bind h2 (Ev.now _)))))))
   | false =>
    refine ⟨false, go _ ?_, ⟨fun e => (by cases e), fun e => h2'.2 e.2.2⟩⟩
    unfold discover_fits1.f
    exact Ev.pos (by omega) (Ev.pos (by omega) (Ev.pos (by rw [hrl]; omega) (Ev.pos h0 (Ev.bind h1 (Ev.pos rfl (Ev.bind h2 (Ev.now _)))))))
  | false =>
   refine ⟨false, go _ ?_, ⟨fun e => (by cases e), fun e => h1'.2 e.2.1⟩⟩
   unfold discover_fits1.f
   exact Ev.pos (by omega) (Ev.pos (by omega) (Ev.pos (by rw [hrl]; omega) (Ev.pos h0 (Ev.bind h1 (Ev.neg (by decide) (Ev.now _))))))
 ·refine ⟨false, go _ ?_, ⟨fun e => (by cases e), fun e => absurd e.1 h0⟩⟩
  unfold discover_fits1.f
  exact Ev.pos (by omega) (Ev.pos (by omega) (Ev.pos (by rw [hrl]; omega) (Ev.neg h0 (Ev.now _))))
theorem or_ne {a : BitVec 64} {i : Nat} (h64 : i < 64) (h : a.getLsbD i = false) : a ||| tp i ≠ a := fun e => by
 have := (or_tp (a := a) (j := i) h64).2 (.inr rfl)
 rw [e, h] at this; cases this
theorem shl_or {a : BitVec 64} {i : Nat} (h : i < 64) : Go.bits .or .u64 (U a) (shl .u64 1 (IntKind.u64.wrap (i : Int))) = U (a ||| tp i) := by
 rw [wrap_idx (by omega) (by omega), shl_one h, bits_or]
theorem grown1 {f : List (List Int)} {n : Nat} (hm : Mat f n) {a b : BitVec 64} (h : Cz f n a b) : ∀ d i, i ≤ n → n - i = d →
  ∃ q, Ev (fun k => discover_grown.l1 k f (n : Int) (i : Int) (U a) (U b)) q ∧ (q = (U a, U b) ↔ ∀ j, i ≤ j → j < n → b.getLsbD j = false → ¬ Cz f n a (b ||| tp j)) := by
 have hsm := hm.small
 intro d
 induction d with
 | zero =>
  intro i hi hd
  obtain rfl : i = n := by omega
  refine ⟨_, Ev.succ ?_, ⟨fun _ j h1 h2 => by omega, fun _ => rfl⟩⟩
  simp only [discover_grown.l1]
  exact Ev.neg (by omega) (Ev.now _)
 | succ d ih =>
  intro i hi hd
  have hlt : i < n := by omega
  obtain ⟨q, hq, hq'⟩ := ih (i + 1) (by omega) (by omega)
  have skip : (b.getLsbD i = false → ¬ Cz f n a (b ||| tp i)) → (q = (U a, U b) ↔ ∀ j, i ≤ j → j < n → b.getLsbD j = false → ¬ Cz f n a (b ||| tp j)) := fun hs => by
   rw [hq']
   constructor
   ·intro x j h1 h2
    by_cases e : j = i
    ·subst e; exact hs
    ·exact x j (by omega) h2
   ·intro x j h1 h2
    exact x j (by omega) h2
  cases hb : b.getLsbD i with
  | true =>
   refine ⟨q, Ev.succ ?_, skip (fun e => by rw [hb] at e; cases e)⟩
   simp only [discover_grown.l1, has_U b (show i < 64 by omega), Option.bind_some, hb]
   refine Ev.pos (by omega) (Ev.pos trivial ?_)
   rw [wrap_succ (by omega)]
   exact hq
  | false =>
   obtain ⟨r, hr, hr'⟩ := fits1 hm h hlt
   cases r with
   | true =>
    refine ⟨(U a, U (b ||| tp i)), Ev.succ ?_, ⟨fun e => ?_, fun e => absurd (hr'.1 rfl) (e i (by omega) hlt hb)⟩⟩
    ·simp only [discover_grown.l1, has_U b (show i < 64 by omega), Option.bind_some, hb, shl_or (a := b) (show i < 64 by omega)]
     exact Ev.pos (by omega) (Ev.neg (by decide) (Ev.bind hr (Ev.pos rfl (Ev.pos (by rw [wrap_idx (by omega) (by omega)]; omega) (Ev.now _)))))
    ·exact absurd (U_inj.1 (Prod.mk.inj e).2) (or_ne (by omega) hb)
   | false =>
    refine ⟨q, Ev.succ ?_, skip (fun _ c => by have := hr'.2 c; cases this)⟩
    simp only [discover_grown.l1, has_U b (show i < 64 by omega), Option.bind_some, hb]
    refine Ev.pos (by omega) (Ev.neg (by decide) (Ev.bind hr (Ev.neg (by decide) ?_)))
    rw [wrap_succ (by omega)]
    exact hq
def Max (f : List (List Int)) (n : Nat) (a b : BitVec 64) : Prop :=
 (∀ j, j < n → a.getLsbD j = false → ¬ Cz f n (a ||| tp j) b) ∧ (∀ j, j < n → b.getLsbD j = false → ¬ Cz f n a (b ||| tp j))
theorem grown0 {f : List (List Int)} {n : Nat} (hm : Mat f n) {a b : BitVec 64} (h : Cz f n a b) : ∀ d i, i ≤ n → n - i = d →
  ∃ q, Ev (fun k => discover_grown.l0 k f (n : Int) (i : Int) (U a) (U b)) q ∧ (q = (U a, U b) ↔ (∀ j, i ≤ j → j < n → a.getLsbD j = false → ¬ Cz f n (a ||| tp j) b) ∧ (∀ j, j < n → b.getLsbD j = false → ¬ Cz f n a (b ||| tp j))) := by
 have hsm := hm.small
 intro d
 induction d with
 | zero =>
  intro i hi hd
  obtain rfl : i = n := by omega
  obtain ⟨q, hq, hq'⟩ := grown1 hm h _ 0 (by omega) rfl
  refine ⟨q, Ev.succ ?_, ?_⟩
  ·simp only [discover_grown.l0, hm.len]
   exact Ev.neg (by omega) hq
  ·rw [hq']
   exact ⟨fun x => ⟨fun j h1 h2 => by omega, fun j hj => x j (by omega) hj⟩, fun x j _ hj => x.2 j hj⟩
 | succ d ih =>
  intro i hi hd
  have hlt : i < n := by omega
  obtain ⟨q, hq, hq'⟩ := ih (i + 1) (by omega) (by omega)
  have skip : (a.getLsbD i = false → ¬ Cz f n (a ||| tp i) b) → (q = (U a, U b) ↔ (∀ j, i ≤ j → j < n → a.getLsbD j = false → ¬ Cz f n (a ||| tp j) b) ∧ (∀ j, j < n → b.getLsbD j = false → ¬ Cz f n a (b ||| tp j))) := fun hs => by
   rw [hq']
   constructor
   ·intro x
    refine ⟨fun j h1 h2 => ?_, x.2⟩
    by_cases e : j = i
    ·subst e; exact hs
    ·exact x.1 j (by omega) h2
   ·intro x
    exact ⟨fun j h1 h2 => x.1 j (by omega) h2, x.2⟩
  cases hb : a.getLsbD i with
  | true =>
   refine ⟨q, Ev.succ ?_, skip (fun e => by rw [hb] at e; cases e)⟩
   simp only [discover_grown.l0, has_U a (show i < 64 by omega), Option.bind_some, hb]
   refine Ev.pos (by omega) (Ev.pos trivial ?_)
   rw [wrap_succ (by omega)]
   exact hq
  | false =>
   obtain ⟨r, hr, hr'⟩ := fits0 hm h hlt
   cases r with
   | true =>
    refine ⟨(U (a ||| tp i), U b), Ev.succ ?_, ⟨fun e => ?_, fun e => absurd (hr'.1 rfl) (e.1 i (by omega) hlt hb)⟩⟩
    ·simp only [discover_grown.l0, has_U a (show i < 64 by omega), Option.bind_some, hb, shl_or (a := a) (show i < 64 by omega)]
     exact Ev.pos (by omega) (Ev.neg (by decide) (Ev.bind hr (Ev.pos rfl (Ev.pos (by rw [wrap_idx (by omega) (by omega)]; omega) (Ev.now _)))))
    ·exact absurd (U_inj.1 (Prod.mk.inj e).1) (or_ne (by omega) hb)
   | false =>
    refine ⟨q, Ev.succ ?_, skip (fun _ c => by have := hr'.2 c; cases this)⟩
    simp only [discover_grown.l0, has_U a (show i < 64 by omega), Option.bind_some, hb]
    refine Ev.pos (by omega) (Ev.neg (by decide) (Ev.bind hr (Ev.neg (by decide) ?_)))
    rw [wrap_succ (by omega)]
    exact hq
theorem egrown {f : List (List Int)} {n : Nat} (hm : Mat f n) {a b : BitVec 64} (h : Cz f n a b) :
  ∃ q, Ev (fun k => discover_grown.f k f (U a) (U b)) q ∧ (q = (U a, U b) ↔ Max f n a b) := by
 obtain ⟨q, hq, hq'⟩ := grown0 hm h _ 0 (by omega) rfl
 refine ⟨q, ?_, ?_⟩
 ·unfold discover_grown.f
  rw [hm.len]
  exact hq
 ·rw [hq']
  exact ⟨fun x => ⟨fun j hj => x.1 j (by omega) hj, x.2⟩, fun x => ⟨fun j _ hj => x.1 j hj, x.2⟩⟩

/-! ### grow -/
def prS (x : BitVec 64 × BitVec 64) : S76 := ⟨U x.1, U x.2⟩
theorem growE_spec {f : List (List Int)} {n : Nat} (hm : Mat f n) {a b : BitVec 64} (h : Cz f n a b) :
  ∃ L : List (BitVec 64), Ev (fun k => growE k f (U a) (U b)) (L.map fun c => prS (a, c)) ∧ L.Nodup ∧ L.length ≤ 1 ∧ ∀ c, c ∈ L ↔ c = b ∧ b ≠ 0#64 ∧ Max f n a b := by
 unfold growE
 by_cases hb : b = 0#64
 ·refine ⟨[], Ev.pos (by rw [hb]; rfl) (Ev.now _), by simp, by simp, fun c => ?_⟩
  simp [hb]
 ·have hb' : ¬ U b = 0 := fun e => hb (U_eq_zero.1 e)
  obtain ⟨q, hq, hq'⟩ := egrown hm h
  by_cases hx : q = (U a, U b)
  ·refine ⟨[b], Ev.neg hb' (Ev.bind hq (Ev.pos (by rw [hx]; exact ⟨rfl, rfl⟩) (Ev.now _))), by simp, by simp, fun c => ?_⟩
   simp only [List.mem_singleton]
   exact ⟨fun e => ⟨e, hb, hq'.1 hx⟩, fun e => e.1⟩
  ·refine ⟨[], Ev.neg hb' (Ev.bind hq (Ev.neg (fun e => hx (Prod.ext e.1 e.2)) (Ev.now _))), by simp, by simp, fun c => ?_⟩
   simp only [List.not_mem_nil, false_iff]
   rintro ⟨_, _, e⟩
   exact hx (hq'.2 e)
theorem grow1_spec {f : List (List Int)} {n : Nat} (hm : Mat f n) : ∀ m, m ≤ n → ∀ a b : BitVec 64, Cz f n a b → Sub (n - m) b →
  ∃ L : List (BitVec 64), Ev (fun k => grow1 k f m (U a) (U b)) (L.map fun c => prS (a, c)) ∧ L.Nodup ∧ L.length ≤ 2 ^ m ∧
   ∀ c, c ∈ L ↔ Sub n c ∧ c ≠ 0#64 ∧ (∀ i, i < n - m → c.getLsbD i = b.getLsbD i) ∧ Cz f n a c ∧ Max f n a c
 | 0, _, a, b, h, hb => by
  obtain ⟨L, h1, h2, h3, h4⟩ := growE_spec hm h
  refine ⟨L, h1, h2, h3, fun c => ?_⟩
  rw [h4]
  constructor
  ·rintro ⟨rfl, h5, h6⟩
   exact ⟨hb, h5, fun _ _ => rfl, h, h6⟩
  ·rintro ⟨h5, h6, h7, h8, h9⟩
   obtain rfl : c = b := sub_eq h5 hb h7
   exact ⟨rfl, h6, h9⟩
 | m + 1, hmn, a, b, h, hb => by
  have hsm := hm.small
  have hfl : f.length = n := hm.len
  obtain ⟨i, hi⟩ : ∃ i, i = n - (m + 1) := ⟨_, rfl⟩
  have hin : i < n := by omega
  have hni : n - m = i + 1 := by omega
  have hbi : b.getLsbD i = false := by
   cases e : b.getLsbD i with
   | false => rfl
   | true => have := hb i e; omega
  obtain ⟨L1, a1, a2, a3, a4⟩ := grow1_spec hm m (by omega) a b h (fun j hj => by have := hb j hj; omega)
  obtain ⟨r, hr, hr'⟩ := fits1 hm h hin
  have hpow : 2 ^ (m + 1) = 2 ^ m + 2 ^ m := by rw [Nat.pow_succ]; omega
  cases r with
  | false =>
   refine ⟨L1, ?_, a2, by omega, fun c => ?_⟩
   ·simp only [grow1, hfl, ← hi]
    exact Ev.bind a1 (Ev.bind hr (Ev.neg (by decide) (Ev.now _)))
   ·rw [a4]
    constructor
    ·rintro ⟨h5, h6, h7, h8⟩
     exact ⟨h5, h6, fun j hj => h7 j (by omega), h8⟩
    ·rintro ⟨h5, h6, h7, h8, h9⟩
     refine ⟨h5, h6, fun j hj => ?_, h8, h9⟩
     by_cases e : j = i
     ·subst e
      rw [hbi]
      cases e2 : c.getLsbD j with
      | false => rfl
      | true =>
       have : Cz f n a (b ||| tp j) := h8.down (inc_refl a) (inc_or (by omega) (fun q hq => by have := hb q hq; rw [h7 q (by omega)]; exact hq) e2)
       have := hr'.2 this
       cases this
     ·exact h7 j (by omega)
  | true =>
   have hc := hr'.1 rfl
   obtain ⟨L2, b1, b2, b3, b4⟩ := grow1_spec hm m (by omega) a (b ||| tp i) hc (fun j hj => by
    rcases (or_tp (show i < 64 by omega)).1 hj with h1 | rfl
    ·have := hb j h1; omega
    ·omega)
   refine ⟨L1 ++ L2, ?_, ?_, by rw [List.length_append]; omega, fun c => ?_⟩
   ·simp only [grow1, hfl, ← hi, List.map_append]
    refine Ev.bind a1 (Ev.bind hr (Ev.pos rfl (Ev.bind ?_ (Ev.now _))))
    unfold orB
    rw [shl_or (by omega)]
    exact b1
   ·rw [List.nodup_append]
    refine ⟨a2, b2, fun x hx y hy e => ?_⟩
    subst e
    have h1 := ((a4 x).1 hx).2.2.1 i (by omega)
    have h2 := ((b4 x).1 hy).2.2.1 i (by omega)
    rw [h1, hbi] at h2
    have := (or_tp (a := b) (j := i) (show i < 64 by omega)).2 (.inr rfl)
    rw [← h2] at this; cases this
   ·rw [List.mem_append, a4, b4]
    constructor
    ·rintro (⟨h5, h6, h7, h8⟩ | ⟨h5, h6, h7, h8⟩)
     ·exact ⟨h5, h6, fun j hj => h7 j (by omega), h8⟩
     ·exact ⟨h5, h6, fun j hj => (h7 j (by omega)).trans (or_tp_false (by omega)), h8⟩
    ·rintro ⟨h5, h6, h7, h8⟩
     cases e2 : c.getLsbD i with
     | false =>
      refine .inl ⟨h5, h6, fun j hj => ?_, h8⟩
      by_cases e : j = i
      ·subst e; rw [e2, hbi]
      ·exact h7 j (by omega)
     | true =>
      refine .inr ⟨h5, h6, fun j hj => ?_, h8⟩
      by_cases e : j = i
      ·subst e; rw [e2]; exact ((or_tp (show j < 64 by omega)).2 (.inr rfl)).symm
      ·rw [or_tp_false e]; exact h7 j (by omega)
theorem cz_zero {f : List (List Int)} {n : Nat} {a : BitVec 64} {c : BitVec 64} (h : Cz f n a c) : Cz f n a 0#64 := h.down (inc_refl a) (fun i hi => by simp at hi)
theorem grow0_spec {f : List (List Int)} {n : Nat} (hm : Mat f n) : ∀ m, m ≤ n → ∀ a : BitVec 64, Cz f n a 0#64 → Sub (n - m) a →
  ∃ L : List (BitVec 64 × BitVec 64), Ev (fun k => grow0 k f m (U a) 0) (L.map prS) ∧ L.Nodup ∧ L.length ≤ 2 ^ m * 2 ^ n ∧
   ∀ x, x ∈ L ↔ Sub n x.1 ∧ Sub n x.2 ∧ x.1 ≠ 0#64 ∧ x.2 ≠ 0#64 ∧ (∀ i, i < n - m → x.1.getLsbD i = a.getLsbD i) ∧ Cz f n x.1 x.2 ∧ Max f n x.1 x.2
 | 0, _, a, h, hb => by
  have hp : 0 < 2 ^ n := Nat.two_pow_pos n
  by_cases ha : a = 0#64
  ·refine ⟨[], ?_, by simp, by simp, fun x => ?_⟩
   ·simp only [grow0]
    exact Ev.pos (by rw [ha]; rfl) (Ev.now _)
   ·simp only [List.not_mem_nil, false_iff]
    rintro ⟨h1, _, h3, _, h5, _⟩
    exact h3 ((sub_eq h1 hb h5).trans ha)
  ·obtain ⟨L, h1, h2, h3, h4⟩ := grow1_spec hm n (Nat.le_refl _) a 0#64 h (fun i hi => by simp at hi)
   refine ⟨L.map fun c => (a, c), ?_, ?_, by rw [List.length_map]; omega, fun x => ?_⟩
   ·simp only [grow0, hm.len]
    rw [List.map_map]
    exact Ev.neg (fun e => ha (U_eq_zero.1 e)) h1
   ·rw [List.nodup_iff_pairwise_ne, List.pairwise_map]
    exact List.Pairwise.imp (fun hne e => hne (Prod.mk.inj e).2) (List.nodup_iff_pairwise_ne.1 h2)
   ·simp only [List.mem_map]
    constructor
    ·rintro ⟨c, hc, rfl⟩
     obtain ⟨k1, k2, k3, k4, k5⟩ := (h4 c).1 hc
     exact ⟨hb, k1, ha, k2, fun _ _ => rfl, k4, k5⟩
    ·rintro ⟨k1, k2, k3, k4, k5, k6, k7⟩
     have e : x.1 = a := sub_eq k1 hb k5
     refine ⟨x.2, (h4 _).2 ⟨k2, k4, fun i hi => by omega, e ▸ k6, e ▸ k7⟩, by rw [← e]⟩
 | m + 1, hmn, a, h, hb => by
  have hsm := hm.small
  have hfl : f.length = n := hm.len
  obtain ⟨i, hi⟩ : ∃ i, i = n - (m + 1) := ⟨_, rfl⟩
  have hin : i < n := by omega
  have hni : n - m = i + 1 := by omega
  have hbi : a.getLsbD i = false := by
   cases e : a.getLsbD i with
   | false => rfl
   | true => have := hb i e; omega
  obtain ⟨L1, a1, a2, a3, a4⟩ := grow0_spec hm m (by omega) a h (fun j hj => by have := hb j hj; omega)
  obtain ⟨r, hr, hr'⟩ := fits0 hm h hin
  have hpow : 2 ^ (m + 1) * 2 ^ n = 2 ^ m * 2 ^ n + 2 ^ m * 2 ^ n := by rw [Nat.pow_succ, Nat.mul_assoc, Nat.mul_comm 2, ← Nat.mul_assoc]; omega
  have hU : (0 : Int) = U 0#64 := rfl
  cases r with
  | false =>
   refine ⟨L1, ?_, a2, by omega, fun x => ?_⟩
   ·simp only [grow0, hfl, ← hi]
    exact Ev.bind a1 (Ev.bind hr (Ev.neg (by decide) (Ev.now _)))
   ·rw [a4]
    constructor
    ·rintro ⟨h1, h2, h3, h4, h5, h6⟩
     exact ⟨h1, h2, h3, h4, fun j hj => h5 j (by omega), h6⟩
    ·rintro ⟨h1, h2, h3, h4, h5, h6, h7⟩
     refine ⟨h1, h2, h3, h4, fun j hj => ?_, h6, h7⟩
     by_cases e : j = i
     ·subst e
      rw [hbi]
      cases e2 : x.1.getLsbD j with
      | false => rfl
      | true =>
       have : Cz f n (a ||| tp j) 0#64 := (cz_zero h6).down (inc_or (by omega) (fun q hq => by have := hb q hq; rw [h5 q (by omega)]; exact hq) e2) (inc_refl _)
       have := hr'.2 this
       cases this
     ·exact h5 j (by omega)
  | true =>
   have hc := hr'.1 rfl
   obtain ⟨L2, b1, b2, b3, b4⟩ := grow0_spec hm m (by omega) (a ||| tp i) hc (fun j hj => by
    rcases (or_tp (show i < 64 by omega)).1 hj with h1 | rfl
    ·have := hb j h1; omega
    ·omega)
   refine ⟨L1 ++ L2, ?_, ?_, by rw [List.length_append]; omega, fun x => ?_⟩
   ·simp only [grow0, hfl, ← hi, List.map_append]
    refine Ev.bind a1 (Ev.bind hr (Ev.pos rfl (Ev.bind ?_ (Ev.now _))))
    unfold orB
    rw [shl_or (by omega)]
    exact b1
   ·rw [List.nodup_append]
    refine ⟨a2, b2, fun x hx y hy e => ?_⟩
    subst e
    have h1 := ((a4 x).1 hx).2.2.2.2.1 i (by omega)
    have h2 := ((b4 x).1 hy).2.2.2.2.1 i (by omega)
    rw [h1, hbi] at h2
    have := (or_tp (a := a) (j := i) (show i < 64 by omega)).2 (.inr rfl)
    rw [← h2] at this; cases this
   ·rw [List.mem_append, a4, b4]
    constructor
    ·rintro (⟨h1, h2, h3, h4, h5, h6⟩ | ⟨h1, h2, h3, h4, h5, h6⟩)
     ·exact ⟨h1, h2, h3, h4, fun j hj => h5 j (by omega), h6⟩
     ·exact ⟨h1, h2, h3, h4, fun j hj => (h5 j (by omega)).trans (or_tp_false (by omega)), h6⟩
    ·rintro ⟨h1, h2, h3, h4, h5, h6⟩
     cases e2 : x.1.getLsbD i with
     | false =>
      refine .inl ⟨h1, h2, h3, h4, fun j hj => ?_, h6⟩
      by_cases e : j = i
      ·subst e; rw [e2, hbi]
      ·exact h5 j (by omega)
     | true =>
      refine .inr ⟨h1, h2, h3, h4, fun j hj => ?_, h6⟩
      by_cases e : j = i
      ·subst e; rw [e2]; exact ((or_tp (show j < 64 by omega)).2 (.inr rfl)).symm
      ·rw [or_tp_false e]; exact h5 j (by omega)
theorem cz_nil (f : List (List Int)) (n : Nat) : Cz f n 0#64 0#64 := ⟨fun i k _ _ h => by simp at h, fun i k _ _ h => by simp at h, fun i k _ _ h => by simp at h⟩
/-- The program's list of maximal causal pairs. -/
theorem epairs {f : List (List Int)} {n : Nat} (hm : Mat f n) :
  ∃ L : List (BitVec 64 × BitVec 64), Ev (fun k => discover_pairs.f k f) (L.map prS) ∧ L.Nodup ∧ L.length ≤ 16777216 ∧
   ∀ x, x ∈ L ↔ Sub n x.1 ∧ Sub n x.2 ∧ x.1 ≠ 0#64 ∧ x.2 ≠ 0#64 ∧ Cz f n x.1 x.2 ∧ Max f n x.1 x.2 := by
 obtain ⟨L, h1, h2, h3, h4⟩ := grow0_spec hm n (Nat.le_refl _) 0#64 (cz_nil f n) (fun i hi => by simp at hi)
 have hl : L.length ≤ 16777216 := by
  refine Nat.le_trans h3 ?_
  have : 2 ^ n ≤ 2 ^ 12 := Nat.pow_le_pow_right (by omega) hm.small
  exact Nat.mul_le_mul this this
 refine ⟨L, ?_, h2, hl, fun x => ?_⟩
 ·unfold discover_pairs.f
  rw [hm.len]
  have hsm := hm.small
  exact Ev.pos (by omega) (Ev.bind h1 (Ev.pos (by rw [List.length_map]; omega) (Ev.now _)))
 ·rw [h4]
  exact ⟨fun ⟨k1, k2, k3, k4, _, k6⟩ => ⟨k1, k2, k3, k4, k6⟩, fun ⟨k1, k2, k3, k4, k6⟩ => ⟨k1, k2, k3, k4, fun i hi => by omega, k6⟩⟩
end Go.Proofs.YtejchnmhlcbfcaaDoor.Caus

/- The program's sorted row of maximal causal pairs. -/
namespace Go.Proofs.YtejchnmhlcbfcaaDoor.Caus
open Go.RowKit Go.Proofs.YtejchnmhlcbfcaaDoor.Pr Go.Proofs.YtejchnmhlcbfcaaDoor.Evs Go.Proofs.YtejchnmhlcbfcaaDoor.Bits Go.Proofs.YtejchnmhlcbfcaaDoor.Sets Go.Proofs.YtejchnmhlcbfcaaDoor.Logs Go.Proofs.YtejchnmhlcbfcaaDoor.Feet Go.Proofs.YtejchnmhlcbfcaaDoorW.PrintWords Go.Proofs.YtejchnmhlcbfcaaDoorW.PrintLast Go.Proofs.YtejchnmhlcbfcaaDoorW.PrintMore
set_option linter.unusedVariables false
set_option linter.unusedSimpArgs false

def B2 (q p : S57) : Prop := q.f0 < p.f0 ∨ (q.f0 = p.f0 ∧ q.f1 < p.f1)
theorem B2.irrefl (p : S57) : ¬ B2 p p := by unfold B2; omega
theorem B2.trans {a b c : S57} (h : B2 a b) (k : B2 b c) : B2 a c := by unfold B2 at *; omega
theorem B2.total {a b : S57} (h : ¬ B2 a b) (k : a ≠ b) : B2 b a := by
 unfold B2 at *
 by_cases e : a.f0 = b.f0
 ·by_cases e1 : a.f1 = b.f1
  ·exact absurd (by cases a; cases b; simp_all) k
  ·omega
 ·omega
theorem befB_iff {q : S57} {p : S76} : befB q p = true ↔ B2 q (toP p) := by
 unfold befB B2 toP
 split
 ·simp_all
 ·split
  ·simp_all
  ·simp_all
def insQ : List S57 → S76 → List S57
 | [], p => [toP p]
 | x :: l, p => if befB x p = true then x :: insQ l p else toP p :: x :: l
theorem insP_eq : ∀ (l : List S57) (p : S76), insP l p = insQ l p
 | [], p => rfl
 | x :: l, p => by
  have ih := insP_eq l p
  unfold insQ
  by_cases h : befB x p = true
  ·rw [if_pos h, ← ih]
   unfold insP posP
   rw [List.takeWhile_cons, if_pos h]
   simp
  ·rw [if_neg h]
   unfold insP posP
   rw [List.takeWhile_cons, if_neg h]
   simp
theorem insQ_mem : ∀ (l : List S57) (p : S76) (y : S57), y ∈ insQ l p ↔ y = toP p ∨ y ∈ l
 | [], p, y => by simp [insQ]
 | x :: l, p, y => by
  have ih := insQ_mem l p y
  unfold insQ
  split
  ·simp only [List.mem_cons, ih]
   constructor
   ·rintro (h | h | h)
    ·exact .inr (.inl h)
    ·exact .inl h
    ·exact .inr (.inr h)
   ·rintro (h | h | h)
    ·exact .inr (.inl h)
    ·exact .inl h
    ·exact .inr (.inr h)
  ·simp only [List.mem_cons]
theorem insQ_srt : ∀ (l : List S57) (p : S76), l.Pairwise B2 → toP p ∉ l → (insQ l p).Pairwise B2
 | [], p, _, _ => by simp [insQ]
 | x :: l, p, h, hn => by
  obtain ⟨h1, h2⟩ := List.pairwise_cons.1 h
  have hn2 : toP p ∉ l := fun e => hn (List.mem_cons_of_mem _ e)
  have hne : x ≠ toP p := fun e => hn (by rw [e]; exact List.mem_cons_self ..)
  have ih := insQ_srt l p h2 hn2
  unfold insQ
  split
  ·rename_i hb
   refine List.pairwise_cons.2 ⟨fun y hy => ?_, ih⟩
   rcases (insQ_mem l p y).1 hy with rfl | hy
   ·exact befB_iff.1 hb
   ·exact h1 y hy
  ·rename_i hb
   have h0 : B2 (toP p) x := B2.total (fun e => hb (befB_iff.2 e)) hne
   refine List.pairwise_cons.2 ⟨fun y hy => ?_, h⟩
   rcases List.mem_cons.1 hy with rfl | hy
   ·exact h0
   ·exact h0.trans (h1 y hy)
def tS (x : BitVec 64 × BitVec 64) : S57 := ⟨U x.1, U x.2⟩
theorem tS_inj {x y : BitVec 64 × BitVec 64} (h : tS x = tS y) : x = y := by
 unfold tS at h
 injection h with h1 h2
 exact Prod.ext (U_inj.1 h1) (U_inj.1 h2)
theorem toP_prS (x : BitVec 64 × BitVec 64) : toP (prS x) = tS x := rfl
theorem fold_ins : ∀ (L : List (BitVec 64 × BitVec 64)) (out : List S57), L.Nodup → out.Pairwise B2 → (∀ x ∈ L, tS x ∉ out) →
  ((L.map prS).foldl insP out).Pairwise B2 ∧ ∀ y, y ∈ (L.map prS).foldl insP out ↔ y ∈ out ∨ ∃ x ∈ L, y = tS x
 | [], out, _, h, _ => ⟨h, fun y => by simp⟩
 | x :: L, out, hd, h, hn => by
  obtain ⟨hx, hd2⟩ := List.nodup_cons.1 hd
  rw [List.map_cons, List.foldl_cons, insP_eq]
  obtain ⟨h1, h2⟩ := fold_ins L (insQ out (prS x)) hd2 (insQ_srt out _ h (by rw [toP_prS]; exact hn x (List.mem_cons_self ..))) (fun z hz e => by
   rcases (insQ_mem out (prS x) (tS z)).1 e with e | e
   ·rw [toP_prS] at e
    exact hx (tS_inj e ▸ hz)
   ·exact hn z (List.mem_cons_of_mem _ hz) e)
  refine ⟨h1, fun y => ?_⟩
  rw [h2, insQ_mem, toP_prS]
  constructor
  ·rintro ((rfl | e) | ⟨z, hz, rfl⟩)
   ·exact .inr ⟨x, List.mem_cons_self .., rfl⟩
   ·exact .inl e
   ·exact .inr ⟨z, List.mem_cons_of_mem _ hz, rfl⟩
  ·rintro (e | ⟨z, hz, rfl⟩)
   ·exact .inl (.inr e)
   ·rcases List.mem_cons.1 hz with rfl | hz
    ·exact .inl (.inl rfl)
    ·exact .inr ⟨z, hz, rfl⟩
/-- Two rows in strict order with the same members are one. -/
theorem srt_eq : ∀ (a b : List S57), a.Pairwise B2 → b.Pairwise B2 → (∀ y, y ∈ a ↔ y ∈ b) → a = b
 | [], [], _, _, _ => rfl
 | [], y :: b, _, _, h => by have := (h y).2 (List.mem_cons_self ..); cases this
 | x :: a, [], _, _, h => by have := (h x).1 (List.mem_cons_self ..); cases this
 | x :: a, y :: b, ha, hb, h => by
  obtain ⟨a1, a2⟩ := List.pairwise_cons.1 ha
  obtain ⟨b1, b2⟩ := List.pairwise_cons.1 hb
  have e : x = y := by
   rcases List.mem_cons.1 ((h x).1 (List.mem_cons_self ..)) with e | e
   ·exact e
   ·rcases List.mem_cons.1 ((h y).2 (List.mem_cons_self ..)) with f | f
    ·exact f.symm
    ·exact absurd ((a1 y f).trans (b1 x e)) (B2.irrefl x)
  subst e
  rw [srt_eq a b a2 b2 fun z => ?_]
  constructor
  ·intro hz
   rcases List.mem_cons.1 ((h z).1 (List.mem_cons_of_mem _ hz)) with rfl | g
   ·exact absurd (a1 z hz) (B2.irrefl z)
   ·exact g
  ·intro hz
   rcases List.mem_cons.1 ((h z).2 (List.mem_cons_of_mem _ hz)) with rfl | g
   ·exact absurd (b1 z hz) (B2.irrefl z)
   ·exact g
/-- The members of the answer. -/
def Best (f : List (List Int)) (n : Nat) (x : BitVec 64 × BitVec 64) : Prop := Sub n x.1 ∧ Sub n x.2 ∧ x.1 ≠ 0#64 ∧ x.2 ≠ 0#64 ∧ Cz f n x.1 x.2 ∧ Max f n x.1 x.2
structure Ans (f : List (List Int)) (n : Nat) (R : List S57) : Prop where
 srt : R.Pairwise B2
 mem : ∀ y, y ∈ R ↔ ∃ x, Best f n x ∧ y = tS x
theorem Ans.eq {f : List (List Int)} {n : Nat} {a b : List S57} (h : Ans f n a) (k : Ans f n b) : a = b :=
 srt_eq a b h.srt k.srt fun y => (h.mem y).trans (k.mem y).symm
theorem eans {l : List (List ByteArray)} (h : Big l) (he : (footB l).2 = 0) (hm : Mat (footB l).1 (footB l).1.length) :
  ∃ R, Ev (fun k => discover_Pairs.f k l) (R, 0) ∧ Ans (footB l).1 (footB l).1.length R := by
 obtain ⟨L, h1, h2, h3, h4⟩ := epairs hm
 obtain ⟨s1, s2⟩ := fold_ins L [] h2 List.Pairwise.nil (by simp)
 refine ⟨(L.map prS).foldl insP [], ?_, s1, fun y => ?_⟩
 ·unfold discover_Pairs.f
  exact Ev.bind (efoot h) (Ev.pos he (Ev.bind h1 (Ev.pos (by rw [List.length_map]; omega) (Ev.now _))))
 ·rw [s2]
  constructor
  ·rintro (e | ⟨x, hx, rfl⟩)
   ·cases e
   ·exact ⟨x, (h4 x).1 hx, rfl⟩
  ·rintro ⟨x, hx, rfl⟩
   exact .inr ⟨x, (h4 x).2 hx, rfl⟩
theorem eerr {l : List (List ByteArray)} (h : Big l) (he : (footB l).2 ≠ 0) : Ev (fun k => discover_Pairs.f k l) ([], (footB l).2) := by
 unfold discover_Pairs.f
 exact Ev.bind (efoot h) (Ev.neg he (Ev.now _))
theorem foot_mat {l : List (List ByteArray)} (he : (footB l).2 = 0) : Mat (footB l).1 (footB l).1.length := by
 have key : footB l = (matL l (acts l), 0) ∧ (acts l).length ≤ 12 := by
  unfold footB at he ⊢
  split at he
  ·split at he
   ·simp at he
   ·split at he
    ·simp at he
    ·rename_i h1 h2 h3
     rw [if_pos h1, if_neg h2, if_neg h3]
     exact ⟨rfl, by omega⟩
  ·rename_i h1; exact absurd he h1
 rw [key.1]
 have : (matL l (acts l)).length = (acts l).length := by simp [matL]
 rw [show ((matL l (acts l), (0 : Int)).1).length = (acts l).length from this]
 exact matL_mat l (acts l) key.2
end Go.Proofs.YtejchnmhlcbfcaaDoor.Caus

/- The net of a log, as the program makes it. -/
namespace Go.Proofs.YtejchnmhlcbfcaaDoor.Alpha
open Go.RowKit Go.Proofs.YtejchnmhlcbfcaaDoor.Pr Go.Proofs.YtejchnmhlcbfcaaDoor.Evs Go.Proofs.YtejchnmhlcbfcaaDoor.Bits Go.Proofs.YtejchnmhlcbfcaaDoor.Sets Go.Proofs.YtejchnmhlcbfcaaDoor.Logs Go.Proofs.YtejchnmhlcbfcaaDoor.Feet Go.Proofs.YtejchnmhlcbfcaaDoor.Caus Go.Proofs.YtejchnmhlcbfcaaDoor.Names Go.Proofs.YtejchnmhlcbfcaaDoorW.PrintWords Go.Proofs.YtejchnmhlcbfcaaDoorW.PrintLast Go.Proofs.YtejchnmhlcbfcaaDoorW.PrintMore
set_option linter.unusedVariables false
set_option linter.unusedSimpArgs false

abbrev Pl := S59
abbrev Ar := S62
abbrev Tr := S41
abbrev Pq := BitVec 64 × BitVec 64
def dec (i : Nat) : ByteArray := ⟨(Go.Lib.decDigits i).toArray⟩
theorem dec_len {i : Nat} (h : i < 100) : (Go.Lib.decDigits i).length ≤ 2 := by
 unfold Go.Lib.decDigits
 split
 ·simp
 ·unfold Go.Lib.decDigits
  rw [dif_pos (by omega)]
  simp
theorem dec_size {i : Nat} (h : i < 100) : (dec i).size ≤ 2 := by
 have := dec_len h
 unfold dec
 show (Go.Lib.decDigits i).toArray.size ≤ 2
 simpa using this
theorem eitoa {i : Nat} (h : i < 100) : strconv_Itoa_24.f (i : Int) = some (dec i) := by
 have : strconv_small.f (i : Int) = some (dec i) := by
  unfold strconv_small.f
  rw [if_pos (by omega)]; rfl
 simp only [strconv_Itoa_24.f, strconv_Itoa_47.f, strconv_FormatInt.f]
 rw [if_pos (by first | exact ⟨rfl, by omega, by omega⟩ | exact ⟨trivial, by omega, by omega⟩), this]
 rfl

/-! ### the parts of the net -/
def plName (k : Nat) : ByteArray := (⟨#[95, 112]⟩ : ByteArray) ++ dec k
def plUp : Nat → List Pl
 | 0 => [(⟨(⟨#[95, 105, 110]⟩ : ByteArray), 1, 0⟩ : Pl), (⟨(⟨#[95, 111, 117, 116]⟩ : ByteArray), 0, 0⟩ : Pl)]
 | k + 1 => plUp k ++ [(⟨plName k, 0, 0⟩ : Pl)]
theorem plUp_len : ∀ k, (plUp k).length = k + 2
 | 0 => rfl
 | k + 1 => by rw [plUp, List.length_append, plUp_len k]; rfl
/-- The arcs of the pairs in front of k whose side g has activity i. -/
def arUp (g : Pq → BitVec 64) (Q : List Pq) (i : Nat) : Nat → List Ar
 | 0 => []
 | k + 1 => arUp g Q i k ++ if (g (Q.getD k (0#64, 0#64))).getLsbD i = true then [(⟨((k + 2 : Nat) : Int), 1⟩ : Ar)] else []
theorem arUp_len (g : Pq → BitVec 64) (Q : List Pq) (i : Nat) : ∀ k, (arUp g Q i k).length ≤ k
 | 0 => by simp [arUp]
 | k + 1 => by
  have := arUp_len g Q i k
  rw [arUp, List.length_append]
  split
  ·rw [List.length_singleton]; omega
  ·simp; omega
def endAr (l : List ByteArray) (s : ByteArray) (p : Int) : List Ar := if hasB l s = true then [(⟨p, 1⟩ : Ar)] else []
theorem endAr_t {l : List ByteArray} {s : ByteArray} (h : hasB l s = true) (p : Int) : endAr l s p = [(⟨p, 1⟩ : Ar)] := by unfold endAr; rw [if_pos h]
theorem endAr_f {l : List ByteArray} {s : ByteArray} (h : hasB l s = false) (p : Int) : endAr l s p = [] := by unfold endAr; rw [if_neg (by rw [h]; decide)]
theorem endAr_len (l : List ByteArray) (s : ByteArray) (p : Int) : (endAr l s p).length ≤ 1 := by unfold endAr; split <;> simp
def trOf (Q : List Pq) (fs ls : List ByteArray) (i : Nat) (s : ByteArray) : Tr :=
 ⟨s, endAr fs s 0 ++ arUp (·.2) Q i Q.length, endAr ls s 1 ++ arUp (·.1) Q i Q.length, [], 0⟩
def trUp (Q : List Pq) (fs ls ns : List ByteArray) : Nat → List Tr
 | 0 => []
 | i + 1 => trUp Q fs ls ns i ++ [trOf Q fs ls i (ns.getD i ByteArray.empty)]
theorem trUp_len (Q : List Pq) (fs ls ns : List ByteArray) : ∀ k, (trUp Q fs ls ns k).length = k
 | 0 => rfl
 | k + 1 => by rw [trUp, List.length_append, trUp_len Q fs ls ns k]; rfl
theorem trUp_mem {Q : List Pq} {fs ls ns : List ByteArray} : ∀ {k : Nat} {t : Tr}, t ∈ trUp Q fs ls ns k → ∃ i, i < k ∧ t = trOf Q fs ls i (ns.getD i ByteArray.empty)
 | 0, t, h => by simp [trUp] at h
 | k + 1, t, h => by
  rw [trUp, List.mem_append, List.mem_singleton] at h
  rcases h with h | rfl
  ·obtain ⟨i, h1, h2⟩ := trUp_mem h
   exact ⟨i, by omega, h2⟩
  ·exact ⟨k, by omega, rfl⟩
def clash (ps : List Pl) (s : ByteArray) : Prop := ∃ p ∈ ps, p.f0 = s
instance (ps : List Pl) (s : ByteArray) : Decidable (clash ps s) := inferInstanceAs (Decidable (∃ p ∈ ps, p.f0 = s))
abbrev NetR := ByteArray × List Pl × List Tr × Int
def errR (e : Int) : NetR := ((⟨#[]⟩ : ByteArray), [], [], e)
def netName : ByteArray := ⟨#[97, 108, 112, 104, 97]⟩
/-- What Alpha returns behind the pairs. -/
def netR (Q : List Pq) (fs ls ns : List ByteArray) : NetR :=
 if ∃ s ∈ ns, clash (plUp Q.length) s then errR 6 else (netName, plUp Q.length, trUp Q fs ls ns ns.length, 0)

/-! ### the loops -/
theorem rd_T59g {l : List Pl} {i : Nat} (h : i < l.length) : rd_T59 l (i : Int) = l[i] := by simp [rd_T59, h]
theorem rd_T57g {Q : List Pq} {i : Nat} (h : i < Q.length) : rd_T57 (Q.map tS) (i : Int) = tS Q[i] := by simp [rd_T57, h]
theorem alpha_l3 (Q : List Pq) (hQ : Q.length ≤ 22) (fs ls ns : List ByteArray) (i : Nat) (hi : i < 12) (L : Int) (nm : ByteArray) (ps : List Pl) (ts : List Tr) (hts : ts.length ≤ 12) (s : ByteArray) (A B : List Ar) (hA : A.length ≤ 1) (hB : B.length ≤ 1) (R : NetR)
  (hnext : Ev (fun k => discover_Alpha.l1 k (Q.map tS) fs ls ns L ((i + 1 : Nat) : Int) nm ps (ts ++ [(⟨s, A ++ arUp (·.2) Q i Q.length, B ++ arUp (·.1) Q i Q.length, [], 0⟩ : Tr)])) R) :
  ∀ d k, k ≤ Q.length → Q.length - k = d →
   Ev (fun j => discover_Alpha.l3 j (Q.map tS) fs ls (i : Int) ns L (i : Int) (Q.map tS) (Q.length : Int) (k : Int) nm ps ts s (A ++ arUp (·.2) Q i k) (B ++ arUp (·.1) Q i k) 0) R := by
 intro d
 induction d with
 | zero =>
  intro k hk hd
  obtain rfl : k = Q.length := by omega
  refine Ev.succ ?_
  simp only [discover_Alpha.l3]
  rw [wrap_succ (i := i) (by omega)]
  exact Ev.neg (by omega) (Ev.pos (by omega) hnext)
 | succ d ih =>
  intro k hk hd
  have hlt : k < Q.length := by omega
  have hih := ih (k + 1) (by omega) (by omega)
  have hg : Q.getD k (0#64, 0#64) = Q[k] := by rw [List.getD_eq_getElem?_getD, List.getElem?_eq_getElem hlt]; rfl
  rw [arUp, arUp, hg] at hih
  have hw : wrap64 ((k : Int) + 2) = ((k + 2 : Nat) : Int) := by unfold wrap64; omega
  have hl2 := arUp_len (·.2) Q i k
  have hl1 := arUp_len (·.1) Q i k
  refine Ev.succ ?_
  simp only [discover_Alpha.l3, rd_T57g hlt, tS, has_U _ (show i < 64 by omega), Option.bind_some, hw]
  rw [wrap_succ (i := k) (by omega)]
  refine Ev.pos (by omega) (Ev.pos (by omega) (Ev.pos (by rw [List.length_map]; omega) ?_))
  cases h2 : Q[k].2.getLsbD i with
  | true =>
   rw [h2, if_pos rfl] at hih
   refine Ev.pos rfl (Ev.pos (by rw [List.length_append]; omega) ?_)
   cases h1 : Q[k].1.getLsbD i with
   | true =>
    rw [h1, if_pos rfl] at hih
    rw [← List.append_assoc, ← List.append_assoc] at hih
    exact Ev.pos rfl (Ev.pos (by rw [List.length_append]; omega) hih)
   | false =>
    rw [h1, if_neg (by decide), List.append_nil, ← List.append_assoc] at hih
    exact Ev.neg (by decide) hih
  | false =>
   rw [h2, if_neg (by decide), List.append_nil] at hih
   refine Ev.neg (by decide) ?_
   cases h1 : Q[k].1.getLsbD i with
   | true =>
    rw [h1, if_pos rfl, ← List.append_assoc] at hih
    exact Ev.pos rfl (Ev.pos (by rw [List.length_append]; omega) hih)
   | false =>
    rw [h1, if_neg (by decide), List.append_nil] at hih
    exact Ev.neg (by decide) hih
theorem alpha_l2 (Q : List Pq) (hQ : Q.length ≤ 22) (fs ls ns : List ByteArray) (hf : fs.length ≤ 1048576) (hl : ls.length ≤ 1048576) (i : Nat) (hi : i < 12) (L : Int) (nm : ByteArray) (ps : List Pl) (hps : ps.length ≤ 24) (ts : List Tr) (hts : ts.length ≤ 12) (s : ByteArray) (R : NetR)
  (hyes : clash ps s → R = errR 6)
  (hnext : ¬ clash ps s → Ev (fun k => discover_Alpha.l1 k (Q.map tS) fs ls ns L ((i + 1 : Nat) : Int) nm ps (ts ++ [trOf Q fs ls i s])) R) :
  ∀ d k, k ≤ ps.length → ps.length - k = d → (∀ p ∈ ps.take k, p.f0 ≠ s) →
   Ev (fun j => discover_Alpha.l2 j (Q.map tS) fs ls (i : Int) s ns L (i : Int) ps (ps.length : Int) (k : Int) nm ps ts) R := by
 intro d
 induction d with
 | zero =>
  intro k hk hd hno
  obtain rfl : k = ps.length := by omega
  rw [List.take_length] at hno
  have hn := hnext (by rintro ⟨p, h1, h2⟩; exact hno p h1 h2)
  have h3 := alpha_l3 Q hQ fs ls ns i hi L nm ps ts hts s (endAr fs s 0) (endAr ls s 1) (endAr_len _ _ _) (endAr_len _ _ _) R hn _ 0 (by omega) rfl
  simp only [arUp, List.append_nil] at h3
  have j4 : Ev (fun j => discover_Alpha.j4 j (Q.map tS) fs ls (i : Int) ns L (i : Int) nm ps ts s (endAr fs s 0) (endAr ls s 1) 0) R := by
   refine Ev.succ ?_
   simp only [discover_Alpha.j4, List.length_map]
   exact h3
  have j3 : Ev (fun j => discover_Alpha.j3 j (Q.map tS) fs ls (i : Int) s ns L (i : Int) nm ps ts s (endAr fs s 0) 0) R := by
   refine Ev.succ ?_
   simp only [discover_Alpha.j3]
   refine Ev.bind (eamong ls s hl) ?_
   cases hb : hasB ls s with
   | true =>
    rw [endAr_t hb] at j4
    exact Ev.pos rfl (Ev.pos (by decide) j4)
   | false =>
    rw [endAr_f hb] at j4
    exact Ev.neg (by decide) j4
  refine Ev.succ ?_
  simp only [discover_Alpha.l2]
  refine Ev.neg (by omega) (Ev.bind (eamong fs s hf) ?_)
  cases hb : hasB fs s with
  | true =>
   rw [endAr_t hb] at j3
   exact Ev.pos rfl (Ev.pos (by decide) j3)
  | false =>
   rw [endAr_f hb] at j3
   exact Ev.neg (by decide) j3
 | succ d ih =>
  intro k hk hd hno
  have hlt : k < ps.length := by omega
  refine Ev.succ ?_
  simp only [discover_Alpha.l2, rd_T59g hlt]
  rw [wrap_succ (i := k) (by omega)]
  refine Ev.pos (by omega) (Ev.pos (by omega) (Ev.pos (by omega) ?_))
  by_cases e : ps[k].f0 = s
  ·exact Ev.pos ((bytes_eq _ _).2 e) (Ev.val (hyes ⟨_, List.getElem_mem hlt, e⟩).symm)
  ·refine Ev.neg (fun h => e ((bytes_eq _ _).1 h)) (ih (k + 1) (by omega) (by omega) fun p hp => ?_)
   rw [List.take_succ_eq_append_getElem hlt, List.mem_append, List.mem_singleton] at hp
   rcases hp with hp | rfl
   ·exact hno p hp
   ·exact e
theorem alpha_l1 (Q : List Pq) (hQ : Q.length ≤ 22) (fs ls ns : List ByteArray) (hf : fs.length ≤ 1048576) (hl : ls.length ≤ 1048576) (hns : ns.length ≤ 12) :
  ∀ d i, i ≤ ns.length → ns.length - i = d → (∀ s ∈ ns.take i, ¬ clash (plUp Q.length) s) →
   Ev (fun k => discover_Alpha.l1 k (Q.map tS) fs ls ns (ns.length : Int) (i : Int) netName (plUp Q.length) (trUp Q fs ls ns i)) (netR Q fs ls ns) := by
 have hpl := plUp_len Q.length
 intro d
 induction d with
 | zero =>
  intro i hi hd hno
  obtain rfl : i = ns.length := by omega
  rw [List.take_length] at hno
  refine Ev.succ ?_
  simp only [discover_Alpha.l1]
  refine Ev.neg (by omega) (Ev.val ?_)
  unfold netR
  rw [if_neg (by rintro ⟨s, h1, h2⟩; exact hno s h1 h2)]
 | succ d ih =>
  intro i hi hd hno
  have hlt : i < ns.length := by omega
  have htl := trUp_len Q fs ls ns i
  have hg : ns.getD i ByteArray.empty = ns[i] := by rw [List.getD_eq_getElem?_getD, List.getElem?_eq_getElem hlt]; rfl
  refine Ev.succ ?_
  simp only [discover_Alpha.l1, rdOf_get hlt]
  refine Ev.pos (by omega) (Ev.pos (by omega) (Ev.pos (by omega) ?_))
  refine alpha_l2 Q hQ fs ls ns hf hl i (by omega) _ netName (plUp Q.length) (by omega) _ (by omega) ns[i] _ (fun h => ?_) (fun h => ?_) _ 0 (by omega) rfl (by simp)
  ·unfold netR
   rw [if_pos ⟨_, List.getElem_mem hlt, h⟩]
  ·have hih := ih (i + 1) (by omega) (by omega) fun s hs => by
    rw [List.take_succ_eq_append_getElem hlt, List.mem_append, List.mem_singleton] at hs
    rcases hs with hs | rfl
    ·exact hno s hs
    ·exact h
   rw [trUp, hg] at hih
   exact hih
theorem alpha_l0 (Q : List Pq) (hQ : Q.length ≤ 22) (l : List (List ByteArray)) (fs ls ns : List ByteArray) (hf : fs.length ≤ 1048576) (hl : ls.length ≤ 1048576) (hns : ns.length ≤ 12)
  (e1 : Ev (fun k => eventlog_First.f k l) fs) (e2 : Ev (fun k => eventlog_Last.f k l) ls) (e3 : Ev (fun k => eventlog_Activities.f k l) ns) :
  ∀ d i, i ≤ Q.length → Q.length - i = d → Ev (fun k => discover_Alpha.l0 k l (Q.map tS) (Q.length : Int) (i : Int) netName (plUp i)) (netR Q fs ls ns) := by
 intro d
 induction d with
 | zero =>
  intro i hi hd
  obtain rfl : i = Q.length := by omega
  refine Ev.succ ?_
  simp only [discover_Alpha.l0]
  exact Ev.neg (by omega) (Ev.bind e1 (Ev.bind e2 (Ev.bind e3 (alpha_l1 Q hQ fs ls ns hf hl hns _ 0 (by omega) rfl (by simp)))))
 | succ d ih =>
  intro i hi hd
  have hlt : i < Q.length := by omega
  have hpl := plUp_len i
  have hsz := dec_size (show i < 100 by omega)
  refine Ev.succ ?_
  simp only [discover_Alpha.l0, eitoa (show i < 100 by omega), Option.bind_some]
  rw [wrap_succ (i := i) (by omega)]
  exact Ev.pos (by omega) (Ev.pos (by omega) (Ev.pos (by omega) (ih (i + 1) (by omega) (by omega))))

/-- A sorted row of maximal pairs, told of sets. -/
theorem ans_map {f : List (List Int)} {n : Nat} {R : List S57} (h : Ans f n R) : ∃ Q : List Pq, R = Q.map tS := by
 have key : ∀ R : List S57, (∀ y ∈ R, ∃ x, y = tS x) → ∃ Q : List Pq, R = Q.map tS := by
  intro R
  induction R with
  | nil => intro _; exact ⟨[], rfl⟩
  | cons y R ih =>
   intro h
   obtain ⟨x, rfl⟩ := h _ (List.mem_cons_self ..)
   obtain ⟨Q, rfl⟩ := ih fun z hz => h z (List.mem_cons_of_mem _ hz)
   exact ⟨x :: Q, rfl⟩
 exact key R fun y hy => by
  obtain ⟨x, _, e⟩ := (h.mem y).1 hy
  exact ⟨x, e⟩
/-- What Alpha returns, out of the pairs. -/
def alphaB (Q : List Pq) (fs ls ns : List ByteArray) : NetR := if 22 < Q.length then errR 2 else netR Q fs ls ns
theorem ealpha_ok (l : List (List ByteArray)) (Q : List Pq) (hQ : Q.length ≤ 17000000) (hp : Ev (fun k => discover_Pairs.f k l) (Q.map tS, 0)) (hs : Small l) (ht : ∀ t ∈ l, t.length ≤ 1048576) (hns : (acts l).length ≤ 12) :
  Ev (fun k => discover_Alpha.f k l) (alphaB Q (sel List.head? l) (sel List.getLast? l) (acts l)) := by
 have hl := hs.len
 have h1 := sel_len List.head? l
 have h2 := sel_len List.getLast? l
 unfold discover_Alpha.f alphaB
 refine Ev.bind hp (Ev.pos rfl ?_)
 have hw : wrap64 (((Q.map tS).length : Int) + 2) = ((Q.length + 2 : Nat) : Int) := by rw [List.length_map]; unfold wrap64; omega
 rw [hw]
 by_cases h : 22 < Q.length
 ·rw [if_pos h]
  exact Ev.pos (by omega) (Ev.now _)
 ·rw [if_neg h]
  refine Ev.neg (by omega) ?_
  rw [List.length_map]
  exact alpha_l0 Q (by omega) l _ _ _ (by omega) (by omega) hns (efirst hs) (elast hs ht) (eacts hs) _ 0 (by omega) rfl
theorem ealpha_err (l : List (List ByteArray)) (e : Int) (he : e ≠ 0) (hp : Ev (fun k => discover_Pairs.f k l) ([], e)) : Ev (fun k => discover_Alpha.f k l) (errR e) := by
 unfold discover_Alpha.f
 exact Ev.bind hp (Ev.neg he (Ev.now _))
end Go.Proofs.YtejchnmhlcbfcaaDoor.Alpha

/- A log, followed by itself reversed: it has the same footprint, activities, first and last ones. -/
namespace Go.Proofs.YtejchnmhlcbfcaaDoor.Feet
open Go.RowKit Go.Proofs.YtejchnmhlcbfcaaDoor.Pr Go.Proofs.YtejchnmhlcbfcaaDoor.Evs Go.Proofs.YtejchnmhlcbfcaaDoor.Logs Go.Proofs.YtejchnmhlcbfcaaDoor.Names Go.Proofs.YtejchnmhlcbfcaaDoorW.PrintWords Go.Proofs.YtejchnmhlcbfcaaDoorW.PrintLast Go.Proofs.YtejchnmhlcbfcaaDoorW.PrintMore
set_option linter.unusedVariables false
set_option linter.unusedSimpArgs false

def oth (l : List (List ByteArray)) : List (List ByteArray) := l ++ l.reverse
theorem oth_mem {l : List (List ByteArray)} {t : List ByteArray} : t ∈ oth l ↔ t ∈ l := by simp [oth]
theorem oth_acts (l : List (List ByteArray)) : acts (oth l) = acts l := srt_uniq (acts_srt _) (acts_srt _) fun y => by
 rw [acts_mem, acts_mem]
 exact ⟨fun ⟨t, h, k⟩ => ⟨t, oth_mem.1 h, k⟩, fun ⟨t, h, k⟩ => ⟨t, oth_mem.2 h, k⟩⟩
theorem oth_sel (g : List ByteArray → Option ByteArray) (l : List (List ByteArray)) : sel g (oth l) = sel g l := srt_uniq (sel_srt _ _) (sel_srt _ _) fun y => by
 rw [sel_mem, sel_mem]
 exact ⟨fun ⟨t, h, k⟩ => ⟨t, oth_mem.1 h, k⟩, fun ⟨t, h, k⟩ => ⟨t, oth_mem.2 h, k⟩⟩
theorem checkGo_ok : ∀ (l : List (List ByteArray)) (i : Nat), (checkGo l i).1 = 0 ↔ ∀ t ∈ l, t.length ≤ 64 ∧ t.all nameB = true
 | [], i => by simp [checkGo]
 | t :: l, i => by
  unfold checkGo
  by_cases h : 64 < t.length
  ·rw [if_pos h]
   simp only [List.forall_mem_cons]
   exact ⟨fun e => absurd e (by decide), fun e => by have := e.1.1; omega⟩
  ·rw [if_neg h]
   cases hn : t.all nameB with
   | false =>
    simp only [List.forall_mem_cons, hn, Bool.false_eq_true, if_false]
    exact ⟨fun e => absurd e (by decide), fun e => absurd e.1.2 (by simp)⟩
   | true =>
    simp only [List.forall_mem_cons, hn, if_true]
    rw [checkGo_ok l (i + 1)]
    exact ⟨fun e => ⟨⟨by omega, trivial⟩, e⟩, fun e => e.2⟩
theorem checkGo_app : ∀ (a b : List (List ByteArray)) (i : Nat), (checkGo (a ++ b) i).1 = if (checkGo a i).1 = 0 then (checkGo b (i + a.length)).1 else (checkGo a i).1
 | [], b, i => by simp [checkGo]
 | t :: a, b, i => by
  rw [List.cons_append, checkGo, checkGo]
  by_cases h : 64 < t.length
  ·rw [if_pos h, if_pos h]; rfl
  ·rw [if_neg h, if_neg h]
   cases hn : t.all nameB with
   | false => simp
   | true =>
    simp only [if_true]
    rw [checkGo_app a b (i + 1), List.length_cons, show i + 1 + a.length = i + (a.length + 1) by omega]
theorem oth_check {l : List (List ByteArray)} (h : 2 * l.length ≤ 64) : (checkB (oth l)).1 = (checkB l).1 := by
 have hl : (oth l).length = 2 * l.length := by simp [oth]; omega
 unfold checkB
 rw [if_neg (by omega), if_neg (by omega)]
 unfold oth
 rw [checkGo_app]
 split
 ·rename_i e
  rw [e, checkGo_ok]
  intro t ht
  exact (checkGo_ok l 0).1 e t (List.mem_reverse.1 ht)
 ·rfl
theorem folL_pos (l : List (List ByteArray)) (a b : ByteArray) : ∀ n, n ≤ l.length → (0 < folL l a b n ↔ ∃ t ∈ l.take n, 0 < fol t a b t.length)
 | 0, _ => by simp [folL]
 | n + 1, h => by
  have hlt : n < l.length := by omega
  have ih := folL_pos l a b n (by omega)
  have hg : l.getD n [] = l[n] := by rw [List.getD_eq_getElem?_getD, List.getElem?_eq_getElem hlt]; rfl
  rw [folL, hg, List.take_succ_eq_append_getElem hlt]
  simp only [List.mem_append, List.mem_singleton]
  constructor
  ·intro e
   by_cases e1 : 0 < folL l a b n
   ·obtain ⟨t, h1, h2⟩ := ih.1 e1
    exact ⟨t, .inl h1, h2⟩
   ·exact ⟨l[n], .inr rfl, by omega⟩
  ·rintro ⟨t, h1 | rfl, h2⟩
   ·have := ih.2 ⟨t, h1, h2⟩; omega
   ·omega
theorem oth_fol (l : List (List ByteArray)) (a b : ByteArray) : 0 < folL (oth l) a b (oth l).length ↔ 0 < folL l a b l.length := by
 rw [folL_pos _ a b _ (Nat.le_refl _), folL_pos _ a b _ (Nat.le_refl _), List.take_length, List.take_length]
 exact ⟨fun ⟨t, h, k⟩ => ⟨t, oth_mem.1 h, k⟩, fun ⟨t, h, k⟩ => ⟨t, oth_mem.2 h, k⟩⟩
theorem oth_rel (l : List (List ByteArray)) (a b : ByteArray) : relL (oth l) a b = relL l a b := by
 have h1 := oth_fol l a b
 have h2 := oth_fol l b a
 unfold relL relOf
 by_cases e1 : 0 < folL l a b l.length <;> by_cases e2 : 0 < folL l b a l.length
 ·rw [if_pos (by have := h1.2 e1; omega), if_pos (by have := h2.2 e2; omega), if_pos (by omega), if_pos (by omega)]
 ·rw [if_pos (by have := h1.2 e1; omega), if_neg (fun h => e2 (h2.1 (by omega))), if_pos (by omega), if_neg (by omega)]
 ·rw [if_neg (fun h => e1 (h1.1 (by omega))), if_pos (by have := h2.2 e2; omega), if_neg (by omega), if_pos (by omega)]
 ·rw [if_neg (fun h => e1 (h1.1 (by omega))), if_neg (fun h => e2 (h2.1 (by omega))), if_neg (by omega), if_neg (by omega)]
theorem oth_mat (l : List (List ByteArray)) (ns : List ByteArray) : matL (oth l) ns = matL l ns := by
 unfold matL rowL
 refine List.map_congr_left fun a _ => List.map_congr_left fun b _ => oth_rel l a b
theorem oth_foot {l : List (List ByteArray)} (h : 2 * l.length ≤ 64) : footB (oth l) = footB l := by
 unfold footB
 rw [oth_check h, oth_acts, oth_mat]
theorem total_rev (l : List (List ByteArray)) : Logs.total l.reverse = Logs.total l := by
 unfold Logs.total
 rw [List.map_reverse, List.sum_reverse]
theorem oth_big {l : List (List ByteArray)} (h : Big l) (h4 : Logs.total l ≤ 400) (h2 : 2 * l.length ≤ 64) : Big (oth l) := by
 refine ⟨by simp [oth]; omega, ?_, fun t ht => h.each t (oth_mem.1 ht)⟩
 have : Logs.total (oth l) = Logs.total l + Logs.total l.reverse := by simp [Logs.total, oth]
 rw [total_rev] at this
 omega
end Go.Proofs.YtejchnmhlcbfcaaDoor.Feet

/- The reference's comparison of nets says yes of one net. -/
namespace Go.Proofs.YtejchnmhlcbfcaaDoor.Eqn
open Go.RowKit Go.Proofs.YtejchnmhlcbfcaaDoor.Pr Go.Proofs.YtejchnmhlcbfcaaDoor.Evs Go.Proofs.YtejchnmhlcbfcaaDoorW.PrintWords Go.Proofs.YtejchnmhlcbfcaaDoorW.PrintLast Go.Proofs.YtejchnmhlcbfcaaDoorW.PrintMore
set_option linter.unusedVariables false
set_option linter.unusedSimpArgs false

theorem arcs_l0 (x : List S62) (hl : x.length < 4611686018427387904) : ∀ d i, i ≤ x.length → x.length - i = d → Ev (fun k => r09_SameArcs.l0 k x x (i : Int)) true := by
 intro d
 induction d with
 | zero =>
  intro i hi hd
  refine Ev.succ ?_
  simp only [r09_SameArcs.l0]
  exact Ev.neg (by omega) (Ev.now _)
 | succ d ih =>
  intro i hi hd
  have := ih (i + 1) (by omega) (by omega)
  refine Ev.succ ?_
  simp only [r09_SameArcs.l0]
  rw [wrap_succ (by omega)]
  exact Ev.pos (by omega) (Ev.pos (by omega) (Ev.pos (by omega) (Ev.neg (by simp) this)))
theorem arcs (x : List S62) (hl : x.length < 4611686018427387904) : Ev (fun k => r09_SameArcs.f k x x) true := by
 unfold r09_SameArcs.f
 exact Ev.pos rfl (arcs_l0 x hl _ 0 (by omega) rfl)
theorem rd_tr {l : List S41} {i : Nat} (h : i < l.length) : rd_T41 l (i : Int) = l[i] := by simp [rd_T41, h]
theorem equal_l1 (a : ByteArray) (p : List S59) (t : List S41) (ht : t.length < 4611686018427387904) (hts : ∀ x ∈ t, x.f1.length < 4611686018427387904 ∧ x.f2.length < 4611686018427387904 ∧ x.f3.length < 4611686018427387904) :
  ∀ d i, i ≤ t.length → t.length - i = d → Ev (fun k => r09_Equal.l1 k (i : Int) a p t a p t) true := by
 intro d
 induction d with
 | zero =>
  intro i hi hd
  refine Ev.succ ?_
  simp only [r09_Equal.l1]
  exact Ev.neg (by omega) (Ev.now _)
 | succ d ih =>
  intro i hi hd
  have hlt : i < t.length := by omega
  have := ih (i + 1) (by omega) (by omega)
  obtain ⟨h1, h2, h3⟩ := hts _ (List.getElem_mem hlt)
  refine Ev.succ ?_
  simp only [r09_Equal.l1, rd_tr hlt]
  rw [wrap_succ (by omega)]
  exact Ev.pos (by omega) (Ev.pos (by omega) (Ev.pos (by omega) (Ev.pos trivial (Ev.pos trivial (Ev.bind (arcs _ h1) (Ev.pos rfl (Ev.bind (arcs _ h2) (Ev.pos rfl (Ev.bind (arcs _ h3) (Ev.pos rfl this))))))))))
theorem equal_l0 (a : ByteArray) (p : List S59) (t : List S41) (hp : p.length < 4611686018427387904) (h : Ev (fun k => r09_Equal.l1 k 0 a p t a p t) true) :
  ∀ d i, i ≤ p.length → p.length - i = d → Ev (fun k => r09_Equal.l0 k (i : Int) a p t a p t) true := by
 intro d
 induction d with
 | zero =>
  intro i hi hd
  refine Ev.succ ?_
  simp only [r09_Equal.l0]
  exact Ev.neg (by omega) h
 | succ d ih =>
  intro i hi hd
  have := ih (i + 1) (by omega) (by omega)
  refine Ev.succ ?_
  simp only [r09_Equal.l0]
  rw [wrap_succ (by omega)]
  exact Ev.pos (by omega) (Ev.pos (by omega) (Ev.pos (by omega) (Ev.neg (by simp) this)))
theorem equal (a : ByteArray) (p : List S59) (t : List S41) (hp : p.length < 4611686018427387904) (ht : t.length < 4611686018427387904) (hts : ∀ x ∈ t, x.f1.length < 4611686018427387904 ∧ x.f2.length < 4611686018427387904 ∧ x.f3.length < 4611686018427387904) :
  Ev (fun k => r09_Equal.f k a p t a p t) true := by
 have h0 := equal_l0 a p t hp (equal_l1 a p t ht hts _ 0 (by omega) rfl) _ 0 (by omega) rfl
 have hj : Ev (fun k => r09_Equal.j0 k false a p t a p t) true := by
  refine Ev.succ ?_
  simp only [r09_Equal.j0]
  exact Ev.neg (by decide) h0
 unfold r09_Equal.f
 rw [bne_self_eq_false]
 exact Ev.pos rfl (Ev.pos rfl hj)
end Go.Proofs.YtejchnmhlcbfcaaDoor.Eqn

/- The example of the chapter. -/
namespace Go.Proofs.YtejchnmhlcbfcaaDoor.Feet
open Go.RowKit Go.Proofs.YtejchnmhlcbfcaaDoor.Pr Go.Proofs.YtejchnmhlcbfcaaDoor.Evs Go.Proofs.YtejchnmhlcbfcaaDoorW.PrintWords Go.Proofs.YtejchnmhlcbfcaaDoorW.PrintLast Go.Proofs.YtejchnmhlcbfcaaDoorW.PrintMore
set_option maxRecDepth 100000 in
theorem alive_now : l49_exampleHolds.f 60 = some true := by decide +kernel
theorem alive : Ev (fun k => l49_exampleHolds.f k) true := Ev.of l49_exampleHolds.mono alive_now
theorem alive' : Ev (fun k => (l49_exampleHolds.f k).bind fun t => some t) true := Ev.bind alive (Ev.now _)
end Go.Proofs.YtejchnmhlcbfcaaDoor.Feet

/- For all logs Alpha of package discover returns the same net, or the same error, if the traces are repeated in reverse order; and Same says so. -/
namespace Go.Proofs.YtejchnmhlcbfcaaDoor.Pure
open Go.RowKit Go.Proofs.YtejchnmhlcbfcaaDoor.Pr Go.Proofs.YtejchnmhlcbfcaaDoor.Evs Go.Proofs.YtejchnmhlcbfcaaDoor.Logs Go.Proofs.YtejchnmhlcbfcaaDoor.Feet Go.Proofs.YtejchnmhlcbfcaaDoor.Caus Go.Proofs.YtejchnmhlcbfcaaDoor.Alpha Go.Proofs.YtejchnmhlcbfcaaDoorW.PrintWords Go.Proofs.YtejchnmhlcbfcaaDoorW.PrintLast Go.Proofs.YtejchnmhlcbfcaaDoorW.PrintMore
set_option linter.unusedVariables false
set_option linter.unusedSimpArgs false

theorem netR_small (Q : List Pq) (fs ls ns : List ByteArray) (hQ : Q.length ≤ 22) (hn : ns.length ≤ 12) :
  (netR Q fs ls ns).2.1.length ≤ 24 ∧ (netR Q fs ls ns).2.2.1.length ≤ 12 ∧ ∀ x ∈ (netR Q fs ls ns).2.2.1, x.f1.length ≤ 23 ∧ x.f2.length ≤ 23 ∧ x.f3.length ≤ 23 := by
 unfold netR
 split
 ·simp [errR]
 ·refine ⟨by rw [plUp_len]; omega, by rw [trUp_len]; omega, fun x hx => ?_⟩
  obtain ⟨i, _, rfl⟩ := trUp_mem hx
  unfold trOf
  have h1 := arUp_len (·.2) Q i Q.length
  have h2 := arUp_len (·.1) Q i Q.length
  have h3 := endAr_len fs (ns.getD i ByteArray.empty) 0
  have h4 := endAr_len ls (ns.getD i ByteArray.empty) 1
  simp only [List.length_append, List.length_nil]
  omega
/-- What Alpha answers to a log and to the log with its traces repeated. -/
theorem alpha_both {l : List (List ByteArray)} (h : Big l) (h4 : Logs.total l ≤ 400) (h2 : 2 * l.length ≤ 64) :
  ∃ r : NetR, Ev (fun k => discover_Alpha.f k l) r ∧ Ev (fun k => discover_Alpha.f k (oth l)) r ∧
   (r.2.1.length ≤ 24 ∧ r.2.2.1.length ≤ 12 ∧ ∀ x ∈ r.2.2.1, x.f1.length ≤ 23 ∧ x.f2.length ≤ 23 ∧ x.f3.length ≤ 23) := by
 have hO := oth_big h h4 h2
 have hf := oth_foot h2
 by_cases he : (footB l).2 = 0
 ·have hns : (acts l).length ≤ 12 := by rw [← foot_len he]; exact (foot_small l).1
  have ht : ∀ t ∈ l, t.length ≤ 1048576 := fun t ht => by have := (h.each t ht).1; omega
  have ht2 : ∀ t ∈ oth l, t.length ≤ 1048576 := fun t ht => by have := (hO.each t ht).1; omega
  obtain ⟨L, p1, p2, p3, p4⟩ := epairs (foot_mat he)
  obtain ⟨R, e1, a1⟩ := eans h he (foot_mat he)
  obtain ⟨R2, e2, a2⟩ := eans hO (by rw [hf]; exact he) (by rw [hf]; exact foot_mat he)
  rw [hf] at a2
  obtain rfl := a1.eq a2
  obtain ⟨Q, rfl⟩ := ans_map a1
  have hQ : Q.length ≤ 17000000 := by
   obtain ⟨s1, s2⟩ := fold_ins L [] p2 List.Pairwise.nil (by simp)
   have : (L.map prS).foldl insP [] = Q.map tS := Ans.eq ⟨s1, fun y => by
    rw [s2]
    constructor
    ·rintro (e | ⟨x, hx, rfl⟩)
     ·cases e
     ·exact ⟨x, (p4 x).1 hx, rfl⟩
    ·rintro ⟨x, hx, rfl⟩
     exact .inr ⟨x, (p4 x).2 hx, rfl⟩⟩ a1
   have hl := congrArg List.length this
   rw [foldP_len, List.length_map, List.length_map] at hl
   simp at hl
   omega
  have r1 := ealpha_ok l Q hQ e1 h.small ht hns
  have r2 := ealpha_ok (oth l) Q hQ e2 hO.small ht2 (by rw [oth_acts]; exact hns)
  rw [oth_acts, oth_sel, oth_sel] at r2
  refine ⟨_, r1, r2, ?_⟩
  unfold alphaB
  split
  ·simp [errR]
  ·exact netR_small Q _ _ _ (by omega) hns
 ·have r1 := ealpha_err l _ he (eerr h he)
  have r2 := ealpha_err (oth l) _ (by rw [hf]; exact he) (eerr hO (by rw [hf]; exact he))
  rw [hf] at r2
  exact ⟨_, r1, r2, by simp [errR]⟩
theorem repeats_l0 {l : List (List ByteArray)} (hl : l.length ≤ 80) (R : Bool)
  (h : Ev (fun k => l49_DiscoverRepeats.l0 k l (oth l) (-1)) R) :
  ∀ n, n ≤ l.length → Ev (fun k => l49_DiscoverRepeats.l0 k l (l ++ (l.drop n).reverse) ((n : Int) - 1)) R := by
 intro n
 induction n with
 | zero =>
  intro _
  rw [List.drop_zero]
  exact h
 | succ n ih =>
  intro hn
  have hlt : n < l.length := by omega
  have hih := ih (by omega)
  rw [List.drop_eq_getElem_cons hlt, List.reverse_cons, ← List.append_assoc] at hih
  have e : (((n + 1 : Nat) : Int) - 1) = (n : Int) := by omega
  rw [e]
  refine Ev.succ ?_
  simp only [l49_DiscoverRepeats.l0, rd_L1_get hlt]
  have hw : wrap64 ((n : Int) - 1) = (n : Int) - 1 := by unfold wrap64; omega
  rw [hw]
  refine Ev.pos (by omega) (Ev.pos (by omega) (Ev.pos (by omega) (Ev.pos ?_ hih)))
  rw [List.length_append, List.length_reverse, List.length_drop]; omega
theorem DiscoverRepeats (a : List (List ByteArray)) (ha : LogZ a) : ∃ k, l49_DiscoverRepeats.f k a = some true := by
 apply Ev.rounds
 unfold l49_DiscoverRepeats.f
 have hyes : Ev (fun k => l49_DiscoverRepeats.j0 k a true) true := by
  refine Ev.succ ?_
  simp only [l49_DiscoverRepeats.j0]
  exact Ev.pos trivial alive'
 obtain ⟨x, hx, hX⟩ := large4 a ha
 refine Ev.bind hx ?_
 cases x with
 | true => exact Ev.pos rfl hyes
 | false =>
  refine Ev.neg (by decide) ?_
  obtain ⟨hb, h4⟩ := hX rfl
  have hlen := hb.len
  have hw : wrap64 (2 * (a.length : Int)) = 2 * (a.length : Int) := by unfold wrap64; omega
  rw [hw]
  by_cases h2 : 2 * a.length ≤ 64
  ·rw [decide_eq_false (by omega)]
   obtain ⟨r, r1, r2, q1, q2, q3⟩ := alpha_both hb h4 h2
   have hO := oth_big hb h4 h2
   have hE := Eqn.equal r.1 r.2.1 r.2.2.1 (by omega) (by omega) fun x hx => by have := q3 x hx; omega
   have hS : sameB a (oth a) = ((footB a).2 == 0) := by
    unfold sameB
    rw [oth_foot h2, oth_acts]
    by_cases e : (footB a).2 = 0
    ·simp [e]
    ·simp [e]
   have j2 : Ev (fun k => l49_DiscoverRepeats.j2 k a (oth a) false) true := by
    refine Ev.succ ?_
    simp only [l49_DiscoverRepeats.j2]
    exact Ev.neg (by decide) (Ev.bind (efoot hb) (Ev.bind (esame hb hO) (Ev.pos (by rw [hS]; simp) alive')))
   have hend : Ev (fun k => l49_DiscoverRepeats.l0 k a (oth a) (-1)) true := by
    refine Ev.succ ?_
    simp only [l49_DiscoverRepeats.l0]
    exact Ev.neg (by decide) (Ev.bind r1 (Ev.bind r2 (Ev.pos rfl (Ev.bind hE j2))))
   have h0 := repeats_l0 hlen true hend a.length (Nat.le_refl _)
   rw [List.drop_length, List.reverse_nil, List.append_nil] at h0
   refine Ev.succ ?_
   simp only [l49_DiscoverRepeats.j0, List.nil_append]
   have hw1 : wrap64 ((a.length : Int) - 1) = (a.length : Int) - 1 := by unfold wrap64; omega
   rw [hw1]
   exact Ev.neg (by decide) (Ev.pos (by simp; omega) h0)
  ·rw [decide_eq_true (by omega)]
   exact hyes
end Go.Proofs.YtejchnmhlcbfcaaDoor.Pure

/-
 DERIVED. GIVEN WITH THE SEED: THE CARDS: each row of YtejchnmhlcbfcaaDoorRows.lean that lists a variable, with what it lists TIED to the program's text (the seventh form; the later family's looks); each row that meets fmt, with fmt's text TOLD by the authors' own Lean function (tested against real Go, not proved from fmt's source: count such statements apart). THE CARD IS WHAT COUNTS. Prove the row's statement (the work); the ties are given (YtejchnmhlcbfcaaDoorTie.lean); close each card by the builder's one call (the guide's Derived/Test/ToyasCard.lean, 'card_holds'). Laid BY PROGRAM, IN A SANDBOX (cutbox-door.mjs). By AI agents, Wed Nov 11 2026. No macro, syntax, notation, axiom, sorry.
-/
namespace Go.Proofs.YtejchnmhlcbfcaaDoor
namespace Rows

/-- THE TIED CARD OF 'petrinetlaw49.DiscoverRepeats'. -/
def discoverRepeatsCard : Claim7 := { stood := { row := discoverRepeatsRow, standIns := [], harness := (true, "77565be1076ce014ec4aba3d17fa3295ea803b379bef6a53e836d7d5afb2bf46"), looks := false }, kinds := [], alts := [], laidByText := true, laidKinds := [.data, .data, .data], laidTests := true, laidLooks := .later }
def DiscoverRepeatsCardSaid : Prop := Claim7.holds Tryd.pinned (.plain (OpenSpec.ofChange discoverRepeatsSpec)) discoverRepeatsCard

end Rows
end Go.Proofs.YtejchnmhlcbfcaaDoor

/-
 DERIVED. GIVEN WITH THE SEED: THE PROGRAM's TIES (one call each: nine closed facts by the kernel) AND EACH ROW's TIE, after the 31st guide's Derived/Test/Toyas{Tie, Card}.lean. No idea stands in it: it is a product of the set-up. Laid BY PROGRAM, IN A SANDBOX (cutbox-door.mjs). By AI agents, Wed Nov 11 2026. No macro, syntax, notation, axiom, sorry.
-/
namespace Go.Proofs.YtejchnmhlcbfcaaDoor
open Go
set_option maxRecDepth 100000
theorem seatTie1 : Tryd.prog.laidByTextLater [("math/bits.deBruijn32tab", Rows.laid_math_bits_deBruijn32tab), ("math/bits.deBruijn64tab", Rows.laid_math_bits_deBruijn64tab), ("internal/strconv.uint64pow10", Rows.laid_internal_strconv_uint64pow10)] [.data, .data, .data] true :=
 Program.laidByTextLater_by_one 24 8 65 (by kernel_rfl) (by kernel_rfl) (by kernel_rfl) (by kernel_rfl) (by kernel_rfl) (by kernel_rfl) (fun _ _ => by kernel_rfl)
theorem noOwnUnsafe : Tryd.pinned.checked.prog.headLifts.contains "ownunsafe" = false := by kernel_rfl
theorem tie : Tryd.prog.laidByTextLater [("math/bits.deBruijn32tab", Rows.laid_math_bits_deBruijn32tab), ("math/bits.deBruijn64tab", Rows.laid_math_bits_deBruijn64tab), ("internal/strconv.uint64pow10", Rows.laid_internal_strconv_uint64pow10)] [.data, .data, .data] true :=
 Program.laidByTextLater.sub seatTie1 ["math/bits.deBruijn32tab", "math/bits.deBruijn64tab", "internal/strconv.uint64pow10"] (by kernel_rfl) (by kernel_rfl)
theorem discoverRepeats_row_tie : Rows.discoverRepeatsRow.laidByTextAt .later Tryd.pinned [.data, .data, .data] true :=
 OpenClaim.laidByTextAt_later rfl rfl tie noOwnUnsafe
end Go.Proofs.YtejchnmhlcbfcaaDoor

