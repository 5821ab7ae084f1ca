/- For all logs, Activities, Variants, First and Last of package eventlog return what the reference returns. -/
import Derived.Test.YtaofommgdgmncaaQEventlogCounts0
import Derived.Test.YtaofommgdgmncaaQEventlogCounts1
import Derived.Test.YtaofommgdgmncaaVEventlogCounts
import Derived.Deep.Slices
import Derived.ChangeArms
import Derived.Test.YtaofommgdgmncaaBEventlogCounts
/- General lemmas of this seat's proofs, in one text. -/
/- A datum that is read deep (the statements' reader) told as the walks tell it: rows of rows, texts, numbers. -/
namespace Go.Proofs.Ytaofommgdgmncaa.Opens
set_option linter.unusedVariables false
open Go.RowKit Go.WideShapes Go.Deep Go.Proofs.YtaofommgdgmncaaW.PrintWords

/-- What the statements' reader finds at cells of type t is what d tells of some a with ok. -/
structure Opens {α H : Type} (enc : TypeId × Value → H) (P : Program) (w : World) (base : Nat) (spare : Nat → Bool) (held : Bool) (d : Kd α) (t : TypeId) (ok : α → Prop) : Prop where
  cells : P.cellsOf t = d.sz
  opens : ∀ (fuel : Nat) (cs : List Value) (x : DataW H × List MemPlace), DataW.trod enc P w base spare held fuel t cs = some x → ∃ a, d.K w a cs ∧ ok a

section
variable {H : Type} {enc : TypeId × Value → H} {P : Program} {w : World} {base : Nat} {spare : Nat → Bool} {held : Bool}
theorem string {t : TypeId} (ht : P.underlying t = some .string) (hc : P.cellsOf t = 1) : Opens enc P w base spare held Kd.string t (fun s => s.size ≤ maxLen) :=
  ⟨hc, fun fuel cs x h => by obtain ⟨s, rfl, _, hs⟩ := DataW.trod_string ht h; exact ⟨s, rfl, hs⟩⟩
theorem bool {t : TypeId} (ht : P.underlying t = some .bool) (hc : P.cellsOf t = 1) : Opens enc P w base spare held Kd.bool t (fun _ => True) :=
  ⟨hc, fun fuel cs x h => by obtain ⟨s, rfl, _⟩ := DataW.trod_bool ht h; exact ⟨s, rfl, trivial⟩⟩
theorem int {t : TypeId} {k : IntKind} (ht : P.underlying t = some (.int k)) (hc : P.cellsOf t = 1) : Opens enc P w base spare held (Kd.int k) t (fun n => (Lit.int k n).wf = true) :=
  ⟨hc, fun fuel cs x h => by obtain ⟨s, rfl, _, hs⟩ := DataW.trod_int ht h; exact ⟨s, rfl, hs⟩⟩
theorem list_of {α : Type} {p : Nat → α → Prop} : ∀ (n : Nat), (∀ i, i < n → ∃ a, p i a) → ∃ xs : List α, xs.length = n ∧ ∀ i a, xs[i]? = some a → p i a
  | 0, _ => ⟨[], rfl, fun i a h => by simp at h⟩
  | n + 1, h => by
    obtain ⟨xs, hl, hx⟩ := list_of n (fun i hi => h i (by omega))
    obtain ⟨a, ha⟩ := h n (by omega)
    refine ⟨xs ++ [a], by simp [hl], fun i b hb => ?_⟩
    by_cases hi : i < xs.length
    · rw [List.getElem?_append_left hi] at hb; exact hx i b hb
    · have hlt := (List.getElem?_eq_some_iff.1 hb).1
      simp only [List.length_append, List.length_cons, List.length_nil] at hlt
      obtain rfl : i = n := by omega
      rw [List.getElem?_append_right (by omega)] at hb
      simp [hl] at hb
      rw [← hb]; exact ha
theorem slice {α : Type} {d : Kd α} {t e : TypeId} {ok : α → Prop} (h : Opens enc P w base spare held d e ok) (ht : P.underlying t = some (.slice e)) (hc : P.cellsOf t = 1) :
    Opens enc P w base spare held (Kd.slice e d) t (fun xs => xs.length ≤ maxLen ∧ ∀ x ∈ xs, ok x) := by
  refine ⟨hc, fun fuel cs x hx => ?_⟩
  rcases open_slice ht hx with ⟨rfl, _⟩ | ⟨a, len, cap, m, n, D, Pl, rfl, _, hl, hm, hmm, _, hi⟩
  · exact ⟨[], ⟨none, 0, rfl, Nat.le_refl _, Kd.C_nil _ _⟩, by simp, by simp⟩
  · have hlm : len ≤ m := by rw [hmm]; split <;> omega
    obtain ⟨xs, hxl, hxs⟩ := list_of (p := fun i b => ∃ c, c.length = d.sz ∧ d.K w b c ∧ ok b ∧ ∀ j u, c[j]? = some u → w.cell? (a.add (i * d.sz + j)) = some u) len (fun i hlt => by
      obtain ⟨cs', h1, h2⟩ := hi i (by omega)
      obtain ⟨b, hK, hok⟩ := h.opens _ _ _ h2
      obtain ⟨_, hlen, hcell⟩ := World.cells?_some h1
      refine ⟨b, cs', by rw [hlen, h.cells], hK, hok, fun j u hu => ?_⟩
      have hj := (List.getElem?_eq_some_iff.1 hu).1
      rw [← hu, ← hcell j (by omega), h.cells, Addr.add_add])
    subst hxl
    refine ⟨xs, ⟨some a, cap, rfl, hl, rfl, by unfold maxLen at hm; omega, fun _ => ⟨a, rfl, fun j p hp => ?_⟩⟩, by omega, fun y hy => ?_⟩
    · obtain ⟨c, h1, h2, _, h4⟩ := hxs j p hp
      exact ⟨c, h1, h2, h4⟩
    · obtain ⟨j, hj⟩ := List.mem_iff_getElem?.1 hy
      obtain ⟨c, _, _, h3, _⟩ := hxs j y hj
      exact h3
/-- A parameter that is a row. -/
theorem param {α : Type} {d : Kd α} {t e : TypeId} {ok : α → Prop} (h : Opens enc P w base spare held d e ok) (ht : P.underlying t = some (.slice e)) (hc : P.cellsOf t = 1) {a : Option Addr} {len cap : Nat} {D : DataW H} {ps : List MemPlace}
    (hd : DataW.Trod enc P w base spare held t (.slice a len cap) D ps) : ∃ xs : List α, len = xs.length ∧ xs.length ≤ cap ∧ d.C w a xs.length xs ∧ xs.length ≤ maxLen ∧ ∀ x ∈ xs, ok x := by
  obtain ⟨fuel, hf⟩ := hd
  obtain ⟨xs, ⟨A, c, he, hcap, hC⟩, hl, hx⟩ := (slice h ht hc).opens _ _ _ hf
  have he' : [Value.slice a len cap] = [.slice A xs.length c] := he
  simp only [List.cons.injEq, Value.slice.injEq, and_true] at he'
  obtain ⟨rfl, rfl, rfl⟩ := he'
  exact ⟨xs, rfl, hcap, hC, hl, hx⟩
/-! ### Structs -/
/-- The fields of a struct, from some place of its cells on. -/
structure OpensL {α H : Type} (enc : TypeId × Value → H) (P : Program) (w : World) (base : Nat) (spare : Nat → Bool) (held : Bool) (d : Kd α) (fs : List Field) (o : Nat) (ok : α → Prop) : Prop where
  opens : ∀ (n : Nat) (cs : List Value), (∀ f ∈ fs, ∃ y, DataW.trod enc P w base spare held n f.type ((cs.drop f.offset).take (P.cellsOf f.type)) = some y) → ∃ a, d.K w a ((cs.drop o).take d.sz) ∧ ok a
theorem one {α : Type} {d : Kd α} {f : Field} {o : Nat} {ok : α → Prop} (h : Opens enc P w base spare held d f.type ok) (ho : f.offset = o) : OpensL enc P w base spare held d [f] o ok :=
  ⟨fun n cs hf => by
    obtain ⟨y, hy⟩ := hf f List.mem_cons_self
    obtain ⟨a, hK, hok⟩ := h.opens _ _ _ hy
    rw [h.cells, ho] at hK
    exact ⟨a, hK, hok⟩⟩
theorem cons {α β : Type} {d1 : Kd α} {d2 : Kd β} {f : Field} {fs : List Field} {o o2 : Nat} {ok1 : α → Prop} {ok2 : β → Prop} (h : Opens enc P w base spare held d1 f.type ok1) (ho : f.offset = o) (ho2 : o + d1.sz = o2) (h2 : OpensL enc P w base spare held d2 fs o2 ok2) :
    OpensL enc P w base spare held (Kd.pair d1 d2) (f :: fs) o (fun a => ok1 a.1 ∧ ok2 a.2) :=
  ⟨fun n cs hf => by
    obtain ⟨y, hy⟩ := hf f List.mem_cons_self
    obtain ⟨a, hK, hok⟩ := h.opens _ _ _ hy
    rw [h.cells, ho] at hK
    obtain ⟨b, hK2, hok2⟩ := h2.opens n cs (fun g hg => hf g (List.mem_cons_of_mem _ hg))
    refine ⟨(a, b), ⟨_, _, ?_, hK, hK2⟩, hok, hok2⟩
    rw [← ho2, ← List.drop_drop]
    exact List.take_add⟩
theorem tuple {α : Type} {d : Kd α} {t : TypeId} {fs : Array Field} {ok : α → Prop} (ht : P.underlying t = some (.struct fs)) (hc : P.cellsOf t = d.sz) (h : OpensL enc P w base spare held d fs.toList 0 ok) : Opens enc P w base spare held d t ok := by
  refine ⟨hc, fun fuel cs x hx => ?_⟩
  obtain ⟨xs, n, rfl, rfl, hl, hlen, hf⟩ := DataW.trod_struct ht hx
  obtain ⟨a, hK, hok⟩ := h.opens n cs (fun f hm => by
    obtain ⟨i, hi⟩ := List.mem_iff_getElem?.1 hm
    have hi' : fs[i]? = some f := by simpa using hi
    have hlt : i < xs.length := by rw [hlen]; exact (Array.getElem?_eq_some_iff.1 hi').1
    exact ⟨xs[i], by rw [hf i f hi', List.getElem?_eq_getElem hlt]⟩)
  rw [List.drop_zero, List.take_of_length_le (by rw [hl, hc]; exact Nat.le_refl _)] at hK
  exact ⟨a, hK, hok⟩
theorem struct {α β : Type} {d : Kd α} {t : TypeId} {fs : Array Field} {ok : α → Prop} {f : β → α} (g : α → β) (hg : ∀ a, f (g a) = a) (ht : P.underlying t = some (.struct fs)) (hc : P.cellsOf t = d.sz) (h : OpensL enc P w base spare held d fs.toList 0 ok) :
    Opens enc P w base spare held (Kd.iso d f) t (fun b => ok (f b)) := by
  refine ⟨hc, fun fuel cs x hx => ?_⟩
  obtain ⟨a, hK, hok⟩ := (tuple ht hc h).opens fuel cs x hx
  exact ⟨g a, by show d.K w (f (g a)) cs; rw [hg]; exact hK, by rw [hg]; exact hok⟩
/-- A parameter that is a struct. -/
theorem value {α : Type} {d : Kd α} {t : TypeId} {ok : α → Prop} (h : Opens enc P w base spare held d t ok) {cs : Array Value} {D : DataW H} {ps : List MemPlace}
    (hd : DataW.Trod enc P w base spare held t (.agg cs) D ps) : ∃ a, d.K w a cs.toList ∧ ok a := by
  obtain ⟨fuel, hf⟩ := hd
  obtain ⟨a, hK, hok⟩ := h.opens _ _ _ hf
  exact ⟨a, by simpa [Value.cells] using hK, hok⟩
end
end Go.Proofs.Ytaofommgdgmncaa.Opens

/- What the functions of the reference of eventlog answer. -/
namespace Go.Proofs.Ytaofommgdgmncaa.Logs
open Go.RowKit Go.Proofs.Ytaofommgdgmncaa.Pr Go.Proofs.Ytaofommgdgmncaa.Evs Go.Proofs.Ytaofommgdgmncaa.Parts Go.Proofs.Ytaofommgdgmncaa.Names Go.Proofs.YtaofommgdgmncaaW.PrintWords Go.Proofs.YtaofommgdgmncaaW.PrintLast Go.Proofs.YtaofommgdgmncaaW.PrintMore
set_option linter.unusedVariables false
set_option linter.unusedSimpArgs false

/-! ### names -/
/-! ### parts and words -/
/-! ### equal lists of lists -/
theorem same_l0 (a b : List ByteArray) (hab : a.length = b.length) (hl : a.length < 9223372036854775807) : ∀ (d i : Nat), i ≤ a.length → a.length - i = d → a.take i = b.take i → Ev (fun k => petrinetref48_Same.l0 k a b (i : Int)) (decide (a = b)) := by
  intro d
  induction d with
  | zero =>
    intro i hi hd he
    obtain rfl : i = a.length := by omega
    refine Ev.succ ?_
    simp only [petrinetref48_Same.l0]
    refine Ev.neg (by omega) ?_
    rw [List.take_length, hab, List.take_length] at he
    rw [decide_eq_true he]
    exact Ev.now _
  | succ d ih =>
    intro i hi hd he
    have hlt : i < a.length := by omega
    have hlb : i < b.length := by omega
    refine Ev.succ ?_
    simp only [petrinetref48_Same.l0]
    refine Ev.pos (by omega) (Ev.pos (by omega) (Ev.pos (by omega) ?_))
    rw [rdOf_get hlt, rdOf_get hlb, wrap_succ (by omega)]
    by_cases h : a[i] = b[i]
    · exact Ev.pos ((bytes_eq _ _).2 h) (ih (i + 1) (by omega) (by omega) (by rw [List.take_succ_eq_append_getElem hlt, List.take_succ_eq_append_getElem hlb, he, h]))
    · rw [decide_eq_false (fun e => h (by simp [e]))]
      exact Ev.neg (fun e => h ((bytes_eq _ _).1 e)) (Ev.now _)
theorem rsame (a b : List ByteArray) (hl : a.length < 9223372036854775807) : Ev (fun k => petrinetref48_Same.f k a b) (decide (a = b)) := by
  unfold petrinetref48_Same.f
  by_cases h : a.length = b.length
  · exact Ev.pos (by omega) (same_l0 a b h hl _ 0 (by omega) rfl rfl)
  · rw [decide_eq_false (fun e => h (by rw [e]))]
    exact Ev.neg (by omega) (Ev.now _)
theorem rd_L1_get {l : List (List ByteArray)} {i : Nat} (h : i < l.length) : rd_L1 l (i : Int) = l[i] := by simp [rd_L1, h]
theorem equal_l0 (a b : List (List ByteArray)) (hab : a.length = b.length) (hl : a.length < 9223372036854775807) (hm : ∀ t ∈ a, t.length < 9223372036854775807) : ∀ (d i : Nat), i ≤ a.length → a.length - i = d → a.take i = b.take i → Ev (fun k => petrinetref48_Equal.l0 k a b (i : Int)) (decide (a = b)) := by
  intro d
  induction d with
  | zero =>
    intro i hi hd he
    obtain rfl : i = a.length := by omega
    refine Ev.succ ?_
    simp only [petrinetref48_Equal.l0]
    refine Ev.neg (by omega) ?_
    rw [List.take_length, hab, List.take_length] at he
    rw [decide_eq_true he]
    exact Ev.now _
  | succ d ih =>
    intro i hi hd he
    have hlt : i < a.length := by omega
    have hlb : i < b.length := by omega
    refine Ev.succ ?_
    simp only [petrinetref48_Equal.l0]
    refine Ev.pos (by omega) (Ev.pos (by omega) (Ev.pos (by omega) ?_))
    rw [rd_L1_get hlt, rd_L1_get hlb, wrap_succ (by omega)]
    refine Ev.bind (rsame a[i] b[i] (hm _ (List.getElem_mem hlt))) ?_
    by_cases h : a[i] = b[i]
    · exact Ev.pos (decide_eq_true h) (ih (i + 1) (by omega) (by omega) (by rw [List.take_succ_eq_append_getElem hlt, List.take_succ_eq_append_getElem hlb, he, h]))
    · rw [decide_eq_false (show ¬ a = b from fun e => h (by simp [e]))]
      exact Ev.neg (by simpa using h) (Ev.now _)
theorem requal (a b : List (List ByteArray)) (hl : a.length < 9223372036854775807) (hm : ∀ t ∈ a, t.length < 9223372036854775807) : Ev (fun k => petrinetref48_Equal.f k a b) (decide (a = b)) := by
  unfold petrinetref48_Equal.f
  by_cases h : a.length = b.length
  · exact Ev.pos (by omega) (equal_l0 a b h hl hm _ 0 (by omega) rfl rfl)
  · rw [decide_eq_false (fun e => h (by rw [e]))]
    exact Ev.neg (by omega) (Ev.now _)

/-! ### Parse -/
end Go.Proofs.Ytaofommgdgmncaa.Logs

/- How often one name follows another, and which logs are few. -/
namespace Go.Proofs.Ytaofommgdgmncaa.Logs
open Go.RowKit Go.Proofs.Ytaofommgdgmncaa.Pr Go.Proofs.Ytaofommgdgmncaa.Evs Go.Proofs.YtaofommgdgmncaaW.PrintWords Go.Proofs.YtaofommgdgmncaaW.PrintLast Go.Proofs.YtaofommgdgmncaaW.PrintMore
set_option linter.unusedVariables false
set_option linter.unusedSimpArgs false

/-! ### few -/
def total (l : List (List ByteArray)) : Nat := (l.map List.length).sum
structure Few (l : List (List ByteArray)) : Prop where
  len : l.length ≤ 80
  total : total l ≤ 400
  each : ∀ t ∈ l, t.length ≤ 80 ∧ ∀ s ∈ t, s.size ≤ 40
theorem total_snoc (l : List (List ByteArray)) (t : List ByteArray) : total (l ++ [t]) = total l + t.length := by simp [Logs.total]
theorem few_l1 (l : List (List ByteArray)) (i : Nat) (hi : i < l.length) (n : Int) (p : Prop) (hL : l.length ≤ 9223372036854775807)
    (hnext : l[i].length ≤ 80 → ∃ b, Ev (fun k => petrinetlaw48_few.l0 k l n ((i + 1 : Nat) : Int)) b ∧ (b = true → p)) : ∀ (d q : Nat), q ≤ l[i].length → l[i].length - q = d → ∃ b, Ev (fun k => petrinetlaw48_few.l1 k l n (i : Int) (q : Int)) b ∧ (b = true → (∀ s ∈ l[i].drop q, s.size ≤ 40) ∧ l[i].length ≤ 80 ∧ p) := by
  have hlast : ∀ q : Nat, (l[i].length ≤ q ∨ 81 ≤ q) → ∃ b, Ev (fun k => petrinetlaw48_few.j3 k l n (i : Int) (q : Int) false) b ∧ (b = true → l[i].length ≤ 80 ∧ p) := by
    intro q hq
    by_cases h80 : (l[i].length : Int) > 80
    · refine ⟨false, Ev.succ ?_, fun h => by cases h⟩
      simp only [petrinetlaw48_few.j3, rd_L1_get hi]
      exact Ev.neg (by decide) (Ev.pos (by omega) (Ev.pos (by omega) (Ev.pos h80 (Ev.now _))))
    · obtain ⟨b, hb, hp⟩ := hnext (by omega)
      refine ⟨b, Ev.succ ?_, fun h => ⟨by omega, hp h⟩⟩
      simp only [petrinetlaw48_few.j3, rd_L1_get hi]
      rw [wrap_succ (i := i) (by omega)]
      exact Ev.neg (by decide) (Ev.pos (by omega) (Ev.pos (by omega) (Ev.neg h80 hb)))
  intro d
  induction d with
  | zero =>
    intro q hq hd
    obtain ⟨b, hb, hp⟩ := hlast q (.inl (by omega))
    refine ⟨b, Ev.succ ?_, fun h => ⟨?_, hp h⟩⟩
    · simp only [petrinetlaw48_few.l1, rd_L1_get hi]
      exact Ev.pos (by omega) (Ev.pos (by omega) (Ev.neg (by omega) hb))
    · rw [List.drop_of_length_le (by omega)]; simp
  | succ d ih =>
    intro q hq hd
    have hqt : q < l[i].length := by omega
    by_cases h81 : q < 81
    · have hdec : decide ((q : Int) < 81) = true := decide_eq_true (by omega)
      by_cases hs : ((l[i][q].size : Nat) : Int) > 40
      · refine ⟨false, Ev.succ ?_, fun h => by cases h⟩
        simp only [petrinetlaw48_few.l1, rd_L1_get hi, hdec]
        refine Ev.pos (by omega) (Ev.pos (by omega) (Ev.pos (by omega) (Ev.succ ?_)))
        simp only [petrinetlaw48_few.j3, rd_L1_get hi, rdOf_get hqt]
        exact Ev.pos trivial (Ev.pos (by omega) (Ev.pos (by omega) (Ev.pos (by omega) (Ev.pos (by omega) (Ev.pos hs (Ev.now _))))))
      · obtain ⟨b, hb, hp⟩ := ih (q + 1) (by omega) (by omega)
        refine ⟨b, Ev.succ ?_, fun h => ⟨?_, (hp h).2⟩⟩
        · simp only [petrinetlaw48_few.l1, rd_L1_get hi, hdec]
          refine Ev.pos (by omega) (Ev.pos (by omega) (Ev.pos (by omega) (Ev.succ ?_)))
          simp only [petrinetlaw48_few.j3, rd_L1_get hi, rdOf_get hqt]
          rw [wrap_succ (i := q) (by omega)]
          exact Ev.pos trivial (Ev.pos (by omega) (Ev.pos (by omega) (Ev.pos (by omega) (Ev.pos (by omega) (Ev.neg hs hb)))))
        · intro s hs'
          rw [List.drop_eq_getElem_cons hqt] at hs'
          rcases List.mem_cons.1 hs' with rfl | h'
          · omega
          · exact (hp h).1 s h'
    · have hdec : decide ((q : Int) < 81) = false := decide_eq_false (by omega)
      obtain ⟨b, hb, hp⟩ := hlast q (.inr (by omega))
      refine ⟨b, Ev.succ ?_, fun h => ?_⟩
      · simp only [petrinetlaw48_few.l1, rd_L1_get hi, hdec]
        exact Ev.pos (by omega) (Ev.pos (by omega) (Ev.pos (by omega) hb))
      · have := (hp h).1; omega
theorem few_l0 (l : List (List ByteArray)) (hL : l.length ≤ 9223372036854775807) : ∀ (d i : Nat), i ≤ l.length → i ≤ 81 → l.length - i = d → total (l.take i) ≤ 80 * i →
    ∃ b, Ev (fun k => petrinetlaw48_few.l0 k l (total (l.take i) : Int) (i : Int)) b ∧ (b = true → l.length ≤ 80 ∧ total l ≤ 400 ∧ ∀ t ∈ l.drop i, t.length ≤ 80 ∧ ∀ s ∈ t, s.size ≤ 40) := by
  have hlast : ∀ i : Nat, i ≤ l.length → (l.length ≤ i ∨ 81 ≤ i) → ∃ b, Ev (fun k => petrinetlaw48_few.j1 k l (total (l.take i) : Int) (i : Int) false) b ∧ (b = true → l.length ≤ 80 ∧ total l ≤ 400 ∧ ∀ t ∈ l.drop i, t.length ≤ 80 ∧ ∀ s ∈ t, s.size ≤ 40) := by
    intro i hi hq
    by_cases h80 : (l.length : Int) ≤ 80
    · refine ⟨decide ((total (l.take i) : Int) ≤ 400), Ev.succ ?_, fun h => ?_⟩
      · simp only [petrinetlaw48_few.j1]
        exact Ev.neg (by decide) (Ev.pos h80 (Ev.now _))
      · obtain rfl : i = l.length := by omega
        rw [List.take_length] at h
        have := of_decide_eq_true h
        refine ⟨by omega, by omega, ?_⟩
        rw [List.drop_length]; simp
    · refine ⟨false, Ev.succ ?_, fun h => by cases h⟩
      simp only [petrinetlaw48_few.j1]
      exact Ev.neg (by decide) (Ev.neg h80 (Ev.now _))
  intro d
  induction d with
  | zero =>
    intro i hi h81 hd hn
    obtain ⟨b, hb, hp⟩ := hlast i hi (.inl (by omega))
    refine ⟨b, Ev.succ ?_, hp⟩
    simp only [petrinetlaw48_few.l0]
    exact Ev.neg (by omega) hb
  | succ d ih =>
    intro i hi h81 hd hn
    have hlt : i < l.length := by omega
    by_cases hi81 : i < 81
    · have hdec : decide ((i : Int) < 81) = true := decide_eq_true (by omega)
      have htk : total (l.take (i + 1)) = total (l.take i) + l[i].length := by rw [List.take_succ_eq_append_getElem hlt, total_snoc]
      obtain ⟨b, hb, hp⟩ := few_l1 l i hlt (wrap64 ((total (l.take i) : Int) + (l[i].length : Int))) (l.length ≤ 80 ∧ total l ≤ 400 ∧ ∀ t ∈ l.drop (i + 1), t.length ≤ 80 ∧ ∀ s ∈ t, s.size ≤ 40) hL (fun h => by
          rw [show wrap64 ((total (l.take i) : Int) + (l[i].length : Int)) = (total (l.take (i + 1)) : Int) by unfold wrap64; omega]
          exact ih (i + 1) (by omega) (by omega) (by omega) (by omega)) _ 0 (by omega) rfl
      refine ⟨b, Ev.succ ?_, fun h => ?_⟩
      · simp only [petrinetlaw48_few.l0, hdec]
        refine Ev.pos (by omega) (Ev.succ ?_)
        simp only [petrinetlaw48_few.j1, rd_L1_get hlt]
        exact Ev.pos trivial (Ev.pos (by omega) (Ev.pos (by omega) hb))
      · obtain ⟨h1, h2, h3, h4, h5⟩ := hp h
        refine ⟨h3, h4, fun t ht => ?_⟩
        rw [List.drop_eq_getElem_cons hlt] at ht
        rcases List.mem_cons.1 ht with rfl | ht
        · exact ⟨h2, fun s hs => h1 s (by rw [List.drop_zero]; exact hs)⟩
        · exact h5 t ht
    · have hdec : decide ((i : Int) < 81) = false := decide_eq_false (by omega)
      obtain ⟨b, hb, hp⟩ := hlast i hi (.inr (by omega))
      refine ⟨b, Ev.succ ?_, hp⟩
      simp only [petrinetlaw48_few.l0, hdec]
      exact Ev.pos (by omega) hb
/-- What the statements' reader tells of a log. -/
def LogOk (l : List (List ByteArray)) : Prop := l.length ≤ maxLen ∧ ∀ t ∈ l, t.length ≤ maxLen ∧ ∀ s ∈ t, s.size ≤ maxLen
theorem few (l : List (List ByteArray)) (hL : l.length ≤ 9223372036854775807) : ∃ b, Ev (fun k => petrinetlaw48_few.f k l) b ∧ (b = true → Few l) := by
  obtain ⟨b, hb, hp⟩ := few_l0 l hL _ 0 (by omega) (by omega) rfl (by simp [Logs.total])
  exact ⟨b, hb, fun h => ⟨(hp h).1, (hp h).2.1, (hp h).2.2⟩⟩

/-! ### Follows -/
end Go.Proofs.Ytaofommgdgmncaa.Logs

/- Variants: what program and reference answer. -/
namespace Go.Proofs.Ytaofommgdgmncaa.Logs
open Go.RowKit Go.Proofs.Ytaofommgdgmncaa.Pr Go.Proofs.Ytaofommgdgmncaa.Evs Go.Proofs.YtaofommgdgmncaaW.PrintWords Go.Proofs.YtaofommgdgmncaaW.PrintLast Go.Proofs.YtaofommgdgmncaaW.PrintMore
set_option linter.unusedVariables false
set_option linter.unusedSimpArgs false

abbrev Tr := List ByteArray
instance memT (t : Tr) (o : List Tr) : Decidable (t ∈ o) := decidable_of_iff ((o.any fun x => decide (x = t)) = true) (by simp)
/-! ### how often a log has a trace -/
def cntT (l : List Tr) (t : Tr) : Nat := l.countP fun x => decide (x = t)
theorem cntT_snoc (l : List Tr) (s t : Tr) : cntT (l ++ [s]) t = cntT l t + if s = t then 1 else 0 := by
  unfold cntT
  rw [List.countP_append]
  by_cases h : s = t <;> simp [h]
theorem cntT_le (l : List Tr) (t : Tr) : cntT l t ≤ l.length := List.countP_le_length
theorem cntT_zero {l : List Tr} {t : Tr} : cntT l t = 0 ↔ ¬ t ∈ l := by
  unfold cntT
  rw [List.countP_eq_zero]
  constructor
  · intro h hm; exact h t hm (decide_eq_true rfl)
  · intro h x hx hd; rw [of_decide_eq_true hd] at hx; exact h hx
theorem rTimes_l0 (l : List Tr) (hl : l.length ≤ 1000) (hm : ∀ t ∈ l, t.length ≤ 1000) (t : Tr) : ∀ (d i : Nat), i ≤ l.length → l.length - i = d → Ev (fun k => petrinetref48_Times.l0 k l t (cntT (l.take i) t : Int) (i : Int)) (cntT l t : Int) := by
  intro d
  induction d with
  | zero =>
    intro i hi hd
    obtain rfl : i = l.length := by omega
    refine Ev.succ ?_
    simp only [petrinetref48_Times.l0]
    exact Ev.neg (by omega) (Ev.val (by rw [List.take_length]))
  | succ d ih =>
    intro i hi hd
    have hlt : i < l.length := by omega
    have hih := ih (i + 1) (by omega) (by omega)
    have hc := cntT_le (l.take i) t
    rw [List.length_take] at hc
    rw [List.take_succ_eq_append_getElem hlt, cntT_snoc] at hih
    refine Ev.succ ?_
    simp only [petrinetref48_Times.l0]
    rw [rd_L1_get hlt, wrap_succ (i := i) (by omega), wrap_succ (i := cntT (l.take i) t) (by omega)]
    refine Ev.pos (by omega) (Ev.pos (by omega) (Ev.bind (rsame l[i] t (by have := hm _ (List.getElem_mem hlt); omega)) ?_))
    by_cases h : l[i] = t
    · rw [if_pos h] at hih
      exact Ev.pos (decide_eq_true h) hih
    · rw [if_neg h] at hih
      exact Ev.neg (by simpa using h) hih
theorem rTimes (l : List Tr) (hl : l.length ≤ 1000) (hm : ∀ t ∈ l, t.length ≤ 1000) (t : Tr) : Ev (fun k => petrinetref48_Times.f k l t) (cntT l t : Int) := rTimes_l0 l hl hm t _ 0 (by omega) rfl

/-! ### the different traces -/
def dstT (l : List Tr) : List Tr := l.foldl (fun o t => if t ∈ o then o else o ++ [t]) []
theorem dstT_snoc (l : List Tr) (t : Tr) : dstT (l ++ [t]) = if t ∈ dstT l then dstT l else dstT l ++ [t] := by unfold dstT; rw [List.foldl_append]; rfl
theorem snoc_ind {α : Type} {p : List α → Prop} (h0 : p []) (h1 : ∀ l a, p l → p (l ++ [a])) (l : List α) : p l := by
  have : ∀ (q : List α), p q.reverse := by
    intro q
    induction q with
    | nil => exact h0
    | cons a q ih => rw [List.reverse_cons]; exact h1 _ _ ih
  have h := this l.reverse
  rwa [List.reverse_reverse] at h
theorem dstT_mem (l : List Tr) : ∀ t, t ∈ dstT l ↔ t ∈ l := by
  refine snoc_ind (p := fun l => ∀ t, t ∈ dstT l ↔ t ∈ l) (fun t => by simp [dstT]) (fun l a ih t => ?_) l
  rw [dstT_snoc]
  split
  · rename_i h
    rw [ih, List.mem_append, List.mem_singleton]
    exact ⟨.inl, fun hh => hh.elim id fun e => by rw [e]; exact (ih a).1 h⟩
  · rw [List.mem_append, List.mem_append, List.mem_singleton, ih]
theorem dstT_nodup (l : List Tr) : (dstT l).Nodup := by
  refine snoc_ind (p := fun l => (dstT l).Nodup) List.nodup_nil (fun l a ih => ?_) l
  rw [dstT_snoc]
  split
  · exact ih
  · rename_i h
    refine List.nodup_append.2 ⟨ih, by simp, fun x hx y hy => ?_⟩
    rw [List.mem_singleton.1 hy]
    rintro rfl
    exact h hx
theorem dstT_len (l : List Tr) : (dstT l).length ≤ l.length := by
  refine snoc_ind (p := fun l => (dstT l).length ≤ l.length) (by simp [dstT]) (fun l a ih => ?_) l
  rw [dstT_snoc, List.length_append, List.length_singleton]
  split
  · omega
  · rw [List.length_append, List.length_singleton]; omega
def cntsT (l : List Tr) : List Int := (dstT l).map fun t => (cntT l t : Int)
theorem rVars_l0 (l : List Tr) (hl : l.length ≤ 1000) (hm : ∀ t ∈ l, t.length ≤ 1000) : ∀ (d i : Nat), i ≤ l.length → l.length - i = d → Ev (fun k => petrinetref48_Variants.l0 k l (dstT (l.take i)) ((dstT (l.take i)).map fun t => (cntT l t : Int)) (i : Int)) (dstT l, cntsT l) := by
  intro d
  induction d with
  | zero =>
    intro i hi hd
    obtain rfl : i = l.length := by omega
    refine Ev.succ ?_
    simp only [petrinetref48_Variants.l0]
    rw [List.take_length]
    exact Ev.neg (by omega) (Ev.now _)
  | succ d ih =>
    intro i hi hd
    have hlt : i < l.length := by omega
    have hih := ih (i + 1) (by omega) (by omega)
    have hd1 := dstT_len (l.take i)
    rw [List.length_take] at hd1
    have hdm : ∀ t ∈ dstT (l.take i), t.length ≤ 1000 := fun t ht => hm t (List.mem_of_mem_take ((dstT_mem _ t).1 ht))
    rw [List.take_succ_eq_append_getElem hlt, dstT_snoc] at hih
    refine Ev.succ ?_
    simp only [petrinetref48_Variants.l0]
    rw [rd_L1_get hlt, wrap_succ (by omega)]
    refine Ev.pos (by omega) (Ev.pos (by omega) (Ev.bind (rTimes (dstT (l.take i)) (by omega) hdm l[i]) ?_))
    by_cases h : l[i] ∈ dstT (l.take i)
    · rw [if_pos h] at hih
      exact Ev.neg (fun e => (cntT_zero.1 (by omega)) h) hih
    · rw [if_neg h, List.map_append, List.map_singleton] at hih
      have h0 : cntT (dstT (l.take i)) l[i] = 0 := cntT_zero.2 h
      exact Ev.pos (by omega) (Ev.pos (by omega) (Ev.bind (rTimes l hl hm l[i]) (Ev.pos (by rw [List.length_map]; omega) hih)))
theorem rVars (l : List Tr) (hl : l.length ≤ 1000) (hm : ∀ t ∈ l, t.length ≤ 1000) : Ev (fun k => petrinetref48_Variants.f k l) (dstT l, cntsT l) := rVars_l0 l hl hm _ 0 (by omega) rfl

/-! ### the key -/
def keyS (s : List UInt8) : List UInt8 := s.flatMap fun b => [43, b]
def keyL (t : List (List UInt8)) : List UInt8 := t.flatMap fun s => keyS s ++ [44]
theorem keyS_inj : ∀ (s1 s2 r1 r2 : List UInt8), keyS s1 ++ 44 :: r1 = keyS s2 ++ 44 :: r2 → s1 = s2 ∧ r1 = r2
  | [], [], r1, r2, h => by simp [keyS] at h; exact ⟨rfl, h⟩
  | [], b :: s2, r1, r2, h => by simp [keyS] at h
  | a :: s1, [], r1, r2, h => by simp [keyS] at h
  | a :: s1, b :: s2, r1, r2, h => by
    simp only [keyS, List.flatMap_cons, List.cons_append, List.nil_append, List.cons.injEq, true_and] at h
    obtain ⟨h1, h2⟩ := keyS_inj s1 s2 r1 r2 h.2
    exact ⟨by rw [h.1, h1], h2⟩
theorem keyL_inj : ∀ (t u : List (List UInt8)), keyL t = keyL u → t = u
  | [], [], _ => rfl
  | [], b :: u, h => by
    exfalso
    simp [keyL] at h
  | a :: t, [], h => by
    exfalso
    simp [keyL] at h
  | a :: t, b :: u, h => by
    have h2 : keyS a ++ 44 :: keyL t = keyS b ++ 44 :: keyL u := by simpa [keyL] using h
    obtain ⟨h3, h4⟩ := keyS_inj _ _ _ _ h2
    rw [h3, keyL_inj t u h4]
def rawT (t : Tr) : List (List UInt8) := t.map fun s => s.data.toList
def keyB (t : Tr) : ByteArray := ⟨(keyL (rawT t)).toArray⟩
theorem bytes_ext {a b : ByteArray} (h : a.data.toList = b.data.toList) : a = b := by
  cases a; cases b
  rw [ByteArray.mk.injEq]
  exact Array.toList_inj.1 h
theorem rawT_inj : ∀ {t u : Tr}, rawT t = rawT u → t = u
  | [], [], _ => rfl
  | [], _ :: _, h => by cases h
  | _ :: _, [], h => by cases h
  | a :: t, b :: u, h => by
    simp only [rawT, List.map_cons, List.cons.injEq] at h
    rw [bytes_ext h.1, rawT_inj h.2]
theorem keyB_inj {t u : Tr} : (keyB t).data.toList = (keyB u).data.toList ↔ t = u := by
  constructor
  · intro h
    exact rawT_inj (keyL_inj _ _ (by simpa [keyB] using h))
  · rintro rfl; rfl
theorem app_data (a b : ByteArray) : (a ++ b).data.toList = a.data.toList ++ b.data.toList := by
  rw [ByteArray.data_append, Array.toList_append]
theorem ext_data (s : ByteArray) (i : Nat) (h : i < s.size) : (s.extract i (i + 1)).data.toList = [s.data.toList[i]'(by rw [Array.length_toList]; exact h)] := by
  rw [ByteArray.data_extract, Array.toList_extract]
  apply List.ext_getElem?
  intro j
  cases j with
  | zero => simp
  | succ j => simp; omega
theorem data_len (s : ByteArray) : s.data.toList.length = s.size := by rw [Array.length_toList]; rfl
theorem key_l1 (t : Tr) (i : Nat) (s : ByteArray) (hs : s.size ≤ 40) (P : ByteArray → Prop) (acc0 : ByteArray) (ha : acc0.size ≤ 1000000)
    (hnext : ∀ acc : ByteArray, acc.data.toList = acc0.data.toList ++ (keyS s.data.toList ++ [44]) → ∃ r, P r ∧ Ev (fun k => eventlog_key.l0 k acc t (t.length : Int) (wrap64 ((i : Int) + 1))) r) :
    ∀ (d q : Nat) (acc : ByteArray), q ≤ s.size → s.size - q = d → acc.data.toList = acc0.data.toList ++ keyS (s.data.toList.take q) → ∃ r, P r ∧ Ev (fun k => eventlog_key.l1 k acc s (q : Int) t (t.length : Int) (i : Int)) r := by
  intro d
  have hsz : ∀ (acc : ByteArray) (q : Nat), acc.data.toList = acc0.data.toList ++ keyS (s.data.toList.take q) → acc.size ≤ acc0.size + 2 * q := by
    intro acc q h
    have h1 := congrArg List.length h
    rw [List.length_append, data_len, data_len] at h1
    have h2 : (keyS (s.data.toList.take q)).length ≤ 2 * q := by
      unfold keyS
      rw [List.length_flatMap]
      have : ∀ (l : List UInt8), (l.map fun b => ([43, b] : List UInt8).length).sum = 2 * l.length := by
        intro l
        induction l with
        | nil => rfl
        | cons a l ih => rw [List.map_cons, List.sum_cons, ih, List.length_cons]; simp; omega
      rw [this, List.length_take]
      omega
    omega
  induction d with
  | zero =>
    intro q acc hq hd he
    have hz := hsz acc q he
    obtain rfl : q = s.size := by omega
    rw [List.take_of_length_le (by rw [data_len]; exact Nat.le_refl _)] at he
    obtain ⟨r, hr, hev⟩ := hnext (acc ++ ⟨#[44]⟩) (by rw [app_data, he, List.append_assoc])
    refine ⟨r, hr, Ev.succ ?_⟩
    simp only [eventlog_key.l1]
    exact Ev.neg (by omega) (Ev.pos (by omega) hev)
  | succ d ih =>
    intro q acc hq hd he
    have hz := hsz acc q he
    have hlt : q < s.size := by omega
    have hw : wrap64 ((q : Int) + 1) = ((q + 1 : Nat) : Int) := wrap_succ (by omega)
    have hx := ext_data s q hlt
    have hxs : (s.extract q (q + 1)).size = 1 := by rw [← data_len, hx]; rfl
    have hp : ((⟨#[43]⟩ : ByteArray) ++ s.extract q (q + 1)).size = 2 := by rw [← data_len, app_data, hx]; rfl
    obtain ⟨r, hr, hev⟩ := ih (q + 1) (acc ++ ((⟨#[43]⟩ : ByteArray) ++ s.extract q (q + 1))) (by omega) (by omega) (by
      rw [app_data, app_data, hx, he, List.take_succ_eq_append_getElem (by rw [data_len]; exact hlt)]
      simp [keyS])
    refine ⟨r, hr, Ev.succ ?_⟩
    simp only [eventlog_key.l1]
    rw [hw, Int.toNat_natCast, Int.toNat_natCast, hxs, hp]
    exact Ev.pos (by omega) (Ev.pos (by omega) (Ev.pos (by omega) (Ev.pos (by omega) (Ev.pos (by omega) (Ev.pos (by omega) hev)))))
theorem key_l0 (t : Tr) (ht : t.length ≤ 80) (hs : ∀ s ∈ t, s.size ≤ 40) : ∀ (d i : Nat) (acc : ByteArray), i ≤ t.length → t.length - i = d → acc.data.toList = keyL (rawT (t.take i)) → acc.size ≤ 81 * i → ∃ r : ByteArray, (r.data.toList = keyL (rawT t) ∧ r.size ≤ 6480) ∧ Ev (fun k => eventlog_key.l0 k acc t (t.length : Int) (i : Int)) r := by
  intro d
  induction d with
  | zero =>
    intro i acc hi hd he ha
    obtain rfl : i = t.length := by omega
    rw [List.take_length] at he
    refine ⟨acc, ⟨he, by omega⟩, Ev.succ ?_⟩
    simp only [eventlog_key.l0]
    exact Ev.neg (by omega) (Ev.now _)
  | succ d ih =>
    intro i acc hi hd he ha
    have hlt : i < t.length := by omega
    have hs1 := hs t[i] (List.getElem_mem hlt)
    have h1 := key_l1 t i t[i] hs1 (fun r => r.data.toList = keyL (rawT t) ∧ r.size ≤ 6480) acc (by omega) (fun acc' h' => by
      have hl : acc'.size ≤ 81 * (i + 1) := by
        have h3 := congrArg List.length h'
        rw [List.length_append, data_len, data_len, List.length_append] at h3
        have h2 : (keyS t[i].data.toList).length = 2 * t[i].size := by
          rw [← data_len]
          unfold keyS
          generalize t[i].data.toList = l
          induction l with
          | nil => rfl
          | cons a l ih => rw [List.flatMap_cons, List.length_append, ih, List.length_cons]; simp; omega
        simp only [List.length_singleton] at h3
        omega
      obtain ⟨r, hr, hev⟩ := ih (i + 1) acc' (by omega) (by omega) (by
        rw [h', he, show rawT (t.take (i + 1)) = rawT (t.take i) ++ [t[i].data.toList] by unfold rawT; rw [List.take_succ_eq_append_getElem hlt, List.map_append]; rfl]
        unfold keyL
        rw [List.flatMap_append]
        simp) hl
      exact ⟨r, hr, by rw [wrap_succ (by omega)]; exact hev⟩) t[i].size 0 acc (by omega) (by omega) (by simp [keyS])
    obtain ⟨r, hr, hev⟩ := h1
    refine ⟨r, hr, Ev.succ ?_⟩
    simp only [eventlog_key.l0]
    rw [rdOf_get hlt]
    exact Ev.pos (by omega) (Ev.pos (by omega) (Ev.pos (by omega) hev))
theorem ekey (t : Tr) (ht : t.length ≤ 80) (hs : ∀ s ∈ t, s.size ≤ 40) : Ev (fun k => eventlog_key.f k t) (keyB t) ∧ (keyB t).size ≤ maxLen := by
  obtain ⟨r, ⟨hr, hz⟩, hev⟩ := key_l0 t ht hs _ 0 ⟨#[]⟩ (by omega) rfl rfl (Nat.le_refl 0)
  obtain rfl : r = keyB t := bytes_ext (by rw [hr]; rfl)
  exact ⟨hev, by unfold maxLen; omega⟩

/-! ### the program's variants -/
def ixT (t : Tr) : List Tr → Nat → Option Nat
  | [], _ => none
  | x :: xs, i => if x = t then some i else ixT t xs (i + 1)
theorem ix_keys (t : Tr) : ∀ (l : List Tr) (j : Nat), ixOf (keyB t) (l.map keyB) j = ixT t l j
  | [], _ => rfl
  | x :: xs, j => by
    rw [List.map_cons, ixOf, ixT]
    by_cases h : x = t
    · rw [if_pos h, if_pos (keyB_inj.2 h)]
    · rw [if_neg h, if_neg (fun e => h (keyB_inj.1 e)), ix_keys t xs]
theorem ixT_some {t : Tr} : ∀ {l : List Tr} {j i : Nat}, ixT t l j = some i → j ≤ i ∧ l[i - j]? = some t
  | [], _, _, h => by cases h
  | x :: xs, j, i, h => by
    rw [ixT] at h
    by_cases e : x = t
    · rw [if_pos e] at h; cases h; simp [e]
    · rw [if_neg e] at h
      obtain ⟨h1, h2⟩ := ixT_some h
      refine ⟨by omega, ?_⟩
      rw [show i - j = (i - (j + 1)) + 1 by omega, List.getElem?_cons_succ]
      exact h2
theorem ixT_none {t : Tr} : ∀ {l : List Tr} {j : Nat}, ixT t l j = none ↔ ¬ t ∈ l
  | [], j => by simp [ixT]
  | x :: xs, j => by
    rw [ixT]
    by_cases e : x = t
    · simp [e]
    · rw [if_neg e, ixT_none, List.mem_cons]
      exact ⟨fun h hh => hh.elim (fun e2 => e e2.symm) h, fun h hh => h (.inr hh)⟩
theorem w1 : wrap64 ((0 : Int) + 1) = 1 := by unfold wrap64; omega
theorem bump_found (p : List Tr) (hp : p.length ≤ 1000) (t : Tr) (i : Nat) (h : ixT t (dstT p) 0 = some i) : dstT (p ++ [t]) = dstT p ∧ bumpV (cntsT p) i = cntsT (p ++ [t]) := by
  obtain ⟨_, hi⟩ := ixT_some h
  rw [Nat.sub_zero] at hi
  obtain ⟨hlt, hget⟩ := List.getElem?_eq_some_iff.1 hi
  have hmem : t ∈ dstT p := by rw [← hget]; exact List.getElem_mem hlt
  have hd : dstT (p ++ [t]) = dstT p := by rw [dstT_snoc, if_pos hmem]
  refine ⟨hd, ?_⟩
  unfold bumpV cntsT
  rw [hd]
  have hc := cntT_le p t
  apply List.ext_getElem (by simp)
  intro j h1 h2
  rw [List.length_set, List.length_map] at h1
  rw [List.getElem_set]
  simp only [List.getElem_map, cntT_snoc]
  by_cases e : i = j
  · subst e
    rw [if_pos rfl, hget, if_pos rfl, show ((dstT p).map fun t => (cntT p t : Int)).getD i 0 = (cntT p t : Int) by simp [hlt, hget], wrap_succ (by omega)]
  · rw [if_neg e, if_neg (fun e2 => e ?_)]
    · rfl
    · have hnd := List.pairwise_iff_getElem.1 (dstT_nodup p)
      rcases Nat.lt_trichotomy i j with h3 | h3 | h3
      · exact absurd (show (dstT p)[i] = (dstT p)[j] by rw [hget, e2]) (hnd i j hlt h1 h3)
      · exact h3
      · exact absurd (show (dstT p)[j] = (dstT p)[i] by rw [hget, e2]) (hnd j i h1 hlt h3)
theorem bump_new (p : List Tr) (hp : p.length ≤ 1000) (t : Tr) (h : ixT t (dstT p) 0 = none) : dstT (p ++ [t]) = dstT p ++ [t] ∧ bumpV (cntsT p ++ [0]) (dstT p).length = cntsT (p ++ [t]) := by
  have hno := ixT_none.1 h
  have hd : dstT (p ++ [t]) = dstT p ++ [t] := by rw [dstT_snoc, if_neg hno]
  refine ⟨hd, ?_⟩
  have hz : cntT p t = 0 := cntT_zero.2 (fun hm => hno ((dstT_mem p t).2 hm))
  unfold bumpV cntsT
  rw [hd, List.map_append, List.map_singleton, cntT_snoc, if_pos rfl, hz]
  have e1 : (((dstT p).map fun t => (cntT p t : Int)) ++ [(0 : Int)]).getD (dstT p).length 0 = 0 := by simp
  rw [e1, w1]
  have e2 : ((dstT p).map fun s => (cntT (p ++ [t]) s : Int)) = (dstT p).map fun s => (cntT p s : Int) := by
    refine List.map_congr_left fun s hs => ?_
    rw [cntT_snoc, if_neg (fun e => hno (by rw [e]; exact hs))]
    rfl
  rw [e2, List.set_append_right _ _ (by rw [List.length_map]; exact Nat.le_refl _), List.length_map, Nat.sub_self]
  rfl
theorem var_go : ∀ (q p : List Tr), (∀ t ∈ q, t.length ≤ 80 ∧ ∀ s ∈ t, s.size ≤ 40) → (p ++ q).length ≤ 1000 → Ev (fun k => varGo k q ((dstT p).map keyB) (dstT p) (cntsT p)) (dstT (p ++ q), cntsT (p ++ q))
  | [], p, _, _ => by
    simp only [varGo, List.append_nil]
    exact Ev.now _
  | t :: q, p, hq, hl => by
    have ht := hq t List.mem_cons_self
    obtain ⟨hk, hz⟩ := ekey t ht.1 ht.2
    have hpl : p.length ≤ 1000 := by rw [List.length_append] at hl; omega
    have hih := var_go q (p ++ [t]) (fun x hx => hq x (List.mem_cons_of_mem _ hx)) (by rw [List.append_assoc]; exact hl)
    rw [List.append_assoc, List.singleton_append] at hih
    simp only [varGo]
    refine Ev.bind hk (Ev.pos hz ?_)
    rw [ix_keys]
    cases hx : ixT t (dstT p) 0 with
    | some i =>
      obtain ⟨h1, h2⟩ := bump_found p hpl t i hx
      rw [h1, ← h2] at hih
      exact hih
    | none =>
      obtain ⟨h1, h2⟩ := bump_new p hpl t hx
      rw [h1, ← h2, List.map_append, List.map_singleton] at hih
      exact hih
theorem eVars {l : List Tr} (h : Few l) : Ev (fun k => eventlog_Variants.f k l) (dstT l, cntsT l) := by
  unfold eventlog_Variants.f
  refine Ev.pos ⟨by have := h.len; omega, List.all_eq_true.2 fun t ht => decide_eq_true (by have := (h.each t ht).1; omega)⟩ ?_
  have := var_go l [] h.each (by have := h.len; simp; omega)
  exact this
end Go.Proofs.Ytaofommgdgmncaa.Logs

/- The names of a log: an ascending list. -/
namespace Go.Proofs.Ytaofommgdgmncaa.Logs
open Go.RowKit Go.Proofs.Ytaofommgdgmncaa.Pr Go.Proofs.Ytaofommgdgmncaa.Evs Go.Proofs.YtaofommgdgmncaaW.PrintWords Go.Proofs.YtaofommgdgmncaaW.PrintLast Go.Proofs.YtaofommgdgmncaaW.PrintMore
set_option linter.unusedVariables false
set_option linter.unusedSimpArgs false

/-! ### the order of texts -/
theorem bl_irrefl : ∀ x : List UInt8, Op.bytesLess x x = false
  | [] => rfl
  | a :: x => by
    have h : ¬ a < a := by rw [UInt8.lt_iff_toNat_lt]; omega
    simp [Op.bytesLess, h, bl_irrefl x]
theorem bl_trans : ∀ x y z : List UInt8, Op.bytesLess x y = true → Op.bytesLess y z = true → Op.bytesLess x z = true
  | x, y, [], _, h => by cases y <;> simp [Op.bytesLess] at h
  | x, [], _ :: _, h, _ => by cases x <;> simp [Op.bytesLess] at h
  | [], _ :: _, _ :: _, _, _ => rfl
  | a :: x, b :: y, c :: z, h1, h2 => by
    simp only [Op.bytesLess, Bool.or_eq_true, Bool.and_eq_true, decide_eq_true_eq, beq_iff_eq] at h1 h2 ⊢
    rcases h1 with h1 | ⟨rfl, h1⟩ <;> rcases h2 with h2 | ⟨rfl, h2⟩
    · left; rw [UInt8.lt_iff_toNat_lt] at *; omega
    · exact .inl h1
    · exact .inl h2
    · exact .inr ⟨rfl, bl_trans x y z h1 h2⟩
theorem bl_total : ∀ x y : List UInt8, Op.bytesLess x y = false → Op.bytesLess y x = false → x = y
  | [], [], _, _ => rfl
  | [], _ :: _, h, _ => by simp [Op.bytesLess] at h
  | _ :: _, [], _, h => by simp [Op.bytesLess] at h
  | a :: x, b :: y, h1, h2 => by
    simp only [Op.bytesLess, Bool.or_eq_false_iff, decide_eq_false_iff_not] at h1 h2
    have hab : a = b := by
      rw [← UInt8.toNat_inj]
      have h3 := h1.1; have h4 := h2.1
      rw [UInt8.lt_iff_toNat_lt] at h3 h4
      omega
    subst hab
    have e1 := h1.2; have e2 := h2.2
    simp at e1 e2
    rw [bl_total x y e1 e2]
theorem less_irrefl (a : ByteArray) : lessB a a = false := bl_irrefl _
theorem less_trans {a b c : ByteArray} (h : lessB a b = true) (k : lessB b c = true) : lessB a c = true := bl_trans _ _ _ h k
theorem less_total {a b : ByteArray} (h : lessB a b = false) (k : lessB b a = false) : a = b := (bytes_eq a b).1 (bl_total _ _ h k)

/-! ### insert -/
def ins : List ByteArray → ByteArray → List ByteArray
  | [], s => [s]
  | x :: xs, s => if lessB x s = true then x :: ins xs s else if x = s then x :: xs else s :: x :: xs
theorem insS_eq : ∀ (l : List ByteArray) (s : ByteArray), insS l s = ins l s
  | [], s => by simp [insS, posS, ins]
  | x :: xs, s => by
    have ih := insS_eq xs s
    unfold insS posS at ih ⊢
    unfold ins
    cases h : lessB x s with
    | true =>
      rw [List.takeWhile_cons, if_pos h, List.length_cons, List.getElem?_cons_succ, List.take_succ_cons, List.drop_succ_cons, if_pos rfl]
      rw [← ih]
      split <;> rfl
    | false =>
      have htw : (x :: xs).takeWhile (lessB · s) = [] := by simp [List.takeWhile_cons, h]
      rw [htw]
      simp only [List.length_nil, List.getElem?_cons_zero, Option.map_some, Option.some.injEq, bytes_eq, List.take_zero, List.drop_zero, List.nil_append, Bool.false_eq_true, if_false]
theorem ins_mem : ∀ (l : List ByteArray) (s y : ByteArray), y ∈ ins l s ↔ y = s ∨ y ∈ l
  | [], s, y => by simp [ins]
  | x :: xs, s, y => by
    unfold ins
    split
    · rw [List.mem_cons, ins_mem xs s y, List.mem_cons]
      constructor
      · rintro (h | h | h)
        · exact .inr (.inl h)
        · exact .inl h
        · exact .inr (.inr h)
      · rintro (h | h | h)
        · exact .inr (.inl h)
        · exact .inl h
        · exact .inr (.inr h)
    · split
      · rename_i hx
        subst hx
        simp
      · simp
theorem ins_len : ∀ (l : List ByteArray) (s : ByteArray), (ins l s).length ≤ l.length + 1
  | [], s => by simp [ins]
  | x :: xs, s => by
    have := ins_len xs s
    unfold ins
    split
    · simp only [List.length_cons]; omega
    · split <;> simp
/-- Ascending. -/
def Srt (l : List ByteArray) : Prop := l.Pairwise (fun a b => lessB a b = true)
theorem ins_srt : ∀ (l : List ByteArray) (s : ByteArray), Srt l → Srt (ins l s)
  | [], s, _ => by simp [ins, Srt]
  | x :: xs, s, h => by
    obtain ⟨h1, h2⟩ := List.pairwise_cons.1 h
    unfold ins
    split
    · rename_i hx
      refine List.pairwise_cons.2 ⟨fun y hy => ?_, ins_srt xs s h2⟩
      rcases (ins_mem xs s y).1 hy with rfl | hy
      · exact hx
      · exact h1 y hy
    · rename_i hx
      split
      · exact h
      · rename_i hne
        have hsx : lessB s x = true := by
          cases hs : lessB s x with
          | true => rfl
          | false => exact absurd (less_total (by simpa using hx) hs) hne
        refine List.pairwise_cons.2 ⟨fun y hy => ?_, h⟩
        rcases List.mem_cons.1 hy with rfl | hy
        · exact hsx
        · exact less_trans hsx (h1 y hy)
theorem ins_of_mem : ∀ (l : List ByteArray) (s : ByteArray), Srt l → s ∈ l → ins l s = l
  | [], s, _, h => by simp at h
  | x :: xs, s, h, hm => by
    obtain ⟨h1, h2⟩ := List.pairwise_cons.1 h
    unfold ins
    split
    · rename_i hx
      rcases List.mem_cons.1 hm with rfl | hm
      · rw [less_irrefl] at hx; cases hx
      · rw [ins_of_mem xs s h2 hm]
    · rename_i hx
      split
      · rfl
      · rename_i hne
        rcases List.mem_cons.1 hm with rfl | hm
        · exact absurd rfl hne
        · exact absurd (h1 s hm) hx
/-! ### what the two functions 'insert' tell -/
def hasB (l : List ByteArray) (s : ByteArray) : Bool := l.any (fun x => decide (x = s))
theorem hasB_iff {l : List ByteArray} {s : ByteArray} : hasB l s = true ↔ s ∈ l := by simp [hasB]
theorem hasB_not {l : List ByteArray} {s : ByteArray} (h : ¬ s ∈ l) : hasB l s = false := by cases e : hasB l s with | false => rfl | true => exact absurd (hasB_iff.1 e) h
theorem has_l0 (l : List ByteArray) (s : ByteArray) (hl : l.length < 9223372036854775807) : ∀ (d i : Nat), i ≤ l.length → l.length - i = d → (∀ x ∈ l.take i, ¬ x = s) → Ev (fun k => petrinetref48_Has.l0 k l s (i : Int)) (hasB l s) := by
  intro d
  induction d with
  | zero =>
    intro i hi hd hno
    obtain rfl : i = l.length := by omega
    rw [List.take_length] at hno
    refine Ev.succ ?_
    simp only [petrinetref48_Has.l0]
    rw [hasB_not (fun h => hno s h rfl)]
    exact Ev.neg (by omega) (Ev.now _)
  | succ d ih =>
    intro i hi hd hno
    have hlt : i < l.length := by omega
    refine Ev.succ ?_
    simp only [petrinetref48_Has.l0]
    rw [rdOf_get hlt, wrap_succ (by omega)]
    refine Ev.pos (by omega) (Ev.pos (by omega) ?_)
    by_cases h : l[i] = s
    · rw [hasB_iff.2 (by rw [← h]; exact List.getElem_mem hlt)]
      exact Ev.pos ((bytes_eq _ _).2 h) (Ev.now _)
    · refine Ev.neg (fun e => h ((bytes_eq _ _).1 e)) (ih (i + 1) (by omega) (by omega) (fun x hx => ?_))
      rw [List.take_succ_eq_append_getElem hlt] at hx
      rcases List.mem_append.1 hx with hx | hx
      · exact hno x hx
      · rw [List.mem_singleton.1 hx]; exact h
theorem rhas (l : List ByteArray) (s : ByteArray) (hl : l.length < 9223372036854775807) : Ev (fun k => petrinetref48_Has.f k l s) (hasB l s) := has_l0 l s hl _ 0 (by omega) rfl (by simp)
theorem insert_put (l : List ByteArray) (s : ByteArray) (hl : l.length ≤ 1099511627776) : ∀ (d i : Nat), i ≤ l.length → l.length - i = d → ∀ out : List ByteArray, out.length ≤ i + 1 → Ev (fun k => petrinetref48_Insert.l0 k l s out true (i : Int)) (out ++ l.drop i) := by
  intro d
  induction d with
  | zero =>
    intro i hi hd out ho
    obtain rfl : i = l.length := by omega
    refine Ev.succ ?_
    simp only [petrinetref48_Insert.l0]
    rw [List.drop_length, List.append_nil]
    exact Ev.neg (by omega) (Ev.pos trivial (Ev.now _))
  | succ d ih =>
    intro i hi hd out ho
    have hlt : i < l.length := by omega
    have hih := ih (i + 1) (by omega) (by omega) (out ++ [l[i]]) (by simp; omega)
    rw [List.append_assoc, List.singleton_append, ← List.drop_eq_getElem_cons hlt] at hih
    refine Ev.succ ?_
    simp only [petrinetref48_Insert.l0]
    rw [rdOf_get hlt, wrap_succ (by omega)]
    exact Ev.pos (by omega) (Ev.pos trivial (Ev.pos (by omega) (Ev.pos (by omega) hih)))
theorem insert_l0 (l : List ByteArray) (s : ByteArray) (hl : l.length ≤ 1099511627776) (hs : ¬ s ∈ l) : ∀ (d i : Nat), i ≤ l.length → l.length - i = d → ∀ out : List ByteArray, out.length ≤ i → Ev (fun k => petrinetref48_Insert.l0 k l s out false (i : Int)) (out ++ ins (l.drop i) s) := by
  intro d
  induction d with
  | zero =>
    intro i hi hd out ho
    obtain rfl : i = l.length := by omega
    refine Ev.succ ?_
    simp only [petrinetref48_Insert.l0]
    rw [List.drop_length]
    exact Ev.neg (by omega) (Ev.neg (by decide) (Ev.pos (by omega) (Ev.now _)))
  | succ d ih =>
    intro i hi hd out ho
    have hlt : i < l.length := by omega
    have hne : ¬ l[i] = s := fun e => hs (by rw [← e]; exact List.getElem_mem hlt)
    refine Ev.succ ?_
    simp only [petrinetref48_Insert.l0]
    rw [rdOf_get hlt, wrap_succ (by omega), List.drop_eq_getElem_cons hlt, ins]
    refine Ev.pos (by omega) (Ev.neg (by decide) (Ev.pos (by omega) ?_))
    cases h : lessB l[i] s with
    | true =>
      have h2 : ¬ Op.bytesLess s.toList l[i].toList = true := fun h3 => by
        have := less_trans h (show lessB s l[i] = true from h3)
        rw [less_irrefl] at this; cases this
      have hih := ih (i + 1) (by omega) (by omega) (out ++ [l[i]]) (by simp; omega)
      rw [List.append_assoc, List.singleton_append] at hih
      rw [if_pos rfl]
      exact Ev.neg h2 (Ev.pos (by omega) hih)
    | false =>
      have h2 : Op.bytesLess s.toList l[i].toList = true := by
        cases h3 : Op.bytesLess s.toList l[i].toList with
        | true => rfl
        | false => exact absurd (less_total h h3) hne
      rw [if_neg (by decide), if_neg hne]
      have hp := insert_put l s hl _ (i + 1) (by omega) rfl ((out ++ [s]) ++ [l[i]]) (by simp; omega)
      have e : ((out ++ [s]) ++ [l[i]]) ++ l.drop (i + 1) = out ++ s :: l[i] :: l.drop (i + 1) := by simp
      rw [← e]
      refine Ev.pos h2 (Ev.pos (by omega) ?_)
      simp only [Option.bind_some]
      exact Ev.pos (by simp; omega) hp
theorem rinsert (l : List ByteArray) (s : ByteArray) (hl : l.length ≤ 1099511627776) (hs : Srt l) : Ev (fun k => petrinetref48_Insert.f k l s) (ins l s) := by
  unfold petrinetref48_Insert.f
  refine Ev.bind (rhas l s (by omega)) ?_
  cases e : hasB l s with
  | true => rw [ins_of_mem l s hs (hasB_iff.1 e)]; exact Ev.pos rfl (Ev.now _)
  | false =>
    have h : ¬ s ∈ l := fun h => by rw [hasB_iff.2 h] at e; cases e
    exact Ev.neg (by decide) (insert_l0 l s hl h _ 0 (by omega) rfl [] (by simp))

/-! ### Activities -/
def acts (l : List (List ByteArray)) : List ByteArray := l.foldl (fun o t => t.foldl ins o) []
theorem acts_snoc (l : List (List ByteArray)) (t : List ByteArray) : acts (l ++ [t]) = t.foldl ins (acts l) := by simp [acts]
theorem foldIns_srt : ∀ (t o : List ByteArray), Srt o → Srt (t.foldl ins o)
  | [], o, h => h
  | x :: t, o, h => foldIns_srt t _ (ins_srt o x h)
theorem foldIns_len : ∀ (t o : List ByteArray), (t.foldl ins o).length ≤ o.length + t.length
  | [], o => by simp
  | x :: t, o => by
    have h1 := foldIns_len t (ins o x)
    have h2 := ins_len o x
    rw [List.foldl_cons, List.length_cons]; omega
theorem actsFrom_srt : ∀ (l : List (List ByteArray)) (o : List ByteArray), Srt o → Srt (l.foldl (fun o t => t.foldl ins o) o)
  | [], o, h => h
  | t :: l, o, h => actsFrom_srt l _ (foldIns_srt t o h)
theorem acts_srt (l : List (List ByteArray)) : Srt (acts l) := actsFrom_srt l [] List.Pairwise.nil
/-- A log that is no longer than what a machine reads. -/
structure Small (l : List (List ByteArray)) : Prop where
  len : l.length ≤ 1048576
  total : total l ≤ 1048576
theorem Few.small {l : List (List ByteArray)} (h : Few l) : Small l := ⟨by have := h.len; omega, by have := h.total; omega⟩
theorem total_app_cons (a : List (List ByteArray)) (t : List ByteArray) (b : List (List ByteArray)) : total (a ++ t :: b) = total a + (t.length + total b) := by simp [Logs.total]
theorem total_take_le (l : List (List ByteArray)) (i : Nat) (hi : i < l.length) : total (l.take i) + l[i].length ≤ total l := by
  have h : l = l.take i ++ l[i] :: l.drop (i + 1) := by rw [← List.drop_eq_getElem_cons hi, List.take_append_drop]
  have h2 : total (l.take i ++ l[i] :: l.drop (i + 1)) = total (l.take i) + (l[i].length + total (l.drop (i + 1))) := total_app_cons _ _ _
  have h3 := congrArg Logs.total h
  omega
theorem acts_len (l : List (List ByteArray)) : ∀ i, i ≤ l.length → (acts (l.take i)).length ≤ total (l.take i) := by
  intro i
  induction i with
  | zero => intro _; simp [acts]
  | succ i ih =>
    intro hi
    have hlt : i < l.length := by omega
    have h1 := ih (by omega)
    have h2 := foldIns_len l[i] (acts (l.take i))
    rw [List.take_succ_eq_append_getElem hlt, acts_snoc, total_snoc]; omega
theorem eact_l1 (l : List (List ByteArray)) (i : Nat) (t : List ByteArray) (ht : t.length ≤ 1048576) (o : List ByteArray) (ho : o.length ≤ 1048576) (L : Int) (R : List ByteArray)
    (hnext : Ev (fun k => eventlog_Activities.l0 k (t.foldl ins o) l L (wrap64 ((i : Int) + 1))) R) : ∀ (d q : Nat), q ≤ t.length → t.length - q = d → Ev (fun k => eventlog_Activities.l1 k ((t.take q).foldl ins o) l L (i : Int) t (t.length : Int) (q : Int)) R := by
  intro d
  induction d with
  | zero =>
    intro q hq hd
    obtain rfl : q = t.length := by omega
    refine Ev.succ ?_
    simp only [eventlog_Activities.l1]
    rw [List.take_length]
    exact Ev.neg (by omega) hnext
  | succ d ih =>
    intro q hq hd
    have hlt : q < t.length := by omega
    have hih := ih (q + 1) (by omega) (by omega)
    have hln := foldIns_len (t.take q) o
    rw [List.length_take] at hln
    rw [List.take_succ_eq_append_getElem hlt, List.foldl_append] at hih
    refine Ev.succ ?_
    simp only [eventlog_Activities.l1]
    rw [rdOf_get hlt, wrap_succ (i := q) (by omega), eventlog_insert.f, if_pos (by omega), insS_eq]
    exact Ev.pos (by omega) (Ev.pos (by omega) (Ev.pos (by omega) hih))
theorem eact_l0 {l : List (List ByteArray)} (h : Small l) : ∀ (d i : Nat), i ≤ l.length → l.length - i = d → Ev (fun k => eventlog_Activities.l0 k (acts (l.take i)) l (l.length : Int) (i : Int)) (acts l) := by
  have hl := h.len
  have hT := h.total
  intro d
  induction d with
  | zero =>
    intro i hi hd
    obtain rfl : i = l.length := by omega
    refine Ev.succ ?_
    simp only [eventlog_Activities.l0]
    rw [List.take_length]
    exact Ev.neg (by omega) (Ev.now _)
  | succ d ih =>
    intro i hi hd
    have hlt : i < l.length := by omega
    have hih := ih (i + 1) (by omega) (by omega)
    have h1 := total_take_le l i hlt
    have h2 := acts_len l i (by omega)
    rw [List.take_succ_eq_append_getElem hlt, acts_snoc] at hih
    refine Ev.succ ?_
    simp only [eventlog_Activities.l0]
    rw [rd_L1_get hlt]
    refine Ev.pos (by omega) (Ev.pos (by omega) (Ev.pos (by omega) ?_))
    exact eact_l1 l i l[i] (by omega) (acts (l.take i)) (by omega) _ _ (by rw [wrap_succ (by omega)]; exact hih) _ 0 (by omega) rfl
theorem eacts {l : List (List ByteArray)} (h : Small l) : Ev (fun k => eventlog_Activities.f k l) (acts l) := eact_l0 h _ 0 (by omega) rfl
theorem ract_l1 (l : List (List ByteArray)) (i : Nat) (hi : i < l.length) (ht : l[i].length ≤ 1048576) (o : List ByteArray) (ho : o.length ≤ 1048576) (hs : Srt o) (R : List ByteArray)
    (hnext : Ev (fun k => petrinetref48_Activities.l0 k l (l[i].foldl ins o) (wrap64 ((i : Int) + 1))) R) : ∀ (d q : Nat), q ≤ l[i].length → l[i].length - q = d → Ev (fun k => petrinetref48_Activities.l1 k l ((l[i].take q).foldl ins o) (i : Int) (q : Int)) R := by
  intro d
  induction d with
  | zero =>
    intro q hq hd
    obtain rfl : q = l[i].length := by omega
    refine Ev.succ ?_
    simp only [petrinetref48_Activities.l1, rd_L1_get hi]
    rw [List.take_length]
    exact Ev.pos (by omega) (Ev.pos (by omega) (Ev.neg (by omega) hnext))
  | succ d ih =>
    intro q hq hd
    have hlt : q < l[i].length := by omega
    have hih := ih (q + 1) (by omega) (by omega)
    have hln := foldIns_len (l[i].take q) o
    rw [List.length_take] at hln
    rw [List.take_succ_eq_append_getElem hlt, List.foldl_append] at hih
    refine Ev.succ ?_
    simp only [petrinetref48_Activities.l1, rd_L1_get hi]
    rw [rdOf_get hlt, wrap_succ (i := q) (by omega)]
    exact Ev.pos (by omega) (Ev.pos (by omega) (Ev.pos (by omega) (Ev.pos (by omega) (Ev.bind (rinsert _ _ (by omega) (foldIns_srt _ _ hs)) hih))))
theorem ract_l0 {l : List (List ByteArray)} (h : Small l) : ∀ (d i : Nat), i ≤ l.length → l.length - i = d → Ev (fun k => petrinetref48_Activities.l0 k l (acts (l.take i)) (i : Int)) (acts l) := by
  have hl := h.len
  have hT := h.total
  intro d
  induction d with
  | zero =>
    intro i hi hd
    obtain rfl : i = l.length := by omega
    refine Ev.succ ?_
    simp only [petrinetref48_Activities.l0]
    rw [List.take_length]
    exact Ev.neg (by omega) (Ev.now _)
  | succ d ih =>
    intro i hi hd
    have hlt : i < l.length := by omega
    have hih := ih (i + 1) (by omega) (by omega)
    have h1 := total_take_le l i hlt
    have h2 := acts_len l i (by omega)
    rw [List.take_succ_eq_append_getElem hlt, acts_snoc] at hih
    refine Ev.succ ?_
    simp only [petrinetref48_Activities.l0]
    refine Ev.pos (by omega) ?_
    exact ract_l1 l i hlt (by omega) (acts (l.take i)) (by omega) (acts_srt _) _ (by rw [wrap_succ (by omega)]; exact hih) _ 0 (by omega) rfl
theorem racts {l : List (List ByteArray)} (h : Small l) : Ev (fun k => petrinetref48_Activities.f k l) (acts l) := ract_l0 h _ 0 (by omega) rfl
end Go.Proofs.Ytaofommgdgmncaa.Logs

/- The example that every statement on eventlog checks holds. -/
namespace Go.Proofs.Ytaofommgdgmncaa.Logs
set_option linter.unusedVariables false
set_option linter.unusedSimpArgs false
open Go.RowKit Go.Proofs.Ytaofommgdgmncaa.Pr Go.Proofs.Ytaofommgdgmncaa.Evs Go.Proofs.YtaofommgdgmncaaW.PrintWords Go.Proofs.YtaofommgdgmncaaW.PrintLast Go.Proofs.YtaofommgdgmncaaW.PrintMore
theorem alive_now : petrinetlaw48_alive.f 100 = some true := by decide +kernel
theorem alive : Ev (fun k => petrinetlaw48_alive.f k) true := Ev.of petrinetlaw48_alive.mono alive_now
theorem alive' : Ev (fun k => (petrinetlaw48_alive.f k).bind fun t => some t) true := Ev.bind alive (Ev.now _)
end Go.Proofs.Ytaofommgdgmncaa.Logs

/- For all logs, Activities, Variants, First and Last of package eventlog return what the reference returns. -/
namespace Go.Proofs.Ytaofommgdgmncaa.Pure
open Go.RowKit Go.Proofs.Ytaofommgdgmncaa.Pr Go.Proofs.Ytaofommgdgmncaa.Evs Go.Proofs.Ytaofommgdgmncaa.Logs Go.Proofs.YtaofommgdgmncaaW.PrintWords Go.Proofs.YtaofommgdgmncaaW.PrintLast Go.Proofs.YtaofommgdgmncaaW.PrintMore
set_option linter.unusedVariables false
set_option linter.unusedSimpArgs false

theorem isame_l0 (a : List Int) (hl : a.length < 9223372036854775807) : ∀ (d i : Nat), i ≤ a.length → a.length - i = d → Ev (fun k => petrinetref04_Same.l0 k a a (i : Int)) true := by
  intro d
  induction d with
  | zero =>
    intro i hi hd
    refine Ev.succ ?_
    simp only [petrinetref04_Same.l0]
    exact Ev.neg (by omega) (Ev.now _)
  | succ d ih =>
    intro i hi hd
    have hih := ih (i + 1) (by omega) (by omega)
    refine Ev.succ ?_
    simp only [petrinetref04_Same.l0]
    rw [wrap_succ (by omega)]
    exact Ev.pos (by omega) (Ev.pos (by omega) (Ev.pos (by omega) (Ev.pos trivial hih)))
theorem isame (a : List Int) (hl : a.length < 9223372036854775807) : Ev (fun k => petrinetref04_Same.f k a a) true := by
  unfold petrinetref04_Same.f
  exact Ev.pos rfl (isame_l0 a hl _ 0 (by omega) rfl)
/-- A name of each trace that has one, put into an ascending list. -/
def pick1 (f : Tr → Option ByteArray) (l : List Tr) : List ByteArray := l.foldl (fun o t => match f t with | some s => ins o s | none => o) []
theorem pick_snoc (f : Tr → Option ByteArray) (l : List Tr) (t : Tr) : pick1 f (l ++ [t]) = match f t with | some s => ins (pick1 f l) s | none => pick1 f l := by unfold pick1; rw [List.foldl_append]; rfl
theorem pick_srt (f : Tr → Option ByteArray) (l : List Tr) : Srt (pick1 f l) := by
  refine snoc_ind (p := fun l => Srt (pick1 f l)) List.Pairwise.nil (fun l a ih => ?_) l
  rw [pick_snoc]
  cases f a with
  | some s => exact ins_srt _ _ ih
  | none => exact ih
theorem pick_len (f : Tr → Option ByteArray) (l : List Tr) : (pick1 f l).length ≤ l.length := by
  refine snoc_ind (p := fun l => (pick1 f l).length ≤ l.length) (Nat.le_refl _) (fun l a ih => ?_) l
  rw [pick_snoc, List.length_append, List.length_singleton]
  cases f a with
  | some s => have := ins_len (pick1 f l) s; show (ins (pick1 f l) s).length ≤ _; omega
  | none => show (pick1 f l).length ≤ _; omega
def headT (t : Tr) : Option ByteArray := t[0]?
def lastT (t : Tr) : Option ByteArray := t[t.length - 1]?
theorem efirst_l0 {l : List Tr} (h : Few l) : ∀ (d i : Nat), i ≤ l.length → l.length - i = d → Ev (fun k => eventlog_First.l0 k (pick1 headT (l.take i)) l (l.length : Int) (i : Int)) (pick1 headT l) := by
  have hl := h.len
  intro d
  induction d with
  | zero =>
    intro i hi hd
    obtain rfl : i = l.length := by omega
    refine Ev.succ ?_
    simp only [eventlog_First.l0]
    rw [List.take_length]
    exact Ev.neg (by omega) (Ev.now _)
  | succ d ih =>
    intro i hi hd
    have hlt : i < l.length := by omega
    have hih := ih (i + 1) (by omega) (by omega)
    have hln := pick_len headT (l.take i)
    rw [List.length_take] at hln
    rw [List.take_succ_eq_append_getElem hlt, pick_snoc] at hih
    refine Ev.succ ?_
    simp only [eventlog_First.l0]
    rw [rd_L1_get hlt, wrap_succ (by omega)]
    refine Ev.pos (by omega) (Ev.pos (by omega) (Ev.pos (by omega) (Ev.ite (fun h0 => ?_) (fun h0 => ?_))))
    · have h1 : 0 < l[i].length := by omega
      rw [show headT l[i] = some l[i][0] from List.getElem?_eq_getElem h1] at hih
      rw [show rdOf ByteArray.empty l[i] 0 = l[i][0] from rdOf_get h1, eventlog_insert.f, if_pos (by omega), insS_eq]
      exact Ev.pos (by omega) hih
    · rw [show headT l[i] = none from List.getElem?_eq_none (by omega)] at hih
      exact hih
theorem rfirst_l0 {l : List Tr} (h : Few l) : ∀ (d i : Nat), i ≤ l.length → l.length - i = d → Ev (fun k => petrinetref48_First.l0 k l (pick1 headT (l.take i)) (i : Int)) (pick1 headT l) := by
  have hl := h.len
  intro d
  induction d with
  | zero =>
    intro i hi hd
    obtain rfl : i = l.length := by omega
    refine Ev.succ ?_
    simp only [petrinetref48_First.l0]
    rw [List.take_length]
    exact Ev.neg (by omega) (Ev.now _)
  | succ d ih =>
    intro i hi hd
    have hlt : i < l.length := by omega
    have hih := ih (i + 1) (by omega) (by omega)
    have hln := pick_len headT (l.take i)
    rw [List.length_take] at hln
    rw [List.take_succ_eq_append_getElem hlt, pick_snoc] at hih
    refine Ev.succ ?_
    simp only [petrinetref48_First.l0]
    rw [rd_L1_get hlt, wrap_succ (by omega)]
    refine Ev.pos (by omega) (Ev.pos (by omega) (Ev.ite (fun h0 => ?_) (fun h0 => ?_)))
    · have h1 : 0 < l[i].length := by omega
      rw [show headT l[i] = some l[i][0] from List.getElem?_eq_getElem h1] at hih
      rw [show rdOf ByteArray.empty l[i] 0 = l[i][0] from rdOf_get h1]
      exact Ev.pos (by omega) (Ev.bind (rinsert _ _ (by omega) (pick_srt _ _)) hih)
    · rw [show headT l[i] = none from List.getElem?_eq_none (by omega)] at hih
      exact hih
theorem elast_l0 {l : List Tr} (h : Few l) : ∀ (d i : Nat), i ≤ l.length → l.length - i = d → Ev (fun k => eventlog_Last.l0 k (pick1 lastT (l.take i)) l (l.length : Int) (i : Int)) (pick1 lastT l) := by
  have hl := h.len
  intro d
  induction d with
  | zero =>
    intro i hi hd
    obtain rfl : i = l.length := by omega
    refine Ev.succ ?_
    simp only [eventlog_Last.l0]
    rw [List.take_length]
    exact Ev.neg (by omega) (Ev.now _)
  | succ d ih =>
    intro i hi hd
    have hlt : i < l.length := by omega
    have hih := ih (i + 1) (by omega) (by omega)
    have hln := pick_len lastT (l.take i)
    have htl := (h.each _ (List.getElem_mem hlt)).1
    rw [List.length_take] at hln
    rw [List.take_succ_eq_append_getElem hlt, pick_snoc] at hih
    refine Ev.succ ?_
    simp only [eventlog_Last.l0]
    rw [rd_L1_get hlt, wrap_succ (by omega)]
    refine Ev.pos (by omega) (Ev.pos (by omega) (Ev.pos (by omega) (Ev.ite (fun h0 => ?_) (fun h0 => ?_))))
    · have h1 : l[i].length - 1 < l[i].length := by omega
      have hw : wrap64 ((l[i].length : Int) - 1) = ((l[i].length - 1 : Nat) : Int) := wrap_pred (by omega) (by omega)
      rw [show lastT l[i] = some l[i][l[i].length - 1] from List.getElem?_eq_getElem h1] at hih
      rw [hw, show rdOf ByteArray.empty l[i] ((l[i].length - 1 : Nat) : Int) = l[i][l[i].length - 1] from rdOf_get h1, eventlog_insert.f, if_pos (by omega), insS_eq]
      exact Ev.pos (by omega) (Ev.pos (by omega) hih)
    · rw [show lastT l[i] = none from List.getElem?_eq_none (by omega)] at hih
      exact hih
theorem rlast_l0 {l : List Tr} (h : Few l) : ∀ (d i : Nat), i ≤ l.length → l.length - i = d → Ev (fun k => petrinetref48_Last.l0 k l (pick1 lastT (l.take i)) (i : Int)) (pick1 lastT l) := by
  have hl := h.len
  intro d
  induction d with
  | zero =>
    intro i hi hd
    obtain rfl : i = l.length := by omega
    refine Ev.succ ?_
    simp only [petrinetref48_Last.l0]
    rw [List.take_length]
    exact Ev.neg (by omega) (Ev.now _)
  | succ d ih =>
    intro i hi hd
    have hlt : i < l.length := by omega
    have hih := ih (i + 1) (by omega) (by omega)
    have hln := pick_len lastT (l.take i)
    have htl := (h.each _ (List.getElem_mem hlt)).1
    rw [List.length_take] at hln
    rw [List.take_succ_eq_append_getElem hlt, pick_snoc] at hih
    refine Ev.succ ?_
    simp only [petrinetref48_Last.l0]
    rw [rd_L1_get hlt, wrap_succ (by omega)]
    refine Ev.pos (by omega) (Ev.pos (by omega) (Ev.ite (fun h0 => ?_) (fun h0 => ?_)))
    · have h1 : l[i].length - 1 < l[i].length := by omega
      have hw : wrap64 ((l[i].length : Int) - 1) = ((l[i].length - 1 : Nat) : Int) := wrap_pred (by omega) (by omega)
      rw [show lastT l[i] = some l[i][l[i].length - 1] from List.getElem?_eq_getElem h1] at hih
      rw [hw, show rdOf ByteArray.empty l[i] ((l[i].length - 1 : Nat) : Int) = l[i][l[i].length - 1] from rdOf_get h1]
      exact Ev.pos (by omega) (Ev.pos (by omega) (Ev.bind (rinsert _ _ (by omega) (pick_srt _ _)) hih))
    · rw [show lastT l[i] = none from List.getElem?_eq_none (by omega)] at hih
      exact hih
theorem EventlogCounts (l : List (List ByteArray)) (hl : LogOk l) : ∃ k, petrinetlaw48_EventlogCounts.f k l = some true := by
  apply Ev.rounds
  unfold petrinetlaw48_EventlogCounts.f
  obtain ⟨bb, hbb, hF⟩ := few l hl.1
  refine Ev.bind hbb ?_
  cases bb with
  | false => exact Ev.neg (by decide) alive'
  | true =>
    have hf := hF rfl
    have h80 := hf.len
    have hm : ∀ t ∈ l, t.length ≤ 1000 := fun t ht => by have := (hf.each t ht).1; omega
    have hd := dstT_len l
    have hdm : ∀ t ∈ dstT l, t.length < 9223372036854775807 := fun t ht => by have := hm t ((dstT_mem l t).1 ht); omega
    have h1 := acts_len l l.length (Nat.le_refl _)
    rw [List.take_length] at h1
    have h2 := hf.total
    have h3 := pick_len headT l
    have h4 := pick_len lastT l
    refine Ev.pos rfl (Ev.bind (eVars hf) (Ev.bind (rVars l (by omega) hm) (Ev.bind (requal (dstT l) (dstT l) (by omega) hdm) (Ev.pos (decide_eq_true rfl) (Ev.bind (isame (cntsT l) (by unfold cntsT; rw [List.length_map]; omega)) (Ev.pos rfl ?_))))))
    refine Ev.bind (eacts hf.small) (Ev.bind (racts hf.small) (Ev.bind (rsame (acts l) (acts l) (by omega)) (Ev.pos (decide_eq_true rfl) ?_)))
    refine Ev.bind (efirst_l0 hf _ 0 (by omega) rfl) (Ev.bind (rfirst_l0 hf _ 0 (by omega) rfl) (Ev.bind (rsame (pick1 headT l) (pick1 headT l) (by omega)) (Ev.pos (decide_eq_true rfl) ?_)))
    exact Ev.bind (elast_l0 hf _ 0 (by omega) rfl) (Ev.bind (rlast_l0 hf _ 0 (by omega) rfl) (Ev.bind (rsame (pick1 lastT l) (pick1 lastT l) (by omega)) (Ev.pos (decide_eq_true rfl) alive')))
end Go.Proofs.Ytaofommgdgmncaa.Pure

