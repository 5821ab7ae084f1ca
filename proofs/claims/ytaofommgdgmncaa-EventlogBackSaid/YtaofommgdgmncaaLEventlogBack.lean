/- For all logs, Parse of Text is the log, whatever spaces and lines without words are added, and the numbers of Variants add up to the number of traces. -/
import Derived.Test.YtaofommgdgmncaaQEventlogBack0
import Derived.Test.YtaofommgdgmncaaQEventlogBack1
import Derived.Test.YtaofommgdgmncaaVEventlogBack
import Derived.Deep.Slices
import Derived.ChangeArms
import Derived.Test.YtaofommgdgmncaaBEventlogBack
/- General lemmas of this seat's proofs, in one text. -/
/- A datum that is read deep (the statements' reader) told as the walks tell it: rows of rows, texts, numbers. -/
namespace Go.Proofs.Ytaofommgdgmncaa.Opens
set_option linter.unusedVariables false
open Go.RowKit Go.WideShapes Go.Deep Go.Proofs.YtaofommgdgmncaaW.PrintWords

/-- What the statements' reader finds at cells of type t is what d tells of some a with ok. -/
structure Opens {α H : Type} (enc : TypeId × Value → H) (P : Program) (w : World) (base : Nat) (spare : Nat → Bool) (held : Bool) (d : Kd α) (t : TypeId) (ok : α → Prop) : Prop where
  cells : P.cellsOf t = d.sz
  opens : ∀ (fuel : Nat) (cs : List Value) (x : DataW H × List MemPlace), DataW.trod enc P w base spare held fuel t cs = some x → ∃ a, d.K w a cs ∧ ok a

section
variable {H : Type} {enc : TypeId × Value → H} {P : Program} {w : World} {base : Nat} {spare : Nat → Bool} {held : Bool}
theorem string {t : TypeId} (ht : P.underlying t = some .string) (hc : P.cellsOf t = 1) : Opens enc P w base spare held Kd.string t (fun s => s.size ≤ maxLen) :=
  ⟨hc, fun fuel cs x h => by obtain ⟨s, rfl, _, hs⟩ := DataW.trod_string ht h; exact ⟨s, rfl, hs⟩⟩
theorem bool {t : TypeId} (ht : P.underlying t = some .bool) (hc : P.cellsOf t = 1) : Opens enc P w base spare held Kd.bool t (fun _ => True) :=
  ⟨hc, fun fuel cs x h => by obtain ⟨s, rfl, _⟩ := DataW.trod_bool ht h; exact ⟨s, rfl, trivial⟩⟩
theorem int {t : TypeId} {k : IntKind} (ht : P.underlying t = some (.int k)) (hc : P.cellsOf t = 1) : Opens enc P w base spare held (Kd.int k) t (fun n => (Lit.int k n).wf = true) :=
  ⟨hc, fun fuel cs x h => by obtain ⟨s, rfl, _, hs⟩ := DataW.trod_int ht h; exact ⟨s, rfl, hs⟩⟩
theorem list_of {α : Type} {p : Nat → α → Prop} : ∀ (n : Nat), (∀ i, i < n → ∃ a, p i a) → ∃ xs : List α, xs.length = n ∧ ∀ i a, xs[i]? = some a → p i a
  | 0, _ => ⟨[], rfl, fun i a h => by simp at h⟩
  | n + 1, h => by
    obtain ⟨xs, hl, hx⟩ := list_of n (fun i hi => h i (by omega))
    obtain ⟨a, ha⟩ := h n (by omega)
    refine ⟨xs ++ [a], by simp [hl], fun i b hb => ?_⟩
    by_cases hi : i < xs.length
    · rw [List.getElem?_append_left hi] at hb; exact hx i b hb
    · have hlt := (List.getElem?_eq_some_iff.1 hb).1
      simp only [List.length_append, List.length_cons, List.length_nil] at hlt
      obtain rfl : i = n := by omega
      rw [List.getElem?_append_right (by omega)] at hb
      simp [hl] at hb
      rw [← hb]; exact ha
theorem slice {α : Type} {d : Kd α} {t e : TypeId} {ok : α → Prop} (h : Opens enc P w base spare held d e ok) (ht : P.underlying t = some (.slice e)) (hc : P.cellsOf t = 1) :
    Opens enc P w base spare held (Kd.slice e d) t (fun xs => xs.length ≤ maxLen ∧ ∀ x ∈ xs, ok x) := by
  refine ⟨hc, fun fuel cs x hx => ?_⟩
  rcases open_slice ht hx with ⟨rfl, _⟩ | ⟨a, len, cap, m, n, D, Pl, rfl, _, hl, hm, hmm, _, hi⟩
  · exact ⟨[], ⟨none, 0, rfl, Nat.le_refl _, Kd.C_nil _ _⟩, by simp, by simp⟩
  · have hlm : len ≤ m := by rw [hmm]; split <;> omega
    obtain ⟨xs, hxl, hxs⟩ := list_of (p := fun i b => ∃ c, c.length = d.sz ∧ d.K w b c ∧ ok b ∧ ∀ j u, c[j]? = some u → w.cell? (a.add (i * d.sz + j)) = some u) len (fun i hlt => by
      obtain ⟨cs', h1, h2⟩ := hi i (by omega)
      obtain ⟨b, hK, hok⟩ := h.opens _ _ _ h2
      obtain ⟨_, hlen, hcell⟩ := World.cells?_some h1
      refine ⟨b, cs', by rw [hlen, h.cells], hK, hok, fun j u hu => ?_⟩
      have hj := (List.getElem?_eq_some_iff.1 hu).1
      rw [← hu, ← hcell j (by omega), h.cells, Addr.add_add])
    subst hxl
    refine ⟨xs, ⟨some a, cap, rfl, hl, rfl, by unfold maxLen at hm; omega, fun _ => ⟨a, rfl, fun j p hp => ?_⟩⟩, by omega, fun y hy => ?_⟩
    · obtain ⟨c, h1, h2, _, h4⟩ := hxs j p hp
      exact ⟨c, h1, h2, h4⟩
    · obtain ⟨j, hj⟩ := List.mem_iff_getElem?.1 hy
      obtain ⟨c, _, _, h3, _⟩ := hxs j y hj
      exact h3
/-- A parameter that is a row. -/
theorem param {α : Type} {d : Kd α} {t e : TypeId} {ok : α → Prop} (h : Opens enc P w base spare held d e ok) (ht : P.underlying t = some (.slice e)) (hc : P.cellsOf t = 1) {a : Option Addr} {len cap : Nat} {D : DataW H} {ps : List MemPlace}
    (hd : DataW.Trod enc P w base spare held t (.slice a len cap) D ps) : ∃ xs : List α, len = xs.length ∧ xs.length ≤ cap ∧ d.C w a xs.length xs ∧ xs.length ≤ maxLen ∧ ∀ x ∈ xs, ok x := by
  obtain ⟨fuel, hf⟩ := hd
  obtain ⟨xs, ⟨A, c, he, hcap, hC⟩, hl, hx⟩ := (slice h ht hc).opens _ _ _ hf
  have he' : [Value.slice a len cap] = [.slice A xs.length c] := he
  simp only [List.cons.injEq, Value.slice.injEq, and_true] at he'
  obtain ⟨rfl, rfl, rfl⟩ := he'
  exact ⟨xs, rfl, hcap, hC, hl, hx⟩
/-! ### Structs -/
/-- The fields of a struct, from some place of its cells on. -/
structure OpensL {α H : Type} (enc : TypeId × Value → H) (P : Program) (w : World) (base : Nat) (spare : Nat → Bool) (held : Bool) (d : Kd α) (fs : List Field) (o : Nat) (ok : α → Prop) : Prop where
  opens : ∀ (n : Nat) (cs : List Value), (∀ f ∈ fs, ∃ y, DataW.trod enc P w base spare held n f.type ((cs.drop f.offset).take (P.cellsOf f.type)) = some y) → ∃ a, d.K w a ((cs.drop o).take d.sz) ∧ ok a
theorem one {α : Type} {d : Kd α} {f : Field} {o : Nat} {ok : α → Prop} (h : Opens enc P w base spare held d f.type ok) (ho : f.offset = o) : OpensL enc P w base spare held d [f] o ok :=
  ⟨fun n cs hf => by
    obtain ⟨y, hy⟩ := hf f List.mem_cons_self
    obtain ⟨a, hK, hok⟩ := h.opens _ _ _ hy
    rw [h.cells, ho] at hK
    exact ⟨a, hK, hok⟩⟩
theorem cons {α β : Type} {d1 : Kd α} {d2 : Kd β} {f : Field} {fs : List Field} {o o2 : Nat} {ok1 : α → Prop} {ok2 : β → Prop} (h : Opens enc P w base spare held d1 f.type ok1) (ho : f.offset = o) (ho2 : o + d1.sz = o2) (h2 : OpensL enc P w base spare held d2 fs o2 ok2) :
    OpensL enc P w base spare held (Kd.pair d1 d2) (f :: fs) o (fun a => ok1 a.1 ∧ ok2 a.2) :=
  ⟨fun n cs hf => by
    obtain ⟨y, hy⟩ := hf f List.mem_cons_self
    obtain ⟨a, hK, hok⟩ := h.opens _ _ _ hy
    rw [h.cells, ho] at hK
    obtain ⟨b, hK2, hok2⟩ := h2.opens n cs (fun g hg => hf g (List.mem_cons_of_mem _ hg))
    refine ⟨(a, b), ⟨_, _, ?_, hK, hK2⟩, hok, hok2⟩
    rw [← ho2, ← List.drop_drop]
    exact List.take_add⟩
theorem tuple {α : Type} {d : Kd α} {t : TypeId} {fs : Array Field} {ok : α → Prop} (ht : P.underlying t = some (.struct fs)) (hc : P.cellsOf t = d.sz) (h : OpensL enc P w base spare held d fs.toList 0 ok) : Opens enc P w base spare held d t ok := by
  refine ⟨hc, fun fuel cs x hx => ?_⟩
  obtain ⟨xs, n, rfl, rfl, hl, hlen, hf⟩ := DataW.trod_struct ht hx
  obtain ⟨a, hK, hok⟩ := h.opens n cs (fun f hm => by
    obtain ⟨i, hi⟩ := List.mem_iff_getElem?.1 hm
    have hi' : fs[i]? = some f := by simpa using hi
    have hlt : i < xs.length := by rw [hlen]; exact (Array.getElem?_eq_some_iff.1 hi').1
    exact ⟨xs[i], by rw [hf i f hi', List.getElem?_eq_getElem hlt]⟩)
  rw [List.drop_zero, List.take_of_length_le (by rw [hl, hc]; exact Nat.le_refl _)] at hK
  exact ⟨a, hK, hok⟩
theorem struct {α β : Type} {d : Kd α} {t : TypeId} {fs : Array Field} {ok : α → Prop} {f : β → α} (g : α → β) (hg : ∀ a, f (g a) = a) (ht : P.underlying t = some (.struct fs)) (hc : P.cellsOf t = d.sz) (h : OpensL enc P w base spare held d fs.toList 0 ok) :
    Opens enc P w base spare held (Kd.iso d f) t (fun b => ok (f b)) := by
  refine ⟨hc, fun fuel cs x hx => ?_⟩
  obtain ⟨a, hK, hok⟩ := (tuple ht hc h).opens fuel cs x hx
  exact ⟨g a, by show d.K w (f (g a)) cs; rw [hg]; exact hK, by rw [hg]; exact hok⟩
/-- A parameter that is a struct. -/
theorem value {α : Type} {d : Kd α} {t : TypeId} {ok : α → Prop} (h : Opens enc P w base spare held d t ok) {cs : Array Value} {D : DataW H} {ps : List MemPlace}
    (hd : DataW.Trod enc P w base spare held t (.agg cs) D ps) : ∃ a, d.K w a cs.toList ∧ ok a := by
  obtain ⟨fuel, hf⟩ := hd
  obtain ⟨a, hK, hok⟩ := h.opens _ _ _ hf
  exact ⟨a, by simpa [Value.cells] using hK, hok⟩
end
end Go.Proofs.Ytaofommgdgmncaa.Opens

/- What the functions of the reference of eventlog answer. -/
namespace Go.Proofs.Ytaofommgdgmncaa.Logs
open Go.RowKit Go.Proofs.Ytaofommgdgmncaa.Pr Go.Proofs.Ytaofommgdgmncaa.Evs Go.Proofs.Ytaofommgdgmncaa.Parts Go.Proofs.Ytaofommgdgmncaa.Names Go.Proofs.YtaofommgdgmncaaW.PrintWords Go.Proofs.YtaofommgdgmncaaW.PrintLast Go.Proofs.YtaofommgdgmncaaW.PrintMore
set_option linter.unusedVariables false
set_option linter.unusedSimpArgs false

/-! ### names -/
theorem bt_byte {s : ByteArray} {i : Nat} (h : i < s.size) : bt s (i : Int) = (byteAt s i : Int) := by
  rw [byteAt_get s i h]
  simp [bt, h]
theorem name_l0 (s : ByteArray) (hs : s.size < 9223372036854775807) : ∀ (d i : Nat), i ≤ s.size → s.size - i = d → (∀ j, j < i → okB j (byteAt s j) = true) → Ev (fun k => petrinetref48_Name.l0 k s (i : Int)) (nameB s) := by
  intro d
  induction d with
  | zero =>
    intro i hi hd hok
    obtain rfl : i = s.size := by omega
    refine Ev.succ ?_
    simp only [petrinetref48_Name.l0]
    refine Ev.neg (by omega) ?_
    have hall : ((List.range s.size).all fun j => okB j (byteAt s j)) = true := by
      rw [List.all_eq_true]
      intro j hj
      exact hok j (List.mem_range.1 hj)
    by_cases h1 : (s.size : Int) ≥ 1
    · refine Ev.pos h1 (Ev.same (funext fun _ => ?_))
      unfold nameB
      rw [hall, Bool.and_true, decide_eq_true (show 1 ≤ s.size by omega), Bool.true_and]
      congr 1
      exact decide_eq_decide.2 (by omega)
    · refine Ev.neg h1 (Ev.same (funext fun _ => ?_))
      unfold nameB
      rw [decide_eq_false (show ¬ 1 ≤ s.size by omega)]
      rfl
  | succ d ih =>
    intro i hi hd hok
    have hlt : i < s.size := by omega
    have hb := bt_byte hlt
    obtain ⟨c, hc⟩ : ∃ c, byteAt s i = c := ⟨_, rfl⟩
    rw [hc] at hb
    have hgo : okB i c = true → Ev (fun k => petrinetref48_Name.l0 k s (wrap64 ((i : Int) + 1))) (nameB s) := by
      intro hk
      rw [wrap_succ (by omega)]
      refine ih (i + 1) (by omega) (by omega) (fun j hj => ?_)
      by_cases hji : j = i
      · subst hji; rw [hc]; exact hk
      · exact hok j (by omega)
    have hno : okB i c = false → nameB s = false := fun hk => nameB_false hlt (by rw [hc]; exact hk)
    have hstop : okB i c = false → Ev (fun _ : Nat => some false) (nameB s) := fun hk => by rw [hno hk]; exact Ev.now _
    refine Ev.succ ?_
    simp only [petrinetref48_Name.l0, hb]
    refine Ev.pos (by omega) (Ev.pos (by omega) ?_)
    have hnl : ¬ (97 ≤ c ∧ c ≤ 122) → ¬ c = 95 → Ev (fun k => if (i : Int) = 0 then some false else if (c : Int) = 46 then petrinetref48_Name.l0 k s (wrap64 ((i : Int) + 1)) else if (c : Int) < 48 then some false else if (c : Int) > 57 then some false else petrinetref48_Name.l0 k s (wrap64 ((i : Int) + 1))) (nameB s) := by
      intro h1 h2
      by_cases h0 : (i : Int) = 0
      · exact Ev.pos h0 (hstop (okB_not (by omega)))
      · refine Ev.neg h0 ?_
        by_cases h46 : (c : Int) = 46
        · exact Ev.pos h46 (hgo (okB_of (by omega)))
        · refine Ev.neg h46 ?_
          by_cases h48 : (c : Int) < 48
          · exact Ev.pos h48 (hstop (okB_not (by omega)))
          · refine Ev.neg h48 ?_
            by_cases h57 : (c : Int) > 57
            · exact Ev.pos h57 (hstop (okB_not (by omega)))
            · exact Ev.neg h57 (hgo (okB_of (by omega)))
    by_cases h97 : (c : Int) ≥ 97
    · refine Ev.pos h97 ?_
      by_cases h122 : (c : Int) ≤ 122
      · exact Ev.pos h122 (hgo (okB_of (by omega)))
      · refine Ev.neg h122 ?_
        exact Ev.neg (by omega) (hnl (by omega) (by omega))
    · refine Ev.neg h97 ?_
      by_cases h95 : (c : Int) = 95
      · exact Ev.pos h95 (hgo (okB_of (by omega)))
      · exact Ev.neg h95 (hnl (by omega) (by omega))
theorem rname (s : ByteArray) (hs : s.size < 9223372036854775807) : Ev (fun k => petrinetref48_Name.f k s) (nameB s) := name_l0 s hs s.size 0 (by omega) (by omega) (fun _ h => by omega)

/-! ### parts and words -/
/-! ### equal lists of lists -/
theorem same_l0 (a b : List ByteArray) (hab : a.length = b.length) (hl : a.length < 9223372036854775807) : ∀ (d i : Nat), i ≤ a.length → a.length - i = d → a.take i = b.take i → Ev (fun k => petrinetref48_Same.l0 k a b (i : Int)) (decide (a = b)) := by
  intro d
  induction d with
  | zero =>
    intro i hi hd he
    obtain rfl : i = a.length := by omega
    refine Ev.succ ?_
    simp only [petrinetref48_Same.l0]
    refine Ev.neg (by omega) ?_
    rw [List.take_length, hab, List.take_length] at he
    rw [decide_eq_true he]
    exact Ev.now _
  | succ d ih =>
    intro i hi hd he
    have hlt : i < a.length := by omega
    have hlb : i < b.length := by omega
    refine Ev.succ ?_
    simp only [petrinetref48_Same.l0]
    refine Ev.pos (by omega) (Ev.pos (by omega) (Ev.pos (by omega) ?_))
    rw [rdOf_get hlt, rdOf_get hlb, wrap_succ (by omega)]
    by_cases h : a[i] = b[i]
    · exact Ev.pos ((bytes_eq _ _).2 h) (ih (i + 1) (by omega) (by omega) (by rw [List.take_succ_eq_append_getElem hlt, List.take_succ_eq_append_getElem hlb, he, h]))
    · rw [decide_eq_false (fun e => h (by simp [e]))]
      exact Ev.neg (fun e => h ((bytes_eq _ _).1 e)) (Ev.now _)
theorem rsame (a b : List ByteArray) (hl : a.length < 9223372036854775807) : Ev (fun k => petrinetref48_Same.f k a b) (decide (a = b)) := by
  unfold petrinetref48_Same.f
  by_cases h : a.length = b.length
  · exact Ev.pos (by omega) (same_l0 a b h hl _ 0 (by omega) rfl rfl)
  · rw [decide_eq_false (fun e => h (by rw [e]))]
    exact Ev.neg (by omega) (Ev.now _)
theorem rd_L1_get {l : List (List ByteArray)} {i : Nat} (h : i < l.length) : rd_L1 l (i : Int) = l[i] := by simp [rd_L1, h]
theorem equal_l0 (a b : List (List ByteArray)) (hab : a.length = b.length) (hl : a.length < 9223372036854775807) (hm : ∀ t ∈ a, t.length < 9223372036854775807) : ∀ (d i : Nat), i ≤ a.length → a.length - i = d → a.take i = b.take i → Ev (fun k => petrinetref48_Equal.l0 k a b (i : Int)) (decide (a = b)) := by
  intro d
  induction d with
  | zero =>
    intro i hi hd he
    obtain rfl : i = a.length := by omega
    refine Ev.succ ?_
    simp only [petrinetref48_Equal.l0]
    refine Ev.neg (by omega) ?_
    rw [List.take_length, hab, List.take_length] at he
    rw [decide_eq_true he]
    exact Ev.now _
  | succ d ih =>
    intro i hi hd he
    have hlt : i < a.length := by omega
    have hlb : i < b.length := by omega
    refine Ev.succ ?_
    simp only [petrinetref48_Equal.l0]
    refine Ev.pos (by omega) (Ev.pos (by omega) (Ev.pos (by omega) ?_))
    rw [rd_L1_get hlt, rd_L1_get hlb, wrap_succ (by omega)]
    refine Ev.bind (rsame a[i] b[i] (hm _ (List.getElem_mem hlt))) ?_
    by_cases h : a[i] = b[i]
    · exact Ev.pos (decide_eq_true h) (ih (i + 1) (by omega) (by omega) (by rw [List.take_succ_eq_append_getElem hlt, List.take_succ_eq_append_getElem hlb, he, h]))
    · rw [decide_eq_false (show ¬ a = b from fun e => h (by simp [e]))]
      exact Ev.neg (by simpa using h) (Ev.now _)
theorem requal (a b : List (List ByteArray)) (hl : a.length < 9223372036854775807) (hm : ∀ t ∈ a, t.length < 9223372036854775807) : Ev (fun k => petrinetref48_Equal.f k a b) (decide (a = b)) := by
  unfold petrinetref48_Equal.f
  by_cases h : a.length = b.length
  · exact Ev.pos (by omega) (equal_l0 a b h hl hm _ 0 (by omega) rfl rfl)
  · rw [decide_eq_false (fun e => h (by rw [e]))]
    exact Ev.neg (by omega) (Ev.now _)

/-! ### Parse -/
end Go.Proofs.Ytaofommgdgmncaa.Logs

/- How often one name follows another, and which logs are few. -/
namespace Go.Proofs.Ytaofommgdgmncaa.Logs
open Go.RowKit Go.Proofs.Ytaofommgdgmncaa.Pr Go.Proofs.Ytaofommgdgmncaa.Evs Go.Proofs.YtaofommgdgmncaaW.PrintWords Go.Proofs.YtaofommgdgmncaaW.PrintLast Go.Proofs.YtaofommgdgmncaaW.PrintMore
set_option linter.unusedVariables false
set_option linter.unusedSimpArgs false

/-! ### few -/
def total (l : List (List ByteArray)) : Nat := (l.map List.length).sum
structure Few (l : List (List ByteArray)) : Prop where
  len : l.length ≤ 80
  total : total l ≤ 400
  each : ∀ t ∈ l, t.length ≤ 80 ∧ ∀ s ∈ t, s.size ≤ 40
theorem total_snoc (l : List (List ByteArray)) (t : List ByteArray) : total (l ++ [t]) = total l + t.length := by simp [Logs.total]
theorem few_l1 (l : List (List ByteArray)) (i : Nat) (hi : i < l.length) (n : Int) (p : Prop) (hL : l.length ≤ 9223372036854775807)
    (hnext : l[i].length ≤ 80 → ∃ b, Ev (fun k => petrinetlaw48_few.l0 k l n ((i + 1 : Nat) : Int)) b ∧ (b = true → p)) : ∀ (d q : Nat), q ≤ l[i].length → l[i].length - q = d → ∃ b, Ev (fun k => petrinetlaw48_few.l1 k l n (i : Int) (q : Int)) b ∧ (b = true → (∀ s ∈ l[i].drop q, s.size ≤ 40) ∧ l[i].length ≤ 80 ∧ p) := by
  have hlast : ∀ q : Nat, (l[i].length ≤ q ∨ 81 ≤ q) → ∃ b, Ev (fun k => petrinetlaw48_few.j3 k l n (i : Int) (q : Int) false) b ∧ (b = true → l[i].length ≤ 80 ∧ p) := by
    intro q hq
    by_cases h80 : (l[i].length : Int) > 80
    · refine ⟨false, Ev.succ ?_, fun h => by cases h⟩
      simp only [petrinetlaw48_few.j3, rd_L1_get hi]
      exact Ev.neg (by decide) (Ev.pos (by omega) (Ev.pos (by omega) (Ev.pos h80 (Ev.now _))))
    · obtain ⟨b, hb, hp⟩ := hnext (by omega)
      refine ⟨b, Ev.succ ?_, fun h => ⟨by omega, hp h⟩⟩
      simp only [petrinetlaw48_few.j3, rd_L1_get hi]
      rw [wrap_succ (i := i) (by omega)]
      exact Ev.neg (by decide) (Ev.pos (by omega) (Ev.pos (by omega) (Ev.neg h80 hb)))
  intro d
  induction d with
  | zero =>
    intro q hq hd
    obtain ⟨b, hb, hp⟩ := hlast q (.inl (by omega))
    refine ⟨b, Ev.succ ?_, fun h => ⟨?_, hp h⟩⟩
    · simp only [petrinetlaw48_few.l1, rd_L1_get hi]
      exact Ev.pos (by omega) (Ev.pos (by omega) (Ev.neg (by omega) hb))
    · rw [List.drop_of_length_le (by omega)]; simp
  | succ d ih =>
    intro q hq hd
    have hqt : q < l[i].length := by omega
    by_cases h81 : q < 81
    · have hdec : decide ((q : Int) < 81) = true := decide_eq_true (by omega)
      by_cases hs : ((l[i][q].size : Nat) : Int) > 40
      · refine ⟨false, Ev.succ ?_, fun h => by cases h⟩
        simp only [petrinetlaw48_few.l1, rd_L1_get hi, hdec]
        refine Ev.pos (by omega) (Ev.pos (by omega) (Ev.pos (by omega) (Ev.succ ?_)))
        simp only [petrinetlaw48_few.j3, rd_L1_get hi, rdOf_get hqt]
        exact Ev.pos trivial (Ev.pos (by omega) (Ev.pos (by omega) (Ev.pos (by omega) (Ev.pos (by omega) (Ev.pos hs (Ev.now _))))))
      · obtain ⟨b, hb, hp⟩ := ih (q + 1) (by omega) (by omega)
        refine ⟨b, Ev.succ ?_, fun h => ⟨?_, (hp h).2⟩⟩
        · simp only [petrinetlaw48_few.l1, rd_L1_get hi, hdec]
          refine Ev.pos (by omega) (Ev.pos (by omega) (Ev.pos (by omega) (Ev.succ ?_)))
          simp only [petrinetlaw48_few.j3, rd_L1_get hi, rdOf_get hqt]
          rw [wrap_succ (i := q) (by omega)]
          exact Ev.pos trivial (Ev.pos (by omega) (Ev.pos (by omega) (Ev.pos (by omega) (Ev.pos (by omega) (Ev.neg hs hb)))))
        · intro s hs'
          rw [List.drop_eq_getElem_cons hqt] at hs'
          rcases List.mem_cons.1 hs' with rfl | h'
          · omega
          · exact (hp h).1 s h'
    · have hdec : decide ((q : Int) < 81) = false := decide_eq_false (by omega)
      obtain ⟨b, hb, hp⟩ := hlast q (.inr (by omega))
      refine ⟨b, Ev.succ ?_, fun h => ?_⟩
      · simp only [petrinetlaw48_few.l1, rd_L1_get hi, hdec]
        exact Ev.pos (by omega) (Ev.pos (by omega) (Ev.pos (by omega) hb))
      · have := (hp h).1; omega
theorem few_l0 (l : List (List ByteArray)) (hL : l.length ≤ 9223372036854775807) : ∀ (d i : Nat), i ≤ l.length → i ≤ 81 → l.length - i = d → total (l.take i) ≤ 80 * i →
    ∃ b, Ev (fun k => petrinetlaw48_few.l0 k l (total (l.take i) : Int) (i : Int)) b ∧ (b = true → l.length ≤ 80 ∧ total l ≤ 400 ∧ ∀ t ∈ l.drop i, t.length ≤ 80 ∧ ∀ s ∈ t, s.size ≤ 40) := by
  have hlast : ∀ i : Nat, i ≤ l.length → (l.length ≤ i ∨ 81 ≤ i) → ∃ b, Ev (fun k => petrinetlaw48_few.j1 k l (total (l.take i) : Int) (i : Int) false) b ∧ (b = true → l.length ≤ 80 ∧ total l ≤ 400 ∧ ∀ t ∈ l.drop i, t.length ≤ 80 ∧ ∀ s ∈ t, s.size ≤ 40) := by
    intro i hi hq
    by_cases h80 : (l.length : Int) ≤ 80
    · refine ⟨decide ((total (l.take i) : Int) ≤ 400), Ev.succ ?_, fun h => ?_⟩
      · simp only [petrinetlaw48_few.j1]
        exact Ev.neg (by decide) (Ev.pos h80 (Ev.now _))
      · obtain rfl : i = l.length := by omega
        rw [List.take_length] at h
        have := of_decide_eq_true h
        refine ⟨by omega, by omega, ?_⟩
        rw [List.drop_length]; simp
    · refine ⟨false, Ev.succ ?_, fun h => by cases h⟩
      simp only [petrinetlaw48_few.j1]
      exact Ev.neg (by decide) (Ev.neg h80 (Ev.now _))
  intro d
  induction d with
  | zero =>
    intro i hi h81 hd hn
    obtain ⟨b, hb, hp⟩ := hlast i hi (.inl (by omega))
    refine ⟨b, Ev.succ ?_, hp⟩
    simp only [petrinetlaw48_few.l0]
    exact Ev.neg (by omega) hb
  | succ d ih =>
    intro i hi h81 hd hn
    have hlt : i < l.length := by omega
    by_cases hi81 : i < 81
    · have hdec : decide ((i : Int) < 81) = true := decide_eq_true (by omega)
      have htk : total (l.take (i + 1)) = total (l.take i) + l[i].length := by rw [List.take_succ_eq_append_getElem hlt, total_snoc]
      obtain ⟨b, hb, hp⟩ := few_l1 l i hlt (wrap64 ((total (l.take i) : Int) + (l[i].length : Int))) (l.length ≤ 80 ∧ total l ≤ 400 ∧ ∀ t ∈ l.drop (i + 1), t.length ≤ 80 ∧ ∀ s ∈ t, s.size ≤ 40) hL (fun h => by
          rw [show wrap64 ((total (l.take i) : Int) + (l[i].length : Int)) = (total (l.take (i + 1)) : Int) by unfold wrap64; omega]
          exact ih (i + 1) (by omega) (by omega) (by omega) (by omega)) _ 0 (by omega) rfl
      refine ⟨b, Ev.succ ?_, fun h => ?_⟩
      · simp only [petrinetlaw48_few.l0, hdec]
        refine Ev.pos (by omega) (Ev.succ ?_)
        simp only [petrinetlaw48_few.j1, rd_L1_get hlt]
        exact Ev.pos trivial (Ev.pos (by omega) (Ev.pos (by omega) hb))
      · obtain ⟨h1, h2, h3, h4, h5⟩ := hp h
        refine ⟨h3, h4, fun t ht => ?_⟩
        rw [List.drop_eq_getElem_cons hlt] at ht
        rcases List.mem_cons.1 ht with rfl | ht
        · exact ⟨h2, fun s hs => h1 s (by rw [List.drop_zero]; exact hs)⟩
        · exact h5 t ht
    · have hdec : decide ((i : Int) < 81) = false := decide_eq_false (by omega)
      obtain ⟨b, hb, hp⟩ := hlast i hi (.inr (by omega))
      refine ⟨b, Ev.succ ?_, hp⟩
      simp only [petrinetlaw48_few.l0, hdec]
      exact Ev.pos (by omega) hb
/-- What the statements' reader tells of a log. -/
def LogOk (l : List (List ByteArray)) : Prop := l.length ≤ maxLen ∧ ∀ t ∈ l, t.length ≤ maxLen ∧ ∀ s ∈ t, s.size ≤ maxLen
theorem few (l : List (List ByteArray)) (hL : l.length ≤ 9223372036854775807) : ∃ b, Ev (fun k => petrinetlaw48_few.f k l) b ∧ (b = true → Few l) := by
  obtain ⟨b, hb, hp⟩ := few_l0 l hL _ 0 (by omega) (by omega) rfl (by simp [Logs.total])
  exact ⟨b, hb, fun h => ⟨(hp h).1, (hp h).2.1, (hp h).2.2⟩⟩

/-! ### Follows -/
end Go.Proofs.Ytaofommgdgmncaa.Logs

/- The first fault of a log, and the text of a log. -/
namespace Go.Proofs.Ytaofommgdgmncaa.Logs
open Go.RowKit Go.Proofs.Ytaofommgdgmncaa.Pr Go.Proofs.Ytaofommgdgmncaa.Evs Go.Proofs.Ytaofommgdgmncaa.Names Go.Proofs.YtaofommgdgmncaaW.PrintWords Go.Proofs.YtaofommgdgmncaaW.PrintLast Go.Proofs.YtaofommgdgmncaaW.PrintMore
set_option linter.unusedVariables false
set_option linter.unusedSimpArgs false

/-! ### Check -/
def checkGo : List (List ByteArray) → Nat → Int × Int
  | [], _ => (0, 0)
  | t :: ts, i => if 64 < t.length then (2, (i : Int)) else if t.all nameB then checkGo ts (i + 1) else (5, (i : Int))
def checkB (l : List (List ByteArray)) : Int × Int := if 64 < l.length then (2, 0) else checkGo l 0
theorem echeck_l1 (l : List (List ByteArray)) (i : Nat) (t : List ByteArray) (ht : t.length ≤ 80) (L : Int) (R : Int × Int) (hno : t.all nameB = false → R = (5, (i : Int)))
    (hnext : t.all nameB = true → Ev (fun k => eventlog_Check.l0 k l L (wrap64 ((i : Int) + 1))) R) : ∀ (d q : Nat), q ≤ t.length → t.length - q = d → (t.take q).all nameB = true → Ev (fun k => eventlog_Check.l1 k (i : Int) l L (i : Int) t (t.length : Int) (q : Int)) R := by
  intro d
  induction d with
  | zero =>
    intro q hq hd hok
    obtain rfl : q = t.length := by omega
    rw [List.take_length] at hok
    refine Ev.succ ?_
    simp only [eventlog_Check.l1]
    exact Ev.neg (by omega) (hnext hok)
  | succ d ih =>
    intro q hq hd hok
    have hlt : q < t.length := by omega
    refine Ev.succ ?_
    simp only [eventlog_Check.l1]
    refine Ev.pos (by omega) (Ev.pos (by omega) (Ev.pos (by omega) ?_))
    rw [rdOf_get hlt, wrap_succ (i := q) (by omega)]
    simp only [eventlog_Name.f, Option.bind_some]
    cases hn : nameB t[q] with
    | true => exact Ev.pos rfl (ih (q + 1) (by omega) (by omega) (by rw [List.take_succ_eq_append_getElem hlt, List.all_append, hok]; simp [hn]))
    | false =>
      have hall : t.all nameB = false := by rw [List.all_eq_false]; exact ⟨_, List.getElem_mem hlt, by simp [hn]⟩
      rw [hno hall]
      exact Ev.neg (by decide) (Ev.now _)
theorem echeck_l0 (l : List (List ByteArray)) (hl : l.length ≤ 80) (ht : ∀ t ∈ l, t.length ≤ 80) : ∀ (d i : Nat), i ≤ l.length → l.length - i = d → Ev (fun k => eventlog_Check.l0 k l (l.length : Int) (i : Int)) (checkGo (l.drop i) i) := by
  intro d
  induction d with
  | zero =>
    intro i hi hd
    obtain rfl : i = l.length := by omega
    refine Ev.succ ?_
    simp only [eventlog_Check.l0]
    rw [List.drop_length]
    exact Ev.neg (by omega) (Ev.now _)
  | succ d ih =>
    intro i hi hd
    have hlt : i < l.length := by omega
    refine Ev.succ ?_
    simp only [eventlog_Check.l0]
    rw [List.drop_eq_getElem_cons hlt, rd_L1_get hlt, checkGo]
    refine Ev.pos (by omega) (Ev.pos (by omega) (Ev.pos (by omega) ?_))
    by_cases h64 : 64 < l[i].length
    · rw [if_pos h64]; exact Ev.pos (by omega) (Ev.now _)
    · rw [if_neg h64]
      refine Ev.neg (by omega) ?_
      refine echeck_l1 l i l[i] (ht _ (List.getElem_mem hlt)) _ _ (fun h => by rw [h]; rfl) (fun h => ?_) _ 0 (by omega) rfl rfl
      rw [if_pos h, wrap_succ (by omega)]
      exact ih (i + 1) (by omega) (by omega)
theorem echeck {l : List (List ByteArray)} (h : Few l) : Ev (fun k => eventlog_Check.f k l) (checkB l) := by
  unfold eventlog_Check.f checkB
  by_cases h64 : 64 < l.length
  · rw [if_pos h64]; exact Ev.pos (by omega) (Ev.now _)
  · rw [if_neg h64]; exact Ev.neg (by omega) (echeck_l0 l h.len (fun t ht => (h.each t ht).1) _ 0 (by omega) rfl)
theorem rcheck_l1 (l : List (List ByteArray)) (i : Nat) (hi : i < l.length) (ht : l[i].length ≤ 80) (hs : ∀ s ∈ l[i], s.size ≤ 40) (R : Int × Int) (hno : l[i].all nameB = false → R = (5, (i : Int)))
    (hnext : l[i].all nameB = true → Ev (fun k => petrinetref48_Check.l0 k l (wrap64 ((i : Int) + 1))) R) : ∀ (d q : Nat), q ≤ l[i].length → l[i].length - q = d → (l[i].take q).all nameB = true → Ev (fun k => petrinetref48_Check.l1 k l (i : Int) (q : Int)) R := by
  intro d
  induction d with
  | zero =>
    intro q hq hd hok
    obtain rfl : q = l[i].length := by omega
    rw [List.take_length] at hok
    refine Ev.succ ?_
    simp only [petrinetref48_Check.l1, rd_L1_get hi]
    exact Ev.pos (by omega) (Ev.pos (by omega) (Ev.neg (by omega) (hnext hok)))
  | succ d ih =>
    intro q hq hd hok
    have hlt : q < l[i].length := by omega
    refine Ev.succ ?_
    simp only [petrinetref48_Check.l1, rd_L1_get hi]
    refine Ev.pos (by omega) (Ev.pos (by omega) (Ev.pos (by omega) (Ev.pos (by omega) ?_)))
    rw [rdOf_get hlt, wrap_succ (i := q) (by omega)]
    refine Ev.bind (rname l[i][q] (by have := hs _ (List.getElem_mem hlt); omega)) ?_
    cases hn : nameB l[i][q] with
    | true => exact Ev.pos rfl (ih (q + 1) (by omega) (by omega) (by rw [List.take_succ_eq_append_getElem hlt, List.all_append, hok]; simp [hn]))
    | false =>
      have hall : l[i].all nameB = false := by rw [List.all_eq_false]; exact ⟨_, List.getElem_mem hlt, by simp [hn]⟩
      rw [hno hall]
      exact Ev.neg (by decide) (Ev.now _)
theorem rcheck_l0 (l : List (List ByteArray)) (hl : l.length ≤ 80) (ht : ∀ t ∈ l, t.length ≤ 80 ∧ ∀ s ∈ t, s.size ≤ 40) : ∀ (d i : Nat), i ≤ l.length → l.length - i = d → Ev (fun k => petrinetref48_Check.l0 k l (i : Int)) (checkGo (l.drop i) i) := by
  intro d
  induction d with
  | zero =>
    intro i hi hd
    obtain rfl : i = l.length := by omega
    refine Ev.succ ?_
    simp only [petrinetref48_Check.l0]
    rw [List.drop_length]
    exact Ev.neg (by omega) (Ev.now _)
  | succ d ih =>
    intro i hi hd
    have hlt : i < l.length := by omega
    have hti := ht _ (List.getElem_mem hlt)
    refine Ev.succ ?_
    simp only [petrinetref48_Check.l0]
    rw [List.drop_eq_getElem_cons hlt, rd_L1_get hlt, checkGo]
    refine Ev.pos (by omega) (Ev.pos (by omega) ?_)
    by_cases h64 : 64 < l[i].length
    · rw [if_pos h64]; exact Ev.pos (by omega) (Ev.now _)
    · rw [if_neg h64]
      refine Ev.neg (by omega) ?_
      refine rcheck_l1 l i hlt hti.1 hti.2 _ (fun h => by rw [h]; rfl) (fun h => ?_) _ 0 (by omega) rfl rfl
      rw [if_pos h, wrap_succ (by omega)]
      exact ih (i + 1) (by omega) (by omega)
theorem rcheck {l : List (List ByteArray)} (h : Few l) : Ev (fun k => petrinetref48_Check.f k l) (checkB l) := by
  unfold petrinetref48_Check.f checkB
  by_cases h64 : 64 < l.length
  · rw [if_pos h64]; exact Ev.pos (by omega) (Ev.now _)
  · rw [if_neg h64]; exact Ev.neg (by omega) (rcheck_l0 l h.len h.each _ 0 (by omega) rfl)

/-! ### Text -/
def spB : ByteArray := ⟨#[32]⟩
def nlB : ByteArray := ⟨#[10]⟩
def joinGo (o : ByteArray) (xs : List ByteArray) : ByteArray := xs.foldl (fun o s => o ++ (spB ++ s)) o
theorem joinGo_snoc (o : ByteArray) (xs : List ByteArray) (s : ByteArray) : joinGo o (xs ++ [s]) = joinGo o xs ++ (spB ++ s) := by simp [joinGo]
def textW : List ByteArray → ByteArray
  | [] => ⟨#[45]⟩
  | x :: xs => joinGo x xs
def logText (l : List (List ByteArray)) : ByteArray := l.foldl (fun o t => o ++ (textW t ++ nlB)) ⟨#[]⟩
theorem logText_snoc (l : List (List ByteArray)) (t : List ByteArray) : logText (l ++ [t]) = logText l ++ (textW t ++ nlB) := by simp [logText]
theorem spB_size : spB.size = 1 := rfl
theorem nlB_size : nlB.size = 1 := rfl
theorem joinGo_size : ∀ (xs : List ByteArray) (o : ByteArray), (∀ s ∈ xs, s.size ≤ 40) → (joinGo o xs).size ≤ o.size + 41 * xs.length
  | [], o, _ => by simp [joinGo]
  | s :: xs, o, h => by
    have h1 := joinGo_size xs (o ++ (spB ++ s)) (fun y hy => h y (List.mem_cons_of_mem _ hy))
    have h2 := h s List.mem_cons_self
    rw [ByteArray.size_append, ByteArray.size_append, spB_size] at h1
    show (joinGo (o ++ (spB ++ s)) xs).size ≤ _
    rw [List.length_cons]; omega
theorem textW_size {t : List ByteArray} (h : ∀ s ∈ t, s.size ≤ 40) : (textW t).size ≤ 41 * t.length + 1 := by
  cases t with
  | nil => exact Nat.le_refl 1
  | cons x xs =>
    have h1 := joinGo_size xs x (fun y hy => h y (List.mem_cons_of_mem _ hy))
    have h2 := h x List.mem_cons_self
    show (joinGo x xs).size ≤ _
    rw [List.length_cons]; omega
theorem logText_size (l : List (List ByteArray)) (h : ∀ t ∈ l, t.length ≤ 80 ∧ ∀ s ∈ t, s.size ≤ 40) : ∀ i, i ≤ l.length → (logText (l.take i)).size ≤ 41 * total (l.take i) + 2 * i := by
  intro i
  induction i with
  | zero => intro _; exact Nat.zero_le _
  | succ i ih =>
    intro hi
    have hlt : i < l.length := by omega
    have h1 := ih (by omega)
    have h2 := textW_size (h _ (List.getElem_mem hlt)).2
    rw [List.take_succ_eq_append_getElem hlt, logText_snoc, total_snoc, ByteArray.size_append, ByteArray.size_append, nlB_size]
    omega
theorem total_take {l : List (List ByteArray)} (i : Nat) (h : ∀ t ∈ l, t.length ≤ 80) : i ≤ l.length → total (l.take i) ≤ 80 * i := by
  induction i with
  | zero => intro _; simp [Logs.total]
  | succ i ih =>
    intro hi
    have hlt : i < l.length := by omega
    have h1 := ih (by omega)
    have h2 := h _ (List.getElem_mem hlt)
    rw [List.take_succ_eq_append_getElem hlt, total_snoc]; omega
theorem etext_l0 (x : ByteArray) (xs : List ByteArray) (hx : x.size ≤ 40) (hl : xs.length ≤ 80) (hs : ∀ s ∈ xs, s.size ≤ 40) : ∀ (d i : Nat), i ≤ xs.length → xs.length - i = d → Ev (fun k => eventlog_text.l0 k (joinGo x (xs.take i)) xs (xs.length : Int) (i : Int)) (joinGo x xs) := by
  intro d
  induction d with
  | zero =>
    intro i hi hd
    obtain rfl : i = xs.length := by omega
    refine Ev.succ ?_
    simp only [eventlog_text.l0]
    rw [List.take_length]
    exact Ev.neg (by omega) (Ev.now _)
  | succ d ih =>
    intro i hi hd
    have hlt : i < xs.length := by omega
    have hih := ih (i + 1) (by omega) (by omega)
    have hsz := joinGo_size (xs.take i) x (fun s h => hs s (List.mem_of_mem_take h))
    have hsi := hs _ (List.getElem_mem hlt)
    rw [List.length_take] at hsz
    rw [List.take_succ_eq_append_getElem hlt, joinGo_snoc] at hih
    refine Ev.succ ?_
    simp only [eventlog_text.l0]
    rw [rdOf_get hlt, wrap_succ (by omega)]
    refine Ev.pos (by omega) (Ev.pos (by omega) (Ev.pos (by omega) (Ev.pos (by omega) (Ev.pos ?_ hih))))
    show (joinGo x (xs.take i)).size + (spB ++ xs[i]).size ≤ _
    rw [ByteArray.size_append, spB_size]
    omega
theorem etext {t : List ByteArray} (hl : t.length ≤ 80) (hs : ∀ s ∈ t, s.size ≤ 40) : Ev (fun k => eventlog_text.f k t) (textW t) := by
  unfold eventlog_text.f
  cases t with
  | nil => exact Ev.pos rfl (Ev.now _)
  | cons x xs =>
    rw [List.length_cons] at hl
    refine Ev.neg (by rw [List.length_cons]; omega) (Ev.pos (by rw [List.length_cons]; omega) (Ev.pos (by rw [List.length_cons]; omega) ?_))
    exact etext_l0 x xs (hs x List.mem_cons_self) (by omega) (fun s h => hs s (List.mem_cons_of_mem _ h)) _ 0 (by omega) rfl
theorem eText_l0 {l : List (List ByteArray)} (h : Few l) : ∀ (d i : Nat), i ≤ l.length → l.length - i = d → Ev (fun k => eventlog_Text.l0 k (logText (l.take i)) l (l.length : Int) (i : Int)) (logText l, 0, 0) := by
  have hl := h.len
  intro d
  induction d with
  | zero =>
    intro i hi hd
    obtain rfl : i = l.length := by omega
    refine Ev.succ ?_
    simp only [eventlog_Text.l0]
    rw [List.take_length]
    exact Ev.neg (by omega) (Ev.now _)
  | succ d ih =>
    intro i hi hd
    have hlt : i < l.length := by omega
    have hih := ih (i + 1) (by omega) (by omega)
    have hti := h.each _ (List.getElem_mem hlt)
    have hsz := logText_size l h.each i (by omega)
    have htt := total_take i (fun t ht => (h.each t ht).1) (by omega)
    have hts := textW_size hti.2
    rw [List.take_succ_eq_append_getElem hlt, logText_snoc] at hih
    refine Ev.succ ?_
    simp only [eventlog_Text.l0]
    rw [rd_L1_get hlt, wrap_succ (by omega)]
    refine Ev.pos (by omega) (Ev.pos (by omega) (Ev.pos (by omega) ?_))
    refine Ev.bind (etext hti.1 hti.2) (Ev.pos (by omega) (Ev.pos ?_ hih))
    show (logText (l.take i)).size + (textW l[i] ++ nlB).size ≤ _
    rw [ByteArray.size_append, nlB_size]
    omega
/-- What Text tells. -/
def textB (l : List (List ByteArray)) : ByteArray × Int × Int := if (checkB l).1 = 0 then (logText l, 0, 0) else (⟨#[]⟩, (checkB l).1, (checkB l).2)
theorem eText {l : List (List ByteArray)} (h : Few l) : Ev (fun k => eventlog_Text.f k l) (textB l) := by
  unfold eventlog_Text.f textB
  refine Ev.bind (echeck h) ?_
  by_cases h0 : (checkB l).1 = 0
  · rw [if_pos h0]; exact Ev.pos h0 (eText_l0 h _ 0 (by omega) rfl)
  · rw [if_neg h0]; exact Ev.neg h0 (Ev.now _)
end Go.Proofs.Ytaofommgdgmncaa.Logs

/- Variants: what program and reference answer. -/
namespace Go.Proofs.Ytaofommgdgmncaa.Logs
open Go.RowKit Go.Proofs.Ytaofommgdgmncaa.Pr Go.Proofs.Ytaofommgdgmncaa.Evs Go.Proofs.YtaofommgdgmncaaW.PrintWords Go.Proofs.YtaofommgdgmncaaW.PrintLast Go.Proofs.YtaofommgdgmncaaW.PrintMore
set_option linter.unusedVariables false
set_option linter.unusedSimpArgs false

abbrev Tr := List ByteArray
instance memT (t : Tr) (o : List Tr) : Decidable (t ∈ o) := decidable_of_iff ((o.any fun x => decide (x = t)) = true) (by simp)
/-! ### how often a log has a trace -/
def cntT (l : List Tr) (t : Tr) : Nat := l.countP fun x => decide (x = t)
theorem cntT_snoc (l : List Tr) (s t : Tr) : cntT (l ++ [s]) t = cntT l t + if s = t then 1 else 0 := by
  unfold cntT
  rw [List.countP_append]
  by_cases h : s = t <;> simp [h]
theorem cntT_le (l : List Tr) (t : Tr) : cntT l t ≤ l.length := List.countP_le_length
theorem cntT_zero {l : List Tr} {t : Tr} : cntT l t = 0 ↔ ¬ t ∈ l := by
  unfold cntT
  rw [List.countP_eq_zero]
  constructor
  · intro h hm; exact h t hm (decide_eq_true rfl)
  · intro h x hx hd; rw [of_decide_eq_true hd] at hx; exact h hx
/-! ### the different traces -/
def dstT (l : List Tr) : List Tr := l.foldl (fun o t => if t ∈ o then o else o ++ [t]) []
theorem dstT_snoc (l : List Tr) (t : Tr) : dstT (l ++ [t]) = if t ∈ dstT l then dstT l else dstT l ++ [t] := by unfold dstT; rw [List.foldl_append]; rfl
theorem snoc_ind {α : Type} {p : List α → Prop} (h0 : p []) (h1 : ∀ l a, p l → p (l ++ [a])) (l : List α) : p l := by
  have : ∀ (q : List α), p q.reverse := by
    intro q
    induction q with
    | nil => exact h0
    | cons a q ih => rw [List.reverse_cons]; exact h1 _ _ ih
  have h := this l.reverse
  rwa [List.reverse_reverse] at h
theorem dstT_mem (l : List Tr) : ∀ t, t ∈ dstT l ↔ t ∈ l := by
  refine snoc_ind (p := fun l => ∀ t, t ∈ dstT l ↔ t ∈ l) (fun t => by simp [dstT]) (fun l a ih t => ?_) l
  rw [dstT_snoc]
  split
  · rename_i h
    rw [ih, List.mem_append, List.mem_singleton]
    exact ⟨.inl, fun hh => hh.elim id fun e => by rw [e]; exact (ih a).1 h⟩
  · rw [List.mem_append, List.mem_append, List.mem_singleton, ih]
theorem dstT_nodup (l : List Tr) : (dstT l).Nodup := by
  refine snoc_ind (p := fun l => (dstT l).Nodup) List.nodup_nil (fun l a ih => ?_) l
  rw [dstT_snoc]
  split
  · exact ih
  · rename_i h
    refine List.nodup_append.2 ⟨ih, by simp, fun x hx y hy => ?_⟩
    rw [List.mem_singleton.1 hy]
    rintro rfl
    exact h hx
theorem dstT_len (l : List Tr) : (dstT l).length ≤ l.length := by
  refine snoc_ind (p := fun l => (dstT l).length ≤ l.length) (by simp [dstT]) (fun l a ih => ?_) l
  rw [dstT_snoc, List.length_append, List.length_singleton]
  split
  · omega
  · rw [List.length_append, List.length_singleton]; omega
def cntsT (l : List Tr) : List Int := (dstT l).map fun t => (cntT l t : Int)
/-! ### the key -/
def keyS (s : List UInt8) : List UInt8 := s.flatMap fun b => [43, b]
def keyL (t : List (List UInt8)) : List UInt8 := t.flatMap fun s => keyS s ++ [44]
theorem keyS_inj : ∀ (s1 s2 r1 r2 : List UInt8), keyS s1 ++ 44 :: r1 = keyS s2 ++ 44 :: r2 → s1 = s2 ∧ r1 = r2
  | [], [], r1, r2, h => by simp [keyS] at h; exact ⟨rfl, h⟩
  | [], b :: s2, r1, r2, h => by simp [keyS] at h
  | a :: s1, [], r1, r2, h => by simp [keyS] at h
  | a :: s1, b :: s2, r1, r2, h => by
    simp only [keyS, List.flatMap_cons, List.cons_append, List.nil_append, List.cons.injEq, true_and] at h
    obtain ⟨h1, h2⟩ := keyS_inj s1 s2 r1 r2 h.2
    exact ⟨by rw [h.1, h1], h2⟩
theorem keyL_inj : ∀ (t u : List (List UInt8)), keyL t = keyL u → t = u
  | [], [], _ => rfl
  | [], b :: u, h => by
    exfalso
    simp [keyL] at h
  | a :: t, [], h => by
    exfalso
    simp [keyL] at h
  | a :: t, b :: u, h => by
    have h2 : keyS a ++ 44 :: keyL t = keyS b ++ 44 :: keyL u := by simpa [keyL] using h
    obtain ⟨h3, h4⟩ := keyS_inj _ _ _ _ h2
    rw [h3, keyL_inj t u h4]
def rawT (t : Tr) : List (List UInt8) := t.map fun s => s.data.toList
def keyB (t : Tr) : ByteArray := ⟨(keyL (rawT t)).toArray⟩
theorem bytes_ext {a b : ByteArray} (h : a.data.toList = b.data.toList) : a = b := by
  cases a; cases b
  rw [ByteArray.mk.injEq]
  exact Array.toList_inj.1 h
theorem rawT_inj : ∀ {t u : Tr}, rawT t = rawT u → t = u
  | [], [], _ => rfl
  | [], _ :: _, h => by cases h
  | _ :: _, [], h => by cases h
  | a :: t, b :: u, h => by
    simp only [rawT, List.map_cons, List.cons.injEq] at h
    rw [bytes_ext h.1, rawT_inj h.2]
theorem keyB_inj {t u : Tr} : (keyB t).data.toList = (keyB u).data.toList ↔ t = u := by
  constructor
  · intro h
    exact rawT_inj (keyL_inj _ _ (by simpa [keyB] using h))
  · rintro rfl; rfl
theorem app_data (a b : ByteArray) : (a ++ b).data.toList = a.data.toList ++ b.data.toList := by
  rw [ByteArray.data_append, Array.toList_append]
theorem ext_data (s : ByteArray) (i : Nat) (h : i < s.size) : (s.extract i (i + 1)).data.toList = [s.data.toList[i]'(by rw [Array.length_toList]; exact h)] := by
  rw [ByteArray.data_extract, Array.toList_extract]
  apply List.ext_getElem?
  intro j
  cases j with
  | zero => simp
  | succ j => simp; omega
theorem data_len (s : ByteArray) : s.data.toList.length = s.size := by rw [Array.length_toList]; rfl
theorem key_l1 (t : Tr) (i : Nat) (s : ByteArray) (hs : s.size ≤ 40) (P : ByteArray → Prop) (acc0 : ByteArray) (ha : acc0.size ≤ 1000000)
    (hnext : ∀ acc : ByteArray, acc.data.toList = acc0.data.toList ++ (keyS s.data.toList ++ [44]) → ∃ r, P r ∧ Ev (fun k => eventlog_key.l0 k acc t (t.length : Int) (wrap64 ((i : Int) + 1))) r) :
    ∀ (d q : Nat) (acc : ByteArray), q ≤ s.size → s.size - q = d → acc.data.toList = acc0.data.toList ++ keyS (s.data.toList.take q) → ∃ r, P r ∧ Ev (fun k => eventlog_key.l1 k acc s (q : Int) t (t.length : Int) (i : Int)) r := by
  intro d
  have hsz : ∀ (acc : ByteArray) (q : Nat), acc.data.toList = acc0.data.toList ++ keyS (s.data.toList.take q) → acc.size ≤ acc0.size + 2 * q := by
    intro acc q h
    have h1 := congrArg List.length h
    rw [List.length_append, data_len, data_len] at h1
    have h2 : (keyS (s.data.toList.take q)).length ≤ 2 * q := by
      unfold keyS
      rw [List.length_flatMap]
      have : ∀ (l : List UInt8), (l.map fun b => ([43, b] : List UInt8).length).sum = 2 * l.length := by
        intro l
        induction l with
        | nil => rfl
        | cons a l ih => rw [List.map_cons, List.sum_cons, ih, List.length_cons]; simp; omega
      rw [this, List.length_take]
      omega
    omega
  induction d with
  | zero =>
    intro q acc hq hd he
    have hz := hsz acc q he
    obtain rfl : q = s.size := by omega
    rw [List.take_of_length_le (by rw [data_len]; exact Nat.le_refl _)] at he
    obtain ⟨r, hr, hev⟩ := hnext (acc ++ ⟨#[44]⟩) (by rw [app_data, he, List.append_assoc])
    refine ⟨r, hr, Ev.succ ?_⟩
    simp only [eventlog_key.l1]
    exact Ev.neg (by omega) (Ev.pos (by omega) hev)
  | succ d ih =>
    intro q acc hq hd he
    have hz := hsz acc q he
    have hlt : q < s.size := by omega
    have hw : wrap64 ((q : Int) + 1) = ((q + 1 : Nat) : Int) := wrap_succ (by omega)
    have hx := ext_data s q hlt
    have hxs : (s.extract q (q + 1)).size = 1 := by rw [← data_len, hx]; rfl
    have hp : ((⟨#[43]⟩ : ByteArray) ++ s.extract q (q + 1)).size = 2 := by rw [← data_len, app_data, hx]; rfl
    obtain ⟨r, hr, hev⟩ := ih (q + 1) (acc ++ ((⟨#[43]⟩ : ByteArray) ++ s.extract q (q + 1))) (by omega) (by omega) (by
      rw [app_data, app_data, hx, he, List.take_succ_eq_append_getElem (by rw [data_len]; exact hlt)]
      simp [keyS])
    refine ⟨r, hr, Ev.succ ?_⟩
    simp only [eventlog_key.l1]
    rw [hw, Int.toNat_natCast, Int.toNat_natCast, hxs, hp]
    exact Ev.pos (by omega) (Ev.pos (by omega) (Ev.pos (by omega) (Ev.pos (by omega) (Ev.pos (by omega) (Ev.pos (by omega) hev)))))
theorem key_l0 (t : Tr) (ht : t.length ≤ 80) (hs : ∀ s ∈ t, s.size ≤ 40) : ∀ (d i : Nat) (acc : ByteArray), i ≤ t.length → t.length - i = d → acc.data.toList = keyL (rawT (t.take i)) → acc.size ≤ 81 * i → ∃ r : ByteArray, (r.data.toList = keyL (rawT t) ∧ r.size ≤ 6480) ∧ Ev (fun k => eventlog_key.l0 k acc t (t.length : Int) (i : Int)) r := by
  intro d
  induction d with
  | zero =>
    intro i acc hi hd he ha
    obtain rfl : i = t.length := by omega
    rw [List.take_length] at he
    refine ⟨acc, ⟨he, by omega⟩, Ev.succ ?_⟩
    simp only [eventlog_key.l0]
    exact Ev.neg (by omega) (Ev.now _)
  | succ d ih =>
    intro i acc hi hd he ha
    have hlt : i < t.length := by omega
    have hs1 := hs t[i] (List.getElem_mem hlt)
    have h1 := key_l1 t i t[i] hs1 (fun r => r.data.toList = keyL (rawT t) ∧ r.size ≤ 6480) acc (by omega) (fun acc' h' => by
      have hl : acc'.size ≤ 81 * (i + 1) := by
        have h3 := congrArg List.length h'
        rw [List.length_append, data_len, data_len, List.length_append] at h3
        have h2 : (keyS t[i].data.toList).length = 2 * t[i].size := by
          rw [← data_len]
          unfold keyS
          generalize t[i].data.toList = l
          induction l with
          | nil => rfl
          | cons a l ih => rw [List.flatMap_cons, List.length_append, ih, List.length_cons]; simp; omega
        simp only [List.length_singleton] at h3
        omega
      obtain ⟨r, hr, hev⟩ := ih (i + 1) acc' (by omega) (by omega) (by
        rw [h', he, show rawT (t.take (i + 1)) = rawT (t.take i) ++ [t[i].data.toList] by unfold rawT; rw [List.take_succ_eq_append_getElem hlt, List.map_append]; rfl]
        unfold keyL
        rw [List.flatMap_append]
        simp) hl
      exact ⟨r, hr, by rw [wrap_succ (by omega)]; exact hev⟩) t[i].size 0 acc (by omega) (by omega) (by simp [keyS])
    obtain ⟨r, hr, hev⟩ := h1
    refine ⟨r, hr, Ev.succ ?_⟩
    simp only [eventlog_key.l0]
    rw [rdOf_get hlt]
    exact Ev.pos (by omega) (Ev.pos (by omega) (Ev.pos (by omega) hev))
theorem ekey (t : Tr) (ht : t.length ≤ 80) (hs : ∀ s ∈ t, s.size ≤ 40) : Ev (fun k => eventlog_key.f k t) (keyB t) ∧ (keyB t).size ≤ maxLen := by
  obtain ⟨r, ⟨hr, hz⟩, hev⟩ := key_l0 t ht hs _ 0 ⟨#[]⟩ (by omega) rfl rfl (Nat.le_refl 0)
  obtain rfl : r = keyB t := bytes_ext (by rw [hr]; rfl)
  exact ⟨hev, by unfold maxLen; omega⟩

/-! ### the program's variants -/
def ixT (t : Tr) : List Tr → Nat → Option Nat
  | [], _ => none
  | x :: xs, i => if x = t then some i else ixT t xs (i + 1)
theorem ix_keys (t : Tr) : ∀ (l : List Tr) (j : Nat), ixOf (keyB t) (l.map keyB) j = ixT t l j
  | [], _ => rfl
  | x :: xs, j => by
    rw [List.map_cons, ixOf, ixT]
    by_cases h : x = t
    · rw [if_pos h, if_pos (keyB_inj.2 h)]
    · rw [if_neg h, if_neg (fun e => h (keyB_inj.1 e)), ix_keys t xs]
theorem ixT_some {t : Tr} : ∀ {l : List Tr} {j i : Nat}, ixT t l j = some i → j ≤ i ∧ l[i - j]? = some t
  | [], _, _, h => by cases h
  | x :: xs, j, i, h => by
    rw [ixT] at h
    by_cases e : x = t
    · rw [if_pos e] at h; cases h; simp [e]
    · rw [if_neg e] at h
      obtain ⟨h1, h2⟩ := ixT_some h
      refine ⟨by omega, ?_⟩
      rw [show i - j = (i - (j + 1)) + 1 by omega, List.getElem?_cons_succ]
      exact h2
theorem ixT_none {t : Tr} : ∀ {l : List Tr} {j : Nat}, ixT t l j = none ↔ ¬ t ∈ l
  | [], j => by simp [ixT]
  | x :: xs, j => by
    rw [ixT]
    by_cases e : x = t
    · simp [e]
    · rw [if_neg e, ixT_none, List.mem_cons]
      exact ⟨fun h hh => hh.elim (fun e2 => e e2.symm) h, fun h hh => h (.inr hh)⟩
theorem w1 : wrap64 ((0 : Int) + 1) = 1 := by unfold wrap64; omega
theorem bump_found (p : List Tr) (hp : p.length ≤ 1000) (t : Tr) (i : Nat) (h : ixT t (dstT p) 0 = some i) : dstT (p ++ [t]) = dstT p ∧ bumpV (cntsT p) i = cntsT (p ++ [t]) := by
  obtain ⟨_, hi⟩ := ixT_some h
  rw [Nat.sub_zero] at hi
  obtain ⟨hlt, hget⟩ := List.getElem?_eq_some_iff.1 hi
  have hmem : t ∈ dstT p := by rw [← hget]; exact List.getElem_mem hlt
  have hd : dstT (p ++ [t]) = dstT p := by rw [dstT_snoc, if_pos hmem]
  refine ⟨hd, ?_⟩
  unfold bumpV cntsT
  rw [hd]
  have hc := cntT_le p t
  apply List.ext_getElem (by simp)
  intro j h1 h2
  rw [List.length_set, List.length_map] at h1
  rw [List.getElem_set]
  simp only [List.getElem_map, cntT_snoc]
  by_cases e : i = j
  · subst e
    rw [if_pos rfl, hget, if_pos rfl, show ((dstT p).map fun t => (cntT p t : Int)).getD i 0 = (cntT p t : Int) by simp [hlt, hget], wrap_succ (by omega)]
  · rw [if_neg e, if_neg (fun e2 => e ?_)]
    · rfl
    · have hnd := List.pairwise_iff_getElem.1 (dstT_nodup p)
      rcases Nat.lt_trichotomy i j with h3 | h3 | h3
      · exact absurd (show (dstT p)[i] = (dstT p)[j] by rw [hget, e2]) (hnd i j hlt h1 h3)
      · exact h3
      · exact absurd (show (dstT p)[j] = (dstT p)[i] by rw [hget, e2]) (hnd j i h1 hlt h3)
theorem bump_new (p : List Tr) (hp : p.length ≤ 1000) (t : Tr) (h : ixT t (dstT p) 0 = none) : dstT (p ++ [t]) = dstT p ++ [t] ∧ bumpV (cntsT p ++ [0]) (dstT p).length = cntsT (p ++ [t]) := by
  have hno := ixT_none.1 h
  have hd : dstT (p ++ [t]) = dstT p ++ [t] := by rw [dstT_snoc, if_neg hno]
  refine ⟨hd, ?_⟩
  have hz : cntT p t = 0 := cntT_zero.2 (fun hm => hno ((dstT_mem p t).2 hm))
  unfold bumpV cntsT
  rw [hd, List.map_append, List.map_singleton, cntT_snoc, if_pos rfl, hz]
  have e1 : (((dstT p).map fun t => (cntT p t : Int)) ++ [(0 : Int)]).getD (dstT p).length 0 = 0 := by simp
  rw [e1, w1]
  have e2 : ((dstT p).map fun s => (cntT (p ++ [t]) s : Int)) = (dstT p).map fun s => (cntT p s : Int) := by
    refine List.map_congr_left fun s hs => ?_
    rw [cntT_snoc, if_neg (fun e => hno (by rw [e]; exact hs))]
    rfl
  rw [e2, List.set_append_right _ _ (by rw [List.length_map]; exact Nat.le_refl _), List.length_map, Nat.sub_self]
  rfl
theorem var_go : ∀ (q p : List Tr), (∀ t ∈ q, t.length ≤ 80 ∧ ∀ s ∈ t, s.size ≤ 40) → (p ++ q).length ≤ 1000 → Ev (fun k => varGo k q ((dstT p).map keyB) (dstT p) (cntsT p)) (dstT (p ++ q), cntsT (p ++ q))
  | [], p, _, _ => by
    simp only [varGo, List.append_nil]
    exact Ev.now _
  | t :: q, p, hq, hl => by
    have ht := hq t List.mem_cons_self
    obtain ⟨hk, hz⟩ := ekey t ht.1 ht.2
    have hpl : p.length ≤ 1000 := by rw [List.length_append] at hl; omega
    have hih := var_go q (p ++ [t]) (fun x hx => hq x (List.mem_cons_of_mem _ hx)) (by rw [List.append_assoc]; exact hl)
    rw [List.append_assoc, List.singleton_append] at hih
    simp only [varGo]
    refine Ev.bind hk (Ev.pos hz ?_)
    rw [ix_keys]
    cases hx : ixT t (dstT p) 0 with
    | some i =>
      obtain ⟨h1, h2⟩ := bump_found p hpl t i hx
      rw [h1, ← h2] at hih
      exact hih
    | none =>
      obtain ⟨h1, h2⟩ := bump_new p hpl t hx
      rw [h1, ← h2, List.map_append, List.map_singleton] at hih
      exact hih
theorem eVars {l : List Tr} (h : Few l) : Ev (fun k => eventlog_Variants.f k l) (dstT l, cntsT l) := by
  unfold eventlog_Variants.f
  refine Ev.pos ⟨by have := h.len; omega, List.all_eq_true.2 fun t ht => decide_eq_true (by have := (h.each t ht).1; omega)⟩ ?_
  have := var_go l [] h.each (by have := h.len; simp; omega)
  exact this
end Go.Proofs.Ytaofommgdgmncaa.Logs

/- Printed logs are parsed unchanged, whatever spaces and empty lines are added. -/
namespace Go.Proofs.Ytaofommgdgmncaa.Logs
open Go.RowKit Go.Proofs.Ytaofommgdgmncaa.Pr Go.Proofs.Ytaofommgdgmncaa.Evs Go.Proofs.Ytaofommgdgmncaa.Names Go.Proofs.Ytaofommgdgmncaa.Parts Go.Proofs.YtaofommgdgmncaaW.PrintWords Go.Proofs.YtaofommgdgmncaaW.PrintLast Go.Proofs.YtaofommgdgmncaaW.PrintMore
set_option linter.unusedVariables false
set_option linter.unusedSimpArgs false

abbrev raw (s : ByteArray) : List UInt8 := s.data.toList
def stepC (c : UInt8) (r : List (List UInt8) × List UInt8) (x : UInt8) : List (List UInt8) × List UInt8 := if x = c then (r.1 ++ [r.2], []) else (r.1, r.2 ++ [x])
def spl (c : UInt8) (l : List UInt8) : List (List UInt8) := (l.foldl (stepC c) ([], [])).1 ++ [(l.foldl (stepC c) ([], [])).2]
theorem raw_extract (s : ByteArray) (a b : Nat) : raw (s.extract a b) = ((raw s).take b).drop a := by
  show (s.extract a b).data.toList = _
  rw [ByteArray.data_extract, Array.toList_extract, List.extract_eq_take_drop, List.drop_take]
theorem pf_raw (s : ByteArray) (c : UInt8) : ∀ k, k ≤ s.size → ((pf s (c.toNat : Int) k).1.map raw, ((raw s).take k).drop (pf s (c.toNat : Int) k).2) = ((raw s).take k).foldl (stepC c) ([], [])
  | 0, _ => rfl
  | k + 1, hk => by
    have ih := pf_raw s c k (by omega)
    have hl : k < (raw s).length := by rw [data_len]; omega
    have hf := pf_from s (c.toNat : Int) k
    rw [List.take_succ_eq_append_getElem hl, List.foldl_append, ← ih, List.foldl_cons, List.foldl_nil, stepC]
    have hc : cutAt s (c.toNat : Int) k = decide ((raw s)[k] = c) := by
      unfold cutAt
      rw [List.getElem?_eq_getElem hl]
      show (((raw s)[k].toNat : Int) == (c.toNat : Int)) = _
      rw [Bool.eq_iff_iff, beq_iff_eq, decide_eq_true_eq]
      constructor
      · intro h; exact UInt8.toNat_inj.1 (by omega)
      · intro h; rw [h]
    by_cases h : (raw s)[k] = c
    · rw [if_pos h, pf_hit (by rw [hc]; exact decide_eq_true h)]
      rw [List.map_append, List.map_singleton, raw_extract]
      have : ((raw s).take k ++ [(raw s)[k]]).drop (k + 1) = [] := List.drop_eq_nil_of_le (by simp; omega)
      rw [this]
    · rw [if_neg h, pf_miss (by rw [hc]; exact decide_eq_false h), List.drop_append_of_le_length (by rw [List.length_take]; omega)]
theorem parts_raw (s : ByteArray) (c : UInt8) : (partsOf s (c.toNat : Int)).map raw = spl c (raw s) := by
  have h := pf_raw s c s.size (Nat.le_refl _)
  have ht : (raw s).take s.size = raw s := List.take_of_length_le (by rw [data_len]; exact Nat.le_refl _)
  unfold partsOf spl
  rw [pf_hit (cut_end s _), List.map_append, List.map_singleton, raw_extract]
  rw [ht] at h ⊢
  rw [← h]
theorem fold_seg (c : UInt8) : ∀ (seg : List UInt8) (d : List (List UInt8)) (cur : List UInt8), (∀ x ∈ seg, ¬ x = c) → seg.foldl (stepC c) (d, cur) = (d, cur ++ seg)
  | [], d, cur, _ => by simp
  | x :: seg, d, cur, h => by
    rw [List.foldl_cons, stepC, if_neg (h x List.mem_cons_self), fold_seg c seg _ _ (fun y hy => h y (List.mem_cons_of_mem _ hy))]
    simp
theorem fold_seps (c : UInt8) : ∀ (m : Nat) (d : List (List UInt8)), (List.replicate m c).foldl (stepC c) (d, []) = (d ++ List.replicate m [], [])
  | 0, d => by simp
  | m + 1, d => by
    rw [List.replicate_succ, List.foldl_cons, stepC, if_pos rfl, fold_seps c m, List.append_assoc, List.singleton_append, ← List.replicate_succ]
theorem fold_sep (c : UInt8) (m : Nat) (d : List (List UInt8)) (cur : List UInt8) : (List.replicate (m + 1) c).foldl (stepC c) (d, cur) = (d ++ cur :: List.replicate m [], []) := by
  rw [List.replicate_succ, List.foldl_cons, stepC, if_pos rfl, fold_seps, List.append_assoc, List.singleton_append]
/-! ### the text, stretched -/
def str1 (m : Nat) (b : UInt8) : List UInt8 := if b = 32 ∨ b = 10 then List.replicate (m + 1) b else [b]
def str (m : Nat) (l : List UInt8) : List UInt8 := l.flatMap (str1 m)
theorem str_app (m : Nat) (a b : List UInt8) : str m (a ++ b) = str m a ++ str m b := by simp [str]
theorem str_zero (l : List UInt8) : str 0 l = l := by
  unfold str str1
  induction l with
  | nil => rfl
  | cons a l ih => rw [List.flatMap_cons, ih]; split <;> rfl
def Plain (l : List UInt8) : Prop := ∀ b ∈ l, ¬ b = 32 ∧ ¬ b = 10
theorem str_plain (m : Nat) : ∀ {l : List UInt8}, Plain l → str m l = l
  | [], _ => rfl
  | a :: l, h => by
    have h0 := h a List.mem_cons_self
    unfold str
    rw [List.flatMap_cons, str1, if_neg (by rintro (e | e); exact h0.1 e; exact h0.2 e)]
    show a :: str m l = _
    rw [str_plain m (fun b hb => h b (List.mem_cons_of_mem _ hb))]
theorem join_raw : ∀ (xs : List ByteArray) (o : ByteArray), raw (joinGo o xs) = raw o ++ xs.flatMap fun s => 32 :: raw s
  | [], o => by simp [joinGo]
  | x :: xs, o => by
    have := join_raw xs (o ++ (spB ++ x))
    unfold joinGo at *
    rw [List.foldl_cons, this, List.flatMap_cons]
    show (o ++ (spB ++ x)).data.toList ++ _ = _
    rw [app_data, app_data]
    simp [spB, raw]
theorem log_raw (l : List Tr) : raw (logText l) = l.flatMap fun t => raw (textW t) ++ [10] := by
  refine snoc_ind (p := fun l => raw (logText l) = l.flatMap fun t => raw (textW t) ++ [10]) rfl (fun l a ih => ?_) l
  rw [logText_snoc, List.flatMap_append, ← ih]
  show ((logText l ++ (textW a ++ nlB)).data.toList) = _
  rw [app_data, app_data]
  simp [nlB, raw]
def lineL (m : Nat) : Tr → List UInt8
  | [] => [45]
  | x :: xs => raw x ++ xs.flatMap fun s => List.replicate (m + 1) 32 ++ raw s
def NameOk (s : ByteArray) : Prop := Plain (raw s) ∧ ¬ raw s = [] ∧ ¬ raw s = [45]
theorem line_str (m : Nat) {t : Tr} (h : ∀ s ∈ t, NameOk s) : str m (raw (textW t)) = lineL m t := by
  cases t with
  | nil => rfl
  | cons x xs =>
    show str m (raw (joinGo x xs)) = _
    rw [join_raw, str_app, str_plain m (h x List.mem_cons_self).1, lineL]
    congr 1
    have hx : ∀ s ∈ xs, NameOk s := fun s hs => h s (List.mem_cons_of_mem _ hs)
    clear h
    induction xs with
    | nil => rfl
    | cons y ys ih =>
      rw [List.flatMap_cons, List.flatMap_cons, str_app, ih (fun s hs => hx s (List.mem_cons_of_mem _ hs))]
      congr 1
      show str1 m 32 ++ str m (raw y) = _
      rw [str_plain m (hx y List.mem_cons_self).1]
      rfl
theorem line_nonl (m : Nat) {t : Tr} (h : ∀ s ∈ t, NameOk s) : ∀ b ∈ lineL m t, ¬ b = 10 := by
  cases t with
  | nil => intro b hb; rw [List.mem_singleton.1 hb]; decide
  | cons x xs =>
    intro b hb
    rcases List.mem_append.1 hb with hb | hb
    · exact ((h x List.mem_cons_self).1 b hb).2
    · obtain ⟨s, hs, hb⟩ := List.mem_flatMap.1 hb
      rcases List.mem_append.1 hb with hb | hb
      · rw [(List.mem_replicate.1 hb).2]; decide
      · exact ((h s (List.mem_cons_of_mem _ hs)).1 b hb).2
theorem lines_fold (m : Nat) : ∀ (l : List Tr) (d : List (List UInt8)), (∀ t ∈ l, ∀ s ∈ t, NameOk s) → (l.flatMap fun t => lineL m t ++ List.replicate (m + 1) 10).foldl (stepC 10) (d, []) = (d ++ (l.flatMap fun t => lineL m t :: List.replicate m []), [])
  | [], d, _ => by simp
  | t :: l, d, h => by
    rw [List.flatMap_cons, List.foldl_append, List.foldl_append, fold_seg 10 _ _ _ (line_nonl m (h t List.mem_cons_self)), List.nil_append, fold_sep, lines_fold m l _ (fun x hx => h x (List.mem_cons_of_mem _ hx)), List.flatMap_cons, List.append_assoc]
theorem log_str (m : Nat) (l : List Tr) (h : ∀ t ∈ l, ∀ s ∈ t, NameOk s) : str m (raw (logText l)) = l.flatMap fun t => lineL m t ++ List.replicate (m + 1) 10 := by
  rw [log_raw]
  induction l with
  | nil => rfl
  | cons t l ih =>
    have e : str m [10] = List.replicate (m + 1) 10 := by simp [str, str1]
    rw [List.flatMap_cons, List.flatMap_cons, str_app, str_app, line_str m (h t List.mem_cons_self), ih (fun x hx => h x (List.mem_cons_of_mem _ hx)), e]
theorem lines_spl (m : Nat) (l : List Tr) (h : ∀ t ∈ l, ∀ s ∈ t, NameOk s) : spl 10 (str m (raw (logText l))) = (l.flatMap fun t => lineL m t :: List.replicate m []) ++ [[]] := by
  unfold spl
  rw [log_str m l h, lines_fold m l [] h]
  rfl
def ne0 (x : List UInt8) : Bool := !x.isEmpty
theorem filter_blank (m : Nat) : (List.replicate m ([] : List UInt8)).filter ne0 = [] := by
  rw [List.filter_eq_nil_iff]
  intro a ha
  rw [(List.mem_replicate.1 ha).2]
  decide
theorem words_fold (m : Nat) : ∀ (xs : List ByteArray) (d : List (List UInt8)) (x : List UInt8), ¬ x = [] → (∀ s ∈ xs, NameOk s) →
    (((xs.flatMap fun s => List.replicate (m + 1) 32 ++ raw s).foldl (stepC 32) (d, x)).1 ++ [((xs.flatMap fun s => List.replicate (m + 1) 32 ++ raw s).foldl (stepC 32) (d, x)).2]).filter ne0 = d.filter ne0 ++ x :: xs.map raw
  | [], d, x, hx, _ => by
    rw [List.flatMap_nil, List.foldl_nil, List.filter_append, List.map_nil]
    rw [List.filter_cons_of_pos (by cases x with | nil => exact absurd rfl hx | cons a b => rfl), List.filter_nil]
  | y :: ys, d, x, hx, h => by
    have hy := h y List.mem_cons_self
    rw [List.flatMap_cons, List.foldl_append, List.foldl_append, fold_sep, fold_seg 32 _ _ _ (fun b hb => (hy.1 b hb).1), List.nil_append, words_fold m ys _ _ hy.2.1 (fun s hs => h s (List.mem_cons_of_mem _ hs))]
    rw [List.filter_append, List.filter_cons_of_pos (by cases x with | nil => exact absurd rfl hx | cons a b => rfl), filter_blank, List.append_assoc]
    rfl
theorem words_raw (s : ByteArray) : (wordsOf s).map raw = (spl 32 (raw s)).filter ne0 := by
  have := parts_raw s 32
  unfold wordsOf wordsIn
  rw [← this, List.filter_map]
  congr 1
  refine List.filter_congr fun x _ => ?_
  rw [ByteArray.toList_eq]
  rfl
theorem words_line (m : Nat) {t : Tr} (h : ∀ s ∈ t, NameOk s) (s : ByteArray) (hs : raw s = lineL m t) : (wordsOf s).map raw = if t = [] then [[45]] else t.map raw := by
  rw [words_raw, hs]
  cases t with
  | nil => rfl
  | cons x xs =>
    have hx := h x List.mem_cons_self
    rw [if_neg (by simp)]
    unfold spl
    rw [lineL, List.foldl_append, fold_seg 32 _ _ _ (fun b hb => (hx.1 b hb).1), List.nil_append, words_fold m xs [] _ hx.2.1 (fun s hs => h s (List.mem_cons_of_mem _ hs))]
    rfl
theorem words_blank (s : ByteArray) (hs : raw s = []) : wordsOf s = [] := by
  have := words_raw s
  rw [hs, show (spl 32 []).filter ne0 = [] from rfl] at this
  exact List.map_eq_nil_iff.1 this
/-! ### Parse -/
theorem step_blank (out : List Tr) (s : ByteArray) (hs : raw s = []) : stepP out s = .inl out := by
  unfold stepP
  rw [if_pos (words_blank s hs)]
theorem toL (s : ByteArray) : s.toList = raw s := ByteArray.toList_eq s
theorem step_line (m : Nat) (out : List Tr) {t : Tr} (h : ∀ s ∈ t, NameOk s) (hn : t.all nameB = true) (ht : t.length ≤ 64) (ho : out.length < 64) (s : ByteArray) (hs : raw s = lineL m t) : stepP out s = .inl (out ++ [t]) := by
  have hw := words_line m h s hs
  unfold stepP
  cases t with
  | nil =>
    rw [if_pos rfl] at hw
    have hne : ¬ wordsOf s = [] := fun e => by rw [e] at hw; cases hw
    rw [if_neg hne]
    have : (wordsOf s).map (·.toList) = [[45]] := by
      rw [← hw]
      exact List.map_congr_left fun x _ => toL x
    unfold traceB
    rw [if_pos this]
    show (if (0 : Nat) > 64 ∨ out.length = 64 then _ else _) = _
    rw [if_neg (by omega)]
  | cons x xs =>
    rw [if_neg (by simp)] at hw
    have hwt : wordsOf s = x :: xs := rawT_inj hw
    rw [hwt, if_neg (by simp)]
    have : ¬ (x :: xs).map (·.toList) = [[45]] := fun e => by
      simp only [List.map_cons, List.cons.injEq] at e
      exact (h x List.mem_cons_self).2.2 (by rw [← toL]; exact e.1)
    unfold traceB
    rw [if_neg this, if_pos hn]
    show (if (x :: xs).length > 64 ∨ out.length = 64 then _ else _) = _
    rw [if_neg (by omega)]
theorem parse_skip : ∀ (B : List ByteArray) (R : List ByteArray) (out : List Tr) (k : Nat), (∀ x ∈ B, raw x = []) → parseGo (B ++ R) out k = parseGo R out (k + B.length)
  | [], R, out, k, _ => rfl
  | x :: B, R, out, k, h => by
    rw [List.cons_append, parseGo, step_blank out x (h x List.mem_cons_self)]
    show parseGo (B ++ R) out (k + 1) = _
    rw [parse_skip B R out (k + 1) (fun y hy => h y (List.mem_cons_of_mem _ hy)), List.length_cons, show k + 1 + B.length = k + (B.length + 1) by omega]
theorem parse_lines (m : Nat) : ∀ (l : List Tr) (L : List ByteArray) (out : List Tr) (k : Nat), (∀ t ∈ l, (∀ s ∈ t, NameOk s) ∧ t.all nameB = true ∧ t.length ≤ 64) → out.length + l.length ≤ 64 → L.map raw = (l.flatMap fun t => lineL m t :: List.replicate m []) ++ [[]] → parseGo L out k = (out ++ l, 0, 0)
  | [], L, out, k, _, _, hL => by
    rw [List.flatMap_nil, List.nil_append] at hL
    obtain ⟨x, rfl⟩ : ∃ x, L = [x] := by
      cases L with
      | nil => cases hL
      | cons x L => cases L with
        | nil => exact ⟨x, rfl⟩
        | cons y L => simp at hL
    rw [parseGo, step_blank out x (by simpa using hL), List.append_nil]
    rfl
  | t :: l, L, out, k, h, ho, hL => by
    obtain ⟨h1, h2, h3⟩ := h t List.mem_cons_self
    rw [List.flatMap_cons, List.append_assoc, List.cons_append] at hL
    cases L with
    | nil => cases hL
    | cons x L =>
      rw [List.map_cons, List.cons.injEq] at hL
      obtain ⟨B, R, rfl, hB, hR⟩ := List.map_eq_append_iff.1 hL.2
      rw [List.length_cons] at ho
      rw [parseGo, step_line m out h1 h2 h3 (by omega) x hL.1]
      show parseGo (B ++ R) (out ++ [t]) (k + 1) = _
      rw [parse_skip B R _ _ (fun y hy => by
        have : raw y ∈ B.map raw := List.mem_map_of_mem hy
        rw [hB] at this
        exact (List.mem_replicate.1 this).2), parse_lines m l R (out ++ [t]) _ (fun x hx => h x (List.mem_cons_of_mem _ hx)) (by rw [List.length_append, List.length_singleton]; omega) hR, List.append_assoc]
      rfl
theorem name_ok {s : ByteArray} (h : nameB s = true) : NameOk s := by
  unfold nameB at h
  simp only [Bool.and_eq_true, decide_eq_true_eq, List.all_eq_true, List.mem_range] at h
  have hb : ∀ b ∈ raw s, ¬ b = 32 ∧ ¬ b = 10 ∧ ¬ b = 45 := by
    intro b hb
    obtain ⟨i, hi, rfl⟩ := List.mem_iff_getElem.1 hb
    have hi2 : i < s.size := by rw [← data_len]; exact hi
    have h2 := h.2 i hi2
    have e : byteAt s i = (raw s)[i].toNat := by
      unfold byteAt
      rw [List.getElem?_eq_getElem hi]
      rfl
    rw [e] at h2
    have hc : ∀ c : UInt8, (raw s)[i] = c → okB i c.toNat = true := fun c hc => by rw [← hc]; exact h2
    refine ⟨fun e => ?_, fun e => ?_, fun e => ?_⟩
    · have := hc _ e; simp [okB, letterB] at this
    · have := hc _ e; simp [okB, letterB] at this
    · have := hc _ e; simp [okB, letterB] at this
  refine ⟨fun b hb' => ⟨(hb b hb').1, (hb b hb').2.1⟩, fun e => ?_, fun e => ?_⟩
  · have : (raw s).length = 0 := by rw [e]; rfl
    rw [data_len] at this
    omega
  · exact (hb 45 (by rw [e]; exact List.mem_singleton_self _)).2.2 rfl
theorem check_ok {l : List Tr} (h : (checkB l).1 = 0) : l.length ≤ 64 ∧ ∀ t ∈ l, t.length ≤ 64 ∧ t.all nameB = true := by
  unfold checkB at h
  by_cases c : 64 < l.length
  · rw [if_pos c] at h; cases h
  · rw [if_neg c] at h
    refine ⟨by omega, ?_⟩
    have : ∀ (l : List Tr) (i : Nat), (checkGo l i).1 = 0 → ∀ t ∈ l, t.length ≤ 64 ∧ t.all nameB = true := by
      intro l
      induction l with
      | nil => intro i _ t ht; cases ht
      | cons x l ih =>
        intro i h t ht
        rw [checkGo] at h
        by_cases c1 : 64 < x.length
        · rw [if_pos c1] at h; cases h
        · rw [if_neg c1] at h
          by_cases c2 : x.all nameB = true
          · rw [if_pos c2] at h
            rcases List.mem_cons.1 ht with rfl | ht
            · exact ⟨by omega, c2⟩
            · exact ih _ h t ht
          · rw [if_neg c2] at h; cases h
    exact this l 0 h
theorem parse_back (m : Nat) {l : List Tr} (h : (checkB l).1 = 0) (X : ByteArray) (hX : raw X = str m (raw (logText l))) (hs : X.size ≤ 65536) : eventlog_Parse.f X = some (l, 0, 0) := by
  obtain ⟨h1, h2⟩ := check_ok h
  have hn : ∀ t ∈ l, ∀ s ∈ t, NameOk s := fun t ht s hs => name_ok (List.all_eq_true.1 (h2 t ht).2 s hs)
  unfold eventlog_Parse.f parseB
  rw [if_neg (by omega)]
  have hp : (partsOf X 10).map raw = (l.flatMap fun t => lineL m t :: List.replicate m []) ++ [[]] := by
    have := parts_raw X 10
    rw [hX, lines_spl m l hn] at this
    exact this
  rw [parse_lines m l (partsOf X 10) [] 0 (fun t ht => ⟨hn t ht, (h2 t ht).2, (h2 t ht).1⟩) (by simpa using h1) hp, List.nil_append]
end Go.Proofs.Ytaofommgdgmncaa.Logs

/- The example that every statement on eventlog checks holds. -/
namespace Go.Proofs.Ytaofommgdgmncaa.Logs
set_option linter.unusedVariables false
set_option linter.unusedSimpArgs false
open Go.RowKit Go.Proofs.Ytaofommgdgmncaa.Pr Go.Proofs.Ytaofommgdgmncaa.Evs Go.Proofs.YtaofommgdgmncaaW.PrintWords Go.Proofs.YtaofommgdgmncaaW.PrintLast Go.Proofs.YtaofommgdgmncaaW.PrintMore
theorem alive_now : petrinetlaw48_alive.f 100 = some true := by decide +kernel
theorem alive : Ev (fun k => petrinetlaw48_alive.f k) true := Ev.of petrinetlaw48_alive.mono alive_now
theorem alive' : Ev (fun k => (petrinetlaw48_alive.f k).bind fun t => some t) true := Ev.bind alive (Ev.now _)
end Go.Proofs.Ytaofommgdgmncaa.Logs

/- For all logs, Parse of Text is the log, whatever spaces and lines without words are added, and the numbers of Variants add up to the number of traces. -/
namespace Go.Proofs.Ytaofommgdgmncaa.Pure
open Go.RowKit Go.Proofs.Ytaofommgdgmncaa.Pr Go.Proofs.Ytaofommgdgmncaa.Evs Go.Proofs.Ytaofommgdgmncaa.Names Go.Proofs.Ytaofommgdgmncaa.Logs Go.Proofs.YtaofommgdgmncaaW.PrintWords Go.Proofs.YtaofommgdgmncaaW.PrintLast Go.Proofs.YtaofommgdgmncaaW.PrintMore
set_option linter.unusedVariables false
set_option linter.unusedSimpArgs false

/-! ### the numbers of the variants -/
theorem sum_set : ∀ (l : List Int) (i : Nat) (v : Int), i < l.length → (l.set i v).sum = l.sum - l.getD i 0 + v
  | [], i, v, h => by simp at h
  | x :: l, 0, v, _ => by simp [List.set]; omega
  | x :: l, i + 1, v, h => by
    have := sum_set l i v (by simpa using h)
    simp only [List.set_cons_succ, List.sum_cons, List.getD_cons_succ]
    omega
theorem sum_cnts (l : List Tr) : l.length ≤ 1000 → (cntsT l).sum = (l.length : Int) := by
  refine snoc_ind (p := fun l : List Tr => l.length ≤ 1000 → (cntsT l).sum = (l.length : Int)) (fun _ => rfl) (fun l a ih h => ?_) l
  rw [List.length_append, List.length_singleton] at h
  have ih := ih (by omega)
  have hlen : (cntsT l).length = (dstT l).length := by unfold cntsT; rw [List.length_map]
  rw [List.length_append, List.length_singleton]
  cases hx : ixT a (dstT l) 0 with
  | some i =>
    obtain ⟨_, hi⟩ := ixT_some hx
    rw [Nat.sub_zero] at hi
    obtain ⟨hlt, hget⟩ := List.getElem?_eq_some_iff.1 hi
    have hg : (cntsT l).getD i 0 = (cntT l a : Int) := by unfold cntsT; simp [hlt, hget]
    have hc := cntT_le l a
    rw [← (bump_found l (by omega) a i hx).2]
    unfold bumpV
    rw [sum_set _ _ _ (by omega), hg, wrap_succ (by omega), ih]
    omega
  | none =>
    rw [← (bump_new l (by omega) a hx).2]
    unfold bumpV
    have e1 : (cntsT l ++ [(0 : Int)]).getD (dstT l).length 0 = 0 := by rw [← hlen]; simp
    rw [sum_set _ _ _ (by rw [List.length_append, List.length_singleton]; omega), e1, w1, List.sum_append, ih]
    simp
theorem sum_nonneg : ∀ (l : List Int), (∀ x ∈ l, 0 ≤ x) → 0 ≤ l.sum
  | [], _ => Int.le_refl _
  | x :: l, h => by
    have := sum_nonneg l (fun y hy => h y (List.mem_cons_of_mem _ hy))
    have := h x List.mem_cons_self
    rw [List.sum_cons]; omega
theorem cnts_nonneg (l : List Tr) : ∀ x ∈ cntsT l, 0 ≤ x := by
  intro x hx
  obtain ⟨t, _, rfl⟩ := List.mem_map.1 hx
  omega
theorem take_sum (c : List Int) (h : ∀ x ∈ c, 0 ≤ x) (i : Nat) : 0 ≤ (c.take i).sum ∧ (c.take i).sum ≤ c.sum := by
  have h1 := sum_nonneg (c.take i) (fun x hx => h x (List.mem_of_mem_take hx))
  have h2 := sum_nonneg (c.drop i) (fun x hx => h x (List.mem_of_mem_drop hx))
  have h3 : (c.take i).sum + (c.drop i).sum = c.sum := by rw [← List.sum_append, List.take_append_drop]
  omega
/-! ### how long a text is -/
theorem str_len (m : Nat) : ∀ (l : List UInt8), (str m l).length ≤ (m + 1) * l.length
  | [] => Nat.le_refl _
  | b :: l => by
    have h := str_len m l
    have h1 : (str1 m b).length ≤ m + 1 := by
      unfold str1
      split
      · rw [List.length_replicate]; exact Nat.le_refl _
      · simp
    have e : str m (b :: l) = str1 m b ++ str m l := rfl
    rw [e, List.length_append, List.length_cons, Nat.mul_add]
    omega
theorem name_len {s : ByteArray} (h : nameB s = true) : s.size ≤ 16 := by
  unfold nameB at h
  simp only [Bool.and_eq_true, decide_eq_true_eq] at h
  exact h.1.2
theorem textW_len {t : Tr} (h : t.all nameB = true) : (raw (textW t)).length ≤ 17 * t.length + 1 := by
  cases t with
  | nil => exact Nat.le_refl _
  | cons x xs =>
    have hx := name_len (List.all_eq_true.1 h x List.mem_cons_self)
    have hxs : ∀ s ∈ xs, nameB s = true := fun s hs => List.all_eq_true.1 h s (List.mem_cons_of_mem _ hs)
    show (raw (joinGo x xs)).length ≤ _
    rw [join_raw, List.length_append, data_len, List.length_cons]
    have : (xs.flatMap fun s => 32 :: raw s).length ≤ 17 * xs.length := by
      clear h
      induction xs with
      | nil => exact Nat.le_refl _
      | cons y ys ih =>
        have hy := name_len (hxs y List.mem_cons_self)
        have := ih (fun s hs => hxs s (List.mem_cons_of_mem _ hs))
        rw [List.flatMap_cons, List.length_append, List.length_cons, data_len, List.length_cons]
        omega
    omega
theorem log_len : ∀ {l : List Tr}, (∀ t ∈ l, t.all nameB = true) → (raw (logText l)).length ≤ 17 * total l + 2 * l.length := by
  intro l
  rw [log_raw]
  induction l with
  | nil => intro _; exact Nat.le_refl _
  | cons t l ih =>
    intro h
    have h1 := ih (fun x hx => h x (List.mem_cons_of_mem _ hx))
    have h2 := textW_len (h t List.mem_cons_self)
    have h3 : total (t :: l) = t.length + total l := by simp [Logs.total]
    rw [List.flatMap_cons, List.length_append, List.length_append, h3]
    simp only [List.length_cons, List.length_nil]
    omega
/-! ### the loops of the law -/
theorem back_j4 (l : List Tr) (X : ByteArray) (h64 : l.length ≤ 64) (hm : ∀ t ∈ l, t.length < 9223372036854775807) (hX : eventlog_Parse.f X = some (l, 0, 0)) : Ev (fun k => petrinetlaw48_EventlogBack.j4 k l X false) true := by
  refine Ev.succ ?_
  simp only [petrinetlaw48_EventlogBack.j4, hX, Option.bind_some]
  exact Ev.neg (by simp) (Ev.pos (by simp) (Ev.bind (requal l l (by omega) hm) (Ev.pos (decide_eq_true rfl) alive')))
theorem back_l1 (l : List Tr) (m : Nat) (hm5 : m ≤ 5) (h0 : (checkB l).1 = 0) (hf : Few l) : ∀ (d i : Nat) (acc : ByteArray), i ≤ (logText l).size → (logText l).size - i = d → raw acc = str m ((raw (logText l)).take i) → Ev (fun k => petrinetlaw48_EventlogBack.l1 k l (m : Int) (logText l) acc (i : Int)) true := by
  obtain ⟨h64, hn⟩ := check_ok h0
  have hm : ∀ t ∈ l, t.length < 9223372036854775807 := fun t ht => by have := (hn t ht).1; omega
  have hll := log_len (fun t ht => (hn t ht).2)
  have ht4 := hf.total
  have hsz : (logText l).size ≤ 6928 := by rw [← data_len]; show (raw (logText l)).length ≤ _; omega
  have hacc : ∀ (acc : ByteArray) (n : Nat), n ≤ 6928 → (raw acc).length ≤ (m + 1) * n → acc.size ≤ 41568 := by
    intro acc n hn h
    have h2 : (m + 1) * n ≤ 6 * 6928 := Nat.mul_le_mul (by omega) hn
    rw [data_len] at h
    omega
  intro d
  induction d with
  | zero =>
    intro i acc hi hd he
    obtain rfl : i = (logText l).size := by omega
    rw [List.take_of_length_le (by rw [data_len]; exact Nat.le_refl _)] at he
    have hlen := str_len m (raw (logText l))
    have hX := parse_back m h0 acc he (by have := hacc acc (logText l).size hsz (by rw [he, ← data_len]; exact hlen); omega)
    have hS := parse_back 0 h0 (logText l) (str_zero _).symm (by omega)
    refine Ev.succ ?_
    simp only [petrinetlaw48_EventlogBack.l1, hS, Option.bind_some]
    refine Ev.neg (by omega) (Ev.neg (by simp) (Ev.bind (requal l l (by omega) hm) ?_))
    rw [decide_eq_true rfl]
    exact back_j4 l acc h64 hm hX
  | succ d ih =>
    intro i acc hi hd he
    have hlt : i < (logText l).size := by omega
    have hlr : i < (raw (logText l)).length := by rw [data_len]; exact hlt
    have hw : wrap64 ((i : Int) + 1) = ((i + 1 : Nat) : Int) := wrap_succ (by omega)
    have hx := ext_data (logText l) i hlt
    have hxs : ((logText l).extract i (i + 1)).size = 1 := by rw [← data_len, hx]; rfl
    have hbt : bt (logText l) (i : Int) = ((raw (logText l))[i].toNat : Int) := by
      rw [bt_byte hlt]
      unfold byteAt
      rw [List.getElem?_eq_getElem hlr]
      rfl
    have hal : acc.size ≤ 41568 := hacc acc i (by omega) (by
      have := str_len m ((raw (logText l)).take i)
      rw [he]
      rw [List.length_take] at this
      exact Nat.le_trans this (Nat.mul_le_mul_left _ (Nat.min_le_left _ _)))
    have hnext : ∀ acc2 : ByteArray, raw acc2 = raw acc ++ str1 m (raw (logText l))[i] → Ev (fun k => petrinetlaw48_EventlogBack.l1 k l (m : Int) (logText l) acc2 ((i + 1 : Nat) : Int)) true := fun acc2 h2 => ih (i + 1) acc2 (by omega) (by omega) (by
      rw [h2, he, List.take_succ_eq_append_getElem hlr, str_app]
      congr 1
      simp [str])
    have happ : ∀ (a : ByteArray), raw (a ++ (logText l).extract i (i + 1)) = raw a ++ [(raw (logText l))[i]] := fun a => by
      show (a ++ (logText l).extract i (i + 1)).data.toList = _
      rw [app_data, hx]
    have hl2 : ∀ (e q : Nat) (a : ByteArray), q ≤ m → m - q = e → a.size ≤ 41568 + 1 + q → ((raw (logText l))[i] = 32 ∨ (raw (logText l))[i] = 10) → raw a = raw acc ++ List.replicate (q + 1) (raw (logText l))[i] → Ev (fun k => petrinetlaw48_EventlogBack.l2 k l (m : Int) (logText l) a (i : Int) (q : Int)) true := by
      intro e
      induction e with
      | zero =>
        intro q a hq he2 ha hb hr
        obtain rfl : q = m := by omega
        refine Ev.succ ?_
        simp only [petrinetlaw48_EventlogBack.l2]
        rw [hw]
        exact Ev.neg (by omega) (hnext a (by rw [hr, str1, if_pos hb]))
      | succ e ih2 =>
        intro q a hq he2 ha hb hr
        have hgo := ih2 (q + 1) (a ++ (logText l).extract i (i + 1)) (by omega) (by omega) (by rw [ByteArray.size_append, hxs]; omega) hb (by
          rw [happ, hr, List.append_assoc, ← List.replicate_succ'])
        refine Ev.succ ?_
        simp only [petrinetlaw48_EventlogBack.l2]
        rw [hw, hbt, Int.toNat_natCast, Int.toNat_natCast, hxs, wrap_succ (i := q) (by omega)]
        refine Ev.pos (by omega) (Ev.pos (by omega) (Ev.pos (by omega) (Ev.ite (fun h32 => ?_) (fun h32 => Ev.pos ?_ ?_))))
        · exact Ev.pos (by omega) (Ev.pos (by omega) (Ev.pos (by omega) hgo))
        · rcases hb with hb | hb
          · exact absurd (by rw [hb]; rfl) h32
          · rw [hb]; rfl
        · exact Ev.pos (by omega) (Ev.pos (by omega) (Ev.pos (by omega) hgo))
    refine Ev.succ ?_
    simp only [petrinetlaw48_EventlogBack.l1]
    rw [hw, Int.toNat_natCast, Int.toNat_natCast, hxs]
    refine Ev.pos (by omega) (Ev.pos (by omega) (Ev.pos (by omega) (Ev.pos (by omega) (Ev.pos (by omega) ?_))))
    by_cases hb : (raw (logText l))[i] = 32 ∨ (raw (logText l))[i] = 10
    · exact hl2 _ 0 _ (by omega) rfl (by rw [ByteArray.size_append, hxs]; omega) hb (happ acc)
    · have hgo := hnext (acc ++ (logText l).extract i (i + 1)) (by rw [happ, str1, if_neg hb])
      refine Ev.succ ?_
      simp only [petrinetlaw48_EventlogBack.l2]
      rw [hw, hbt]
      refine Ev.ite (fun _ => Ev.pos (by omega) (Ev.pos (by omega) (Ev.neg (fun e => hb (.inl ?_)) (Ev.neg (fun e => hb (.inr ?_)) hgo)))) (fun _ => hgo)
      · exact UInt8.toNat_inj.1 (by show _ = 32; omega)
      · exact UInt8.toNat_inj.1 (by show _ = 10; omega)
theorem back_l0 (l : List Tr) (m : Nat) (hm5 : m ≤ 5) (hf : Few l) : ∀ (d i : Nat), i ≤ (cntsT l).length → (cntsT l).length - i = d → Ev (fun k => petrinetlaw48_EventlogBack.l0 k l (m : Int) (cntsT l) ((cntsT l).take i).sum (i : Int)) true := by
  have h80 := hf.len
  have hsum := sum_cnts l (by omega)
  have hclen : (cntsT l).length ≤ 80 := by have := dstT_len l; unfold cntsT; rw [List.length_map]; omega
  intro d
  induction d with
  | zero =>
    intro i hi hd
    obtain rfl : i = (cntsT l).length := by omega
    refine Ev.succ ?_
    simp only [petrinetlaw48_EventlogBack.l0]
    rw [List.take_length]
    refine Ev.neg (by omega) (Ev.pos hsum (Ev.bind (eText hf) ?_))
    unfold textB
    by_cases h0 : (checkB l).1 = 0
    · rw [if_pos h0]
      exact Ev.neg (by simp) (back_l1 l m hm5 h0 hf _ 0 ⟨#[]⟩ (by omega) rfl rfl)
    · rw [if_neg h0]
      refine Ev.pos (by simp [h0]) (Ev.pos ((ByteArray.toList_eq _).trans rfl) (Ev.bind (rcheck hf) (Ev.pos (by simp) alive')))
  | succ d ih =>
    intro i hi hd
    have hlt : i < (cntsT l).length := by omega
    have hih := ih (i + 1) (by omega) (by omega)
    have hb := take_sum (cntsT l) (cnts_nonneg l) (i + 1)
    rw [List.take_succ_eq_append_getElem hlt, List.sum_append, List.sum_singleton] at hih hb
    have hr : rd (cntsT l) (i : Int) = (cntsT l)[i] := by simp [rd, hlt]
    refine Ev.succ ?_
    simp only [petrinetlaw48_EventlogBack.l0]
    rw [hr, wrap_succ (by omega), show wrap64 (((cntsT l).take i).sum + (cntsT l)[i]) = ((cntsT l).take i).sum + (cntsT l)[i] by unfold wrap64; omega]
    exact Ev.pos (by omega) (Ev.pos (by omega) hih)
theorem EventlogBack (l : List (List ByteArray)) (n : Int) (hl : LogOk l) {Q : Prop} (hn : Q) : ∃ k, petrinetlaw48_EventlogBack.f k l n = some true := by
  apply Ev.rounds
  unfold petrinetlaw48_EventlogBack.f
  obtain ⟨bb, hbb, hF⟩ := few l hl.1
  have hyes : Ev (fun k => petrinetlaw48_EventlogBack.j0 k l n true) true := by
    refine Ev.succ ?_
    simp only [petrinetlaw48_EventlogBack.j0]
    exact Ev.pos trivial alive'
  refine Ev.bind hbb ?_
  cases bb with
  | false => exact Ev.neg (by decide) hyes
  | true =>
    have hf := hF rfl
    refine Ev.pos rfl (Ev.ite (fun _ => hyes) (fun h0 => ?_))
    by_cases h5 : n > 5
    · rw [decide_eq_true h5]; exact hyes
    · rw [decide_eq_false h5]
      obtain ⟨m, rfl⟩ : ∃ m : Nat, n = (m : Int) := ⟨n.toNat, by omega⟩
      refine Ev.succ ?_
      simp only [petrinetlaw48_EventlogBack.j0]
      exact Ev.neg (by decide) (Ev.bind (eVars hf) (back_l0 l m (by omega) hf _ 0 (by omega) rfl))
end Go.Proofs.Ytaofommgdgmncaa.Pure

