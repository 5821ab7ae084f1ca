/- For all logs that a machine reads: exchanging two names exchanges Causes and Caused, and Follows adds up to the steps. -/
import Derived.Test.YtaofommgdgmncaaQEventlogMirrorsUpto0
import Derived.Test.YtaofommgdgmncaaQEventlogMirrorsUpto1
import Derived.Test.YtaofommgdgmncaaWWords
import Derived.Deep.Slices
import Derived.ChangeArms
import Derived.Test.YtaofommgdgmncaaRows
import Derived.Test.YtaofommgdgmncaaBase
/- General lemmas of this seat's proofs, in one text. -/
/- A datum that is read deep (the statements' reader) told as the walks tell it: rows of rows, texts, numbers. -/
namespace Go.Proofs.Ytaofommgdgmncaa.Opens
set_option linter.unusedVariables false
open Go.RowKit Go.WideShapes Go.Deep Go.Proofs.YtaofommgdgmncaaW.PrintWords

/-- What the statements' reader finds at cells of type t is what d tells of some a with ok. -/
structure Opens {α H : Type} (enc : TypeId × Value → H) (P : Program) (w : World) (base : Nat) (spare : Nat → Bool) (held : Bool) (d : Kd α) (t : TypeId) (ok : α → Prop) : Prop where
  cells : P.cellsOf t = d.sz
  opens : ∀ (fuel : Nat) (cs : List Value) (x : DataW H × List MemPlace), DataW.trod enc P w base spare held fuel t cs = some x → ∃ a, d.K w a cs ∧ ok a

section
variable {H : Type} {enc : TypeId × Value → H} {P : Program} {w : World} {base : Nat} {spare : Nat → Bool} {held : Bool}
theorem string {t : TypeId} (ht : P.underlying t = some .string) (hc : P.cellsOf t = 1) : Opens enc P w base spare held Kd.string t (fun s => s.size ≤ maxLen) :=
  ⟨hc, fun fuel cs x h => by obtain ⟨s, rfl, _, hs⟩ := DataW.trod_string ht h; exact ⟨s, rfl, hs⟩⟩
theorem bool {t : TypeId} (ht : P.underlying t = some .bool) (hc : P.cellsOf t = 1) : Opens enc P w base spare held Kd.bool t (fun _ => True) :=
  ⟨hc, fun fuel cs x h => by obtain ⟨s, rfl, _⟩ := DataW.trod_bool ht h; exact ⟨s, rfl, trivial⟩⟩
theorem int {t : TypeId} {k : IntKind} (ht : P.underlying t = some (.int k)) (hc : P.cellsOf t = 1) : Opens enc P w base spare held (Kd.int k) t (fun n => (Lit.int k n).wf = true) :=
  ⟨hc, fun fuel cs x h => by obtain ⟨s, rfl, _, hs⟩ := DataW.trod_int ht h; exact ⟨s, rfl, hs⟩⟩
theorem list_of {α : Type} {p : Nat → α → Prop} : ∀ (n : Nat), (∀ i, i < n → ∃ a, p i a) → ∃ xs : List α, xs.length = n ∧ ∀ i a, xs[i]? = some a → p i a
  | 0, _ => ⟨[], rfl, fun i a h => by simp at h⟩
  | n + 1, h => by
    obtain ⟨xs, hl, hx⟩ := list_of n (fun i hi => h i (by omega))
    obtain ⟨a, ha⟩ := h n (by omega)
    refine ⟨xs ++ [a], by simp [hl], fun i b hb => ?_⟩
    by_cases hi : i < xs.length
    · rw [List.getElem?_append_left hi] at hb; exact hx i b hb
    · have hlt := (List.getElem?_eq_some_iff.1 hb).1
      simp only [List.length_append, List.length_cons, List.length_nil] at hlt
      obtain rfl : i = n := by omega
      rw [List.getElem?_append_right (by omega)] at hb
      simp [hl] at hb
      rw [← hb]; exact ha
theorem slice {α : Type} {d : Kd α} {t e : TypeId} {ok : α → Prop} (h : Opens enc P w base spare held d e ok) (ht : P.underlying t = some (.slice e)) (hc : P.cellsOf t = 1) :
    Opens enc P w base spare held (Kd.slice e d) t (fun xs => xs.length ≤ maxLen ∧ ∀ x ∈ xs, ok x) := by
  refine ⟨hc, fun fuel cs x hx => ?_⟩
  rcases open_slice ht hx with ⟨rfl, _⟩ | ⟨a, len, cap, m, n, D, Pl, rfl, _, hl, hm, hmm, _, hi⟩
  · exact ⟨[], ⟨none, 0, rfl, Nat.le_refl _, Kd.C_nil _ _⟩, by simp, by simp⟩
  · have hlm : len ≤ m := by rw [hmm]; split <;> omega
    obtain ⟨xs, hxl, hxs⟩ := list_of (p := fun i b => ∃ c, c.length = d.sz ∧ d.K w b c ∧ ok b ∧ ∀ j u, c[j]? = some u → w.cell? (a.add (i * d.sz + j)) = some u) len (fun i hlt => by
      obtain ⟨cs', h1, h2⟩ := hi i (by omega)
      obtain ⟨b, hK, hok⟩ := h.opens _ _ _ h2
      obtain ⟨_, hlen, hcell⟩ := World.cells?_some h1
      refine ⟨b, cs', by rw [hlen, h.cells], hK, hok, fun j u hu => ?_⟩
      have hj := (List.getElem?_eq_some_iff.1 hu).1
      rw [← hu, ← hcell j (by omega), h.cells, Addr.add_add])
    subst hxl
    refine ⟨xs, ⟨some a, cap, rfl, hl, rfl, by unfold maxLen at hm; omega, fun _ => ⟨a, rfl, fun j p hp => ?_⟩⟩, by omega, fun y hy => ?_⟩
    · obtain ⟨c, h1, h2, _, h4⟩ := hxs j p hp
      exact ⟨c, h1, h2, h4⟩
    · obtain ⟨j, hj⟩ := List.mem_iff_getElem?.1 hy
      obtain ⟨c, _, _, h3, _⟩ := hxs j y hj
      exact h3
/-- A parameter that is a row. -/
theorem param {α : Type} {d : Kd α} {t e : TypeId} {ok : α → Prop} (h : Opens enc P w base spare held d e ok) (ht : P.underlying t = some (.slice e)) (hc : P.cellsOf t = 1) {a : Option Addr} {len cap : Nat} {D : DataW H} {ps : List MemPlace}
    (hd : DataW.Trod enc P w base spare held t (.slice a len cap) D ps) : ∃ xs : List α, len = xs.length ∧ xs.length ≤ cap ∧ d.C w a xs.length xs ∧ xs.length ≤ maxLen ∧ ∀ x ∈ xs, ok x := by
  obtain ⟨fuel, hf⟩ := hd
  obtain ⟨xs, ⟨A, c, he, hcap, hC⟩, hl, hx⟩ := (slice h ht hc).opens _ _ _ hf
  have he' : [Value.slice a len cap] = [.slice A xs.length c] := he
  simp only [List.cons.injEq, Value.slice.injEq, and_true] at he'
  obtain ⟨rfl, rfl, rfl⟩ := he'
  exact ⟨xs, rfl, hcap, hC, hl, hx⟩
/-! ### Structs -/
/-- The fields of a struct, from some place of its cells on. -/
structure OpensL {α H : Type} (enc : TypeId × Value → H) (P : Program) (w : World) (base : Nat) (spare : Nat → Bool) (held : Bool) (d : Kd α) (fs : List Field) (o : Nat) (ok : α → Prop) : Prop where
  opens : ∀ (n : Nat) (cs : List Value), (∀ f ∈ fs, ∃ y, DataW.trod enc P w base spare held n f.type ((cs.drop f.offset).take (P.cellsOf f.type)) = some y) → ∃ a, d.K w a ((cs.drop o).take d.sz) ∧ ok a
theorem one {α : Type} {d : Kd α} {f : Field} {o : Nat} {ok : α → Prop} (h : Opens enc P w base spare held d f.type ok) (ho : f.offset = o) : OpensL enc P w base spare held d [f] o ok :=
  ⟨fun n cs hf => by
    obtain ⟨y, hy⟩ := hf f List.mem_cons_self
    obtain ⟨a, hK, hok⟩ := h.opens _ _ _ hy
    rw [h.cells, ho] at hK
    exact ⟨a, hK, hok⟩⟩
theorem cons {α β : Type} {d1 : Kd α} {d2 : Kd β} {f : Field} {fs : List Field} {o o2 : Nat} {ok1 : α → Prop} {ok2 : β → Prop} (h : Opens enc P w base spare held d1 f.type ok1) (ho : f.offset = o) (ho2 : o + d1.sz = o2) (h2 : OpensL enc P w base spare held d2 fs o2 ok2) :
    OpensL enc P w base spare held (Kd.pair d1 d2) (f :: fs) o (fun a => ok1 a.1 ∧ ok2 a.2) :=
  ⟨fun n cs hf => by
    obtain ⟨y, hy⟩ := hf f List.mem_cons_self
    obtain ⟨a, hK, hok⟩ := h.opens _ _ _ hy
    rw [h.cells, ho] at hK
    obtain ⟨b, hK2, hok2⟩ := h2.opens n cs (fun g hg => hf g (List.mem_cons_of_mem _ hg))
    refine ⟨(a, b), ⟨_, _, ?_, hK, hK2⟩, hok, hok2⟩
    rw [← ho2, ← List.drop_drop]
    exact List.take_add⟩
theorem tuple {α : Type} {d : Kd α} {t : TypeId} {fs : Array Field} {ok : α → Prop} (ht : P.underlying t = some (.struct fs)) (hc : P.cellsOf t = d.sz) (h : OpensL enc P w base spare held d fs.toList 0 ok) : Opens enc P w base spare held d t ok := by
  refine ⟨hc, fun fuel cs x hx => ?_⟩
  obtain ⟨xs, n, rfl, rfl, hl, hlen, hf⟩ := DataW.trod_struct ht hx
  obtain ⟨a, hK, hok⟩ := h.opens n cs (fun f hm => by
    obtain ⟨i, hi⟩ := List.mem_iff_getElem?.1 hm
    have hi' : fs[i]? = some f := by simpa using hi
    have hlt : i < xs.length := by rw [hlen]; exact (Array.getElem?_eq_some_iff.1 hi').1
    exact ⟨xs[i], by rw [hf i f hi', List.getElem?_eq_getElem hlt]⟩)
  rw [List.drop_zero, List.take_of_length_le (by rw [hl, hc]; exact Nat.le_refl _)] at hK
  exact ⟨a, hK, hok⟩
theorem struct {α β : Type} {d : Kd α} {t : TypeId} {fs : Array Field} {ok : α → Prop} {f : β → α} (g : α → β) (hg : ∀ a, f (g a) = a) (ht : P.underlying t = some (.struct fs)) (hc : P.cellsOf t = d.sz) (h : OpensL enc P w base spare held d fs.toList 0 ok) :
    Opens enc P w base spare held (Kd.iso d f) t (fun b => ok (f b)) := by
  refine ⟨hc, fun fuel cs x hx => ?_⟩
  obtain ⟨a, hK, hok⟩ := (tuple ht hc h).opens fuel cs x hx
  exact ⟨g a, by show d.K w (f (g a)) cs; rw [hg]; exact hK, by rw [hg]; exact hok⟩
/-- A parameter that is a struct. -/
theorem value {α : Type} {d : Kd α} {t : TypeId} {ok : α → Prop} (h : Opens enc P w base spare held d t ok) {cs : Array Value} {D : DataW H} {ps : List MemPlace}
    (hd : DataW.Trod enc P w base spare held t (.agg cs) D ps) : ∃ a, d.K w a cs.toList ∧ ok a := by
  obtain ⟨fuel, hf⟩ := hd
  obtain ⟨a, hK, hok⟩ := h.opens _ _ _ hf
  exact ⟨a, by simpa [Value.cells] using hK, hok⟩
end
end Go.Proofs.Ytaofommgdgmncaa.Opens

/- The bulk of a datum that is read (the second form of the statements), told of what the walks tell of. -/
namespace Go.Proofs.Ytaofommgdgmncaa.Bulk
set_option linter.unusedVariables false
open Go.RowKit Go.WideShapes Go.Deep Go.Proofs.YtaofommgdgmncaaW.PrintWords Go.Proofs.Ytaofommgdgmncaa.Rows Go.Proofs.Ytaofommgdgmncaa.Opens

/-- What the statements' reader finds at cells of type t is what d tells of some a with ok, and of a measure no greater than the bulk. -/
structure OpensM {α H : Type} (enc : TypeId × Value → H) (P : Program) (w : World) (base : Nat) (spare : Nat → Bool) (held : Bool) (d : Kd α) (t : TypeId) (ok : α → Prop) (m : α → Nat) : Prop where
  cells : P.cellsOf t = d.sz
  opens : ∀ (fuel : Nat) (cs : List Value) (x : DataW H × List MemPlace), DataW.trod enc P w base spare held fuel t cs = some x → ∃ a, d.K w a cs ∧ ok a ∧ m a ≤ uptoBulk x.1

section
variable {H : Type} {enc : TypeId × Value → H} {P : Program} {w : World} {base : Nat} {spare : Nat → Bool} {held : Bool}
theorem string {t : TypeId} (ht : P.underlying t = some .string) (hc : P.cellsOf t = 1) : OpensM enc P w base spare held Kd.string t (fun s => s.size ≤ maxLen) (fun s => s.size + 1) :=
  ⟨hc, fun fuel cs x h => by
    obtain ⟨s, rfl, rfl, hs⟩ := DataW.trod_string ht h
    exact ⟨s, rfl, hs, by simp [uptoBulk]⟩⟩
theorem bool {t : TypeId} (ht : P.underlying t = some .bool) (hc : P.cellsOf t = 1) : OpensM enc P w base spare held Kd.bool t (fun _ => True) (fun _ => 1) :=
  ⟨hc, fun fuel cs x h => by
    obtain ⟨s, rfl, rfl⟩ := DataW.trod_bool ht h
    exact ⟨s, rfl, trivial, by simp [uptoBulk]⟩⟩
theorem int {t : TypeId} {k : IntKind} (ht : P.underlying t = some (.int k)) (hc : P.cellsOf t = 1) : OpensM enc P w base spare held (Kd.int k) t (fun n => (Lit.int k n).wf = true) (fun _ => 1) :=
  ⟨hc, fun fuel cs x h => by
    obtain ⟨s, rfl, rfl, hs⟩ := DataW.trod_int ht h
    exact ⟨s, rfl, hs, by simp [uptoBulk]⟩⟩
theorem bulkAll_range {D : Nat → DataW H} : ∀ (n : Nat), uptoBulkAll ((List.range n).map D) = ((List.range n).map fun i => uptoBulk (D i)).sum := by
  intro n
  have h : ∀ l : List (DataW H), uptoBulkAll l = (l.map uptoBulk).sum := by
    intro l
    induction l with
    | nil => rfl
    | cons d r ih => rw [uptoBulkAll, ih, List.map_cons, List.sum_cons]
  rw [h, List.map_map]; rfl
def measL {α : Type} (m : α → Nat) (xs : List α) : Nat := (xs.map m).sum + 1
theorem sum_le_range {α : Type} {m : α → Nat} {g : Nat → Nat} : ∀ (xs : List α), (∀ i a, xs[i]? = some a → m a ≤ g i) → (xs.map m).sum ≤ ((List.range xs.length).map g).sum := by
  intro xs
  induction xs generalizing g with
  | nil => intro _; simp
  | cons x xs ih =>
    intro h
    have h0 := h 0 x rfl
    have h1 := ih (g := fun i => g (i + 1)) (fun i a ha => h (i + 1) a (by simpa using ha))
    rw [List.map_cons, List.sum_cons, List.length_cons, List.range_succ_eq_map, List.map_cons, List.sum_cons, List.map_map]
    have : ((List.range xs.length).map fun i => g (i + 1)).sum = ((List.range xs.length).map (g ∘ Nat.succ)).sum := rfl
    omega
theorem slice {α : Type} {d : Kd α} {t e : TypeId} {ok : α → Prop} {m : α → Nat} (h : OpensM enc P w base spare held d e ok m) (ht : P.underlying t = some (.slice e)) (hc : P.cellsOf t = 1) :
    OpensM enc P w base spare held (Kd.slice e d) t (fun xs => xs.length ≤ maxLen ∧ ∀ x ∈ xs, ok x) (measL m) := by
  refine ⟨hc, fun fuel cs x hx => ?_⟩
  rcases open_slice ht hx with ⟨rfl, rfl⟩ | ⟨a, len, cap, m', n, D, Pl, rfl, _, hl, hm, hmm, rfl, hi⟩
  · exact ⟨[], ⟨none, 0, rfl, Nat.le_refl _, Kd.C_nil _ _⟩, ⟨by simp, by simp⟩, by simp [measL, uptoBulk]⟩
  · have hlm : len ≤ m' := by rw [hmm]; split <;> omega
    obtain ⟨xs, hxl, hxs⟩ := list_of (p := fun i b => ∃ c, c.length = d.sz ∧ d.K w b c ∧ ok b ∧ m b ≤ uptoBulk (D i) ∧ ∀ j u, c[j]? = some u → w.cell? (a.add (i * d.sz + j)) = some u) len (fun i hlt => by
      obtain ⟨cs', h1, h2⟩ := hi i (by omega)
      obtain ⟨b, hK, hok, hme⟩ := h.opens _ _ _ h2
      obtain ⟨_, hlen, hcell⟩ := World.cells?_some h1
      refine ⟨b, cs', by rw [hlen, h.cells], hK, hok, hme, fun j u hu => ?_⟩
      have hj := (List.getElem?_eq_some_iff.1 hu).1
      rw [← hu, ← hcell j (by omega), h.cells, Addr.add_add])
    subst hxl
    refine ⟨xs, ⟨some a, cap, rfl, hl, rfl, by unfold maxLen at hm; omega, fun _ => ⟨a, rfl, fun j p hp => ?_⟩⟩, ⟨by omega, fun y hy => ?_⟩, ?_⟩
    · obtain ⟨c, h1, h2, _, _, h4⟩ := hxs j p hp
      exact ⟨c, h1, h2, h4⟩
    · obtain ⟨j, hj⟩ := List.mem_iff_getElem?.1 hy
      obtain ⟨c, _, _, h3, _⟩ := hxs j y hj
      exact h3
    · have := sum_le_range (g := fun i => uptoBulk (D i)) xs (fun i b hb => by obtain ⟨c, _, _, _, h4, _⟩ := hxs i b hb; exact h4)
      rw [uptoBulk, bulkAll_range]
      unfold measL
      omega
/-- A parameter that is a row. -/
theorem param {α : Type} {d : Kd α} {t e : TypeId} {ok : α → Prop} {m : α → Nat} (h : OpensM enc P w base spare held d e ok m) (ht : P.underlying t = some (.slice e)) (hc : P.cellsOf t = 1) {a : Option Addr} {len cap : Nat} {D : DataW H} {ps : List MemPlace}
    (hd : DataW.Trod enc P w base spare held t (.slice a len cap) D ps) : ∃ xs : List α, len = xs.length ∧ xs.length ≤ cap ∧ d.C w a xs.length xs ∧ (xs.length ≤ maxLen ∧ ∀ x ∈ xs, ok x) ∧ measL m xs ≤ uptoBulk D := by
  obtain ⟨fuel, hf⟩ := hd
  obtain ⟨xs, ⟨A, c, he, hcap, hC⟩, hl, hm⟩ := (slice h ht hc).opens _ _ _ hf
  have he' : [Value.slice a len cap] = [.slice A xs.length c] := he
  simp only [List.cons.injEq, Value.slice.injEq, and_true] at he'
  obtain ⟨rfl, rfl, rfl⟩ := he'
  exact ⟨xs, rfl, hcap, hC, hl, hm⟩
theorem small_mem {ds : List (DataW H)} (h : uptoSmall H ds = true) {d : DataW H} (hd : d ∈ ds) : uptoBulk d ≤ 1048576 := by
  have h1 : uptoBulkAll ds ≤ 1048576 := of_decide_eq_true h
  have h2 : ∀ l : List (DataW H), d ∈ l → uptoBulk d ≤ uptoBulkAll l := by
    intro l
    induction l with
    | nil => intro h; simp at h
    | cons x r ih =>
      intro h
      rw [uptoBulkAll]
      rcases List.mem_cons.1 h with rfl | h
      · omega
      · have := ih h; omega
  exact Nat.le_trans (h2 ds hd) h1
end
end Go.Proofs.Ytaofommgdgmncaa.Bulk

/- What the functions of the reference of eventlog answer. -/
namespace Go.Proofs.Ytaofommgdgmncaa.Logs
open Go.RowKit Go.Proofs.Ytaofommgdgmncaa.Pr Go.Proofs.Ytaofommgdgmncaa.Evs Go.Proofs.Ytaofommgdgmncaa.Parts Go.Proofs.Ytaofommgdgmncaa.Names Go.Proofs.YtaofommgdgmncaaW.PrintWords Go.Proofs.YtaofommgdgmncaaW.PrintLast Go.Proofs.YtaofommgdgmncaaW.PrintMore
set_option linter.unusedVariables false
set_option linter.unusedSimpArgs false

/-! ### names -/
theorem bt_byte {s : ByteArray} {i : Nat} (h : i < s.size) : bt s (i : Int) = (byteAt s i : Int) := by
  rw [byteAt_get s i h]
  simp [bt, h]
theorem name_l0 (s : ByteArray) (hs : s.size < 9223372036854775807) : ∀ (d i : Nat), i ≤ s.size → s.size - i = d → (∀ j, j < i → okB j (byteAt s j) = true) → Ev (fun k => petrinetref48_Name.l0 k s (i : Int)) (nameB s) := by
  intro d
  induction d with
  | zero =>
    intro i hi hd hok
    obtain rfl : i = s.size := by omega
    refine Ev.succ ?_
    simp only [petrinetref48_Name.l0]
    refine Ev.neg (by omega) ?_
    have hall : ((List.range s.size).all fun j => okB j (byteAt s j)) = true := by
      rw [List.all_eq_true]
      intro j hj
      exact hok j (List.mem_range.1 hj)
    by_cases h1 : (s.size : Int) ≥ 1
    · refine Ev.pos h1 (Ev.same (funext fun _ => ?_))
      unfold nameB
      rw [hall, Bool.and_true, decide_eq_true (show 1 ≤ s.size by omega), Bool.true_and]
      congr 1
      exact decide_eq_decide.2 (by omega)
    · refine Ev.neg h1 (Ev.same (funext fun _ => ?_))
      unfold nameB
      rw [decide_eq_false (show ¬ 1 ≤ s.size by omega)]
      rfl
  | succ d ih =>
    intro i hi hd hok
    have hlt : i < s.size := by omega
    have hb := bt_byte hlt
    obtain ⟨c, hc⟩ : ∃ c, byteAt s i = c := ⟨_, rfl⟩
    rw [hc] at hb
    have hgo : okB i c = true → Ev (fun k => petrinetref48_Name.l0 k s (wrap64 ((i : Int) + 1))) (nameB s) := by
      intro hk
      rw [wrap_succ (by omega)]
      refine ih (i + 1) (by omega) (by omega) (fun j hj => ?_)
      by_cases hji : j = i
      · subst hji; rw [hc]; exact hk
      · exact hok j (by omega)
    have hno : okB i c = false → nameB s = false := fun hk => nameB_false hlt (by rw [hc]; exact hk)
    have hstop : okB i c = false → Ev (fun _ : Nat => some false) (nameB s) := fun hk => by rw [hno hk]; exact Ev.now _
    refine Ev.succ ?_
    simp only [petrinetref48_Name.l0, hb]
    refine Ev.pos (by omega) (Ev.pos (by omega) ?_)
    have hnl : ¬ (97 ≤ c ∧ c ≤ 122) → ¬ c = 95 → Ev (fun k => if (i : Int) = 0 then some false else if (c : Int) = 46 then petrinetref48_Name.l0 k s (wrap64 ((i : Int) + 1)) else if (c : Int) < 48 then some false else if (c : Int) > 57 then some false else petrinetref48_Name.l0 k s (wrap64 ((i : Int) + 1))) (nameB s) := by
      intro h1 h2
      by_cases h0 : (i : Int) = 0
      · exact Ev.pos h0 (hstop (okB_not (by omega)))
      · refine Ev.neg h0 ?_
        by_cases h46 : (c : Int) = 46
        · exact Ev.pos h46 (hgo (okB_of (by omega)))
        · refine Ev.neg h46 ?_
          by_cases h48 : (c : Int) < 48
          · exact Ev.pos h48 (hstop (okB_not (by omega)))
          · refine Ev.neg h48 ?_
            by_cases h57 : (c : Int) > 57
            · exact Ev.pos h57 (hstop (okB_not (by omega)))
            · exact Ev.neg h57 (hgo (okB_of (by omega)))
    by_cases h97 : (c : Int) ≥ 97
    · refine Ev.pos h97 ?_
      by_cases h122 : (c : Int) ≤ 122
      · exact Ev.pos h122 (hgo (okB_of (by omega)))
      · refine Ev.neg h122 ?_
        exact Ev.neg (by omega) (hnl (by omega) (by omega))
    · refine Ev.neg h97 ?_
      by_cases h95 : (c : Int) = 95
      · exact Ev.pos h95 (hgo (okB_of (by omega)))
      · exact Ev.neg h95 (hnl (by omega) (by omega))
theorem rname (s : ByteArray) (hs : s.size < 9223372036854775807) : Ev (fun k => petrinetref48_Name.f k s) (nameB s) := name_l0 s hs s.size 0 (by omega) (by omega) (fun _ h => by omega)

/-! ### parts and words -/
theorem cut_bt {s : ByteArray} {b : Int} {k : Nat} (h : k < s.size) : cutAt s b k = decide (bt s (k : Int) = b) := by
  rw [cut_get h]
  simp only [bt, Int.toNat_natCast, h, dif_pos]
  cases h9 : (((s[k]'h).toNat : Int) == b) with
  | true => exact (decide_eq_true (eq_of_beq h9)).symm
  | false => exact (decide_eq_false (beq_eq_false_iff_ne.1 h9)).symm
theorem split_l0 (s : ByteArray) (b : Int) (hs : s.size ≤ 1099511627776) : ∀ (d k : Nat), k ≤ s.size + 1 → s.size + 1 - k = d → Ev (fun j => petrinetref04_Split.l0 j s b (pf s b k).1 ((pf s b k).2 : Int) (k : Int)) (partsOf s b) := by
  intro d
  induction d with
  | zero =>
    intro k hk hd
    obtain rfl : k = s.size + 1 := by omega
    refine Ev.succ ?_
    simp only [petrinetref04_Split.l0]
    exact Ev.neg (by omega) (Ev.now _)
  | succ d ih =>
    intro k hk hd
    have hfr := pf_from s b k
    have hln := pf_len s b k
    have hih := ih (k + 1) (by omega) (by omega)
    refine Ev.succ ?_
    simp only [petrinetref04_Split.l0]
    refine Ev.pos (by omega) ?_
    have hcut : cutAt s b k = true → Ev (fun j => if (0 : Int) ≤ ((pf s b k).2 : Int) then (if ((pf s b k).2 : Int) ≤ (k : Int) then (if (pf s b k).1.length < 8796093022208 then (petrinetref04_Split.l0 j s b ((pf s b k).1 ++ [s.extract ((pf s b k).2 : Int).toNat (k : Int).toNat]) (wrap64 ((k : Int) + 1)) (wrap64 ((k : Int) + 1))) else none) else none) else none) (partsOf s b) := by
      intro hc
      rw [pf_hit hc] at hih
      refine Ev.pos (by omega) (Ev.pos (by omega) (Ev.pos (by omega) ?_))
      rw [wrap_succ (by omega), Int.toNat_natCast, Int.toNat_natCast]
      exact hih
    by_cases he : (k : Int) = (s.size : Int)
    · obtain rfl : k = s.size := by omega
      exact Ev.pos rfl (hcut (cut_end s b))
    · refine Ev.neg he (Ev.pos (by omega) (Ev.pos (by omega) ?_))
      have hcb := cut_bt (b := b) (show k < s.size by omega)
      by_cases hb : bt s (k : Int) = b
      · exact Ev.pos hb (hcut (by rw [hcb]; exact decide_eq_true hb))
      · rw [decide_eq_false hb] at hcb
        refine Ev.neg hb ?_
        rw [pf_miss hcb] at hih
        rw [wrap_succ (by omega)]
        exact hih
theorem rsplit (s : ByteArray) (b : Int) (hs : s.size ≤ 1099511627776) : Ev (fun k => petrinetref04_Split.f k s b) (partsOf s b) := split_l0 s b hs _ 0 (by omega) rfl
theorem words_l0 (l : List ByteArray) (hl : l.length ≤ 1099511627777) : ∀ (d i : Nat), i ≤ l.length → l.length - i = d → Ev (fun k => petrinetref48_Words.l0 k l (wordsIn (l.take i)) (i : Int)) (wordsIn l) := by
  intro d
  induction d with
  | zero =>
    intro i hi hd
    obtain rfl : i = l.length := by omega
    refine Ev.succ ?_
    simp only [petrinetref48_Words.l0]
    refine Ev.neg (by omega) ?_
    rw [List.take_length]
    exact Ev.now _
  | succ d ih =>
    intro i hi hd
    have hlt : i < l.length := by omega
    have hih := ih (i + 1) (by omega) (by omega)
    rw [List.take_succ_eq_append_getElem hlt] at hih
    have hwl := wordsIn_len (l.take i)
    rw [List.length_take] at hwl
    refine Ev.succ ?_
    simp only [petrinetref48_Words.l0]
    refine Ev.pos (by omega) (Ev.pos (by omega) ?_)
    rw [rdOf_get hlt, wrap_succ (by omega)]
    by_cases he : l[i].toList = []
    · rw [wordsIn_miss _ (by rw [he]; rfl)] at hih
      exact Ev.pos he hih
    · rw [wordsIn_hit _ (by cases h : l[i].toList.isEmpty with | false => rfl | true => exact absurd (List.isEmpty_iff.1 h) he)] at hih
      exact Ev.neg he (Ev.pos (by omega) hih)
theorem rwords (s : ByteArray) (hs : s.size ≤ 1099511627776) : Ev (fun k => petrinetref48_Words.f k s) (wordsOf s) := by
  unfold petrinetref48_Words.f
  refine Ev.bind (rsplit s 32 hs) ?_
  exact words_l0 (partsOf s 32) (Nat.le_trans (pf_len s 32 (s.size + 1)) (by omega)) _ 0 (by omega) rfl

/-! ### equal lists of lists -/
theorem same_l0 (a b : List ByteArray) (hab : a.length = b.length) (hl : a.length < 9223372036854775807) : ∀ (d i : Nat), i ≤ a.length → a.length - i = d → a.take i = b.take i → Ev (fun k => petrinetref48_Same.l0 k a b (i : Int)) (decide (a = b)) := by
  intro d
  induction d with
  | zero =>
    intro i hi hd he
    obtain rfl : i = a.length := by omega
    refine Ev.succ ?_
    simp only [petrinetref48_Same.l0]
    refine Ev.neg (by omega) ?_
    rw [List.take_length, hab, List.take_length] at he
    rw [decide_eq_true he]
    exact Ev.now _
  | succ d ih =>
    intro i hi hd he
    have hlt : i < a.length := by omega
    have hlb : i < b.length := by omega
    refine Ev.succ ?_
    simp only [petrinetref48_Same.l0]
    refine Ev.pos (by omega) (Ev.pos (by omega) (Ev.pos (by omega) ?_))
    rw [rdOf_get hlt, rdOf_get hlb, wrap_succ (by omega)]
    by_cases h : a[i] = b[i]
    · exact Ev.pos ((bytes_eq _ _).2 h) (ih (i + 1) (by omega) (by omega) (by rw [List.take_succ_eq_append_getElem hlt, List.take_succ_eq_append_getElem hlb, he, h]))
    · rw [decide_eq_false (fun e => h (by simp [e]))]
      exact Ev.neg (fun e => h ((bytes_eq _ _).1 e)) (Ev.now _)
theorem rsame (a b : List ByteArray) (hl : a.length < 9223372036854775807) : Ev (fun k => petrinetref48_Same.f k a b) (decide (a = b)) := by
  unfold petrinetref48_Same.f
  by_cases h : a.length = b.length
  · exact Ev.pos (by omega) (same_l0 a b h hl _ 0 (by omega) rfl rfl)
  · rw [decide_eq_false (fun e => h (by rw [e]))]
    exact Ev.neg (by omega) (Ev.now _)
theorem rd_L1_get {l : List (List ByteArray)} {i : Nat} (h : i < l.length) : rd_L1 l (i : Int) = l[i] := by simp [rd_L1, h]
theorem equal_l0 (a b : List (List ByteArray)) (hab : a.length = b.length) (hl : a.length < 9223372036854775807) (hm : ∀ t ∈ a, t.length < 9223372036854775807) : ∀ (d i : Nat), i ≤ a.length → a.length - i = d → a.take i = b.take i → Ev (fun k => petrinetref48_Equal.l0 k a b (i : Int)) (decide (a = b)) := by
  intro d
  induction d with
  | zero =>
    intro i hi hd he
    obtain rfl : i = a.length := by omega
    refine Ev.succ ?_
    simp only [petrinetref48_Equal.l0]
    refine Ev.neg (by omega) ?_
    rw [List.take_length, hab, List.take_length] at he
    rw [decide_eq_true he]
    exact Ev.now _
  | succ d ih =>
    intro i hi hd he
    have hlt : i < a.length := by omega
    have hlb : i < b.length := by omega
    refine Ev.succ ?_
    simp only [petrinetref48_Equal.l0]
    refine Ev.pos (by omega) (Ev.pos (by omega) (Ev.pos (by omega) ?_))
    rw [rd_L1_get hlt, rd_L1_get hlb, wrap_succ (by omega)]
    refine Ev.bind (rsame a[i] b[i] (hm _ (List.getElem_mem hlt))) ?_
    by_cases h : a[i] = b[i]
    · exact Ev.pos (decide_eq_true h) (ih (i + 1) (by omega) (by omega) (by rw [List.take_succ_eq_append_getElem hlt, List.take_succ_eq_append_getElem hlb, he, h]))
    · rw [decide_eq_false (show ¬ a = b from fun e => h (by simp [e]))]
      exact Ev.neg (by simpa using h) (Ev.now _)
theorem requal (a b : List (List ByteArray)) (hl : a.length < 9223372036854775807) (hm : ∀ t ∈ a, t.length < 9223372036854775807) : Ev (fun k => petrinetref48_Equal.f k a b) (decide (a = b)) := by
  unfold petrinetref48_Equal.f
  by_cases h : a.length = b.length
  · exact Ev.pos (by omega) (equal_l0 a b h hl hm _ 0 (by omega) rfl rfl)
  · rw [decide_eq_false (fun e => h (by rw [e]))]
    exact Ev.neg (by omega) (Ev.now _)

/-! ### Parse -/
theorem words_mem {s y : ByteArray} (h : y ∈ wordsOf s) : y.size ≤ s.size := parts_mem (List.mem_filter.1 h).1
theorem parse_l1 (lines : List ByteArray) (out : List (List ByteArray)) (i : Nat) (ws : List ByteArray) (hi : i < 9223372036854775807) (ho : out.length ≤ 1099511627777) (hw : ws.length ≤ 1099511627777) (hm : ∀ y ∈ ws, y.size < 9223372036854775807) (R : List (List ByteArray) × Int × Int)
    (h11 : ws.all nameB = false → R = ([], 11, ((i + 1 : Nat) : Int))) (h2 : ws.all nameB = true → (64 < ws.length ∨ out.length = 64) → R = ([], 2, ((i + 1 : Nat) : Int)))
    (hgo : ws.all nameB = true → ¬ (64 < ws.length ∨ out.length = 64) → Ev (fun k => petrinetref48_Parse.l0 k lines (out ++ [ws]) ((i + 1 : Nat) : Int)) R) :
    ∀ (d q : Nat), q ≤ ws.length → ws.length - q = d → (ws.take q).all nameB = true → Ev (fun k => petrinetref48_Parse.l1 k lines out (i : Int) ws (q : Int)) R := by
  intro d
  induction d with
  | zero =>
    intro q hq hd hok
    obtain rfl : q = ws.length := by omega
    rw [List.take_length] at hok
    refine Ev.succ ?_
    simp only [petrinetref48_Parse.l1]
    refine Ev.neg (by omega) ?_
    rw [wrap_succ hi]
    by_cases h64 : (ws.length : Int) > 64
    · rw [h2 hok (.inl (by omega))]; exact Ev.pos h64 (Ev.now _)
    · refine Ev.neg h64 ?_
      by_cases ho64 : (out.length : Int) = 64
      · rw [h2 hok (.inr (by omega))]; exact Ev.pos ho64 (Ev.now _)
      · exact Ev.neg ho64 (Ev.pos (by omega) (hgo hok (by omega)))
  | succ d ih =>
    intro q hq hd hok
    have hlt : q < ws.length := by omega
    refine Ev.succ ?_
    simp only [petrinetref48_Parse.l1]
    refine Ev.pos (by omega) (Ev.pos (by omega) ?_)
    rw [rdOf_get hlt, wrap_succ (by omega), wrap_succ hi]
    refine Ev.bind (rname ws[q] (hm _ (List.getElem_mem hlt))) ?_
    cases hn : nameB ws[q] with
    | true => exact Ev.pos rfl (ih (q + 1) (by omega) (by omega) (by rw [List.take_succ_eq_append_getElem hlt, List.all_append, hok]; simp [hn]))
    | false =>
      have hall : ws.all nameB = false := by
        rw [List.all_eq_false]
        exact ⟨_, List.getElem_mem hlt, by simp [hn]⟩
      rw [h11 hall]
      exact Ev.neg (by decide) (Ev.now _)
theorem parse_l0 (lines : List ByteArray) (hl : lines.length ≤ 1099511627777) (hm : ∀ x ∈ lines, x.size ≤ 1099511627776) : ∀ (d i : Nat), i ≤ lines.length → lines.length - i = d → ∀ out : List (List ByteArray), out.length ≤ i → Ev (fun k => petrinetref48_Parse.l0 k lines out (i : Int)) (parseGo (lines.drop i) out i) := by
  intro d
  induction d with
  | zero =>
    intro i hi hd out ho
    obtain rfl : i = lines.length := by omega
    refine Ev.succ ?_
    simp only [petrinetref48_Parse.l0]
    refine Ev.neg (by omega) ?_
    rw [List.drop_length]
    exact Ev.now _
  | succ d ih =>
    intro i hi hd out ho
    have hlt : i < lines.length := by omega
    have hx := hm _ (List.getElem_mem hlt)
    refine Ev.succ ?_
    simp only [petrinetref48_Parse.l0]
    refine Ev.pos (by omega) (Ev.pos (by omega) ?_)
    rw [rdOf_get hlt, wrap_succ (by omega), List.drop_eq_getElem_cons hlt]
    obtain ⟨x, hxe⟩ : ∃ x, lines[i] = x := ⟨_, rfl⟩
    rw [hxe] at hx ⊢
    refine Ev.bind (rwords x hx) ?_
    have hwl := words_len x
    have hsm : ∀ {ws : List ByteArray}, ws.length ≤ 1099511627777 → (∀ y ∈ ws, y.size < 9223372036854775807) → (h0 : ¬ wordsOf x = []) → (traceB (wordsOf x) = if ws.all nameB then some ws else none) → Ev (fun k => petrinetref48_Parse.l1 k lines out (i : Int) ws ((0 : Nat) : Int)) (parseGo (x :: lines.drop (i + 1)) out i) := by
      intro ws h1 h2 h0 ht
      refine parse_l1 lines out i ws (by omega) (by omega) h1 h2 _ ?_ ?_ ?_ _ 0 (by omega) rfl rfl
      · intro hn
        rw [hn] at ht
        rw [parseGo, stepP, if_neg h0, ht]
        rfl
      · intro hn hb
        rw [hn] at ht
        rw [parseGo, stepP, if_neg h0, ht]
        simp only [if_true]
        rw [if_pos hb]
      · intro hn hb
        rw [hn] at ht
        rw [parseGo, stepP, if_neg h0, ht]
        simp only [if_true]
        rw [if_neg hb]
        exact ih (i + 1) (by omega) (by omega) _ (by simp; omega)
    by_cases h0 : wordsOf x = []
    · refine Ev.pos (by rw [h0]; rfl) ?_
      rw [parseGo, stepP, if_pos h0]
      exact ih (i + 1) (by omega) (by omega) out (by omega)
    · have hlp : 0 < (wordsOf x).length := List.length_pos_iff.2 h0
      refine Ev.neg (by omega) ?_
      have hmem : ∀ y ∈ wordsOf x, y.size < 9223372036854775807 := fun y hy => by have := words_mem hy; omega
      have hfull : ¬ (wordsOf x).map (·.toList) = [[45]] → Ev (fun k => petrinetref48_Parse.l1 k lines out (i : Int) (wordsOf x) ((0 : Nat) : Int)) (parseGo (x :: lines.drop (i + 1)) out i) := fun h => hsm (by omega) hmem h0 (by rw [traceB, if_neg h])
      by_cases h1 : ((wordsOf x).length : Int) = 1
      · obtain ⟨y, hy⟩ : ∃ y, wordsOf x = [y] := by
          match hw : wordsOf x with
          | [] => exact absurd hw h0
          | [y] => exact ⟨y, rfl⟩
          | _ :: _ :: _ => rw [hw] at h1; simp at h1; omega
        refine Ev.pos h1 (Ev.pos (by omega) ?_)
        have hr : rdOf ByteArray.empty (wordsOf x) 0 = y := by rw [hy]; rfl
        rw [hr]
        refine Ev.succ ?_
        simp only [petrinetref48_Parse.j1]
        by_cases hd45 : y.toList = [45]
        · refine Ev.pos (by rw [hd45]; rfl) (Ev.succ ?_)
          simp only [petrinetref48_Parse.j2]
          exact hsm (ws := []) (by simp) (fun _ h => by simp at h) h0 (by rw [traceB, if_pos (by rw [hy]; simp [hd45])]; rfl)
        · refine Ev.neg (by simpa using hd45) (Ev.succ ?_)
          simp only [petrinetref48_Parse.j2]
          exact hfull (by rw [hy]; simpa using hd45)
      · refine Ev.neg h1 (Ev.succ ?_)
        simp only [petrinetref48_Parse.j1]
        refine Ev.neg (by decide) (Ev.succ ?_)
        simp only [petrinetref48_Parse.j2]
        exact hfull (fun e => h1 (by have := congrArg List.length e; simp at this; omega))
theorem rparse (s : ByteArray) : ∃ r, eventlog_Parse.f s = some r ∧ Ev (fun k => petrinetref48_Parse.f k s) r := by
  unfold eventlog_Parse.f petrinetref48_Parse.f
  by_cases h : (s.size : Int) > 65536
  · exact ⟨_, if_pos h, Ev.pos h (Ev.now _)⟩
  · refine ⟨_, if_neg h, Ev.neg h (Ev.bind (rsplit s 10 (by omega)) ?_)⟩
    have := parse_l0 (partsOf s 10) (Nat.le_trans (pf_len s 10 (s.size + 1)) (by omega)) (fun x hx => by have := parts_mem hx; omega) _ 0 (by omega) rfl [] (by simp)
    exact this
/-- Every trace of a log that Parse tells is short, and so is the log. -/
theorem stepP_small {out o' : List (List ByteArray)} {x : ByteArray} (h : stepP out x = .inl o') (ho : out.length ≤ 64 ∧ ∀ t ∈ out, t.length ≤ 64) : o'.length ≤ 64 ∧ ∀ t ∈ o', t.length ≤ 64 := by
  unfold stepP at h
  split at h
  · cases h; exact ho
  · split at h
    · cases h
    · split at h
      · cases h
      · rename_i t _ hb
        cases h
        refine ⟨by simp; omega, fun u hu => ?_⟩
        rcases List.mem_append.1 hu with h | h
        · exact ho.2 u h
        · rw [List.mem_singleton.1 h]; omega
theorem parseGo_small : ∀ (ls : List ByteArray) (out : List (List ByteArray)) (i : Nat), (out.length ≤ 64 ∧ ∀ t ∈ out, t.length ≤ 64) → (parseGo ls out i).1.length ≤ 64 ∧ ∀ t ∈ (parseGo ls out i).1, t.length ≤ 64
  | [], out, i, h => h
  | x :: ls, out, i, h => by
    rw [parseGo]
    cases hs : stepP out x with
    | inl o' => exact parseGo_small ls o' (i + 1) (stepP_small hs h)
    | inr e => exact ⟨by simp, by simp⟩
theorem parse_small {s : ByteArray} {r : List (List ByteArray) × Int × Int} (h : eventlog_Parse.f s = some r) : r.1.length ≤ 64 ∧ ∀ t ∈ r.1, t.length ≤ 64 := by
  unfold eventlog_Parse.f at h
  split at h
  · cases h; exact ⟨by simp, by simp⟩
  · cases h; exact parseGo_small _ [] 0 ⟨by simp, by simp⟩
end Go.Proofs.Ytaofommgdgmncaa.Logs

/- How often one name follows another, and which logs are few. -/
namespace Go.Proofs.Ytaofommgdgmncaa.Logs
open Go.RowKit Go.Proofs.Ytaofommgdgmncaa.Pr Go.Proofs.Ytaofommgdgmncaa.Evs Go.Proofs.YtaofommgdgmncaaW.PrintWords Go.Proofs.YtaofommgdgmncaaW.PrintLast Go.Proofs.YtaofommgdgmncaaW.PrintMore
set_option linter.unusedVariables false
set_option linter.unusedSimpArgs false

/-! ### few -/
def total (l : List (List ByteArray)) : Nat := (l.map List.length).sum
structure Few (l : List (List ByteArray)) : Prop where
  len : l.length ≤ 80
  total : total l ≤ 400
  each : ∀ t ∈ l, t.length ≤ 80 ∧ ∀ s ∈ t, s.size ≤ 40
theorem total_snoc (l : List (List ByteArray)) (t : List ByteArray) : total (l ++ [t]) = total l + t.length := by simp [Logs.total]
theorem few_l1 (l : List (List ByteArray)) (i : Nat) (hi : i < l.length) (n : Int) (p : Prop) (hL : l.length ≤ 9223372036854775807)
    (hnext : l[i].length ≤ 80 → ∃ b, Ev (fun k => petrinetlaw48_few.l0 k l n ((i + 1 : Nat) : Int)) b ∧ (b = true → p)) : ∀ (d q : Nat), q ≤ l[i].length → l[i].length - q = d → ∃ b, Ev (fun k => petrinetlaw48_few.l1 k l n (i : Int) (q : Int)) b ∧ (b = true → (∀ s ∈ l[i].drop q, s.size ≤ 40) ∧ l[i].length ≤ 80 ∧ p) := by
  have hlast : ∀ q : Nat, (l[i].length ≤ q ∨ 81 ≤ q) → ∃ b, Ev (fun k => petrinetlaw48_few.j3 k l n (i : Int) (q : Int) false) b ∧ (b = true → l[i].length ≤ 80 ∧ p) := by
    intro q hq
    by_cases h80 : (l[i].length : Int) > 80
    · refine ⟨false, Ev.succ ?_, fun h => by cases h⟩
      simp only [petrinetlaw48_few.j3, rd_L1_get hi]
      exact Ev.neg (by decide) (Ev.pos (by omega) (Ev.pos (by omega) (Ev.pos h80 (Ev.now _))))
    · obtain ⟨b, hb, hp⟩ := hnext (by omega)
      refine ⟨b, Ev.succ ?_, fun h => ⟨by omega, hp h⟩⟩
      simp only [petrinetlaw48_few.j3, rd_L1_get hi]
      rw [wrap_succ (i := i) (by omega)]
      exact Ev.neg (by decide) (Ev.pos (by omega) (Ev.pos (by omega) (Ev.neg h80 hb)))
  intro d
  induction d with
  | zero =>
    intro q hq hd
    obtain ⟨b, hb, hp⟩ := hlast q (.inl (by omega))
    refine ⟨b, Ev.succ ?_, fun h => ⟨?_, hp h⟩⟩
    · simp only [petrinetlaw48_few.l1, rd_L1_get hi]
      exact Ev.pos (by omega) (Ev.pos (by omega) (Ev.neg (by omega) hb))
    · rw [List.drop_of_length_le (by omega)]; simp
  | succ d ih =>
    intro q hq hd
    have hqt : q < l[i].length := by omega
    by_cases h81 : q < 81
    · have hdec : decide ((q : Int) < 81) = true := decide_eq_true (by omega)
      by_cases hs : ((l[i][q].size : Nat) : Int) > 40
      · refine ⟨false, Ev.succ ?_, fun h => by cases h⟩
        simp only [petrinetlaw48_few.l1, rd_L1_get hi, hdec]
        refine Ev.pos (by omega) (Ev.pos (by omega) (Ev.pos (by omega) (Ev.succ ?_)))
        simp only [petrinetlaw48_few.j3, rd_L1_get hi, rdOf_get hqt]
        exact Ev.pos trivial (Ev.pos (by omega) (Ev.pos (by omega) (Ev.pos (by omega) (Ev.pos (by omega) (Ev.pos hs (Ev.now _))))))
      · obtain ⟨b, hb, hp⟩ := ih (q + 1) (by omega) (by omega)
        refine ⟨b, Ev.succ ?_, fun h => ⟨?_, (hp h).2⟩⟩
        · simp only [petrinetlaw48_few.l1, rd_L1_get hi, hdec]
          refine Ev.pos (by omega) (Ev.pos (by omega) (Ev.pos (by omega) (Ev.succ ?_)))
          simp only [petrinetlaw48_few.j3, rd_L1_get hi, rdOf_get hqt]
          rw [wrap_succ (i := q) (by omega)]
          exact Ev.pos trivial (Ev.pos (by omega) (Ev.pos (by omega) (Ev.pos (by omega) (Ev.pos (by omega) (Ev.neg hs hb)))))
        · intro s hs'
          rw [List.drop_eq_getElem_cons hqt] at hs'
          rcases List.mem_cons.1 hs' with rfl | h'
          · omega
          · exact (hp h).1 s h'
    · have hdec : decide ((q : Int) < 81) = false := decide_eq_false (by omega)
      obtain ⟨b, hb, hp⟩ := hlast q (.inr (by omega))
      refine ⟨b, Ev.succ ?_, fun h => ?_⟩
      · simp only [petrinetlaw48_few.l1, rd_L1_get hi, hdec]
        exact Ev.pos (by omega) (Ev.pos (by omega) (Ev.pos (by omega) hb))
      · have := (hp h).1; omega
theorem few_l0 (l : List (List ByteArray)) (hL : l.length ≤ 9223372036854775807) : ∀ (d i : Nat), i ≤ l.length → i ≤ 81 → l.length - i = d → total (l.take i) ≤ 80 * i →
    ∃ b, Ev (fun k => petrinetlaw48_few.l0 k l (total (l.take i) : Int) (i : Int)) b ∧ (b = true → l.length ≤ 80 ∧ total l ≤ 400 ∧ ∀ t ∈ l.drop i, t.length ≤ 80 ∧ ∀ s ∈ t, s.size ≤ 40) := by
  have hlast : ∀ i : Nat, i ≤ l.length → (l.length ≤ i ∨ 81 ≤ i) → ∃ b, Ev (fun k => petrinetlaw48_few.j1 k l (total (l.take i) : Int) (i : Int) false) b ∧ (b = true → l.length ≤ 80 ∧ total l ≤ 400 ∧ ∀ t ∈ l.drop i, t.length ≤ 80 ∧ ∀ s ∈ t, s.size ≤ 40) := by
    intro i hi hq
    by_cases h80 : (l.length : Int) ≤ 80
    · refine ⟨decide ((total (l.take i) : Int) ≤ 400), Ev.succ ?_, fun h => ?_⟩
      · simp only [petrinetlaw48_few.j1]
        exact Ev.neg (by decide) (Ev.pos h80 (Ev.now _))
      · obtain rfl : i = l.length := by omega
        rw [List.take_length] at h
        have := of_decide_eq_true h
        refine ⟨by omega, by omega, ?_⟩
        rw [List.drop_length]; simp
    · refine ⟨false, Ev.succ ?_, fun h => by cases h⟩
      simp only [petrinetlaw48_few.j1]
      exact Ev.neg (by decide) (Ev.neg h80 (Ev.now _))
  intro d
  induction d with
  | zero =>
    intro i hi h81 hd hn
    obtain ⟨b, hb, hp⟩ := hlast i hi (.inl (by omega))
    refine ⟨b, Ev.succ ?_, hp⟩
    simp only [petrinetlaw48_few.l0]
    exact Ev.neg (by omega) hb
  | succ d ih =>
    intro i hi h81 hd hn
    have hlt : i < l.length := by omega
    by_cases hi81 : i < 81
    · have hdec : decide ((i : Int) < 81) = true := decide_eq_true (by omega)
      have htk : total (l.take (i + 1)) = total (l.take i) + l[i].length := by rw [List.take_succ_eq_append_getElem hlt, total_snoc]
      obtain ⟨b, hb, hp⟩ := few_l1 l i hlt (wrap64 ((total (l.take i) : Int) + (l[i].length : Int))) (l.length ≤ 80 ∧ total l ≤ 400 ∧ ∀ t ∈ l.drop (i + 1), t.length ≤ 80 ∧ ∀ s ∈ t, s.size ≤ 40) hL (fun h => by
          rw [show wrap64 ((total (l.take i) : Int) + (l[i].length : Int)) = (total (l.take (i + 1)) : Int) by unfold wrap64; omega]
          exact ih (i + 1) (by omega) (by omega) (by omega) (by omega)) _ 0 (by omega) rfl
      refine ⟨b, Ev.succ ?_, fun h => ?_⟩
      · simp only [petrinetlaw48_few.l0, hdec]
        refine Ev.pos (by omega) (Ev.succ ?_)
        simp only [petrinetlaw48_few.j1, rd_L1_get hlt]
        exact Ev.pos trivial (Ev.pos (by omega) (Ev.pos (by omega) hb))
      · obtain ⟨h1, h2, h3, h4, h5⟩ := hp h
        refine ⟨h3, h4, fun t ht => ?_⟩
        rw [List.drop_eq_getElem_cons hlt] at ht
        rcases List.mem_cons.1 ht with rfl | ht
        · exact ⟨h2, fun s hs => h1 s (by rw [List.drop_zero]; exact hs)⟩
        · exact h5 t ht
    · have hdec : decide ((i : Int) < 81) = false := decide_eq_false (by omega)
      obtain ⟨b, hb, hp⟩ := hlast i hi (.inr (by omega))
      refine ⟨b, Ev.succ ?_, hp⟩
      simp only [petrinetlaw48_few.l0, hdec]
      exact Ev.pos (by omega) hb
/-- What the statements' reader tells of a log. -/
def LogOk (l : List (List ByteArray)) : Prop := l.length ≤ maxLen ∧ ∀ t ∈ l, t.length ≤ maxLen ∧ ∀ s ∈ t, s.size ≤ maxLen
theorem few (l : List (List ByteArray)) (hL : l.length ≤ 9223372036854775807) : ∃ b, Ev (fun k => petrinetlaw48_few.f k l) b ∧ (b = true → Few l) := by
  obtain ⟨b, hb, hp⟩ := few_l0 l hL _ 0 (by omega) (by omega) rfl (by simp [Logs.total])
  exact ⟨b, hb, fun h => ⟨(hp h).1, (hp h).2.1, (hp h).2.2⟩⟩

/-! ### Follows -/
/-- How often b comes directly after a in front of place j. -/
def fol (t : List ByteArray) (a b : ByteArray) : Nat → Nat
  | 0 => 0
  | j + 1 => fol t a b j + if 1 ≤ j ∧ t[j - 1]? = some a ∧ t[j]? = some b then 1 else 0
theorem fol_le (t : List ByteArray) (a b : ByteArray) : ∀ j, fol t a b j ≤ j
  | 0 => Nat.le_refl _
  | j + 1 => by have := fol_le t a b j; unfold fol; split <;> omega
theorem fol_stop (t : List ByteArray) (a b : ByteArray) : ∀ (d : Nat), fol t a b (t.length + d) = fol t a b t.length
  | 0 => rfl
  | d + 1 => by
    rw [← Nat.add_assoc, fol, fol_stop t a b d, if_neg, Nat.add_zero]
    rintro ⟨_, _, h⟩
    rw [List.getElem?_eq_none (by omega)] at h; cases h
def folL (l : List (List ByteArray)) (a b : ByteArray) : Nat → Nat
  | 0 => 0
  | i + 1 => folL l a b i + fol (l.getD i []) a b (l.getD i []).length
theorem folL_le {l : List (List ByteArray)} (h : ∀ t ∈ l, t.length ≤ 80) (a b : ByteArray) : ∀ i, folL l a b i ≤ 80 * i
  | 0 => by simp [folL]
  | i + 1 => by
    have h1 := folL_le h a b i
    have h2 := fol_le (l.getD i []) a b (l.getD i []).length
    have h3 : (l.getD i []).length ≤ 80 := by
      by_cases hi : i < l.length
      · rw [List.getD_eq_getElem?_getD, List.getElem?_eq_getElem hi]; exact h _ (List.getElem_mem hi)
      · rw [List.getD_eq_getElem?_getD, List.getElem?_eq_none (by omega)]; simp
    rw [folL]; omega
theorem fol_step {t : List ByteArray} {a b : ByteArray} {q : Nat} (h1 : 1 ≤ q) (hq : q < t.length) : fol t a b (q + 1) = fol t a b q + if (t[q - 1]'(by omega)).toList = a.toList ∧ t[q].toList = b.toList then 1 else 0 := by
  rw [fol, List.getElem?_eq_getElem hq, List.getElem?_eq_getElem (show q - 1 < t.length by omega)]
  simp only [Option.some.injEq, bytes_eq, h1, true_and]
theorem efol_l1 (l : List (List ByteArray)) (a b : ByteArray) (i : Nat) (t : List ByteArray) (ht : t.length ≤ 80) (n : Nat) (hn : n ≤ 100000) (L : Int) (R : Int)
    (hnext : Ev (fun k => eventlog_Follows.l0 k a b ((n + fol t a b t.length : Nat) : Int) l L (wrap64 ((i : Int) + 1))) R) : ∀ (d q : Nat), 1 ≤ q → t.length - q = d → Ev (fun k => eventlog_Follows.l1 k a b ((n + fol t a b q : Nat) : Int) t (q : Int) l L (i : Int)) R := by
  intro d
  induction d with
  | zero =>
    intro q h1 hd
    refine Ev.succ ?_
    simp only [eventlog_Follows.l1]
    refine Ev.neg (by omega) ?_
    obtain ⟨d, rfl⟩ : ∃ d, q = t.length + d := ⟨q - t.length, by omega⟩
    rw [fol_stop]
    exact hnext
  | succ d ih =>
    intro q h1 hd
    have hq : q < t.length := by omega
    have hle := fol_le t a b q
    have hih := ih (q + 1) (by omega) (by omega)
    rw [fol_step h1 hq] at hih
    refine Ev.succ ?_
    simp only [eventlog_Follows.l1]
    rw [wrap_pred h1 (by omega), rdOf_get hq, rdOf_get (show q - 1 < t.length by omega), wrap_succ (i := q) (by omega)]
    refine Ev.pos (by omega) (Ev.pos (by omega) (Ev.pos (by omega) ?_))
    by_cases ha : (t[q - 1]'(by omega)).toList = a.toList
    · refine Ev.pos ha (Ev.pos (by omega) ?_)
      by_cases hb : t[q].toList = b.toList
      · rw [if_pos ⟨ha, hb⟩] at hih
        rw [wrap_succ (by omega)]
        exact Ev.pos hb hih
      · rw [if_neg (fun h => hb h.2)] at hih
        exact Ev.neg hb hih
    · rw [if_neg (fun h => ha h.1)] at hih
      exact Ev.neg ha hih
theorem efol_l0 (l : List (List ByteArray)) (a b : ByteArray) (hl : l.length ≤ 80) (ht : ∀ t ∈ l, t.length ≤ 80) : ∀ (d i : Nat), i ≤ l.length → l.length - i = d → Ev (fun k => eventlog_Follows.l0 k a b (folL l a b i : Int) l (l.length : Int) (i : Int)) (folL l a b l.length : Int) := by
  intro d
  induction d with
  | zero =>
    intro i hi hd
    obtain rfl : i = l.length := by omega
    refine Ev.succ ?_
    simp only [eventlog_Follows.l0]
    exact Ev.neg (by omega) (Ev.now _)
  | succ d ih =>
    intro i hi hd
    have hlt : i < l.length := by omega
    have hle := folL_le ht a b i
    have hih := ih (i + 1) (by omega) (by omega)
    have hg : l.getD i [] = l[i] := by rw [List.getD_eq_getElem?_getD, List.getElem?_eq_getElem hlt]; rfl
    rw [folL, hg] at hih
    refine Ev.succ ?_
    simp only [eventlog_Follows.l0]
    refine Ev.pos (by omega) (Ev.pos (by omega) (Ev.pos (by omega) ?_))
    rw [rd_L1_get hlt]
    exact efol_l1 l a b i l[i] (ht _ (List.getElem_mem hlt)) (folL l a b i) (by omega) _ _ (by rw [wrap_succ (by omega)]; exact hih) _ 1 (Nat.le_refl _) rfl
theorem efollows {l : List (List ByteArray)} (h : Few l) (a b : ByteArray) : Ev (fun k => eventlog_Follows.f k l a b) (folL l a b l.length : Int) := efol_l0 l a b h.len (fun t ht => (h.each t ht).1) _ 0 (by omega) rfl
theorem rfol_l1 (l : List (List ByteArray)) (a b : ByteArray) (i : Nat) (hi : i < l.length) (ht : l[i].length ≤ 80) (n : Nat) (hn : n ≤ 100000) (R : Int)
    (hnext : Ev (fun k => petrinetref48_Follows.l0 k l a b ((n + fol l[i] a b l[i].length : Nat) : Int) (wrap64 ((i : Int) + 1))) R) : ∀ (d q : Nat), 1 ≤ q → l[i].length - q = d → Ev (fun k => petrinetref48_Follows.l1 k l a b ((n + fol l[i] a b q : Nat) : Int) (i : Int) (q : Int)) R := by
  intro d
  induction d with
  | zero =>
    intro q h1 hd
    refine Ev.succ ?_
    simp only [petrinetref48_Follows.l1, rd_L1_get hi]
    refine Ev.pos (by omega) (Ev.pos (by omega) (Ev.neg (by omega) ?_))
    obtain ⟨d, rfl⟩ : ∃ d, q = l[i].length + d := ⟨q - l[i].length, by omega⟩
    rw [fol_stop]
    exact hnext
  | succ d ih =>
    intro q h1 hd
    have hq : q < l[i].length := by omega
    have hle := fol_le l[i] a b q
    have hih := ih (q + 1) (by omega) (by omega)
    rw [fol_step h1 hq] at hih
    refine Ev.succ ?_
    simp only [petrinetref48_Follows.l1, rd_L1_get hi]
    rw [wrap_pred h1 (by omega), rdOf_get hq, rdOf_get (show q - 1 < l[i].length by omega), wrap_succ (i := q) (by omega)]
    refine Ev.pos (by omega) (Ev.pos (by omega) (Ev.pos (by omega) (Ev.pos (by omega) (Ev.pos (by omega) ?_))))
    by_cases ha : (l[i][q - 1]'(by omega)).toList = a.toList
    · refine Ev.pos ha (Ev.pos (by omega) ?_)
      by_cases hb : l[i][q].toList = b.toList
      · rw [if_pos ⟨ha, hb⟩] at hih
        rw [wrap_succ (by omega)]
        exact Ev.pos hb hih
      · rw [if_neg (fun h => hb h.2)] at hih
        exact Ev.neg hb hih
    · rw [if_neg (fun h => ha h.1)] at hih
      exact Ev.neg ha hih
theorem rfol_l0 (l : List (List ByteArray)) (a b : ByteArray) (hl : l.length ≤ 80) (ht : ∀ t ∈ l, t.length ≤ 80) : ∀ (d i : Nat), i ≤ l.length → l.length - i = d → Ev (fun k => petrinetref48_Follows.l0 k l a b (folL l a b i : Int) (i : Int)) (folL l a b l.length : Int) := by
  intro d
  induction d with
  | zero =>
    intro i hi hd
    obtain rfl : i = l.length := by omega
    refine Ev.succ ?_
    simp only [petrinetref48_Follows.l0]
    exact Ev.neg (by omega) (Ev.now _)
  | succ d ih =>
    intro i hi hd
    have hlt : i < l.length := by omega
    have hle := folL_le ht a b i
    have hih := ih (i + 1) (by omega) (by omega)
    have hg : l.getD i [] = l[i] := by rw [List.getD_eq_getElem?_getD, List.getElem?_eq_getElem hlt]; rfl
    rw [folL, hg] at hih
    refine Ev.succ ?_
    simp only [petrinetref48_Follows.l0]
    refine Ev.pos (by omega) ?_
    exact rfol_l1 l a b i hlt (ht _ (List.getElem_mem hlt)) (folL l a b i) (by omega) _ (by rw [wrap_succ (by omega)]; exact hih) _ 1 (Nat.le_refl _) rfl
theorem rfollows {l : List (List ByteArray)} (h : Few l) (a b : ByteArray) : Ev (fun k => petrinetref48_Follows.f k l a b) (folL l a b l.length : Int) := rfol_l0 l a b h.len (fun t ht => (h.each t ht).1) _ 0 (by omega) rfl
theorem erelation {l : List (List ByteArray)} (h : Few l) (a b : ByteArray) : Ev (fun k => eventlog_Relation.f k l a b) (relOf (folL l a b l.length : Int) (folL l b a l.length : Int)) :=
  Ev.bind (efollows h a b) (Ev.bind (efollows h b a) (Ev.now _))
theorem rrelation {l : List (List ByteArray)} (h : Few l) (a b : ByteArray) : Ev (fun k => petrinetref48_Relation.f k l a b) (relOf (folL l a b l.length : Int) (folL l b a l.length : Int)) :=
  Ev.bind (rfollows h a b) (Ev.bind (rfollows h b a) (Ev.now _))
end Go.Proofs.Ytaofommgdgmncaa.Logs

/- The names of a log: an ascending list. -/
namespace Go.Proofs.Ytaofommgdgmncaa.Logs
open Go.RowKit Go.Proofs.Ytaofommgdgmncaa.Pr Go.Proofs.Ytaofommgdgmncaa.Evs Go.Proofs.YtaofommgdgmncaaW.PrintWords Go.Proofs.YtaofommgdgmncaaW.PrintLast Go.Proofs.YtaofommgdgmncaaW.PrintMore
set_option linter.unusedVariables false
set_option linter.unusedSimpArgs false

/-! ### the order of texts -/
theorem bl_irrefl : ∀ x : List UInt8, Op.bytesLess x x = false
  | [] => rfl
  | a :: x => by
    have h : ¬ a < a := by rw [UInt8.lt_iff_toNat_lt]; omega
    simp [Op.bytesLess, h, bl_irrefl x]
theorem bl_trans : ∀ x y z : List UInt8, Op.bytesLess x y = true → Op.bytesLess y z = true → Op.bytesLess x z = true
  | x, y, [], _, h => by cases y <;> simp [Op.bytesLess] at h
  | x, [], _ :: _, h, _ => by cases x <;> simp [Op.bytesLess] at h
  | [], _ :: _, _ :: _, _, _ => rfl
  | a :: x, b :: y, c :: z, h1, h2 => by
    simp only [Op.bytesLess, Bool.or_eq_true, Bool.and_eq_true, decide_eq_true_eq, beq_iff_eq] at h1 h2 ⊢
    rcases h1 with h1 | ⟨rfl, h1⟩ <;> rcases h2 with h2 | ⟨rfl, h2⟩
    · left; rw [UInt8.lt_iff_toNat_lt] at *; omega
    · exact .inl h1
    · exact .inl h2
    · exact .inr ⟨rfl, bl_trans x y z h1 h2⟩
theorem bl_total : ∀ x y : List UInt8, Op.bytesLess x y = false → Op.bytesLess y x = false → x = y
  | [], [], _, _ => rfl
  | [], _ :: _, h, _ => by simp [Op.bytesLess] at h
  | _ :: _, [], _, h => by simp [Op.bytesLess] at h
  | a :: x, b :: y, h1, h2 => by
    simp only [Op.bytesLess, Bool.or_eq_false_iff, decide_eq_false_iff_not] at h1 h2
    have hab : a = b := by
      rw [← UInt8.toNat_inj]
      have h3 := h1.1; have h4 := h2.1
      rw [UInt8.lt_iff_toNat_lt] at h3 h4
      omega
    subst hab
    have e1 := h1.2; have e2 := h2.2
    simp at e1 e2
    rw [bl_total x y e1 e2]
theorem less_irrefl (a : ByteArray) : lessB a a = false := bl_irrefl _
theorem less_trans {a b c : ByteArray} (h : lessB a b = true) (k : lessB b c = true) : lessB a c = true := bl_trans _ _ _ h k
theorem less_total {a b : ByteArray} (h : lessB a b = false) (k : lessB b a = false) : a = b := (bytes_eq a b).1 (bl_total _ _ h k)

/-! ### insert -/
def ins : List ByteArray → ByteArray → List ByteArray
  | [], s => [s]
  | x :: xs, s => if lessB x s = true then x :: ins xs s else if x = s then x :: xs else s :: x :: xs
theorem insS_eq : ∀ (l : List ByteArray) (s : ByteArray), insS l s = ins l s
  | [], s => by simp [insS, posS, ins]
  | x :: xs, s => by
    have ih := insS_eq xs s
    unfold insS posS at ih ⊢
    unfold ins
    cases h : lessB x s with
    | true =>
      rw [List.takeWhile_cons, if_pos h, List.length_cons, List.getElem?_cons_succ, List.take_succ_cons, List.drop_succ_cons, if_pos rfl]
      rw [← ih]
      split <;> rfl
    | false =>
      have htw : (x :: xs).takeWhile (lessB · s) = [] := by simp [List.takeWhile_cons, h]
      rw [htw]
      simp only [List.length_nil, List.getElem?_cons_zero, Option.map_some, Option.some.injEq, bytes_eq, List.take_zero, List.drop_zero, List.nil_append, Bool.false_eq_true, if_false]
theorem ins_mem : ∀ (l : List ByteArray) (s y : ByteArray), y ∈ ins l s ↔ y = s ∨ y ∈ l
  | [], s, y => by simp [ins]
  | x :: xs, s, y => by
    unfold ins
    split
    · rw [List.mem_cons, ins_mem xs s y, List.mem_cons]
      constructor
      · rintro (h | h | h)
        · exact .inr (.inl h)
        · exact .inl h
        · exact .inr (.inr h)
      · rintro (h | h | h)
        · exact .inr (.inl h)
        · exact .inl h
        · exact .inr (.inr h)
    · split
      · rename_i hx
        subst hx
        simp
      · simp
theorem ins_len : ∀ (l : List ByteArray) (s : ByteArray), (ins l s).length ≤ l.length + 1
  | [], s => by simp [ins]
  | x :: xs, s => by
    have := ins_len xs s
    unfold ins
    split
    · simp only [List.length_cons]; omega
    · split <;> simp
/-- Ascending. -/
def Srt (l : List ByteArray) : Prop := l.Pairwise (fun a b => lessB a b = true)
theorem ins_srt : ∀ (l : List ByteArray) (s : ByteArray), Srt l → Srt (ins l s)
  | [], s, _ => by simp [ins, Srt]
  | x :: xs, s, h => by
    obtain ⟨h1, h2⟩ := List.pairwise_cons.1 h
    unfold ins
    split
    · rename_i hx
      refine List.pairwise_cons.2 ⟨fun y hy => ?_, ins_srt xs s h2⟩
      rcases (ins_mem xs s y).1 hy with rfl | hy
      · exact hx
      · exact h1 y hy
    · rename_i hx
      split
      · exact h
      · rename_i hne
        have hsx : lessB s x = true := by
          cases hs : lessB s x with
          | true => rfl
          | false => exact absurd (less_total (by simpa using hx) hs) hne
        refine List.pairwise_cons.2 ⟨fun y hy => ?_, h⟩
        rcases List.mem_cons.1 hy with rfl | hy
        · exact hsx
        · exact less_trans hsx (h1 y hy)
theorem ins_of_mem : ∀ (l : List ByteArray) (s : ByteArray), Srt l → s ∈ l → ins l s = l
  | [], s, _, h => by simp at h
  | x :: xs, s, h, hm => by
    obtain ⟨h1, h2⟩ := List.pairwise_cons.1 h
    unfold ins
    split
    · rename_i hx
      rcases List.mem_cons.1 hm with rfl | hm
      · rw [less_irrefl] at hx; cases hx
      · rw [ins_of_mem xs s h2 hm]
    · rename_i hx
      split
      · rfl
      · rename_i hne
        rcases List.mem_cons.1 hm with rfl | hm
        · exact absurd rfl hne
        · exact absurd (h1 s hm) hx
theorem srt_nodup {l : List ByteArray} (h : Srt l) : l.Nodup := by
  refine List.Pairwise.imp ?_ h
  rintro a b hab rfl
  rw [less_irrefl] at hab; cases hab

/-! ### what the two functions 'insert' tell -/
def hasB (l : List ByteArray) (s : ByteArray) : Bool := l.any (fun x => decide (x = s))
theorem hasB_iff {l : List ByteArray} {s : ByteArray} : hasB l s = true ↔ s ∈ l := by simp [hasB]
theorem hasB_not {l : List ByteArray} {s : ByteArray} (h : ¬ s ∈ l) : hasB l s = false := by cases e : hasB l s with | false => rfl | true => exact absurd (hasB_iff.1 e) h
theorem has_l0 (l : List ByteArray) (s : ByteArray) (hl : l.length < 9223372036854775807) : ∀ (d i : Nat), i ≤ l.length → l.length - i = d → (∀ x ∈ l.take i, ¬ x = s) → Ev (fun k => petrinetref48_Has.l0 k l s (i : Int)) (hasB l s) := by
  intro d
  induction d with
  | zero =>
    intro i hi hd hno
    obtain rfl : i = l.length := by omega
    rw [List.take_length] at hno
    refine Ev.succ ?_
    simp only [petrinetref48_Has.l0]
    rw [hasB_not (fun h => hno s h rfl)]
    exact Ev.neg (by omega) (Ev.now _)
  | succ d ih =>
    intro i hi hd hno
    have hlt : i < l.length := by omega
    refine Ev.succ ?_
    simp only [petrinetref48_Has.l0]
    rw [rdOf_get hlt, wrap_succ (by omega)]
    refine Ev.pos (by omega) (Ev.pos (by omega) ?_)
    by_cases h : l[i] = s
    · rw [hasB_iff.2 (by rw [← h]; exact List.getElem_mem hlt)]
      exact Ev.pos ((bytes_eq _ _).2 h) (Ev.now _)
    · refine Ev.neg (fun e => h ((bytes_eq _ _).1 e)) (ih (i + 1) (by omega) (by omega) (fun x hx => ?_))
      rw [List.take_succ_eq_append_getElem hlt] at hx
      rcases List.mem_append.1 hx with hx | hx
      · exact hno x hx
      · rw [List.mem_singleton.1 hx]; exact h
theorem rhas (l : List ByteArray) (s : ByteArray) (hl : l.length < 9223372036854775807) : Ev (fun k => petrinetref48_Has.f k l s) (hasB l s) := has_l0 l s hl _ 0 (by omega) rfl (by simp)
theorem insert_put (l : List ByteArray) (s : ByteArray) (hl : l.length ≤ 1099511627776) : ∀ (d i : Nat), i ≤ l.length → l.length - i = d → ∀ out : List ByteArray, out.length ≤ i + 1 → Ev (fun k => petrinetref48_Insert.l0 k l s out true (i : Int)) (out ++ l.drop i) := by
  intro d
  induction d with
  | zero =>
    intro i hi hd out ho
    obtain rfl : i = l.length := by omega
    refine Ev.succ ?_
    simp only [petrinetref48_Insert.l0]
    rw [List.drop_length, List.append_nil]
    exact Ev.neg (by omega) (Ev.pos trivial (Ev.now _))
  | succ d ih =>
    intro i hi hd out ho
    have hlt : i < l.length := by omega
    have hih := ih (i + 1) (by omega) (by omega) (out ++ [l[i]]) (by simp; omega)
    rw [List.append_assoc, List.singleton_append, ← List.drop_eq_getElem_cons hlt] at hih
    refine Ev.succ ?_
    simp only [petrinetref48_Insert.l0]
    rw [rdOf_get hlt, wrap_succ (by omega)]
    exact Ev.pos (by omega) (Ev.pos trivial (Ev.pos (by omega) (Ev.pos (by omega) hih)))
theorem insert_l0 (l : List ByteArray) (s : ByteArray) (hl : l.length ≤ 1099511627776) (hs : ¬ s ∈ l) : ∀ (d i : Nat), i ≤ l.length → l.length - i = d → ∀ out : List ByteArray, out.length ≤ i → Ev (fun k => petrinetref48_Insert.l0 k l s out false (i : Int)) (out ++ ins (l.drop i) s) := by
  intro d
  induction d with
  | zero =>
    intro i hi hd out ho
    obtain rfl : i = l.length := by omega
    refine Ev.succ ?_
    simp only [petrinetref48_Insert.l0]
    rw [List.drop_length]
    exact Ev.neg (by omega) (Ev.neg (by decide) (Ev.pos (by omega) (Ev.now _)))
  | succ d ih =>
    intro i hi hd out ho
    have hlt : i < l.length := by omega
    have hne : ¬ l[i] = s := fun e => hs (by rw [← e]; exact List.getElem_mem hlt)
    refine Ev.succ ?_
    simp only [petrinetref48_Insert.l0]
    rw [rdOf_get hlt, wrap_succ (by omega), List.drop_eq_getElem_cons hlt, ins]
    refine Ev.pos (by omega) (Ev.neg (by decide) (Ev.pos (by omega) ?_))
    cases h : lessB l[i] s with
    | true =>
      have h2 : ¬ Op.bytesLess s.toList l[i].toList = true := fun h3 => by
        have := less_trans h (show lessB s l[i] = true from h3)
        rw [less_irrefl] at this; cases this
      have hih := ih (i + 1) (by omega) (by omega) (out ++ [l[i]]) (by simp; omega)
      rw [List.append_assoc, List.singleton_append] at hih
      rw [if_pos rfl]
      exact Ev.neg h2 (Ev.pos (by omega) hih)
    | false =>
      have h2 : Op.bytesLess s.toList l[i].toList = true := by
        cases h3 : Op.bytesLess s.toList l[i].toList with
        | true => rfl
        | false => exact absurd (less_total h h3) hne
      rw [if_neg (by decide), if_neg hne]
      have hp := insert_put l s hl _ (i + 1) (by omega) rfl ((out ++ [s]) ++ [l[i]]) (by simp; omega)
      have e : ((out ++ [s]) ++ [l[i]]) ++ l.drop (i + 1) = out ++ s :: l[i] :: l.drop (i + 1) := by simp
      rw [← e]
      refine Ev.pos h2 (Ev.pos (by omega) ?_)
      simp only [Option.bind_some]
      exact Ev.pos (by simp; omega) hp
theorem rinsert (l : List ByteArray) (s : ByteArray) (hl : l.length ≤ 1099511627776) (hs : Srt l) : Ev (fun k => petrinetref48_Insert.f k l s) (ins l s) := by
  unfold petrinetref48_Insert.f
  refine Ev.bind (rhas l s (by omega)) ?_
  cases e : hasB l s with
  | true => rw [ins_of_mem l s hs (hasB_iff.1 e)]; exact Ev.pos rfl (Ev.now _)
  | false =>
    have h : ¬ s ∈ l := fun h => by rw [hasB_iff.2 h] at e; cases e
    exact Ev.neg (by decide) (insert_l0 l s hl h _ 0 (by omega) rfl [] (by simp))

/-! ### Activities -/
def acts (l : List (List ByteArray)) : List ByteArray := l.foldl (fun o t => t.foldl ins o) []
theorem acts_snoc (l : List (List ByteArray)) (t : List ByteArray) : acts (l ++ [t]) = t.foldl ins (acts l) := by simp [acts]
theorem foldIns_srt : ∀ (t o : List ByteArray), Srt o → Srt (t.foldl ins o)
  | [], o, h => h
  | x :: t, o, h => foldIns_srt t _ (ins_srt o x h)
theorem foldIns_len : ∀ (t o : List ByteArray), (t.foldl ins o).length ≤ o.length + t.length
  | [], o => by simp
  | x :: t, o => by
    have h1 := foldIns_len t (ins o x)
    have h2 := ins_len o x
    rw [List.foldl_cons, List.length_cons]; omega
theorem foldIns_mem : ∀ (t o : List ByteArray) (y : ByteArray), y ∈ t.foldl ins o ↔ y ∈ t ∨ y ∈ o
  | [], o, y => by simp
  | x :: t, o, y => by
    rw [List.foldl_cons, foldIns_mem t _ y, ins_mem, List.mem_cons]
    constructor
    · rintro (h | h | h)
      · exact .inl (.inr h)
      · exact .inl (.inl h)
      · exact .inr h
    · rintro ((h | h) | h)
      · exact .inr (.inl h)
      · exact .inl h
      · exact .inr (.inr h)
theorem actsFrom_srt : ∀ (l : List (List ByteArray)) (o : List ByteArray), Srt o → Srt (l.foldl (fun o t => t.foldl ins o) o)
  | [], o, h => h
  | t :: l, o, h => actsFrom_srt l _ (foldIns_srt t o h)
theorem acts_srt (l : List (List ByteArray)) : Srt (acts l) := actsFrom_srt l [] List.Pairwise.nil
theorem actsFrom_mem : ∀ (l : List (List ByteArray)) (o : List ByteArray) (y : ByteArray), y ∈ l.foldl (fun o t => t.foldl ins o) o ↔ (∃ t ∈ l, y ∈ t) ∨ y ∈ o
  | [], o, y => by simp
  | t :: l, o, y => by
    rw [List.foldl_cons, actsFrom_mem l _ y, foldIns_mem]
    simp only [List.mem_cons, exists_eq_or_imp, or_assoc]
    constructor
    · rintro (h | h | h)
      · exact .inr (.inl h)
      · exact .inl h
      · exact .inr (.inr h)
    · rintro (h | h | h)
      · exact .inr (.inl h)
      · exact .inl h
      · exact .inr (.inr h)
theorem acts_mem (l : List (List ByteArray)) (y : ByteArray) : y ∈ acts l ↔ ∃ t ∈ l, y ∈ t := by rw [acts, actsFrom_mem]; simp
/-- A log that is no longer than what a machine reads. -/
structure Small (l : List (List ByteArray)) : Prop where
  len : l.length ≤ 1048576
  total : total l ≤ 1048576
theorem Few.small {l : List (List ByteArray)} (h : Few l) : Small l := ⟨by have := h.len; omega, by have := h.total; omega⟩
theorem total_app_cons (a : List (List ByteArray)) (t : List ByteArray) (b : List (List ByteArray)) : total (a ++ t :: b) = total a + (t.length + total b) := by simp [Logs.total]
theorem total_take_le (l : List (List ByteArray)) (i : Nat) (hi : i < l.length) : total (l.take i) + l[i].length ≤ total l := by
  have h : l = l.take i ++ l[i] :: l.drop (i + 1) := by rw [← List.drop_eq_getElem_cons hi, List.take_append_drop]
  have h2 : total (l.take i ++ l[i] :: l.drop (i + 1)) = total (l.take i) + (l[i].length + total (l.drop (i + 1))) := total_app_cons _ _ _
  have h3 := congrArg Logs.total h
  omega
theorem acts_len (l : List (List ByteArray)) : ∀ i, i ≤ l.length → (acts (l.take i)).length ≤ total (l.take i) := by
  intro i
  induction i with
  | zero => intro _; simp [acts]
  | succ i ih =>
    intro hi
    have hlt : i < l.length := by omega
    have h1 := ih (by omega)
    have h2 := foldIns_len l[i] (acts (l.take i))
    rw [List.take_succ_eq_append_getElem hlt, acts_snoc, total_snoc]; omega
theorem eact_l1 (l : List (List ByteArray)) (i : Nat) (t : List ByteArray) (ht : t.length ≤ 1048576) (o : List ByteArray) (ho : o.length ≤ 1048576) (L : Int) (R : List ByteArray)
    (hnext : Ev (fun k => eventlog_Activities.l0 k (t.foldl ins o) l L (wrap64 ((i : Int) + 1))) R) : ∀ (d q : Nat), q ≤ t.length → t.length - q = d → Ev (fun k => eventlog_Activities.l1 k ((t.take q).foldl ins o) l L (i : Int) t (t.length : Int) (q : Int)) R := by
  intro d
  induction d with
  | zero =>
    intro q hq hd
    obtain rfl : q = t.length := by omega
    refine Ev.succ ?_
    simp only [eventlog_Activities.l1]
    rw [List.take_length]
    exact Ev.neg (by omega) hnext
  | succ d ih =>
    intro q hq hd
    have hlt : q < t.length := by omega
    have hih := ih (q + 1) (by omega) (by omega)
    have hln := foldIns_len (t.take q) o
    rw [List.length_take] at hln
    rw [List.take_succ_eq_append_getElem hlt, List.foldl_append] at hih
    refine Ev.succ ?_
    simp only [eventlog_Activities.l1]
    rw [rdOf_get hlt, wrap_succ (i := q) (by omega), eventlog_insert.f, if_pos (by omega), insS_eq]
    exact Ev.pos (by omega) (Ev.pos (by omega) (Ev.pos (by omega) hih))
theorem eact_l0 {l : List (List ByteArray)} (h : Small l) : ∀ (d i : Nat), i ≤ l.length → l.length - i = d → Ev (fun k => eventlog_Activities.l0 k (acts (l.take i)) l (l.length : Int) (i : Int)) (acts l) := by
  have hl := h.len
  have hT := h.total
  intro d
  induction d with
  | zero =>
    intro i hi hd
    obtain rfl : i = l.length := by omega
    refine Ev.succ ?_
    simp only [eventlog_Activities.l0]
    rw [List.take_length]
    exact Ev.neg (by omega) (Ev.now _)
  | succ d ih =>
    intro i hi hd
    have hlt : i < l.length := by omega
    have hih := ih (i + 1) (by omega) (by omega)
    have h1 := total_take_le l i hlt
    have h2 := acts_len l i (by omega)
    rw [List.take_succ_eq_append_getElem hlt, acts_snoc] at hih
    refine Ev.succ ?_
    simp only [eventlog_Activities.l0]
    rw [rd_L1_get hlt]
    refine Ev.pos (by omega) (Ev.pos (by omega) (Ev.pos (by omega) ?_))
    exact eact_l1 l i l[i] (by omega) (acts (l.take i)) (by omega) _ _ (by rw [wrap_succ (by omega)]; exact hih) _ 0 (by omega) rfl
theorem eacts {l : List (List ByteArray)} (h : Small l) : Ev (fun k => eventlog_Activities.f k l) (acts l) := eact_l0 h _ 0 (by omega) rfl
theorem ract_l1 (l : List (List ByteArray)) (i : Nat) (hi : i < l.length) (ht : l[i].length ≤ 1048576) (o : List ByteArray) (ho : o.length ≤ 1048576) (hs : Srt o) (R : List ByteArray)
    (hnext : Ev (fun k => petrinetref48_Activities.l0 k l (l[i].foldl ins o) (wrap64 ((i : Int) + 1))) R) : ∀ (d q : Nat), q ≤ l[i].length → l[i].length - q = d → Ev (fun k => petrinetref48_Activities.l1 k l ((l[i].take q).foldl ins o) (i : Int) (q : Int)) R := by
  intro d
  induction d with
  | zero =>
    intro q hq hd
    obtain rfl : q = l[i].length := by omega
    refine Ev.succ ?_
    simp only [petrinetref48_Activities.l1, rd_L1_get hi]
    rw [List.take_length]
    exact Ev.pos (by omega) (Ev.pos (by omega) (Ev.neg (by omega) hnext))
  | succ d ih =>
    intro q hq hd
    have hlt : q < l[i].length := by omega
    have hih := ih (q + 1) (by omega) (by omega)
    have hln := foldIns_len (l[i].take q) o
    rw [List.length_take] at hln
    rw [List.take_succ_eq_append_getElem hlt, List.foldl_append] at hih
    refine Ev.succ ?_
    simp only [petrinetref48_Activities.l1, rd_L1_get hi]
    rw [rdOf_get hlt, wrap_succ (i := q) (by omega)]
    exact Ev.pos (by omega) (Ev.pos (by omega) (Ev.pos (by omega) (Ev.pos (by omega) (Ev.bind (rinsert _ _ (by omega) (foldIns_srt _ _ hs)) hih))))
theorem ract_l0 {l : List (List ByteArray)} (h : Small l) : ∀ (d i : Nat), i ≤ l.length → l.length - i = d → Ev (fun k => petrinetref48_Activities.l0 k l (acts (l.take i)) (i : Int)) (acts l) := by
  have hl := h.len
  have hT := h.total
  intro d
  induction d with
  | zero =>
    intro i hi hd
    obtain rfl : i = l.length := by omega
    refine Ev.succ ?_
    simp only [petrinetref48_Activities.l0]
    rw [List.take_length]
    exact Ev.neg (by omega) (Ev.now _)
  | succ d ih =>
    intro i hi hd
    have hlt : i < l.length := by omega
    have hih := ih (i + 1) (by omega) (by omega)
    have h1 := total_take_le l i hlt
    have h2 := acts_len l i (by omega)
    rw [List.take_succ_eq_append_getElem hlt, acts_snoc] at hih
    refine Ev.succ ?_
    simp only [petrinetref48_Activities.l0]
    refine Ev.pos (by omega) ?_
    exact ract_l1 l i hlt (by omega) (acts (l.take i)) (by omega) (acts_srt _) _ (by rw [wrap_succ (by omega)]; exact hih) _ 0 (by omega) rfl
theorem racts {l : List (List ByteArray)} (h : Small l) : Ev (fun k => petrinetref48_Activities.f k l) (acts l) := ract_l0 h _ 0 (by omega) rfl
end Go.Proofs.Ytaofommgdgmncaa.Logs

/- The example that every statement on eventlog checks holds. -/
namespace Go.Proofs.Ytaofommgdgmncaa.Logs
set_option linter.unusedVariables false
set_option linter.unusedSimpArgs false
open Go.RowKit Go.Proofs.Ytaofommgdgmncaa.Pr Go.Proofs.Ytaofommgdgmncaa.Evs Go.Proofs.YtaofommgdgmncaaW.PrintWords Go.Proofs.YtaofommgdgmncaaW.PrintLast Go.Proofs.YtaofommgdgmncaaW.PrintMore
theorem alive_now : petrinetlaw48_alive.f 100 = some true := by decide +kernel
theorem alive : Ev (fun k => petrinetlaw48_alive.f k) true := Ev.of petrinetlaw48_alive.mono alive_now
theorem alive' : Ev (fun k => (petrinetlaw48_alive.f k).bind fun t => some t) true := Ev.bind alive (Ev.now _)
end Go.Proofs.Ytaofommgdgmncaa.Logs

/- For all logs that a machine reads: exchanging two names exchanges Causes and Caused, and Follows adds up to the steps. -/
namespace Go.Proofs.Ytaofommgdgmncaa.Pure
open Go.RowKit Go.Proofs.Ytaofommgdgmncaa.Pr Go.Proofs.Ytaofommgdgmncaa.Evs Go.Proofs.Ytaofommgdgmncaa.Logs Go.Proofs.YtaofommgdgmncaaW.PrintWords Go.Proofs.YtaofommgdgmncaaW.PrintLast Go.Proofs.YtaofommgdgmncaaW.PrintMore
set_option linter.unusedVariables false
set_option linter.unusedSimpArgs false

def S1 (A : List ByteArray) (g : ByteArray → Nat) : Nat := (A.map g).sum
def S2 (A : List ByteArray) (F : ByteArray → ByteArray → Nat) : Nat := S1 A fun a => S1 A (F a)
theorem S1_add (f g : ByteArray → Nat) : ∀ A : List ByteArray, S1 A (fun a => f a + g a) = S1 A f + S1 A g
  | [] => rfl
  | x :: A => by
    have := S1_add f g A
    simp only [S1, List.map_cons, List.sum_cons] at this ⊢
    omega
theorem S1_zero : ∀ A : List ByteArray, S1 A (fun _ => 0) = 0
  | [] => rfl
  | x :: A => by
    have := S1_zero A
    simp only [S1, List.map_cons, List.sum_cons] at this ⊢
    omega
theorem S1_congr {f g : ByteArray → Nat} (A : List ByteArray) (h : ∀ a, f a = g a) : S1 A f = S1 A g := by rw [show f = g from funext h]
theorem S1_out {x : ByteArray} {c : Nat} : ∀ A : List ByteArray, ¬ x ∈ A → S1 A (fun a => if a = x then c else 0) = 0
  | [], _ => rfl
  | y :: A, h => by
    have ih := S1_out (c := c) A (fun hm => h (List.mem_cons_of_mem _ hm))
    have hy : ¬ y = x := fun e => h (by rw [e]; exact List.mem_cons_self)
    simp only [S1, List.map_cons, List.sum_cons, if_neg hy] at ih ⊢
    omega
theorem S1_ind {x : ByteArray} {c : Nat} : ∀ A : List ByteArray, A.Nodup → x ∈ A → S1 A (fun a => if a = x then c else 0) = c
  | [], _, h => by simp at h
  | y :: A, hn, h => by
    obtain ⟨h1, h2⟩ := List.nodup_cons.1 hn
    by_cases hy : y = x
    · subst hy
      have := S1_out (c := c) A h1
      simp only [S1, List.map_cons, List.sum_cons, if_true] at this ⊢
      omega
    · have ih := S1_ind (c := c) A h2 (by rcases List.mem_cons.1 h with e | e; exact absurd e.symm hy; exact e)
      simp only [S1, List.map_cons, List.sum_cons, if_neg hy] at ih ⊢
      omega
theorem S2_add (A : List ByteArray) (F G : ByteArray → ByteArray → Nat) : S2 A (fun a b => F a b + G a b) = S2 A F + S2 A G := by
  unfold S2
  rw [← S1_add]
  exact S1_congr A fun a => S1_add _ _ A
theorem S2_zero (A : List ByteArray) : S2 A (fun _ _ => 0) = 0 := by
  unfold S2
  rw [S1_congr A fun a => S1_zero A, S1_zero]
theorem S2_ind {A : List ByteArray} {x y : ByteArray} (hn : A.Nodup) (hx : x ∈ A) (hy : y ∈ A) : S2 A (fun a b => if x = a ∧ y = b then 1 else 0) = 1 := by
  unfold S2
  rw [S1_congr (g := fun a => if a = x then 1 else 0) A fun a => ?_]
  · exact S1_ind A hn hx
  · by_cases h : a = x
    · subst h
      rw [if_pos rfl]
      rw [S1_congr (g := fun b => if b = y then 1 else 0) A fun b => by simp [eq_comm]]
      exact S1_ind A hn hy
    · rw [if_neg h, S1_congr (g := fun _ => 0) A fun b => if_neg (fun e => h e.1.symm)]
      exact S1_zero A
theorem fol_sum {A : List ByteArray} (hn : A.Nodup) (t : List ByteArray) (hm : ∀ y ∈ t, y ∈ A) : ∀ j, j ≤ t.length → S2 A (fun a b => fol t a b j) = j - 1 := by
  intro j
  induction j with
  | zero => intro _; exact S2_zero A
  | succ j ih =>
    intro hj
    have hlt : j < t.length := by omega
    have h1 := ih (by omega)
    rw [show (fun a b => fol t a b (j + 1)) = fun a b => fol t a b j + (if 1 ≤ j ∧ t[j - 1]? = some a ∧ t[j]? = some b then 1 else 0) from rfl, S2_add, h1]
    by_cases h0 : 1 ≤ j
    · have hp : j - 1 < t.length := by omega
      have : (fun a b => if 1 ≤ j ∧ t[j - 1]? = some a ∧ t[j]? = some b then 1 else 0) = fun a b => if t[j - 1] = a ∧ t[j] = b then (1 : Nat) else 0 := by
        funext a b
        rw [List.getElem?_eq_getElem hp, List.getElem?_eq_getElem hlt]
        simp only [Option.some.injEq, h0, true_and]
      rw [this, S2_ind hn (hm _ (List.getElem_mem hp)) (hm _ (List.getElem_mem hlt))]
      omega
    · have : (fun a b => if 1 ≤ j ∧ t[j - 1]? = some a ∧ t[j]? = some b then 1 else 0) = fun (_ _ : ByteArray) => (0 : Nat) := by
        funext a b
        exact if_neg (fun h => h0 h.1)
      rw [this, S2_zero]
      omega
/-- The steps of the first i traces. -/
def stepsTo (l : List (List ByteArray)) : Nat → Nat
  | 0 => 0
  | i + 1 => stepsTo l i + ((l.getD i []).length - 1)
theorem folL_sum {A : List ByteArray} (hn : A.Nodup) (l : List (List ByteArray)) (hm : ∀ t ∈ l, ∀ y ∈ t, y ∈ A) : ∀ i, S2 A (fun a b => folL l a b i) = stepsTo l i := by
  intro i
  induction i with
  | zero => exact S2_zero A
  | succ i ih =>
    rw [show (fun a b => folL l a b (i + 1)) = fun a b => folL l a b i + fol (l.getD i []) a b (l.getD i []).length from rfl, S2_add, ih, stepsTo]
    congr 1
    refine fol_sum hn _ (fun y hy => ?_) _ (Nat.le_refl _)
    by_cases hi : i < l.length
    · rw [List.getD_eq_getElem?_getD, List.getElem?_eq_getElem hi] at hy
      exact hm _ (List.getElem_mem hi) y hy
    · rw [List.getD_eq_getElem?_getD, List.getElem?_eq_none (by omega)] at hy
      simp at hy
theorem stepsTo_le {l : List (List ByteArray)} (h : ∀ t ∈ l, t.length ≤ 80) : ∀ i, i ≤ l.length → stepsTo l i ≤ 80 * i
  | 0, _ => by simp [stepsTo]
  | i + 1, hi => by
    have h1 := stepsTo_le h i (by omega)
    have h2 := h _ (List.getElem_mem (show i < l.length by omega))
    rw [stepsTo, List.getD_eq_getElem?_getD, List.getElem?_eq_getElem (show i < l.length by omega)]
    simp only [Option.getD_some]
    omega
theorem S1_take (A : List ByteArray) (g : ByteArray → Nat) {i : Nat} (h : i < A.length) : S1 (A.take (i + 1)) g = S1 (A.take i) g + g A[i] := by
  unfold S1
  rw [List.take_succ_eq_append_getElem h, List.map_append, List.sum_append, List.map_cons, List.map_nil, List.sum_cons, List.sum_nil, Nat.add_zero]
theorem S1_le {A : List ByteArray} {g : ByteArray → Nat} {c : Nat} (h : ∀ a, g a ≤ c) : ∀ i, i ≤ A.length → S1 (A.take i) g ≤ c * i
  | 0, _ => by simp [S1]
  | i + 1, hi => by
    have h1 := S1_le (A := A) h i (by omega)
    have h2 := h (A[i]'(by omega))
    rw [S1_take A g (show i < A.length by omega), Nat.mul_succ]
    omega
theorem mirror (x y : Int) : ((relOf x y == 1) != (relOf y x == 2)) = false ∧ ((relOf x y == 3) != (relOf y x == 3)) = false ∧ ((relOf x y == 0) != (relOf y x == 0)) = false := by
  unfold relOf
  by_cases h1 : x > 0 <;> by_cases h2 : y > 0 <;> simp [h1, h2]
section
variable {l : List (List ByteArray)} (h : Few l) (A : List ByteArray) (hA : A.length ≤ 12)
include h hA
theorem mir_l2 (i : Nat) (hi : i < A.length) (base steps : Nat) (hb : base ≤ 1000000) (hnext : Ev (fun k => petrinetlaw48_EventlogMirrors.l1 k l A ((base + S1 A (fun b => folL l A[i] b l.length) : Nat) : Int) (steps : Int) (wrap64 ((i : Int) + 1))) true) :
    ∀ (d q : Nat), q ≤ A.length → A.length - q = d → Ev (fun k => petrinetlaw48_EventlogMirrors.l2 k l A ((base + S1 (A.take q) (fun b => folL l A[i] b l.length) : Nat) : Int) (steps : Int) (i : Int) (q : Int)) true := by
  have hle : ∀ a b, folL l a b l.length ≤ 6400 := fun a b => by
    have := folL_le (fun t ht => (h.each t ht).1) a b l.length
    have := h.len
    omega
  intro d
  induction d with
  | zero =>
    intro q hq hd
    obtain rfl : q = A.length := by omega
    refine Ev.succ ?_
    simp only [petrinetlaw48_EventlogMirrors.l2]
    rw [List.take_length]
    exact Ev.neg (by omega) hnext
  | succ d ih =>
    intro q hq hd
    have hlt : q < A.length := by omega
    have hih := ih (q + 1) (by omega) (by omega)
    rw [S1_take A _ hlt] at hih
    have hs := S1_le (g := fun b => folL l A[i] b l.length) (A := A) (c := 6400) (fun b => hle _ b) q (by omega)
    have hf := hle A[i] A[q]
    refine Ev.succ ?_
    simp only [petrinetlaw48_EventlogMirrors.l2]
    rw [rdOf_get hi, rdOf_get hlt, wrap_succ (i := q) (by omega)]
    refine Ev.pos (by omega) (Ev.pos (by omega) (Ev.pos (by omega) (Ev.pos (by omega) ?_)))
    refine Ev.bind (efollows h _ _) (Ev.bind (erelation h _ _) (Ev.bind (erelation h _ _) ?_))
    obtain ⟨m1, m2, m3⟩ := mirror (folL l A[i] A[q] l.length : Int) (folL l A[q] A[i] l.length : Int)
    rw [m1, m2, m3]
    refine Ev.neg (by decide) (Ev.neg (by decide) (Ev.neg (by decide) ?_))
    have hw : wrap64 (((base + S1 (A.take q) (fun b => folL l A[i] b l.length) : Nat) : Int) + (folL l A[i] A[q] l.length : Int)) = ((base + (S1 (A.take q) (fun b => folL l A[i] b l.length) + folL l A[i] A[q] l.length) : Nat) : Int) := by unfold wrap64; omega
    rw [hw]
    exact hih
theorem mir_l1 (steps : Nat) (hsum : S2 A (fun a b => folL l a b l.length) = steps) : ∀ (d i : Nat), i ≤ A.length → A.length - i = d →
    Ev (fun k => petrinetlaw48_EventlogMirrors.l1 k l A ((S1 (A.take i) (fun a => S1 A (fun b => folL l a b l.length)) : Nat) : Int) (steps : Int) (i : Int)) true := by
  have hle : ∀ a b, folL l a b l.length ≤ 6400 := fun a b => by
    have := folL_le (fun t ht => (h.each t ht).1) a b l.length
    have := h.len
    omega
  have hrow : ∀ a, S1 A (fun b => folL l a b l.length) ≤ 76800 := fun a => by
    have := S1_le (g := fun b => folL l a b l.length) (A := A) (c := 6400) (fun b => hle _ b) A.length (Nat.le_refl _)
    rw [List.take_length] at this
    omega
  intro d
  induction d with
  | zero =>
    intro i hi hd
    obtain rfl : i = A.length := by omega
    refine Ev.succ ?_
    simp only [petrinetlaw48_EventlogMirrors.l1]
    rw [List.take_length]
    refine Ev.neg (by omega) (Ev.pos ?_ alive')
    exact congrArg Int.ofNat hsum
  | succ d ih =>
    intro i hi hd
    have hlt : i < A.length := by omega
    have hih := ih (i + 1) (by omega) (by omega)
    rw [S1_take A _ hlt] at hih
    have hs := S1_le (g := fun a => S1 A (fun b => folL l a b l.length)) (A := A) (c := 76800) hrow i (by omega)
    refine Ev.succ ?_
    simp only [petrinetlaw48_EventlogMirrors.l1]
    refine Ev.pos (by omega) ?_
    have := mir_l2 h A hA i hlt (S1 (A.take i) (fun a => S1 A (fun b => folL l a b l.length))) steps (by omega) (by rw [wrap_succ (by omega)]; exact hih) _ 0 (by omega) rfl
    exact this
end
theorem mir_l0 {l : List (List ByteArray)} (h : Few l) (A : List ByteArray) (hnext : Ev (fun k => petrinetlaw48_EventlogMirrors.l1 k l A 0 (stepsTo l l.length : Int) 0) true) : ∀ (d i : Nat), i ≤ l.length → l.length - i = d →
    Ev (fun k => petrinetlaw48_EventlogMirrors.l0 k l A 0 (stepsTo l i : Int) (i : Int)) true := by
  have hl := h.len
  intro d
  induction d with
  | zero =>
    intro i hi hd
    obtain rfl : i = l.length := by omega
    refine Ev.succ ?_
    simp only [petrinetlaw48_EventlogMirrors.l0]
    exact Ev.neg (by omega) hnext
  | succ d ih =>
    intro i hi hd
    have hlt : i < l.length := by omega
    have hih := ih (i + 1) (by omega) (by omega)
    have hti := (h.each _ (List.getElem_mem hlt)).1
    have hsi := stepsTo_le (fun t ht => (h.each t ht).1) i (by omega)
    have hg : l.getD i [] = l[i] := by rw [List.getD_eq_getElem?_getD, List.getElem?_eq_getElem hlt]; rfl
    rw [stepsTo, hg] at hih
    refine Ev.succ ?_
    simp only [petrinetlaw48_EventlogMirrors.l0]
    rw [rd_L1_get hlt, wrap_succ (by omega)]
    have hw : wrap64 ((stepsTo l i : Int) + mx 0 (wrap64 ((l[i].length : Int) - 1))) = ((stepsTo l i + (l[i].length - 1) : Nat) : Int) := by
      have h1 : wrap64 ((l[i].length : Int) - 1) = (l[i].length : Int) - 1 := by unfold wrap64; omega
      rw [h1]
      unfold mx wrap64
      split <;> omega
    rw [hw]
    exact Ev.pos (by omega) (Ev.pos (by omega) hih)
theorem mirrors (l : List (List ByteArray)) (hl : Small l) : ∃ k, petrinetlaw48_EventlogMirrors.f k l = some true := by
  apply Ev.rounds
  unfold petrinetlaw48_EventlogMirrors.f
  refine Ev.bind (eacts hl) ?_
  obtain ⟨bb, hbb, hF⟩ := few l (by have := hl.len; omega)
  refine Ev.bind hbb ?_
  have hyes : Ev (fun k => petrinetlaw48_EventlogMirrors.j0 k l (acts l) true) true := by
    refine Ev.succ ?_
    simp only [petrinetlaw48_EventlogMirrors.j0]
    exact Ev.pos trivial alive'
  cases bb with
  | false => exact Ev.neg (by decide) hyes
  | true =>
    have hf := hF rfl
    refine Ev.pos rfl (Ev.bind (racts hl) ?_)
    by_cases h12 : ((acts l).length : Int) > 12
    · rw [decide_eq_true h12]; exact hyes
    · rw [decide_eq_false h12]
      refine Ev.succ ?_
      simp only [petrinetlaw48_EventlogMirrors.j0]
      refine Ev.neg (by decide) ?_
      have hsum := folL_sum (srt_nodup (acts_srt l)) l (fun t ht y hy => (acts_mem l y).2 ⟨t, ht, hy⟩) l.length
      have h1 := mir_l1 hf (acts l) (by omega) (stepsTo l l.length) hsum _ 0 (by omega) rfl
      exact mir_l0 hf (acts l) h1 _ 0 (by omega) rfl
theorem small_of {l : List (List ByteArray)} (h : Bulk.measL (Bulk.measL fun s : ByteArray => s.size + 1) l ≤ 1048576) : Small l := by
  have h1 : ∀ t : List ByteArray, t.length ≤ (t.map fun s : ByteArray => s.size + 1).sum := by
    intro t
    induction t with
    | nil => simp
    | cons x t ih => rw [List.map_cons, List.sum_cons, List.length_cons]; omega
  have h2 : ∀ l : List (List ByteArray), l.length + total l ≤ (l.map (Bulk.measL fun s : ByteArray => s.size + 1)).sum := by
    intro l
    induction l with
    | nil => simp [Logs.total]
    | cons t l ih =>
      have := h1 t
      rw [List.map_cons, List.sum_cons, List.length_cons, Bulk.measL]
      have e : total (t :: l) = t.length + total l := by simp [Logs.total]
      omega
  have := h2 l
  have h3 : (l.map (Bulk.measL fun s : ByteArray => s.size + 1)).sum + 1 ≤ 1048576 := h
  exact ⟨by omega, by omega⟩
theorem EventlogMirrors (l : List (List ByteArray)) (h : (l.length ≤ maxLen ∧ ∀ t ∈ l, t.length ≤ maxLen ∧ ∀ s ∈ t, s.size ≤ maxLen) ∧ Bulk.measL (Bulk.measL fun s : ByteArray => s.size + 1) l ≤ 1048576) : ∃ k, petrinetlaw48_EventlogMirrors.f k l = some true :=
  mirrors l (small_of h.2)

end Go.Proofs.Ytaofommgdgmncaa.Pure
