/- For all color sets and transitions with at most 300 bindings, All of package binding returns what the reference returns. -/
import Derived.Test.YtapkjfnfkalibaaQBindingLists0
import Derived.Test.YtapkjfnfkalibaaQBindingLists1
import Derived.Test.YtapkjfnfkalibaaQBindingLists2
import Derived.Test.YtapkjfnfkalibaaQBindingLists3
import Derived.Test.YtapkjfnfkalibaaQBindingLists4
import Derived.Test.YtapkjfnfkalibaaBBindingLists
import Derived.Test.YtapkjfnfkalibaaVBindingLists
import Derived.Deep.Slices
import Derived.ChangeArms
/- General lemmas of this seat's proofs, in one text. -/
/- What the references' Name answers: the same of bytes as Names.nameB. -/
namespace Go.Proofs.Ytapkjfnfkalibaa.RName
open Go.RowKit Go.Proofs.Ytapkjfnfkalibaa.Pr Go.Proofs.Ytapkjfnfkalibaa.Evs Go.Proofs.Ytapkjfnfkalibaa.Names Go.Proofs.YtapkjfnfkalibaaW.PrintWords Go.Proofs.YtapkjfnfkalibaaW.PrintLast Go.Proofs.YtapkjfnfkalibaaW.PrintMore
set_option linter.unusedVariables false
set_option linter.unusedSimpArgs false

theorem bt_byte {s : ByteArray} {i : Nat} (h : i < s.size) : bt s (i : Int) = (byteAt s i : Int) := by
 rw [byteAt_get s i h]
 simp [bt, h]
set_option maxHeartbeats 2000000 in
theorem name_l0 (s : ByteArray) (h1 : 1 ≤ s.size) (h16 : s.size ≤ 16) : ∀ (d i : Nat), i ≤ s.size → s.size - i = d → (∀ j, j < i → okB j (byteAt s j) = true) → Ev (fun k => r09_Name.l0 k s (i : Int)) (nameB s) := by
 intro d
 induction d with
 | zero =>
  intro i hi hd hok
  obtain rfl : i = s.size := by omega
  refine Ev.succ ?_
  simp only [r09_Name.l0]
  exact Ev.neg (by omega) (Ev.val (nameB_true h1 h16 hok).symm)
 | succ d ih =>
  intro i hi hd hok
  have hlt : i < s.size := by omega
  have hb := bt_byte hlt
  obtain ⟨c, hc⟩ : ∃ c, byteAt s i = c := ⟨_, rfl⟩
  rw [hc] at hb
  have hgo : okB i c = true → Ev (fun k => r09_Name.l0 k s (wrap64 ((i : Int) + 1))) (nameB s) := by
   intro hk
   rw [wrap_succ (by omega)]
   refine ih (i + 1) (by omega) (by omega) (fun j hj => ?_)
   by_cases hji : j = i
   ·subst hji; rw [hc]; exact hk
   ·exact hok j (by omega)
  have hstop : okB i c = false → Ev (fun _ : Nat => some false) (nameB s) := fun hk => Ev.val (nameB_false hlt (by rw [hc]; exact hk)).symm
  refine Ev.succ ?_
  simp only [r09_Name.l0, hb]
  refine Ev.pos (by omega) (Ev.pos (by omega) ?_)
  repeat' (refine Ev.ite (fun _ => ?_) (fun _ => ?_))
  all_goals first
   | exact hgo (okB_of (by omega))
   | exact hstop (okB_not (by omega))
   | (exfalso; omega)
theorem rname (s : ByteArray) : Ev (fun k => r09_Name.f k s) (nameB s) := by
 unfold r09_Name.f
 have hj : ∀ b : Bool, (b = true → nameB s = false) → (b = false → 1 ≤ s.size ∧ s.size ≤ 16) → Ev (fun k => r09_Name.j0 k s b) (nameB s) := by
  intro b ht hf
  refine Ev.succ ?_
  simp only [r09_Name.j0]
  refine Ev.ite (fun h => Ev.val (ht h).symm) (fun h => ?_)
  obtain ⟨h1, h2⟩ := hf (by simpa using h)
  exact name_l0 s h1 h2 _ 0 (by omega) rfl (fun j hj => by omega)
 refine Ev.ite (fun h => hj true (fun _ => ?_) (fun h => by cases h)) (fun h => hj _ (fun h2 => ?_) (fun h2 => ?_))
 ·unfold nameB; rw [decide_eq_false (show ¬ 1 ≤ s.size by omega)]; rfl
 ·have h3 := of_decide_eq_true h2
  unfold nameB; rw [decide_eq_false (show ¬ s.size ≤ 16 by omega)]; simp
 ·have h3 := of_decide_eq_false h2
  omega
end Go.Proofs.Ytapkjfnfkalibaa.RName

/- A datum that is read deep (the statements' reader) told as the walks tell it: rows of rows, texts, numbers. -/
namespace Go.Proofs.Ytapkjfnfkalibaa.Opens
set_option linter.unusedVariables false
open Go.RowKit Go.WideShapes Go.Deep Go.Proofs.YtapkjfnfkalibaaW.PrintWords

/-- What the statements' reader finds at cells of type t is what d tells of some a with ok. -/
structure Opens {α H : Type} (enc : TypeId × Value → H) (P : Program) (w : World) (base : Nat) (spare : Nat → Bool) (held : Bool) (d : Kd α) (t : TypeId) (ok : α → Prop) : Prop where
 cells : P.cellsOf t = d.sz
 opens : ∀ (fuel : Nat) (cs : List Value) (x : DataW H × List MemPlace), DataW.trod enc P w base spare held fuel t cs = some x → ∃ a, d.K w a cs ∧ ok a

section
variable {H : Type} {enc : TypeId × Value → H} {P : Program} {w : World} {base : Nat} {spare : Nat → Bool} {held : Bool}
theorem string {t : TypeId} (ht : P.underlying t = some .string) (hc : P.cellsOf t = 1) : Opens enc P w base spare held Kd.string t (fun s => s.size ≤ maxLen) :=
 ⟨hc, fun fuel cs x h => by obtain ⟨s, rfl, _, hs⟩ := DataW.trod_string ht h; exact ⟨s, rfl, hs⟩⟩
theorem bool {t : TypeId} (ht : P.underlying t = some .bool) (hc : P.cellsOf t = 1) : Opens enc P w base spare held Kd.bool t (fun _ => True) :=
 ⟨hc, fun fuel cs x h => by obtain ⟨s, rfl, _⟩ := DataW.trod_bool ht h; exact ⟨s, rfl, trivial⟩⟩
theorem int {t : TypeId} {k : IntKind} (ht : P.underlying t = some (.int k)) (hc : P.cellsOf t = 1) : Opens enc P w base spare held (Kd.int k) t (fun n => (Lit.int k n).wf = true) :=
 ⟨hc, fun fuel cs x h => by obtain ⟨s, rfl, _, hs⟩ := DataW.trod_int ht h; exact ⟨s, rfl, hs⟩⟩
theorem list_of {α : Type} {p : Nat → α → Prop} : ∀ (n : Nat), (∀ i, i < n → ∃ a, p i a) → ∃ xs : List α, xs.length = n ∧ ∀ i a, xs[i]? = some a → p i a
 | 0, _ => ⟨[], rfl, fun i a h => by simp at h⟩
 | n + 1, h => by
  obtain ⟨xs, hl, hx⟩ := list_of n (fun i hi => h i (by omega))
  obtain ⟨a, ha⟩ := h n (by omega)
  refine ⟨xs ++ [a], by simp [hl], fun i b hb => ?_⟩
  by_cases hi : i < xs.length
  ·rw [List.getElem?_append_left hi] at hb; exact hx i b hb
  ·have hlt := (List.getElem?_eq_some_iff.1 hb).1
   simp only [List.length_append, List.length_cons, List.length_nil] at hlt
   obtain rfl : i = n := by omega
   rw [List.getElem?_append_right (by omega)] at hb
   simp [hl] at hb
   rw [← hb]; exact ha
theorem slice {α : Type} {d : Kd α} {t e : TypeId} {ok : α → Prop} (h : Opens enc P w base spare held d e ok) (ht : P.underlying t = some (.slice e)) (hc : P.cellsOf t = 1) :
  Opens enc P w base spare held (Kd.slice e d) t (fun xs => xs.length ≤ maxLen ∧ ∀ x ∈ xs, ok x) := by
 refine ⟨hc, fun fuel cs x hx => ?_⟩
 rcases open_slice ht hx with ⟨rfl, _⟩ | ⟨a, len, cap, m, n, D, Pl, rfl, _, hl, hm, hmm, _, hi⟩
 ·exact ⟨[], ⟨none, 0, rfl, Nat.le_refl _, Kd.C_nil _ _⟩, by simp, by simp⟩
 ·have hlm : len ≤ m := by rw [hmm]; split <;> omega
  obtain ⟨xs, hxl, hxs⟩ := list_of (p := fun i b => ∃ c, c.length = d.sz ∧ d.K w b c ∧ ok b ∧ ∀ j u, c[j]? = some u → w.cell? (a.add (i * d.sz + j)) = some u) len (fun i hlt => by
   obtain ⟨cs', h1, h2⟩ := hi i (by omega)
   obtain ⟨b, hK, hok⟩ := h.opens _ _ _ h2
   obtain ⟨_, hlen, hcell⟩ := World.cells?_some h1
   refine ⟨b, cs', by rw [hlen, h.cells], hK, hok, fun j u hu => ?_⟩
   have hj := (List.getElem?_eq_some_iff.1 hu).1
   rw [← hu, ← hcell j (by omega), h.cells, Addr.add_add])
  subst hxl
  refine ⟨xs, ⟨some a, cap, rfl, hl, rfl, by unfold maxLen at hm; omega, fun _ => ⟨a, rfl, fun j p hp => ?_⟩⟩, by omega, fun y hy => ?_⟩
  ·obtain ⟨c, h1, h2, _, h4⟩ := hxs j p hp
   exact ⟨c, h1, h2, h4⟩
  ·obtain ⟨j, hj⟩ := List.mem_iff_getElem?.1 hy
   obtain ⟨c, _, _, h3, _⟩ := hxs j y hj
   exact h3
/-- A parameter that is a row. -/
theorem param {α : Type} {d : Kd α} {t e : TypeId} {ok : α → Prop} (h : Opens enc P w base spare held d e ok) (ht : P.underlying t = some (.slice e)) (hc : P.cellsOf t = 1) {a : Option Addr} {len cap : Nat} {D : DataW H} {ps : List MemPlace}
  (hd : DataW.Trod enc P w base spare held t (.slice a len cap) D ps) : ∃ xs : List α, len = xs.length ∧ xs.length ≤ cap ∧ d.C w a xs.length xs ∧ xs.length ≤ maxLen ∧ ∀ x ∈ xs, ok x := by
 obtain ⟨fuel, hf⟩ := hd
 obtain ⟨xs, ⟨A, c, he, hcap, hC⟩, hl, hx⟩ := (slice h ht hc).opens _ _ _ hf
 have he' : [Value.slice a len cap] = [.slice A xs.length c] := he
 simp only [List.cons.injEq, Value.slice.injEq, and_true] at he'
 obtain ⟨rfl, rfl, rfl⟩ := he'
 exact ⟨xs, rfl, hcap, hC, hl, hx⟩
/-! ### Structs -/
/-- The fields of a struct, from some place of its cells on. -/
structure OpensL {α H : Type} (enc : TypeId × Value → H) (P : Program) (w : World) (base : Nat) (spare : Nat → Bool) (held : Bool) (d : Kd α) (fs : List Field) (o : Nat) (ok : α → Prop) : Prop where
 opens : ∀ (n : Nat) (cs : List Value), (∀ f ∈ fs, ∃ y, DataW.trod enc P w base spare held n f.type ((cs.drop f.offset).take (P.cellsOf f.type)) = some y) → ∃ a, d.K w a ((cs.drop o).take d.sz) ∧ ok a
theorem one {α : Type} {d : Kd α} {f : Field} {o : Nat} {ok : α → Prop} (h : Opens enc P w base spare held d f.type ok) (ho : f.offset = o) : OpensL enc P w base spare held d [f] o ok :=
 ⟨fun n cs hf => by
  obtain ⟨y, hy⟩ := hf f List.mem_cons_self
  obtain ⟨a, hK, hok⟩ := h.opens _ _ _ hy
  rw [h.cells, ho] at hK
  exact ⟨a, hK, hok⟩⟩
theorem cons {α β : Type} {d1 : Kd α} {d2 : Kd β} {f : Field} {fs : List Field} {o o2 : Nat} {ok1 : α → Prop} {ok2 : β → Prop} (h : Opens enc P w base spare held d1 f.type ok1) (ho : f.offset = o) (ho2 : o + d1.sz = o2) (h2 : OpensL enc P w base spare held d2 fs o2 ok2) :
  OpensL enc P w base spare held (Kd.pair d1 d2) (f :: fs) o (fun a => ok1 a.1 ∧ ok2 a.2) :=
 ⟨fun n cs hf => by
  obtain ⟨y, hy⟩ := hf f List.mem_cons_self
  obtain ⟨a, hK, hok⟩ := h.opens _ _ _ hy
  rw [h.cells, ho] at hK
  obtain ⟨b, hK2, hok2⟩ := h2.opens n cs (fun g hg => hf g (List.mem_cons_of_mem _ hg))
  refine ⟨(a, b), ⟨_, _, ?_, hK, hK2⟩, hok, hok2⟩
  rw [← ho2, ← List.drop_drop]
  exact List.take_add⟩
theorem tuple {α : Type} {d : Kd α} {t : TypeId} {fs : Array Field} {ok : α → Prop} (ht : P.underlying t = some (.struct fs)) (hc : P.cellsOf t = d.sz) (h : OpensL enc P w base spare held d fs.toList 0 ok) : Opens enc P w base spare held d t ok := by
 refine ⟨hc, fun fuel cs x hx => ?_⟩
 obtain ⟨xs, n, rfl, rfl, hl, hlen, hf⟩ := DataW.trod_struct ht hx
 obtain ⟨a, hK, hok⟩ := h.opens n cs (fun f hm => by
  obtain ⟨i, hi⟩ := List.mem_iff_getElem?.1 hm
  have hi' : fs[i]? = some f := by simpa using hi
  have hlt : i < xs.length := by rw [hlen]; exact (Array.getElem?_eq_some_iff.1 hi').1
  exact ⟨xs[i], by rw [hf i f hi', List.getElem?_eq_getElem hlt]⟩)
 rw [List.drop_zero, List.take_of_length_le (by rw [hl, hc]; exact Nat.le_refl _)] at hK
 exact ⟨a, hK, hok⟩
theorem struct {α β : Type} {d : Kd α} {t : TypeId} {fs : Array Field} {ok : α → Prop} {f : β → α} (g : α → β) (hg : ∀ a, f (g a) = a) (ht : P.underlying t = some (.struct fs)) (hc : P.cellsOf t = d.sz) (h : OpensL enc P w base spare held d fs.toList 0 ok) :
  Opens enc P w base spare held (Kd.iso d f) t (fun b => ok (f b)) := by
 refine ⟨hc, fun fuel cs x hx => ?_⟩
 obtain ⟨a, hK, hok⟩ := (tuple ht hc h).opens fuel cs x hx
 exact ⟨g a, by show d.K w (f (g a)) cs; rw [hg]; exact hK, by rw [hg]; exact hok⟩
/-- A parameter that is a struct. -/
theorem value {α : Type} {d : Kd α} {t : TypeId} {ok : α → Prop} (h : Opens enc P w base spare held d t ok) {cs : Array Value} {D : DataW H} {ps : List MemPlace}
  (hd : DataW.Trod enc P w base spare held t (.agg cs) D ps) : ∃ a, d.K w a cs.toList ∧ ok a := by
 obtain ⟨fuel, hf⟩ := hd
 obtain ⟨a, hK, hok⟩ := h.opens _ _ _ hf
 exact ⟨a, by simpa [Value.cells] using hK, hok⟩
end
end Go.Proofs.Ytapkjfnfkalibaa.Opens

/- Chapter 40: Check and CheckTerms, of the program and of the reference. -/
namespace Go.Proofs.Ytapkjfnfkalibaa.BChk
open Go.RowKit Go.Proofs.Ytapkjfnfkalibaa.Pr Go.Proofs.Ytapkjfnfkalibaa.Evs Go.Proofs.Ytapkjfnfkalibaa.Names Go.Proofs.Ytapkjfnfkalibaa.RName Go.Proofs.YtapkjfnfkalibaaW.PrintWords Go.Proofs.YtapkjfnfkalibaaW.PrintLast Go.Proofs.YtapkjfnfkalibaaW.PrintMore
set_option linter.unusedVariables false
set_option linter.unusedSimpArgs false
abbrev CS := S51
abbrev CV := S48
abbrev CG := S62
abbrev CA := S111

set_option maxHeartbeats 2000000 in
theorem name39_l0 (s : ByteArray) (h1 : 1 ≤ s.size) (h16 : s.size ≤ 16) : ∀ (d i : Nat), i ≤ s.size → s.size - i = d → (∀ j, j < i → okB j (byteAt s j) = true) → Ev (fun k => r39_Name.l0 k s (i : Int)) (nameB s) := by
 intro d
 induction d with
 | zero =>
  intro i hi hd hok
  obtain rfl : i = s.size := by omega
  refine Ev.succ ?_
  simp only [r39_Name.l0]
  exact Ev.neg (by omega) (Ev.val (nameB_true h1 h16 hok).symm)
 | succ d ih =>
  intro i hi hd hok
  have hlt : i < s.size := by omega
  have hb := bt_byte hlt
  obtain ⟨c, hc⟩ : ∃ c, byteAt s i = c := ⟨_, rfl⟩
  rw [hc] at hb
  have hgo : okB i c = true → Ev (fun k => r39_Name.l0 k s (wrap64 ((i : Int) + 1))) (nameB s) := by
   intro hk
   rw [wrap_succ (by omega)]
   refine ih (i + 1) (by omega) (by omega) (fun j hj => ?_)
   by_cases hji : j = i
   ·subst hji; rw [hc]; exact hk
   ·exact hok j (by omega)
  have hstop : okB i c = false → Ev (fun _ : Nat => some false) (nameB s) := fun hk => Ev.val (nameB_false hlt (by rw [hc]; exact hk)).symm
  refine Ev.succ ?_
  simp only [r39_Name.l0, hb]
  refine Ev.pos (by omega) (Ev.pos (by omega) ?_)
  repeat' (refine Ev.ite (fun _ => ?_) (fun _ => ?_))
  all_goals first
   | exact hgo (okB_of (by omega))
   | exact hstop (okB_not (by omega))
   | (exfalso; omega)
theorem rname39 (s : ByteArray) : Ev (fun k => r39_Name.f k s) (nameB s) := by
 unfold r39_Name.f
 have hj : ∀ b : Bool, (b = true → nameB s = false) → (b = false → 1 ≤ s.size ∧ s.size ≤ 16) → Ev (fun k => r39_Name.j0 k s b) (nameB s) := by
  intro b ht hf
  refine Ev.succ ?_
  simp only [r39_Name.j0]
  refine Ev.ite (fun h => Ev.val (ht h).symm) (fun h => ?_)
  obtain ⟨h1, h2⟩ := hf (by simpa using h)
  exact name39_l0 s h1 h2 _ 0 (by omega) rfl (fun j hj => by omega)
 refine Ev.ite (fun h => hj true (fun _ => ?_) (fun h => by cases h)) (fun h => hj _ (fun h2 => ?_) (fun h2 => ?_))
 ·unfold nameB; rw [decide_eq_false (show ¬ 1 ≤ s.size by omega)]; rfl
 ·have h3 := of_decide_eq_true h2
  unfold nameB; rw [decide_eq_false (show ¬ s.size ≤ 16 by omega)]; simp
 ·have h3 := of_decide_eq_false h2
  omega

theorem rd51 {x : List CS} {i : Nat} (h : i < x.length) : rd_T51 x (i : Int) = x[i] := by simp [rd_T51, h]
theorem rd48 {x : List CV} {i : Nat} (h : i < x.length) : rd_T48 x (i : Int) = x[i] := by simp [rd_T48, h]
theorem rd62 {x : List CG} {i : Nat} (h : i < x.length) : rd_T62 x (i : Int) = x[i] := by simp [rd_T62, h]
theorem same_iff {a b : ByteArray} : sameB a b = true ↔ a.toList = b.toList := by simp [sameB]
theorem data_iff (a b : ByteArray) : a.data.toList = b.data.toList ↔ a.toList = b.toList := by rw [ByteArray.toList_eq, ByteArray.toList_eq]

/-- The first place of a name in a list that holds it. -/
theorem rfind (a : ByteArray) (l : List ByteArray) (v : ByteArray) (hl : l.length < 4611686018427387904) (i : Nat) (hi : i < l.length) (hv : l[i] = v) :
  ∃ r : Int, Ev (fun k => r39_Find.f k a l v) r ∧ (r < (i : Int) ↔ hasK (l.take i) v = true) := by
 have hk : ∀ d j, i - j = d → j ≤ i → (∀ n, n < j → ∀ h : n < l.length, (l[n]).toList ≠ v.toList) →
   ∃ r : Int, Ev (fun k => r39_Find.l0 k v (j : Int) a l) r ∧ (r < (i : Int) ↔ hasK (l.take i) v = true) := by
  intro d
  induction d with
  | zero =>
   intro j hd hj hn
   obtain rfl : j = i := by omega
   refine ⟨(j : Int), ?_, ?_⟩
   ·refine Ev.succ ?_
    simp only [r39_Find.l0]
    refine Ev.pos (by omega) (Ev.pos (by omega) ?_)
    rw [rdOf_get hi, hv]
    exact Ev.pos rfl (Ev.now _)
   ·refine ⟨fun h => absurd h (by omega), fun h => ?_⟩
    exfalso
    simp only [hasK, List.any_eq_true, decide_eq_true_eq] at h
    obtain ⟨x, hx, he⟩ := h
    obtain ⟨n, hn', rfl⟩ := List.mem_iff_getElem.1 hx
    simp only [List.length_take] at hn'
    rw [List.getElem_take] at he
    exact hn n (by omega) (by omega) ((data_iff _ _).1 he)
  | succ d ih =>
   intro j hd hj hn
   have hjl : j < l.length := by omega
   by_cases he : (l[j]).toList = v.toList
   ·refine ⟨(j : Int), ?_, ?_⟩
    ·refine Ev.succ ?_
     simp only [r39_Find.l0]
     refine Ev.pos (by omega) (Ev.pos (by omega) ?_)
     rw [rdOf_get hjl]
     exact Ev.pos he (Ev.now _)
    ·refine ⟨fun _ => ?_, fun _ => by omega⟩
     simp only [hasK, List.any_eq_true, decide_eq_true_eq]
     refine ⟨l[j], ?_, (data_iff _ _).2 he⟩
     exact List.mem_iff_getElem.2 ⟨j, by simp only [List.length_take]; omega, by rw [List.getElem_take]⟩
   ·obtain ⟨r, hr, hi'⟩ := ih (j + 1) (by omega) (by omega) (fun n hn' h => by
     by_cases hnj : n = j
     ·subst hnj; exact he
     ·exact hn n (by omega) h)
    refine ⟨r, ?_, hi'⟩
    refine Ev.succ ?_
    simp only [r39_Find.l0]
    refine Ev.pos (by omega) (Ev.pos (by omega) ?_)
    rw [rdOf_get hjl]
    refine Ev.neg he ?_
    rw [wrap_succ (by omega)]
    exact hr
 exact hk _ 0 rfl (by omega) (fun n hn _ => by omega)

theorem rcheck39_l0 (a : ByteArray) (l : List ByteArray) (hl : l.length < 4611686018427387904) : ∀ d i, l.length - i = d → i ≤ l.length →
  Ev (fun k => r39_Check.l0 k (i : Int) a l) (colGo (l.drop i) (l.take i)) := by
 intro d
 induction d with
 | zero =>
  intro i hd hi
  obtain rfl : i = l.length := by omega
  refine Ev.succ ?_
  simp only [r39_Check.l0, List.drop_length, colGo]
  exact Ev.neg (by omega) (Ev.now _)
 | succ d ih =>
  intro i hd hi
  have hil : i < l.length := by omega
  refine Ev.succ ?_
  simp only [r39_Check.l0, rdOf_get hil]
  refine Ev.pos (by omega) (Ev.pos (by omega) ?_)
  rw [List.drop_eq_getElem_cons hil]
  unfold colGo
  refine Ev.bind (rname39 _) ?_
  refine Ev.ite (fun h => ?_) (fun h => ?_)
  ·obtain ⟨r, hr, hi'⟩ := rfind a l l[i] hl i hil rfl
   rw [if_pos h]
   refine Ev.bind hr ?_
   refine Ev.ite (fun h => ?_) (fun h => ?_)
   ·rw [if_pos (hi'.1 h)]; exact Ev.now _
   ·rw [if_neg (fun h' => h (hi'.2 h'))]
    rw [wrap_succ (by omega)]
    have := ih (i + 1) (by omega) (by omega)
    rwa [List.take_succ_eq_append_getElem hil] at this
  ·rw [if_neg h]; exact Ev.now _
theorem rcheck39 (a : ByteArray) (l : List ByteArray) (hl : l.length < 4611686018427387904) : Ev (fun k => r39_Check.f k a l) (colV a l) := by
 unfold r39_Check.f colV
 refine Ev.bind (rname39 _) ?_
 refine Ev.ite (fun h => ?_) (fun h => ?_)
 ·rw [if_pos h]
  refine Ev.ite (fun h1 => ?_) (fun h1 => ?_)
  ·rw [if_pos (by omega)]
   refine Ev.succ ?_
   simp only [r39_Check.j0]
   exact Ev.pos trivial (Ev.now _)
  ·rw [if_neg (by omega)]
   refine Ev.succ ?_
   simp only [r39_Check.j0]
   refine Ev.ite (fun h2 => ?_) (fun h2 => ?_)
   ·rw [if_pos (by have := of_decide_eq_true h2; omega)]; exact Ev.now _
   ·rw [if_neg (by simp at h2; omega)]
    have := rcheck39_l0 a l hl _ 0 rfl (by omega)
    simpa using this
 ·rw [if_neg h]; exact Ev.now _

theorem rvariable (x : List CS) (a : ByteArray) (b : List CV) (c : List CG) (d e : List CA) (hb : b.length < 4611686018427387904) (i : Nat) (hi : i < b.length) :
  Ev (fun k => r40_variable.f k x a b c d e (i : Int)) (varE x.length (b.take i) b[i]) := by
 unfold r40_variable.f
 refine Ev.pos (by omega) (Ev.pos (by omega) ?_)
 rw [rd48 hi]
 have hl : ∀ dd j, i - j = dd → j ≤ i → (∀ n, n < j → ∀ h : n < b.length, (b[n]).f0.toList ≠ (b[i]).f0.toList) → nameB b[i].f0 = true →
   Ev (fun k => r40_variable.l0 k x (i : Int) (j : Int) a b c d e b[i].f0 b[i].f1) (varE x.length (b.take i) b[i]) := by
  intro dd
  induction dd with
  | zero =>
   intro j hd hj hn hnm
   obtain rfl : j = i := by omega
   refine Ev.succ ?_
   simp only [r40_variable.l0]
   refine Ev.neg (by omega) ?_
   have hno : ¬ ((b.take j).any fun y => sameB y.f0 b[j].f0) = true := by
    intro h
    simp only [List.any_eq_true] at h
    obtain ⟨y, hy, he⟩ := h
    obtain ⟨n, hn', rfl⟩ := List.mem_iff_getElem.1 hy
    simp only [List.length_take] at hn'
    rw [List.getElem_take] at he
    exact hn n (by omega) (by omega) (same_iff.1 he)
   unfold varE
   rw [if_pos hnm, if_neg hno]
   refine Ev.ite (fun h => ?_) (fun h => ?_)
   ·rw [if_pos h]; exact Ev.now _
   ·rw [if_neg h]
    refine Ev.ite (fun h => ?_) (fun h => ?_)
    ·rw [if_pos h]; exact Ev.now _
    ·rw [if_neg h]; exact Ev.now _
  | succ dd ih =>
   intro j hd hj hn hnm
   have hjl : j < b.length := by omega
   refine Ev.succ ?_
   simp only [r40_variable.l0]
   refine Ev.pos (by omega) (Ev.pos (by omega) (Ev.pos (by omega) ?_))
   rw [rd48 hjl]
   refine Ev.ite (fun h => ?_) (fun h => ?_)
   ·unfold varE
    rw [if_pos hnm, if_pos ?_]
    ·exact Ev.now _
    ·simp only [List.any_eq_true]
     exact ⟨b[j], List.mem_iff_getElem.2 ⟨j, by simp only [List.length_take]; omega, by rw [List.getElem_take]⟩, same_iff.2 h⟩
   ·rw [wrap_succ (by omega)]
    exact ih (j + 1) (by omega) (by omega) (fun n hn' h' => by
     by_cases hnj : n = j
     ·subst hnj; exact h
     ·exact hn n (by omega) h') hnm
 refine Ev.bind (rname _) ?_
 refine Ev.ite (fun h => ?_) (fun h => ?_)
 ·exact hl _ 0 rfl (by omega) (fun n hn _ => by omega) h
 ·unfold varE; rw [if_neg h]; exact Ev.now _

theorem inV_iff {b : List CV} {z : Int} : inV b z = true ↔ 0 ≤ z ∧ z < (b.length : Int) := by simp [inV]
theorem rguard (a : ByteArray) (b : List CV) (c : List CG) (d e : List CA) (g : CG) :
  Ev (fun k => r40_guard.f k a b c d e g.f0 g.f1 g.f2) (grdE b g) := by
 have h1 : ∀ p : Bool, ¬ g.f0 < 1 → ¬ 3 < g.f0 → (p = true ↔ ¬ (inV b g.f1 = true ∧ inV b g.f2 = true)) → Ev (fun k => r40_guard.j1 k p a b c d e g.f0 g.f1 g.f2) (grdE b g) := by
  intro p hn1 hn3 hp
  refine Ev.succ ?_
  simp only [r40_guard.j1]
  unfold grdE
  rw [if_neg hn1, if_neg hn3]
  refine Ev.ite (fun h => ?_) (fun h => ?_)
  ·have := hp.1 h
   by_cases h1 : inV b g.f1 = true
   ·rw [if_pos h1, if_neg (fun h2 => this ⟨h1, h2⟩)]; exact Ev.now _
   ·rw [if_neg h1]; exact Ev.now _
  ·have h12 : inV b g.f1 = true ∧ inV b g.f2 = true := Classical.byContradiction fun h' => h (hp.2 h')
   rw [if_pos h12.1, if_pos h12.2]
   have i1 := inV_iff.1 h12.1
   have i2 := inV_iff.1 h12.2
   refine Ev.pos i1.1 (Ev.pos i1.2 (Ev.pos i2.1 (Ev.pos i2.2 ?_)))
   refine Ev.ite (fun h => ?_) (fun h => ?_)
   ·rw [if_pos h]; exact Ev.now _
   ·rw [if_neg h]; exact Ev.now _
 have h0 : ∀ p : Bool, (p = true ↔ g.f0 < 1 ∨ 3 < g.f0) → Ev (fun k => r40_guard.j0 k p a b c d e g.f0 g.f1 g.f2) (grdE b g) := by
  intro p hp
  refine Ev.succ ?_
  simp only [r40_guard.j0]
  refine Ev.ite (fun h => ?_) (fun h => ?_)
  ·unfold grdE
   rcases hp.1 h with h | h
   ·rw [if_pos h]; exact Ev.now _
   ·rw [if_neg (by omega), if_pos h]; exact Ev.now _
  ·have hn1 : ¬ g.f0 < 1 := fun h' => h (hp.2 (Or.inl h'))
   have hn3 : ¬ 3 < g.f0 := fun h' => h (hp.2 (Or.inr h'))
   refine Ev.ite (fun h => ?_) (fun h => ?_)
   ·exact h1 _ hn1 hn3 ⟨fun _ h' => absurd (inV_iff.1 h'.1) (by omega), fun _ => rfl⟩
   refine Ev.ite (fun h => ?_) (fun h => ?_)
   ·exact h1 _ hn1 hn3 ⟨fun _ h' => absurd (inV_iff.1 h'.1) (by omega), fun _ => rfl⟩
   refine Ev.ite (fun h => ?_) (fun h => ?_)
   ·exact h1 _ hn1 hn3 ⟨fun _ h' => absurd (inV_iff.1 h'.2) (by omega), fun _ => rfl⟩
   ·refine h1 _ hn1 hn3 ⟨fun h' h'' => ?_, fun h' => ?_⟩
    ·have := of_decide_eq_true h'; have := (inV_iff.1 h''.2).2; omega
    ·refine decide_eq_true ?_
     refine Classical.byContradiction fun h'' => h' ⟨inV_iff.2 (by omega), inV_iff.2 (by omega)⟩
 unfold r40_guard.f
 refine Ev.ite (fun h => ?_) (fun h => ?_)
 ·exact h0 _ ⟨fun _ => Or.inl h, fun _ => rfl⟩
 ·refine h0 _ ⟨fun h' => Or.inr ?_, fun h' => decide_eq_true ?_⟩
  ·have := of_decide_eq_true h'; omega
  ·omega

structure Sm (x : List CS) (b : List CV) (c : List CG) : Prop where
 hx : x.length ≤ 1000
 hb : b.length ≤ 1000
 hc : c.length ≤ 1000
 hv : ∀ s ∈ x, s.f1.length < 4611686018427387904

theorem rCheck (x : List CS) (a : ByteArray) (b : List CV) (c : List CG) (d e : List CA) (hs : Sm x b c) :
  Ev (fun k => r40_Check.f k x a b c d e) (chkAll x x.length b c) := by
 obtain ⟨hx, hb, hc, hv⟩ := hs
 have l2 : ∀ dd i, c.length - i = dd → i ≤ c.length → Ev (fun k => r40_Check.l2 k (i : Int) a b c d e) (grdsGo b (c.drop i)) := by
  intro dd
  induction dd with
  | zero =>
   intro i hd hi
   obtain rfl : i = c.length := by omega
   refine Ev.succ ?_
   simp only [r40_Check.l2, List.drop_length, grdsGo]
   exact Ev.neg (by omega) (Ev.now _)
  | succ dd ih =>
   intro i hd hi
   have hil : i < c.length := by omega
   refine Ev.succ ?_
   simp only [r40_Check.l2, rd62 hil]
   refine Ev.pos (by omega) (Ev.pos (by omega) ?_)
   rw [List.drop_eq_getElem_cons hil]
   unfold grdsGo
   refine Ev.bind (rguard a b c d e c[i]) ?_
   refine Ev.ite (fun h => ?_) (fun h => ?_)
   ·rw [if_pos h, wrap_succ (by omega)]; exact ih (i + 1) (by omega) (by omega)
   ·rw [if_neg h]; exact Ev.now _
 have l1 : ∀ dd i, b.length - i = dd → i ≤ b.length → Ev (fun k => r40_Check.l1 k x (i : Int) a b c d e) (if varsGo x.length (b.drop i) (b.take i) = 0 then grdsGo b c else varsGo x.length (b.drop i) (b.take i)) := by
  intro dd
  induction dd with
  | zero =>
   intro i hd hi
   obtain rfl : i = b.length := by omega
   refine Ev.succ ?_
   simp only [r40_Check.l1, List.drop_length, varsGo, if_true]
   refine Ev.neg (by omega) ?_
   simpa using l2 _ 0 rfl (by omega)
  | succ dd ih =>
   intro i hd hi
   have hil : i < b.length := by omega
   refine Ev.succ ?_
   simp only [r40_Check.l1]
   refine Ev.pos (by omega) ?_
   rw [List.drop_eq_getElem_cons hil]
   unfold varsGo
   refine Ev.bind (rvariable x a b c d e (by omega) i hil) ?_
   refine Ev.ite (fun h => ?_) (fun h => ?_)
   ·rw [if_pos h, wrap_succ (by omega)]
    have := ih (i + 1) (by omega) (by omega)
    rwa [List.take_succ_eq_append_getElem hil] at this
   ·rw [if_neg h, if_neg h]; exact Ev.now _
 have j1 : ∀ p : Bool, (p = true ↔ x.length < 1 ∨ 8 < x.length ∨ 4 < b.length) → Ev (fun k => r40_Check.j1 k x p a b c d e) (chkTail x.length b c) := by
  intro p hp
  refine Ev.succ ?_
  simp only [r40_Check.j1]
  unfold chkTail
  refine Ev.ite (fun h => ?_) (fun h => ?_)
  ·refine Ev.val ?_
   have := hp.1 h
   split
   ·rfl
   ·split
    ·rfl
    ·rw [if_pos (by omega)]
  ·have hno : ¬ (x.length < 1 ∨ 8 < x.length ∨ 4 < b.length) := fun h' => h (hp.2 h')
   rw [if_neg (by omega), if_neg (by omega), if_neg (by omega)]
   simpa using l1 _ 0 rfl (by omega)
 have l0 : ∀ dd i, x.length - i = dd → i ≤ x.length → Ev (fun k => r40_Check.l0 k x (i : Int) a b c d e) (chkAll (x.drop i) x.length b c) := by
  intro dd
  induction dd with
  | zero =>
   intro i hd hi
   obtain rfl : i = x.length := by omega
   refine Ev.succ ?_
   simp only [r40_Check.l0, List.drop_length, chkAll, setsGo, if_true]
   refine Ev.neg (by omega) ?_
   refine Ev.ite (fun h => j1 _ ⟨fun _ => by omega, fun _ => rfl⟩) (fun h => ?_)
   refine Ev.ite (fun h => j1 _ ⟨fun _ => by omega, fun _ => rfl⟩) (fun h => ?_)
   exact j1 _ ⟨fun h' => by have := of_decide_eq_true h'; omega, fun h' => decide_eq_true (by omega)⟩
  | succ dd ih =>
   intro i hd hi
   have hil : i < x.length := by omega
   refine Ev.succ ?_
   simp only [r40_Check.l0, rd51 hil]
   refine Ev.pos (by omega) (Ev.pos (by omega) ?_)
   have hih := ih (i + 1) (by omega) (by omega)
   rw [List.drop_eq_getElem_cons hil]
   unfold chkAll at hih ⊢
   unfold setsGo
   refine Ev.bind (rcheck39 _ _ (hv _ (List.getElem_mem hil))) ?_
   refine Ev.ite (fun h => ?_) (fun h => ?_)
   ·rw [if_pos h, wrap_succ (by omega)]; exact hih
   ·rw [if_neg h, if_neg h]; exact Ev.now _
 unfold r40_Check.f
 simpa using l0 _ 0 rfl (by omega)

theorem pCheck {x : List CS} {a : ByteArray} {b : List CV} {c : List CG} {d e : List CA} (hs : Sm x b c) : binding_Check.f x a b c d e = some (chkAll x x.length b c) := by
 unfold binding_Check.f
 rw [if_pos ⟨hs.hx, hs.hc⟩]

/-- What Check's answer 0 says. -/
theorem setsGo_zero : ∀ (l : List CS), setsGo l = 0 → ∀ s ∈ l, colV s.f0 s.f1 = 0
 | [], _, s, hs => by cases hs
 | c :: cs, h, s, hs => by
  unfold setsGo at h
  by_cases h0 : colV c.f0 c.f1 = 0
  ·rw [if_pos h0] at h
   rcases List.mem_cons.1 hs with rfl | hs
   ·exact h0
   ·exact setsGo_zero cs h s hs
  ·rw [if_neg h0] at h; exact absurd h h0
theorem varsGo_zero (n : Nat) : ∀ (l pre : List CV), varsGo n l pre = 0 → ∀ v ∈ l, 0 ≤ v.f1 ∧ v.f1 < (n : Int)
 | [], _, _, v, hv => by cases hv
 | c :: cs, pre, h, v, hv => by
  unfold varsGo at h
  by_cases h0 : varE n pre c = 0
  ·rw [if_pos h0] at h
   rcases List.mem_cons.1 hv with rfl | hv
   ·unfold varE at h0
    split at h0
    ·split at h0
     ·cases h0
     ·split at h0
      ·cases h0
      ·split at h0
       ·cases h0
       ·omega
    ·cases h0
   ·exact varsGo_zero n cs _ h v hv
  ·rw [if_neg h0] at h; exact absurd h h0
theorem grdsGo_zero (b : List CV) : ∀ (l : List CG), grdsGo b l = 0 → ∀ g ∈ l, grdE b g = 0
 | [], _, s, hs => by cases hs
 | c :: cs, h, s, hs => by
  unfold grdsGo at h
  by_cases h0 : grdE b c = 0
  ·rw [if_pos h0] at h
   rcases List.mem_cons.1 hs with rfl | hs
   ·exact h0
   ·exact grdsGo_zero b cs h s hs
  ·rw [if_neg h0] at h; exact absurd h h0
structure Okk (x : List CS) (b : List CV) (c : List CG) : Prop where
 xl : 1 ≤ x.length ∧ x.length ≤ 8
 bl : b.length ≤ 4
 cols : ∀ s ∈ x, 1 ≤ s.f1.length ∧ s.f1.length ≤ 12
 sets : ∀ v ∈ b, 0 ≤ v.f1 ∧ v.f1 < (x.length : Int)
 grds : ∀ g ∈ c, (0 ≤ g.f1 ∧ g.f1 < (b.length : Int)) ∧ 0 ≤ g.f2 ∧ g.f2 < (b.length : Int)
 names : ∀ s ∈ x, colV s.f0 s.f1 = 0
theorem colV_zero {a : ByteArray} {l : List ByteArray} (h : colV a l = 0) : 1 ≤ l.length ∧ l.length ≤ 12 := by
 unfold colV at h
 split at h
 ·split at h
  ·cases h
  ·split at h
   ·cases h
   ·omega
 ·cases h
theorem chk_zero {x : List CS} {b : List CV} {c : List CG} (h : chkAll x x.length b c = 0) : Okk x b c := by
 unfold chkAll at h
 by_cases hs : setsGo x = 0
 ·rw [if_pos hs] at h
  unfold chkTail at h
  split at h
  ·cases h
  ·split at h
   ·cases h
   ·split at h
    ·cases h
    ·split at h
     ·rename_i h1 h2 h3 h4
      refine ⟨⟨by omega, by omega⟩, by omega, fun s hs' => colV_zero (setsGo_zero x hs s hs'), fun v hv => varsGo_zero _ _ _ h4 v hv, fun g hg => ?_, setsGo_zero x hs⟩
      have h0 := grdsGo_zero b c h g hg
      unfold grdE at h0
      split at h0
      ·cases h0
      ·split at h0
       ·cases h0
       ·split at h0
        ·split at h0
         ·rename_i i1 i2
          exact ⟨inV_iff.1 i1, inV_iff.1 i2⟩
         ·cases h0
        ·cases h0
     ·rename_i h4; exact absurd h h4
 ·rw [if_neg hs] at h; exact absurd h hs

end Go.Proofs.Ytapkjfnfkalibaa.BChk

/- The example that every statement on bindings checks holds. -/
namespace Go.Proofs.Ytapkjfnfkalibaa.BLives
set_option linter.unusedVariables false
set_option linter.unusedSimpArgs false
open Go.RowKit Go.Proofs.Ytapkjfnfkalibaa.Pr Go.Proofs.Ytapkjfnfkalibaa.Evs Go.Proofs.Ytapkjfnfkalibaa.Names Go.Proofs.Ytapkjfnfkalibaa.BChk Go.Proofs.YtapkjfnfkalibaaW.PrintWords Go.Proofs.YtapkjfnfkalibaaW.PrintLast Go.Proofs.YtapkjfnfkalibaaW.PrintMore
theorem lives_now : l40_lives.f 60 = some true := by decide +kernel
theorem lives : Ev (fun k => l40_lives.f k) true := Ev.of l40_lives.mono lives_now
theorem lives' : Ev (fun k => (l40_lives.f k).bind fun t => some t) true := Ev.bind lives (Ev.now _)

/-- Few's answer: what it bounds. -/
theorem few (x : List CS) (a : ByteArray) (b : List CV) (c : List CG) (d e : List CA) :
  ∃ r : Bool, Ev (fun k => r40_Few.f k x a b c d e) r ∧ (r = true → (x.length ≤ 10 ∧ b.length ≤ 6 ∧ c.length ≤ 8) ∧ ∀ s ∈ x, s.f1.length ≤ 14) := by
 by_cases hs : x.length ≤ 10 ∧ b.length ≤ 6 ∧ c.length ≤ 8
 ·obtain ⟨h1, h2, h3⟩ := hs
  have l2 : ∀ dd i, b.length - i = dd → i ≤ b.length → ∃ r : Bool, Ev (fun k => r40_Few.l2 k (i : Int) a b c d e) r := by
   intro dd
   induction dd with
   | zero =>
    intro i hd hi
    refine ⟨true, Ev.succ ?_⟩
    simp only [r40_Few.l2]
    exact Ev.neg (by omega) (Ev.now _)
   | succ dd ih =>
    intro i hd hi
    obtain ⟨r, hr⟩ := ih (i + 1) (by omega) (by omega)
    by_cases h : (((rd_T48 b (i : Int)).f0).size : Int) > 20
    ·refine ⟨false, Ev.succ ?_⟩
     simp only [r40_Few.l2]
     exact Ev.pos (by omega) (Ev.pos (by omega) (Ev.pos h (Ev.now _)))
    ·refine ⟨r, Ev.succ ?_⟩
     simp only [r40_Few.l2]
     refine Ev.pos (by omega) (Ev.pos (by omega) (Ev.neg h ?_))
     rw [wrap_succ (by omega)]; exact hr
  obtain ⟨r2, hr2⟩ := l2 _ 0 rfl (by omega)
  have l0 : ∀ dd i, x.length - i = dd → i ≤ x.length → ∃ r : Bool, Ev (fun k => r40_Few.l0 k x (i : Int) a b c d e) r ∧ (r = true → ∀ s ∈ x.drop i, s.f1.length ≤ 14) := by
   intro dd
   induction dd with
   | zero =>
    intro i hd hi
    refine ⟨r2, Ev.succ ?_, fun _ s hs => ?_⟩
    ·simp only [r40_Few.l0]
     exact Ev.neg (by omega) hr2
    ·rw [List.drop_of_length_le (by omega)] at hs; cases hs
   | succ dd ih =>
    intro i hd hi
    have hil : i < x.length := by omega
    obtain ⟨r, hr, hrs⟩ := ih (i + 1) (by omega) (by omega)
    by_cases hvl : x[i].f1.length ≤ 14
    case neg =>
     refine ⟨false, Ev.succ ?_, fun h => by cases h⟩
     simp only [r40_Few.l0, rd51 hil]
     refine Ev.pos (by omega) (Ev.pos (by omega) (Ev.pos (by omega) (Ev.succ ?_)))
     simp only [r40_Few.j2]
     exact Ev.pos trivial (Ev.now _)
    have l1 : ∀ d1 j, x[i].f1.length - j = d1 → j ≤ x[i].f1.length → ∃ r' : Bool, Ev (fun k => r40_Few.l1 k x (i : Int) (j : Int) a b c d e) r' ∧ (r' = true → r = true) := by
     intro d1
     induction d1 with
     | zero =>
      intro j hd1 hj
      refine ⟨r, Ev.succ ?_, fun h => h⟩
      simp only [r40_Few.l1, rd51 hil]
      refine Ev.pos (by omega) (Ev.pos (by omega) (Ev.neg (by omega) ?_))
      rw [wrap_succ (by omega)]; exact hr
     | succ d1 ih1 =>
      intro j hd1 hj
      obtain ⟨r', hr', hrr⟩ := ih1 (j + 1) (by omega) (by omega)
      by_cases h : ((rdOf ByteArray.empty (x[i].f1) (j : Int)).size : Int) > 20
      ·refine ⟨false, Ev.succ ?_, fun h => by cases h⟩
       simp only [r40_Few.l1, rd51 hil]
       exact Ev.pos (by omega) (Ev.pos (by omega) (Ev.pos (by omega) (Ev.pos (by omega) (Ev.pos h (Ev.now _)))))
      ·refine ⟨r', Ev.succ ?_, hrr⟩
       simp only [r40_Few.l1, rd51 hil]
       refine Ev.pos (by omega) (Ev.pos (by omega) (Ev.pos (by omega) (Ev.pos (by omega) (Ev.neg h ?_))))
       rw [wrap_succ (by omega)]; exact hr'
    obtain ⟨r1, hr1, hrr⟩ := l1 _ 0 rfl (by omega)
    have j2 : ∀ p : Bool, ∃ r' : Bool, Ev (fun k => r40_Few.j2 k x (i : Int) p a b c d e) r' ∧ (r' = true → r = true) := by
     intro p
     cases p with
     | true =>
      refine ⟨false, Ev.succ ?_, fun h => by cases h⟩
      simp only [r40_Few.j2]
      exact Ev.pos trivial (Ev.now _)
     | false =>
      refine ⟨r1, Ev.succ ?_, hrr⟩
      simp only [r40_Few.j2]
      exact Ev.neg (by simp) hr1
    obtain ⟨q, hq, hqr⟩ := j2 (decide (((x[i].f0).size : Int) > 20))
    refine ⟨q, Ev.succ ?_, fun h s hs => ?_⟩
    ·simp only [r40_Few.l0, rd51 hil]
     exact Ev.pos (by omega) (Ev.pos (by omega) (Ev.neg (by omega) hq))
    ·rw [List.drop_eq_getElem_cons hil] at hs
     rcases List.mem_cons.1 hs with rfl | hs
     ·exact hvl
     ·exact hrs (hqr h) s hs
  obtain ⟨r0, hr0, hr0s⟩ := l0 _ 0 rfl (by omega)
  refine ⟨r0, ?_, fun h => ⟨⟨h1, h2, h3⟩, fun s hs => hr0s h s (by simpa using hs)⟩⟩
  unfold r40_Few.f
  refine Ev.neg (by omega) (Ev.neg (by omega) (Ev.succ ?_))
  simp only [r40_Few.j0]
  exact Ev.neg (by simp; omega) hr0
 ·refine ⟨false, ?_, fun h => by cases h⟩
  unfold r40_Few.f
  have j0 : Ev (fun k => r40_Few.j0 k x true a b c d e) false := by
   refine Ev.succ ?_
   simp only [r40_Few.j0]
   exact Ev.pos trivial (Ev.now _)
  refine Ev.ite (fun _ => j0) (fun h1 => Ev.ite (fun _ => j0) (fun h2 => ?_))
  rw [decide_eq_true (by omega)]; exact j0
theorem sm {x : List CS} {b : List CV} {c : List CG} (h : (x.length ≤ 10 ∧ b.length ≤ 6 ∧ c.length ≤ 8) ∧ ∀ s ∈ x, s.f1.length ≤ 14) : Sm x b c := ⟨by omega, by omega, by omega, fun s hs => by have := h.2 s hs; omega⟩
end Go.Proofs.Ytapkjfnfkalibaa.BLives

/- Chapter 40: bindings, sums of terms and guards, of the program and of the reference. -/
namespace Go.Proofs.Ytapkjfnfkalibaa.BEval
open Go.RowKit Go.Proofs.Ytapkjfnfkalibaa.Pr Go.Proofs.Ytapkjfnfkalibaa.Evs Go.Proofs.Ytapkjfnfkalibaa.Names Go.Proofs.Ytapkjfnfkalibaa.RName Go.Proofs.Ytapkjfnfkalibaa.BChk Go.Proofs.Ytapkjfnfkalibaa.Iter Go.Proofs.YtapkjfnfkalibaaW.PrintWords Go.Proofs.YtapkjfnfkalibaaW.PrintLast Go.Proofs.YtapkjfnfkalibaaW.PrintMore
set_option linter.unusedVariables false
set_option linter.unusedSimpArgs false

theorem rd_get {l : List Int} {i : Nat} (h : i < l.length) : rd l (i : Int) = l[i] := by simp [rd, h]
def allF (P : Nat → Bool) (i : Nat) : Nat → Bool
 | 0 => true
 | d + 1 => P i && allF P (i + 1) d
theorem allF_iff (P : Nat → Bool) : ∀ d i, allF P i d = true ↔ ∀ j, i ≤ j → j < i + d → P j = true
 | 0, i => by simp only [allF]; exact ⟨fun _ j _ _ => by omega, fun _ => trivial⟩
 | d + 1, i => by
  simp only [allF, Bool.and_eq_true, allF_iff P d (i + 1)]
  constructor
  ·rintro ⟨h0, h⟩ j h1 h2
   by_cases hj : j = i
   ·subst hj; exact h0
   ·exact h j (by omega) (by omega)
  ·intro h
   exact ⟨h i (by omega) (by omega), fun j h1 h2 => h j (by omega) (by omega)⟩
/-- A place of a binding is a color. -/
def bAt (x : List CS) (b : List CV) (l : List Int) (i : Nat) : Bool := decide (0 ≤ rd l (i : Int)) && decide (rd l (i : Int) < setOf x b i)
def boundB (x : List CS) (b : List CV) (l : List Int) : Bool := decide (l.length = b.length) && allF (bAt x b l) 0 l.length
theorem boundB_iff {x : List CS} {b : List CV} {l : List Int} : boundB x b l = true ↔ l.length = b.length ∧ ∀ i, i < b.length → 0 ≤ rd l (i : Int) ∧ rd l (i : Int) < setOf x b i := by
 unfold boundB
 simp only [Bool.and_eq_true, decide_eq_true_eq, allF_iff]
 constructor
 ·rintro ⟨h1, h2⟩
  refine ⟨h1, fun i hi => ?_⟩
  have := h2 i (by omega) (by omega)
  simpa [bAt] using this
 ·rintro ⟨h1, h2⟩
  refine ⟨h1, fun i _ hi => ?_⟩
  have := h2 i (by omega)
  simpa [bAt] using this
theorem setOf_eq {x : List CS} {b : List CV} {i : Nat} (hi : i < b.length) : setOf x b i = ((rd_T51 x b[i].f1).f1.length : Int) := by unfold setOf; rw [rd48 hi]
theorem set_get {x : List CS} {z : Int} (h0 : 0 ≤ z) (h1 : z < (x.length : Int)) : ∃ n : Nat, ∃ h : n < x.length, z = (n : Int) ∧ rd_T51 x z = x[n] := ⟨z.toNat, by omega, by omega, by
 have := rd51 (x := x) (i := z.toNat) (by omega)
 rwa [show ((z.toNat : Nat) : Int) = z by omega] at this⟩

theorem rbound (x : List CS) (a : ByteArray) (b : List CV) (c : List CG) (d e : List CA) (hb : b.length < 4611686018427387904) (hs : ∀ v ∈ b, 0 ≤ v.f1 ∧ v.f1 < (x.length : Int)) (l : List Int) :
  Ev (fun k => r40_Bound.f k x a b c d e l) (boundB x b l) := by
 unfold r40_Bound.f
 by_cases hl : l.length = b.length
 ·refine Ev.pos (by omega) ?_
  have hk : ∀ dd i, b.length - i = dd → i ≤ b.length → Ev (fun k => r40_Bound.l0 k x l (i : Int) a b c d e) (allF (bAt x b l) i dd) := by
   intro dd
   induction dd with
   | zero =>
    intro i hd hi
    obtain rfl : i = b.length := by omega
    refine Ev.succ ?_
    simp only [r40_Bound.l0, allF]
    exact Ev.neg (by omega) (Ev.now _)
   | succ dd ih =>
    intro i hd hi
    have hil : i < b.length := by omega
    have hsi := hs _ (List.getElem_mem hil)
    refine Ev.succ ?_
    simp only [r40_Bound.l0, rd48 hil]
    refine Ev.pos (by omega) (Ev.pos (by omega) ?_)
    have hat : bAt x b l i = (decide (0 ≤ rd l (i : Int)) && decide (rd l (i : Int) < ((rd_T51 x b[i].f1).f1.length : Int))) := by unfold bAt; rw [setOf_eq hil]
    refine Ev.ite (fun h => ?_) (fun h => ?_)
    ·refine Ev.val ?_
     rw [allF, hat, decide_eq_false (by omega)]; rfl
    ·refine Ev.pos (by omega) (Ev.pos hsi.1 (Ev.pos hsi.2 ?_))
     refine Ev.ite (fun h => ?_) (fun h => ?_)
     ·refine Ev.val ?_
      rw [allF, hat, decide_eq_false (show ¬ rd l (i : Int) < _ by omega)]; simp
     ·rw [allF, hat, decide_eq_true (by omega), decide_eq_true (by omega), wrap_succ (by omega)]
      simpa using ih (i + 1) (by omega) (by omega)
  have := hk _ 0 rfl (by omega)
  unfold boundB
  rw [decide_eq_true hl, hl]
  simpa using this
 ·refine Ev.neg (by omega) (Ev.val ?_)
  unfold boundB; rw [decide_eq_false hl]; rfl

/-- Whether all guards hold for a binding. -/
def gOk (c : List CG) (l : List Int) : Bool := c.all fun g => !badG g.f0 (rd l g.f1) (rd l g.f2)
theorem holdsGo_eq (l : List Int) : ∀ (c : List CG), (∀ g ∈ c, (0 ≤ g.f1 ∧ g.f1 < (l.length : Int)) ∧ 0 ≤ g.f2 ∧ g.f2 < (l.length : Int)) → holdsGo l c = some (gOk c l)
 | [], _ => rfl
 | g :: gs, h => by
  unfold holdsGo
  rw [if_pos (h g List.mem_cons_self)]
  have ih := holdsGo_eq l gs (fun g' hg' => h g' (List.mem_cons_of_mem _ hg'))
  split
  ·rename_i hb; simp [gOk, hb]
  ·rename_i hb; rw [ih]; simp [gOk, hb]
def holdB (x : List CS) (b : List CV) (c : List CG) (l : List Int) : Bool := decide (chkAll x x.length b c = 0) && boundB x b l && gOk c l
theorem rHolds (x : List CS) (a : ByteArray) (b : List CV) (c : List CG) (d e : List CA) (hs : Sm x b c) (l : List Int) : Ev (fun k => r40_Holds.f k x a b c d e l) (holdB x b c l) := by
 unfold r40_Holds.f
 refine Ev.bind (rCheck x a b c d e hs) ?_
 refine Ev.ite (fun h => ?_) (fun h => Ev.val (by simp [holdB, h]))
 have ok := chk_zero h
 refine Ev.bind (rbound x a b c d e (by have := hs.hb; omega) ok.sets l) ?_
 refine Ev.ite (fun hb => ?_) (fun hb => Ev.val (by simp [holdB, h, hb]))
 have hbl := (boundB_iff.1 hb).1
 rw [if_pos hs.hc, holdsGo_eq l c (by rw [hbl]; exact ok.grds)]
 refine Ev.val ?_
 simp [holdB, h, hb]

/-- A row of n numbers. -/
def row (n : Nat) (f : Nat → Int) : List Int := (List.range n).map f
theorem wrap_id {z : Int} (h0 : -9223372036854775808 ≤ z) (h1 : z < 9223372036854775808) : wrap64 z = z := by unfold wrap64; omega
end Go.Proofs.Ytapkjfnfkalibaa.BEval

/- Chapter 40: Eval of the program and of the reference. -/
namespace Go.Proofs.Ytapkjfnfkalibaa.BEval
open Go.RowKit Go.Proofs.Ytapkjfnfkalibaa.Pr Go.Proofs.Ytapkjfnfkalibaa.Evs Go.Proofs.Ytapkjfnfkalibaa.Names Go.Proofs.Ytapkjfnfkalibaa.RName Go.Proofs.Ytapkjfnfkalibaa.BChk Go.Proofs.Ytapkjfnfkalibaa.Iter Go.Proofs.YtapkjfnfkalibaaW.PrintWords Go.Proofs.YtapkjfnfkalibaaW.PrintLast Go.Proofs.YtapkjfnfkalibaaW.PrintMore
set_option linter.unusedVariables false
set_option linter.unusedSimpArgs false

theorem rsame (xs ys : List Int) (hx : xs.length < 4611686018427387904) : Ev (fun k => r04_Same.f k xs ys) (decide (xs = ys)) := by
 unfold r04_Same.f
 by_cases hl : xs.length = ys.length
 ·refine Ev.pos (by omega) ?_
  have hk : ∀ dd i, xs.length - i = dd → i ≤ xs.length → (xs.take i = ys.take i) → Ev (fun k => r04_Same.l0 k xs ys (i : Int)) (decide (xs = ys)) := by
   intro dd
   induction dd with
   | zero =>
    intro i hd hi he
    obtain rfl : i = xs.length := by omega
    refine Ev.succ ?_
    simp only [r04_Same.l0]
    refine Ev.neg (by omega) (Ev.val ?_)
    rw [List.take_length, hl, List.take_length] at he
    simp [he]
   | succ dd ih =>
    intro i hd hi he
    have h1 : i < xs.length := by omega
    have h2 : i < ys.length := by omega
    refine Ev.succ ?_
    simp only [r04_Same.l0, rd_get h1, rd_get h2]
    refine Ev.pos (by omega) (Ev.pos (by omega) (Ev.pos (by omega) ?_))
    refine Ev.ite (fun h => ?_) (fun h => Ev.val ?_)
    ·rw [wrap_succ (by omega)]
     refine ih (i + 1) (by omega) (by omega) ?_
     rw [List.take_succ_eq_append_getElem h1, List.take_succ_eq_append_getElem h2, he, h]
    ·symm; rw [decide_eq_false_iff_not]
     rintro rfl; exact h rfl
  exact hk _ 0 rfl (by omega) (by simp)
 ·refine Ev.neg (by omega) (Ev.val ?_)
  symm; rw [decide_eq_false_iff_not]
  rintro rfl; exact hl rfl
end Go.Proofs.Ytapkjfnfkalibaa.BEval

/- Chapter 40: the list of all bindings, of the program and of the reference. -/
namespace Go.Proofs.Ytapkjfnfkalibaa.BAll
open Go.RowKit Go.Proofs.Ytapkjfnfkalibaa.Pr Go.Proofs.Ytapkjfnfkalibaa.Evs Go.Proofs.Ytapkjfnfkalibaa.Names Go.Proofs.Ytapkjfnfkalibaa.BChk Go.Proofs.Ytapkjfnfkalibaa.BEval Go.Proofs.YtapkjfnfkalibaaW.PrintWords Go.Proofs.YtapkjfnfkalibaaW.PrintLast Go.Proofs.YtapkjfnfkalibaaW.PrintMore
set_option linter.unusedVariables false
set_option linter.unusedSimpArgs false

/-- How many bindings the first j variables have, and the binding number q of them. -/
def np (D : Nat → Nat) : Nat → Nat
 | 0 => 1
 | j + 1 => np D j * D j
def dec (D : Nat → Nat) : Nat → Nat → List Int
 | 0, _ => []
 | j + 1, q => dec D j (q / D j) ++ [((q % D j : Nat) : Int)]
theorem dec_len (D : Nat → Nat) : ∀ j q, (dec D j q).length = j
 | 0, _ => rfl
 | j + 1, q => by simp [dec, dec_len D j]
theorem np_pos {D : Nat → Nat} : ∀ j, (∀ i, i < j → 1 ≤ D i) → 1 ≤ np D j
 | 0, _ => Nat.le_refl _
 | j + 1, h => by
  have := np_pos j (fun i hi => h i (by omega))
  have h1 := h j (by omega)
  exact Nat.mul_pos this h1
theorem np_le {D : Nat → Nat} : ∀ j, (∀ i, i < j → D i ≤ 12) → np D j ≤ 12 ^ j
 | 0, _ => Nat.le_refl _
 | j + 1, h => by
  have := np_le j (fun i hi => h i (by omega))
  rw [Nat.pow_succ]
  exact Nat.mul_le_mul this (h j (by omega))
theorem rd_app1 {xs : List Int} {v : Int} {t : List Int} {j : Nat} (h : xs.length = j) : rd (xs ++ v :: t) (j : Int) = v := by
 subst h; simp [rd]
theorem rd_app0 {xs ys : List Int} {i : Nat} (h : i < xs.length) : rd (xs ++ ys) (i : Int) = rd xs (i : Int) := by
 simp [rd, List.getElem?_append, h]
theorem dec_rd {D : Nat → Nat} : ∀ j q i, i < j → (∀ i, i < j → 1 ≤ D i) → 0 ≤ rd (dec D j q) (i : Int) ∧ rd (dec D j q) (i : Int) < (D i : Int)
 | 0, _, _, hi, _ => by omega
 | j + 1, q, i, hi, h => by
  unfold dec
  by_cases hij : i = j
  ·subst hij
   rw [rd_app1 (dec_len D i _)]
   have := Nat.mod_lt q (show D i > 0 from h i (by omega))
   omega
  ·rw [rd_app0 (by rw [dec_len]; omega)]
   exact dec_rd j _ i (by omega) (fun i hi => h i (by omega))
theorem dec_zero (D : Nat → Nat) : ∀ j, dec D j 0 = List.replicate j 0
 | 0 => rfl
 | j + 1 => by
  unfold dec
  rw [Nat.zero_div, Nat.zero_mod, dec_zero D j, List.replicate_succ']; rfl

structure DimsOk (x : List CS) (b : List CV) (D : Nat → Nat) (m : Nat) : Prop where
 ins : ∀ i, i < m → inSets x b i = true
 set : ∀ i, i < m → setOf x b i = (D i : Int)
 pos : ∀ i, i < m → 1 ≤ D i
 le : ∀ i, i < m → D i ≤ 12
theorem DimsOk.less {x : List CS} {b : List CV} {D : Nat → Nat} {m k : Nat} (h : DimsOk x b D m) (hk : k ≤ m) : DimsOk x b D k :=
 ⟨fun i hi => h.ins i (by omega), fun i hi => h.set i (by omega), fun i hi => h.pos i (by omega), fun i hi => h.le i (by omega)⟩
theorem carry_dec {x : List CS} {b : List CV} {D : Nat → Nat} : ∀ j, DimsOk x b D j → ∀ q, q < np D j → ∀ t : List Int,
  carry x b j (dec D j q ++ t) = some (if q + 1 < np D j then some (dec D j (q + 1) ++ t) else none)
 | 0, _, q, hq, t => by
  have h1 : np D 0 = 1 := rfl
  simp only [carry]
  rw [if_neg (by omega)]
 | j + 1, h, q, hq, t => by
  have hD := h.pos j (by omega)
  have hD2 := h.le j (by omega)
  have hr := Nat.mod_lt q (show D j > 0 by omega)
  have hdm := Nat.div_add_mod q (D j)
  unfold carry
  rw [if_pos (h.ins j (by omega)), h.set j (by omega)]
  unfold dec
  rw [List.append_assoc, List.singleton_append, rd_app1 (dec_len D j _)]
  have hset : ∀ v : Int, (dec D j (q / D j) ++ ((q % D j : Nat) : Int) :: t).set j v = dec D j (q / D j) ++ v :: t := by
   intro v
   rw [List.set_append_right _ _ (by rw [dec_len]; omega), dec_len, Nat.sub_self]; rfl
  rw [hset, hset]
  have hnp : np D (j + 1) = np D j * D j := rfl
  have hqd : q / D j < np D j := (Nat.div_lt_iff_lt_mul (by omega)).2 (hnp ▸ hq)
  by_cases hc : q % D j + 1 = D j
  ·rw [if_pos (by rw [wrap_id (by omega) (by omega)]; omega)]
   have e : q + 1 = (q / D j + 1) * D j := by rw [Nat.add_mul, Nat.one_mul, Nat.mul_comm]; omega
   have e1 : (q + 1) / D j = q / D j + 1 := by rw [e, Nat.mul_div_cancel _ (by omega)]
   have e2 : (q + 1) % D j = 0 := by rw [e]; exact Nat.mul_mod_left _ _
   rw [carry_dec j (h.less (by omega)) _ hqd, e1, e2]
   have hiff : q / D j + 1 < np D j ↔ q + 1 < np D (j + 1) := by
    rw [e, hnp]; exact (Nat.mul_lt_mul_right (by omega)).symm
   by_cases hl : q / D j + 1 < np D j
   ·rw [if_pos hl, if_pos (hiff.1 hl)]; simp
   ·rw [if_neg hl, if_neg (fun h => hl (hiff.2 h))]
  ·rw [if_neg (by rw [wrap_id (by omega) (by omega)]; omega)]
   have e1 : (q + 1) / D j = q / D j := by
    rw [Nat.div_eq_iff (by omega)]
    have : q / D j * D j = D j * (q / D j) := Nat.mul_comm _ _
    rw [this]; omega
   have e2 : (q + 1) % D j = q % D j + 1 := by
    have h3 := Nat.div_add_mod (q + 1) (D j)
    rw [e1] at h3
    omega
   have hlt : q + 1 < np D (j + 1) := by
    rw [hnp]
    have h3 : (q / D j + 1) * D j ≤ np D j * D j := Nat.mul_le_mul_right _ hqd
    rw [Nat.add_mul, Nat.one_mul, Nat.mul_comm] at h3
    omega
   rw [if_pos hlt, e1, e2, wrap_id (by omega) (by omega)]
   simp
theorem seqB_dec {x : List CS} {b : List CV} {D : Nat → Nat} (h : DimsOk x b D b.length) : ∀ d q, np D b.length - q = d + 1 → q < np D b.length → ∀ k, d < k →
  seqB x b k (dec D b.length q) = some ((List.range' q (d + 1)).map (dec D b.length)) := by
 intro d
 induction d with
 | zero =>
  intro q hd hq k hk
  obtain ⟨k, rfl⟩ : ∃ j, k = j + 1 := ⟨k - 1, by omega⟩
  have := carry_dec b.length h q hq []
  rw [List.append_nil, if_neg (by omega)] at this
  simp only [seqB, this, Option.bind_some, List.range'_succ, List.range'_zero, List.map_cons, List.map_nil]
 | succ d ih =>
  intro q hd hq k hk
  obtain ⟨k, rfl⟩ : ∃ j, k = j + 1 := ⟨k - 1, by omega⟩
  have := carry_dec b.length h q hq []
  rw [List.append_nil, List.append_nil, if_pos (by omega)] at this
  rw [List.range'_succ, List.map_cons]
  simp only [seqB, this, Option.bind_some]
  rw [ih (q + 1) (by omega) (by omega) k (by omega)]
  rfl

def dm (x : List CS) (b : List CV) (j : Nat) : Nat := (rd_T51 x (rd_T48 b (j : Int)).f1).f1.length
theorem dims_ok {x : List CS} {b : List CV} {c : List CG} (h : Okk x b c) : DimsOk x b (dm x b) b.length := by
 have hg : ∀ i, i < b.length → (0 ≤ (rd_T48 b (i : Int)).f1 ∧ (rd_T48 b (i : Int)).f1 < (x.length : Int)) ∧ 1 ≤ dm x b i ∧ dm x b i ≤ 12 := by
  intro i hi
  have hs := h.sets _ (List.getElem_mem hi)
  rw [← rd48 hi] at hs
  obtain ⟨n, hn, he, hx⟩ := set_get hs.1 hs.2
  have hc := h.cols _ (List.getElem_mem hn)
  unfold dm
  rw [hx]
  exact ⟨hs, hc⟩
 exact ⟨fun i hi => by unfold inSets; rw [decide_eq_true (hg i hi).1.1, decide_eq_true (hg i hi).1.2]; rfl, fun i hi => rfl, fun i hi => (hg i hi).2.1, fun i hi => (hg i hi).2.2⟩
theorem np_small {x : List CS} {b : List CV} {c : List CG} (h : Okk x b c) : 1 ≤ np (dm x b) b.length ∧ np (dm x b) b.length ≤ 20736 := by
 have hd := dims_ok h
 refine ⟨np_pos _ hd.pos, Nat.le_trans (np_le _ hd.le) ?_⟩
 have hb := h.bl
 calc 12 ^ b.length ≤ 12 ^ 4 := Nat.pow_le_pow_right (by omega) hb
  _ = 20736 := by decide
def bindings (x : List CS) (b : List CV) : List (List Int) := (List.range (np (dm x b) b.length)).map (dec (dm x b) b.length)
def allL (x : List CS) (b : List CV) (c : List CG) : List (List Int) := if chkAll x x.length b c = 0 then (bindings x b).filter (gOk c) else []
theorem dec_bound {x : List CS} {b : List CV} {c : List CG} (h : Okk x b c) (q : Nat) : boundB x b (dec (dm x b) b.length q) = true := by
 refine boundB_iff.2 ⟨dec_len _ _ _, fun i hi => ?_⟩
 have := dec_rd (D := dm x b) b.length q i hi (dims_ok h).pos
 rw [(dims_ok h).set i hi]
 exact this
theorem holds_gOk {a : ByteArray} {b : List CV} {c : List CG} {d e : List CA} {l : List Int} (hc : c.length ≤ 1000) (hg : ∀ g ∈ c, (0 ≤ g.f1 ∧ g.f1 < (l.length : Int)) ∧ 0 ≤ g.f2 ∧ g.f2 < (l.length : Int)) :
  (binding_holds.f a b c d e l == some true) = gOk c l := by
 unfold binding_holds.f
 rw [if_pos hc, holdsGo_eq l c hg]
 cases gOk c l <;> rfl
theorem pAll {x : List CS} {a : ByteArray} {b : List CV} {c : List CG} {d e : List CA} (hs : Sm x b c) : binding_All.f x a b c d e = some (allL x b c) := by
 unfold binding_All.f allL
 rw [pCheck hs]
 simp only [Option.bind_some]
 by_cases h : chkAll x x.length b c = 0
 ·rw [if_neg (by omega), if_pos hs.hb, if_pos h]
  have ok := chk_zero h
  have hn := np_small ok
  have := seqB_dec (dims_ok ok) (np (dm x b) b.length - 1) 0 (by omega) (by omega) 100000 (by omega)
  rw [dec_zero] at this
  rw [this]
  simp only [Option.bind_some]
  rw [show np (dm x b) b.length - 1 + 1 = np (dm x b) b.length by omega, ← List.range_eq_range']
  rw [if_pos ⟨by simp; omega, hs.hc, List.all_eq_true.2 fun g hg => decide_eq_true (ok.grds g hg)⟩]
  congr 1
  refine List.filter_congr fun l hl => ?_
  obtain ⟨q, _, rfl⟩ := List.mem_map.1 hl
  exact holds_gOk hs.hc (by rw [dec_len]; exact ok.grds)
 ·rw [if_pos h, if_neg h]

theorem rd_L {l : List (List Int)} {i : Nat} (h : i < l.length) : rd_L15 l (i : Int) = l[i] := by simp [rd_L15, h]
set_option maxHeartbeats 2000000 in
theorem rAll (x : List CS) (a : ByteArray) (b : List CV) (c : List CG) (d e : List CA) (hs : Sm x b c) : Ev (fun k => r40_All.f k x a b c d e) (allL x b c) := by
 unfold r40_All.f allL
 refine Ev.bind (rCheck x a b c d e hs) ?_
 refine Ev.ite (fun h => ?_) (fun h => Ev.val (by rw [if_neg h]))
 rw [if_pos h]
 have ok := chk_zero h
 have hD := dims_ok ok
 have hn := np_small ok
 have hb := hs.hb
 have l3 : ∀ dd i, np (dm x b) b.length - i = dd → i ≤ np (dm x b) b.length → Ev (fun k => r40_All.l3 k x (bindings x b) (((List.range i).map (dec (dm x b) b.length)).filter (gOk c)) (i : Int) a b c d e) ((bindings x b).filter (gOk c)) := by
  have hbl : (bindings x b).length = np (dm x b) b.length := by simp [bindings]
  intro dd
  induction dd with
  | zero =>
   intro i hd hi
   obtain rfl : i = np (dm x b) b.length := by omega
   refine Ev.succ ?_
   simp only [r40_All.l3, hbl]
   exact Ev.neg (by omega) (Ev.now _)
  | succ dd ih =>
   intro i hd hi
   have hil : i < (bindings x b).length := by omega
   have hbi : (bindings x b)[i] = dec (dm x b) b.length i := by simp [bindings]
   refine Ev.succ ?_
   simp only [r40_All.l3, rd_L hil, hbi]
   refine Ev.pos (by omega) (Ev.pos (by omega) ?_)
   refine Ev.bind (rHolds x a b c d e hs _) ?_
   have hh : holdB x b c (dec (dm x b) b.length i) = gOk c (dec (dm x b) b.length i) := by
    unfold holdB; rw [decide_eq_true h, dec_bound ok]; rfl
   rw [hh]
   have hih := ih (i + 1) (by omega) (by omega)
   rw [List.range_succ, List.map_append, List.filter_append] at hih
   refine Ev.ite (fun hg => ?_) (fun hg => ?_)
   ·have hlen : (((List.range i).map (dec (dm x b) b.length)).filter (gOk c)).length ≤ i := Nat.le_trans (List.length_filter_le _ _) (by simp)
    refine Ev.pos (by omega) ?_
    rw [wrap_succ (by omega)]
    simpa [hg] using hih
   ·rw [wrap_succ (by omega)]
    simpa [hg] using hih
 have l0 : ∀ dd i, b.length - i = dd → i ≤ b.length → Ev (fun k => r40_All.l0 k x ((List.range (np (dm x b) i)).map (dec (dm x b) i)) (i : Int) a b c d e) ((bindings x b).filter (gOk c)) := by
  intro dd
  induction dd with
  | zero =>
   intro i hd hi
   obtain rfl : i = b.length := by omega
   refine Ev.succ ?_
   simp only [r40_All.l0]
   refine Ev.neg (by omega) ?_
   exact l3 _ 0 rfl (by omega)
  | succ dd ih =>
   intro i hd hi
   have hil : i < b.length := by omega
   have hnext := ih (i + 1) (by omega) (by omega)
   have hDi := hD.pos i hil
   have hDi2 := hD.le i hil
   have hsi := ok.sets _ (List.getElem_mem hil)
   have hni : np (dm x b) i ≤ 20736 := by
    refine Nat.le_trans (np_le i (fun q hq => hD.le q (by omega))) ?_
    have := ok.bl
    calc 12 ^ i ≤ 12 ^ 4 := Nat.pow_le_pow_right (by omega) (by omega)
     _ = 20736 := by decide
   have hdec : ∀ k q, q < dm x b i → dec (dm x b) (i + 1) (k * dm x b i + q) = dec (dm x b) i k ++ [(q : Int)] := by
    intro k q hq
    show dec (dm x b) i ((k * dm x b i + q) / dm x b i) ++ [(((k * dm x b i + q) % dm x b i : Nat) : Int)] = _
    rw [show (k * dm x b i + q) / dm x b i = k by rw [Nat.mul_comm, Nat.mul_add_div (by omega), Nat.div_eq_of_lt hq, Nat.add_zero], show (k * dm x b i + q) % dm x b i = q by rw [Nat.mul_comm, Nat.mul_add_mod, Nat.mod_eq_of_lt hq]]
   have l1 : ∀ d1 k, np (dm x b) i - k = d1 → k ≤ np (dm x b) i → Ev (fun kk => r40_All.l1 kk x ((List.range (np (dm x b) i)).map (dec (dm x b) i)) (i : Int) ((List.range (k * dm x b i)).map (dec (dm x b) (i + 1))) (k : Int) a b c d e) ((bindings x b).filter (gOk c)) := by
    intro d1
    induction d1 with
    | zero =>
     intro k hd1 hk
     obtain rfl : k = np (dm x b) i := by omega
     refine Ev.succ ?_
     simp only [r40_All.l1, List.length_map, List.length_range]
     refine Ev.neg (by omega) ?_
     rw [wrap_succ (by omega)]
     exact hnext
    | succ d1 ih1 =>
     intro k hd1 hk
     have hkl : k < np (dm x b) i := by omega
     refine Ev.succ ?_
     simp only [r40_All.l1, List.length_map, List.length_range]
     refine Ev.pos (by omega) ?_
     have hk1 := ih1 (k + 1) (by omega) (by omega)
     have l2 : ∀ d2 q, dm x b i - q = d2 → q ≤ dm x b i → Ev (fun kk => r40_All.l2 kk x ((List.range (np (dm x b) i)).map (dec (dm x b) i)) (i : Int) ((List.range (k * dm x b i + q)).map (dec (dm x b) (i + 1))) (k : Int) (q : Int) a b c d e) ((bindings x b).filter (gOk c)) := by
      intro d2
      induction d2 with
      | zero =>
       intro q hd2 hq
       obtain rfl : q = dm x b i := by omega
       refine Ev.succ ?_
       simp only [r40_All.l2, rd48 hil]
       refine Ev.pos (by omega) (Ev.pos (by omega) (Ev.pos hsi.1 (Ev.pos hsi.2 ?_)))
       have e1 : (rd_T51 x b[i].f1).f1.length = dm x b i := by unfold dm; rw [rd48 hil]
       rw [e1]
       refine Ev.neg (by omega) ?_
       rw [wrap_succ (by omega)]
       rw [show k * dm x b i + dm x b i = (k + 1) * dm x b i by rw [Nat.add_mul, Nat.one_mul]]
       exact hk1
      | succ d2 ih2 =>
       intro q hd2 hq
       have hql : q < dm x b i := by omega
       refine Ev.succ ?_
       simp only [r40_All.l2, rd48 hil, List.length_map, List.length_range]
       have e1 : (rd_T51 x b[i].f1).f1.length = dm x b i := by unfold dm; rw [rd48 hil]
       rw [e1]
       have hrk : rd_L15 ((List.range (np (dm x b) i)).map (dec (dm x b) i)) (k : Int) = dec (dm x b) i k := by
        rw [rd_L (by simpa using hkl)]; simp
       have hmul : k * dm x b i ≤ 20736 * 12 := Nat.mul_le_mul (by omega) (by omega)
       rw [hrk]
       simp only [dec_len, List.nil_append, Option.bind_some, List.length_nil]
       refine Ev.pos (by omega) (Ev.pos (by omega) (Ev.pos hsi.1 (Ev.pos hsi.2 (Ev.pos (by omega) (Ev.pos (by omega) (Ev.pos (by omega) (Ev.pos (by omega) (Ev.pos (by omega) (Ev.pos (by omega) ?_)))))))))
       rw [wrap_succ (by omega)]
       have h2 := ih2 (q + 1) (by omega) (by omega)
       rw [← Nat.add_assoc, List.range_succ, List.map_append, List.map_cons, List.map_nil, hdec k q hql] at h2
       exact h2
     have := l2 _ 0 rfl (by omega)
     simpa using this
   refine Ev.succ ?_
   simp only [r40_All.l0]
   refine Ev.pos (by omega) ?_
   have := l1 _ 0 rfl (by omega)
   simpa using this
 have := l0 _ 0 rfl (by omega)
 simpa [np, dec] using this

theorem rColors (x : List CS) (a : ByteArray) (b : List CV) (c : List CG) (d e : List CA) (ok : Okk x b c) : Ev (fun k => r40_Colors.f k x a b c d e) ((np (dm x b) b.length : Nat) : Int) := by
 unfold r40_Colors.f
 have hD := dims_ok ok
 have hb := ok.bl
 have l0 : ∀ dd i, b.length - i = dd → i ≤ b.length → Ev (fun k => r40_Colors.l0 k x ((np (dm x b) i : Nat) : Int) (i : Int) a b c d e) ((np (dm x b) b.length : Nat) : Int) := by
  intro dd
  induction dd with
  | zero =>
   intro i hd hi
   obtain rfl : i = b.length := by omega
   refine Ev.succ ?_
   simp only [r40_Colors.l0]
   exact Ev.neg (by omega) (Ev.now _)
  | succ dd ih =>
   intro i hd hi
   have hil : i < b.length := by omega
   have hsi := ok.sets _ (List.getElem_mem hil)
   refine Ev.succ ?_
   simp only [r40_Colors.l0, rd48 hil]
   have e1 : (rd_T51 x b[i].f1).f1.length = dm x b i := by unfold dm; rw [rd48 hil]
   rw [e1]
   refine Ev.pos (by omega) (Ev.pos (by omega) (Ev.pos hsi.1 (Ev.pos hsi.2 ?_)))
   have hni : np (dm x b) i ≤ 20736 := by
    refine Nat.le_trans (np_le i (fun q hq => hD.le q (by omega))) ?_
    calc 12 ^ i ≤ 12 ^ 4 := Nat.pow_le_pow_right (by omega) (by omega)
     _ = 20736 := by decide
   have hdi := hD.le i hil
   have hm : np (dm x b) i * dm x b i ≤ 20736 * 12 := Nat.mul_le_mul hni hdi
   rw [wrap_succ (by omega), ← Int.natCast_mul, wrap_id (by omega) (by omega)]
   exact ih (i + 1) (by omega) (by omega)
 exact l0 _ 0 rfl (by omega)

theorem rlists (xs ys : List (List Int)) (hx : xs.length < 4611686018427387904) (hxs : ∀ l ∈ xs, l.length < 4611686018427387904) : Ev (fun k => r04_Lists.f k xs ys) (decide (xs = ys)) := by
 unfold r04_Lists.f
 by_cases hl : xs.length = ys.length
 ·refine Ev.pos (by omega) ?_
  have hk : ∀ dd i, xs.length - i = dd → i ≤ xs.length → (xs.take i = ys.take i) → Ev (fun k => r04_Lists.l0 k xs ys (i : Int)) (decide (xs = ys)) := by
   intro dd
   induction dd with
   | zero =>
    intro i hd hi he
    obtain rfl : i = xs.length := by omega
    refine Ev.succ ?_
    simp only [r04_Lists.l0]
    refine Ev.neg (by omega) (Ev.val ?_)
    rw [List.take_length, hl, List.take_length] at he
    simp [he]
   | succ dd ih =>
    intro i hd hi he
    have h1 : i < xs.length := by omega
    have h2 : i < ys.length := by omega
    refine Ev.succ ?_
    simp only [r04_Lists.l0, rd_L h1, rd_L h2]
    refine Ev.pos (by omega) (Ev.pos (by omega) (Ev.pos (by omega) ?_))
    refine Ev.bind (rsame _ _ (hxs _ (List.getElem_mem h1))) ?_
    refine Ev.ite (fun h => ?_) (fun h => Ev.val ?_)
    ·rw [wrap_succ (by omega)]
     refine ih (i + 1) (by omega) (by omega) ?_
     rw [List.take_succ_eq_append_getElem h1, List.take_succ_eq_append_getElem h2, he, of_decide_eq_true h]
    ·symm; rw [decide_eq_false_iff_not]
     rintro rfl; exact h (decide_eq_true rfl)
  exact hk _ 0 rfl (by omega) (by simp)
 ·refine Ev.neg (by omega) (Ev.val ?_)
  symm; rw [decide_eq_false_iff_not]
  rintro rfl; exact hl rfl

end Go.Proofs.Ytapkjfnfkalibaa.BAll

/- For all color sets and transitions with at most 300 bindings, All of package binding returns what the reference returns. -/
namespace Go.Proofs.Ytapkjfnfkalibaa.Pure
open Go.RowKit Go.Proofs.Ytapkjfnfkalibaa.Pr Go.Proofs.Ytapkjfnfkalibaa.Evs Go.Proofs.Ytapkjfnfkalibaa.BChk Go.Proofs.Ytapkjfnfkalibaa.BLives Go.Proofs.Ytapkjfnfkalibaa.BAll Go.Proofs.YtapkjfnfkalibaaW.PrintWords Go.Proofs.YtapkjfnfkalibaaW.PrintLast Go.Proofs.YtapkjfnfkalibaaW.PrintMore
set_option linter.unusedVariables false
theorem BindingLists (x : List CS) (t : ByteArray × List CV × List CG × List CA × List CA) {P0 P1 : Prop} (h0 : P0) (h1 : P1) :
  ∃ k, l40_BindingLists.f k x t.1 t.2.1 t.2.2.1 t.2.2.2.1 t.2.2.2.2 = some true := by
 obtain ⟨a, b, c, d, e⟩ := t
 obtain ⟨r, hr, hf⟩ := few x a b c d e
 apply Ev.rounds
 unfold l40_BindingLists.f
 refine Ev.bind hr ?_
 have hyes : Ev (fun k => l40_BindingLists.j0 k x true a b c d e) true := by
  refine Ev.succ ?_
  simp only [l40_BindingLists.j0]
  exact Ev.pos trivial lives'
 refine Ev.ite (fun h => ?_) (fun _ => hyes)
 have hs := sm (hf h)
 have hno : Ev (fun k => l40_BindingLists.j0 k x false a b c d e) true := by
  refine Ev.succ ?_
  simp only [l40_BindingLists.j0, pAll hs, Option.bind_some]
  refine Ev.neg (by simp) (Ev.bind (rAll x a b c d e hs) ?_)
  have hlen : (allL x b c).length < 4611686018427387904 ∧ ∀ l ∈ allL x b c, l.length < 4611686018427387904 := by
   unfold allL
   split
   ·rename_i hz
    have ok := chk_zero hz
    have hn := np_small ok
    refine ⟨?_, fun l hl => ?_⟩
    ·have h1 := List.length_filter_le (BEval.gOk c) (bindings x b)
     have h2 : (bindings x b).length = np (dm x b) b.length := by simp [bindings]
     omega
    ·have := (List.mem_filter.1 hl).1
     obtain ⟨q, _, rfl⟩ := List.mem_map.1 this
     rw [dec_len]; have := ok.bl; omega
   ·exact ⟨by simp, fun l hl => by cases hl⟩
  refine Ev.bind (rlists _ _ hlen.1 hlen.2) ?_
  exact Ev.pos (by simp) lives'
 refine Ev.bind (rCheck x a b c d e hs) ?_
 refine Ev.ite (fun hz => ?_) (fun _ => hno)
 refine Ev.bind (rColors x a b c d e (chk_zero hz)) ?_
 by_cases h3 : ((np (dm x b) b.length : Nat) : Int) > 300
 ·rw [decide_eq_true h3]; exact hyes
 ·rw [decide_eq_false h3]; exact hno
end Go.Proofs.Ytapkjfnfkalibaa.Pure

