/- For all color sets, transitions and sums of terms, Check and CheckTerms of package binding return what the reference returns. -/
import Derived.Test.YtapkjfnfkalibaaQBindingChecks0
import Derived.Test.YtapkjfnfkalibaaQBindingChecks1
import Derived.Test.YtapkjfnfkalibaaQBindingChecks2
import Derived.Test.YtapkjfnfkalibaaQBindingChecks3
import Derived.Test.YtapkjfnfkalibaaQBindingChecks4
import Derived.Test.YtapkjfnfkalibaaBBindingChecks
import Derived.Test.YtapkjfnfkalibaaVBindingChecks
import Derived.Deep.Slices
import Derived.ChangeArms
/- General lemmas of this seat's proofs, in one text. -/
/- What the references' Name answers: the same of bytes as Names.nameB. -/
namespace Go.Proofs.Ytapkjfnfkalibaa.RName
open Go.RowKit Go.Proofs.Ytapkjfnfkalibaa.Pr Go.Proofs.Ytapkjfnfkalibaa.Evs Go.Proofs.Ytapkjfnfkalibaa.Names Go.Proofs.YtapkjfnfkalibaaW.PrintWords Go.Proofs.YtapkjfnfkalibaaW.PrintLast Go.Proofs.YtapkjfnfkalibaaW.PrintMore
set_option linter.unusedVariables false
set_option linter.unusedSimpArgs false

theorem bt_byte {s : ByteArray} {i : Nat} (h : i < s.size) : bt s (i : Int) = (byteAt s i : Int) := by
 rw [byteAt_get s i h]
 simp [bt, h]
set_option maxHeartbeats 2000000 in
theorem name_l0 (s : ByteArray) (h1 : 1 ≤ s.size) (h16 : s.size ≤ 16) : ∀ (d i : Nat), i ≤ s.size → s.size - i = d → (∀ j, j < i → okB j (byteAt s j) = true) → Ev (fun k => r09_Name.l0 k s (i : Int)) (nameB s) := by
 intro d
 induction d with
 | zero =>
  intro i hi hd hok
  obtain rfl : i = s.size := by omega
  refine Ev.succ ?_
  simp only [r09_Name.l0]
  exact Ev.neg (by omega) (Ev.val (nameB_true h1 h16 hok).symm)
 | succ d ih =>
  intro i hi hd hok
  have hlt : i < s.size := by omega
  have hb := bt_byte hlt
  obtain ⟨c, hc⟩ : ∃ c, byteAt s i = c := ⟨_, rfl⟩
  rw [hc] at hb
  have hgo : okB i c = true → Ev (fun k => r09_Name.l0 k s (wrap64 ((i : Int) + 1))) (nameB s) := by
   intro hk
   rw [wrap_succ (by omega)]
   refine ih (i + 1) (by omega) (by omega) (fun j hj => ?_)
   by_cases hji : j = i
   ·subst hji; rw [hc]; exact hk
   ·exact hok j (by omega)
  have hstop : okB i c = false → Ev (fun _ : Nat => some false) (nameB s) := fun hk => Ev.val (nameB_false hlt (by rw [hc]; exact hk)).symm
  refine Ev.succ ?_
  simp only [r09_Name.l0, hb]
  refine Ev.pos (by omega) (Ev.pos (by omega) ?_)
  repeat' (refine Ev.ite (fun _ => ?_) (fun _ => ?_))
  all_goals first
   | exact hgo (okB_of (by omega))
   | exact hstop (okB_not (by omega))
   | (exfalso; omega)
theorem rname (s : ByteArray) : Ev (fun k => r09_Name.f k s) (nameB s) := by
 unfold r09_Name.f
 have hj : ∀ b : Bool, (b = true → nameB s = false) → (b = false → 1 ≤ s.size ∧ s.size ≤ 16) → Ev (fun k => r09_Name.j0 k s b) (nameB s) := by
  intro b ht hf
  refine Ev.succ ?_
  simp only [r09_Name.j0]
  refine Ev.ite (fun h => Ev.val (ht h).symm) (fun h => ?_)
  obtain ⟨h1, h2⟩ := hf (by simpa using h)
  exact name_l0 s h1 h2 _ 0 (by omega) rfl (fun j hj => by omega)
 refine Ev.ite (fun h => hj true (fun _ => ?_) (fun h => by cases h)) (fun h => hj _ (fun h2 => ?_) (fun h2 => ?_))
 ·unfold nameB; rw [decide_eq_false (show ¬ 1 ≤ s.size by omega)]; rfl
 ·have h3 := of_decide_eq_true h2
  unfold nameB; rw [decide_eq_false (show ¬ s.size ≤ 16 by omega)]; simp
 ·have h3 := of_decide_eq_false h2
  omega
end Go.Proofs.Ytapkjfnfkalibaa.RName

/- A datum that is read deep (the statements' reader) told as the walks tell it: rows of rows, texts, numbers. -/
namespace Go.Proofs.Ytapkjfnfkalibaa.Opens
set_option linter.unusedVariables false
open Go.RowKit Go.WideShapes Go.Deep Go.Proofs.YtapkjfnfkalibaaW.PrintWords

/-- What the statements' reader finds at cells of type t is what d tells of some a with ok. -/
structure Opens {α H : Type} (enc : TypeId × Value → H) (P : Program) (w : World) (base : Nat) (spare : Nat → Bool) (held : Bool) (d : Kd α) (t : TypeId) (ok : α → Prop) : Prop where
 cells : P.cellsOf t = d.sz
 opens : ∀ (fuel : Nat) (cs : List Value) (x : DataW H × List MemPlace), DataW.trod enc P w base spare held fuel t cs = some x → ∃ a, d.K w a cs ∧ ok a

section
variable {H : Type} {enc : TypeId × Value → H} {P : Program} {w : World} {base : Nat} {spare : Nat → Bool} {held : Bool}
theorem string {t : TypeId} (ht : P.underlying t = some .string) (hc : P.cellsOf t = 1) : Opens enc P w base spare held Kd.string t (fun s => s.size ≤ maxLen) :=
 ⟨hc, fun fuel cs x h => by obtain ⟨s, rfl, _, hs⟩ := DataW.trod_string ht h; exact ⟨s, rfl, hs⟩⟩
theorem bool {t : TypeId} (ht : P.underlying t = some .bool) (hc : P.cellsOf t = 1) : Opens enc P w base spare held Kd.bool t (fun _ => True) :=
 ⟨hc, fun fuel cs x h => by obtain ⟨s, rfl, _⟩ := DataW.trod_bool ht h; exact ⟨s, rfl, trivial⟩⟩
theorem int {t : TypeId} {k : IntKind} (ht : P.underlying t = some (.int k)) (hc : P.cellsOf t = 1) : Opens enc P w base spare held (Kd.int k) t (fun n => (Lit.int k n).wf = true) :=
 ⟨hc, fun fuel cs x h => by obtain ⟨s, rfl, _, hs⟩ := DataW.trod_int ht h; exact ⟨s, rfl, hs⟩⟩
theorem list_of {α : Type} {p : Nat → α → Prop} : ∀ (n : Nat), (∀ i, i < n → ∃ a, p i a) → ∃ xs : List α, xs.length = n ∧ ∀ i a, xs[i]? = some a → p i a
 | 0, _ => ⟨[], rfl, fun i a h => by simp at h⟩
 | n + 1, h => by
  obtain ⟨xs, hl, hx⟩ := list_of n (fun i hi => h i (by omega))
  obtain ⟨a, ha⟩ := h n (by omega)
  refine ⟨xs ++ [a], by simp [hl], fun i b hb => ?_⟩
  by_cases hi : i < xs.length
  ·rw [List.getElem?_append_left hi] at hb; exact hx i b hb
  ·have hlt := (List.getElem?_eq_some_iff.1 hb).1
   simp only [List.length_append, List.length_cons, List.length_nil] at hlt
   obtain rfl : i = n := by omega
   rw [List.getElem?_append_right (by omega)] at hb
   simp [hl] at hb
   rw [← hb]; exact ha
theorem slice {α : Type} {d : Kd α} {t e : TypeId} {ok : α → Prop} (h : Opens enc P w base spare held d e ok) (ht : P.underlying t = some (.slice e)) (hc : P.cellsOf t = 1) :
  Opens enc P w base spare held (Kd.slice e d) t (fun xs => xs.length ≤ maxLen ∧ ∀ x ∈ xs, ok x) := by
 refine ⟨hc, fun fuel cs x hx => ?_⟩
 rcases open_slice ht hx with ⟨rfl, _⟩ | ⟨a, len, cap, m, n, D, Pl, rfl, _, hl, hm, hmm, _, hi⟩
 ·exact ⟨[], ⟨none, 0, rfl, Nat.le_refl _, Kd.C_nil _ _⟩, by simp, by simp⟩
 ·have hlm : len ≤ m := by rw [hmm]; split <;> omega
  obtain ⟨xs, hxl, hxs⟩ := list_of (p := fun i b => ∃ c, c.length = d.sz ∧ d.K w b c ∧ ok b ∧ ∀ j u, c[j]? = some u → w.cell? (a.add (i * d.sz + j)) = some u) len (fun i hlt => by
   obtain ⟨cs', h1, h2⟩ := hi i (by omega)
   obtain ⟨b, hK, hok⟩ := h.opens _ _ _ h2
   obtain ⟨_, hlen, hcell⟩ := World.cells?_some h1
   refine ⟨b, cs', by rw [hlen, h.cells], hK, hok, fun j u hu => ?_⟩
   have hj := (List.getElem?_eq_some_iff.1 hu).1
   rw [← hu, ← hcell j (by omega), h.cells, Addr.add_add])
  subst hxl
  refine ⟨xs, ⟨some a, cap, rfl, hl, rfl, by unfold maxLen at hm; omega, fun _ => ⟨a, rfl, fun j p hp => ?_⟩⟩, by omega, fun y hy => ?_⟩
  ·obtain ⟨c, h1, h2, _, h4⟩ := hxs j p hp
   exact ⟨c, h1, h2, h4⟩
  ·obtain ⟨j, hj⟩ := List.mem_iff_getElem?.1 hy
   obtain ⟨c, _, _, h3, _⟩ := hxs j y hj
   exact h3
/-- A parameter that is a row. -/
theorem param {α : Type} {d : Kd α} {t e : TypeId} {ok : α → Prop} (h : Opens enc P w base spare held d e ok) (ht : P.underlying t = some (.slice e)) (hc : P.cellsOf t = 1) {a : Option Addr} {len cap : Nat} {D : DataW H} {ps : List MemPlace}
  (hd : DataW.Trod enc P w base spare held t (.slice a len cap) D ps) : ∃ xs : List α, len = xs.length ∧ xs.length ≤ cap ∧ d.C w a xs.length xs ∧ xs.length ≤ maxLen ∧ ∀ x ∈ xs, ok x := by
 obtain ⟨fuel, hf⟩ := hd
 obtain ⟨xs, ⟨A, c, he, hcap, hC⟩, hl, hx⟩ := (slice h ht hc).opens _ _ _ hf
 have he' : [Value.slice a len cap] = [.slice A xs.length c] := he
 simp only [List.cons.injEq, Value.slice.injEq, and_true] at he'
 obtain ⟨rfl, rfl, rfl⟩ := he'
 exact ⟨xs, rfl, hcap, hC, hl, hx⟩
/-! ### Structs -/
/-- The fields of a struct, from some place of its cells on. -/
structure OpensL {α H : Type} (enc : TypeId × Value → H) (P : Program) (w : World) (base : Nat) (spare : Nat → Bool) (held : Bool) (d : Kd α) (fs : List Field) (o : Nat) (ok : α → Prop) : Prop where
 opens : ∀ (n : Nat) (cs : List Value), (∀ f ∈ fs, ∃ y, DataW.trod enc P w base spare held n f.type ((cs.drop f.offset).take (P.cellsOf f.type)) = some y) → ∃ a, d.K w a ((cs.drop o).take d.sz) ∧ ok a
theorem one {α : Type} {d : Kd α} {f : Field} {o : Nat} {ok : α → Prop} (h : Opens enc P w base spare held d f.type ok) (ho : f.offset = o) : OpensL enc P w base spare held d [f] o ok :=
 ⟨fun n cs hf => by
  obtain ⟨y, hy⟩ := hf f List.mem_cons_self
  obtain ⟨a, hK, hok⟩ := h.opens _ _ _ hy
  rw [h.cells, ho] at hK
  exact ⟨a, hK, hok⟩⟩
theorem cons {α β : Type} {d1 : Kd α} {d2 : Kd β} {f : Field} {fs : List Field} {o o2 : Nat} {ok1 : α → Prop} {ok2 : β → Prop} (h : Opens enc P w base spare held d1 f.type ok1) (ho : f.offset = o) (ho2 : o + d1.sz = o2) (h2 : OpensL enc P w base spare held d2 fs o2 ok2) :
  OpensL enc P w base spare held (Kd.pair d1 d2) (f :: fs) o (fun a => ok1 a.1 ∧ ok2 a.2) :=
 ⟨fun n cs hf => by
  obtain ⟨y, hy⟩ := hf f List.mem_cons_self
  obtain ⟨a, hK, hok⟩ := h.opens _ _ _ hy
  rw [h.cells, ho] at hK
  obtain ⟨b, hK2, hok2⟩ := h2.opens n cs (fun g hg => hf g (List.mem_cons_of_mem _ hg))
  refine ⟨(a, b), ⟨_, _, ?_, hK, hK2⟩, hok, hok2⟩
  rw [← ho2, ← List.drop_drop]
  exact List.take_add⟩
theorem tuple {α : Type} {d : Kd α} {t : TypeId} {fs : Array Field} {ok : α → Prop} (ht : P.underlying t = some (.struct fs)) (hc : P.cellsOf t = d.sz) (h : OpensL enc P w base spare held d fs.toList 0 ok) : Opens enc P w base spare held d t ok := by
 refine ⟨hc, fun fuel cs x hx => ?_⟩
 obtain ⟨xs, n, rfl, rfl, hl, hlen, hf⟩ := DataW.trod_struct ht hx
 obtain ⟨a, hK, hok⟩ := h.opens n cs (fun f hm => by
  obtain ⟨i, hi⟩ := List.mem_iff_getElem?.1 hm
  have hi' : fs[i]? = some f := by simpa using hi
  have hlt : i < xs.length := by rw [hlen]; exact (Array.getElem?_eq_some_iff.1 hi').1
  exact ⟨xs[i], by rw [hf i f hi', List.getElem?_eq_getElem hlt]⟩)
 rw [List.drop_zero, List.take_of_length_le (by rw [hl, hc]; exact Nat.le_refl _)] at hK
 exact ⟨a, hK, hok⟩
theorem struct {α β : Type} {d : Kd α} {t : TypeId} {fs : Array Field} {ok : α → Prop} {f : β → α} (g : α → β) (hg : ∀ a, f (g a) = a) (ht : P.underlying t = some (.struct fs)) (hc : P.cellsOf t = d.sz) (h : OpensL enc P w base spare held d fs.toList 0 ok) :
  Opens enc P w base spare held (Kd.iso d f) t (fun b => ok (f b)) := by
 refine ⟨hc, fun fuel cs x hx => ?_⟩
 obtain ⟨a, hK, hok⟩ := (tuple ht hc h).opens fuel cs x hx
 exact ⟨g a, by show d.K w (f (g a)) cs; rw [hg]; exact hK, by rw [hg]; exact hok⟩
/-- A parameter that is a struct. -/
theorem value {α : Type} {d : Kd α} {t : TypeId} {ok : α → Prop} (h : Opens enc P w base spare held d t ok) {cs : Array Value} {D : DataW H} {ps : List MemPlace}
  (hd : DataW.Trod enc P w base spare held t (.agg cs) D ps) : ∃ a, d.K w a cs.toList ∧ ok a := by
 obtain ⟨fuel, hf⟩ := hd
 obtain ⟨a, hK, hok⟩ := h.opens _ _ _ hf
 exact ⟨a, by simpa [Value.cells] using hK, hok⟩
end
end Go.Proofs.Ytapkjfnfkalibaa.Opens

/- Chapter 40: Check and CheckTerms, of the program and of the reference. -/
namespace Go.Proofs.Ytapkjfnfkalibaa.BChk
open Go.RowKit Go.Proofs.Ytapkjfnfkalibaa.Pr Go.Proofs.Ytapkjfnfkalibaa.Evs Go.Proofs.Ytapkjfnfkalibaa.Names Go.Proofs.Ytapkjfnfkalibaa.RName Go.Proofs.YtapkjfnfkalibaaW.PrintWords Go.Proofs.YtapkjfnfkalibaaW.PrintLast Go.Proofs.YtapkjfnfkalibaaW.PrintMore
set_option linter.unusedVariables false
set_option linter.unusedSimpArgs false
abbrev CS := S51
abbrev CV := S48
abbrev CG := S62
abbrev CT := S54
abbrev CA := S111

set_option maxHeartbeats 2000000 in
theorem name39_l0 (s : ByteArray) (h1 : 1 ≤ s.size) (h16 : s.size ≤ 16) : ∀ (d i : Nat), i ≤ s.size → s.size - i = d → (∀ j, j < i → okB j (byteAt s j) = true) → Ev (fun k => r39_Name.l0 k s (i : Int)) (nameB s) := by
 intro d
 induction d with
 | zero =>
  intro i hi hd hok
  obtain rfl : i = s.size := by omega
  refine Ev.succ ?_
  simp only [r39_Name.l0]
  exact Ev.neg (by omega) (Ev.val (nameB_true h1 h16 hok).symm)
 | succ d ih =>
  intro i hi hd hok
  have hlt : i < s.size := by omega
  have hb := bt_byte hlt
  obtain ⟨c, hc⟩ : ∃ c, byteAt s i = c := ⟨_, rfl⟩
  rw [hc] at hb
  have hgo : okB i c = true → Ev (fun k => r39_Name.l0 k s (wrap64 ((i : Int) + 1))) (nameB s) := by
   intro hk
   rw [wrap_succ (by omega)]
   refine ih (i + 1) (by omega) (by omega) (fun j hj => ?_)
   by_cases hji : j = i
   ·subst hji; rw [hc]; exact hk
   ·exact hok j (by omega)
  have hstop : okB i c = false → Ev (fun _ : Nat => some false) (nameB s) := fun hk => Ev.val (nameB_false hlt (by rw [hc]; exact hk)).symm
  refine Ev.succ ?_
  simp only [r39_Name.l0, hb]
  refine Ev.pos (by omega) (Ev.pos (by omega) ?_)
  repeat' (refine Ev.ite (fun _ => ?_) (fun _ => ?_))
  all_goals first
   | exact hgo (okB_of (by omega))
   | exact hstop (okB_not (by omega))
   | (exfalso; omega)
theorem rname39 (s : ByteArray) : Ev (fun k => r39_Name.f k s) (nameB s) := by
 unfold r39_Name.f
 have hj : ∀ b : Bool, (b = true → nameB s = false) → (b = false → 1 ≤ s.size ∧ s.size ≤ 16) → Ev (fun k => r39_Name.j0 k s b) (nameB s) := by
  intro b ht hf
  refine Ev.succ ?_
  simp only [r39_Name.j0]
  refine Ev.ite (fun h => Ev.val (ht h).symm) (fun h => ?_)
  obtain ⟨h1, h2⟩ := hf (by simpa using h)
  exact name39_l0 s h1 h2 _ 0 (by omega) rfl (fun j hj => by omega)
 refine Ev.ite (fun h => hj true (fun _ => ?_) (fun h => by cases h)) (fun h => hj _ (fun h2 => ?_) (fun h2 => ?_))
 ·unfold nameB; rw [decide_eq_false (show ¬ 1 ≤ s.size by omega)]; rfl
 ·have h3 := of_decide_eq_true h2
  unfold nameB; rw [decide_eq_false (show ¬ s.size ≤ 16 by omega)]; simp
 ·have h3 := of_decide_eq_false h2
  omega

theorem rd51 {x : List CS} {i : Nat} (h : i < x.length) : rd_T51 x (i : Int) = x[i] := by simp [rd_T51, h]
theorem rd48 {x : List CV} {i : Nat} (h : i < x.length) : rd_T48 x (i : Int) = x[i] := by simp [rd_T48, h]
theorem rd62 {x : List CG} {i : Nat} (h : i < x.length) : rd_T62 x (i : Int) = x[i] := by simp [rd_T62, h]
theorem rd54 {x : List CT} {i : Nat} (h : i < x.length) : rd_T54 x (i : Int) = x[i] := by simp [rd_T54, h]
theorem same_iff {a b : ByteArray} : sameB a b = true ↔ a.toList = b.toList := by simp [sameB]
theorem data_iff (a b : ByteArray) : a.data.toList = b.data.toList ↔ a.toList = b.toList := by rw [ByteArray.toList_eq, ByteArray.toList_eq]

/-- The first place of a name in a list that holds it. -/
theorem rfind (a : ByteArray) (l : List ByteArray) (v : ByteArray) (hl : l.length < 4611686018427387904) (i : Nat) (hi : i < l.length) (hv : l[i] = v) :
  ∃ r : Int, Ev (fun k => r39_Find.f k a l v) r ∧ (r < (i : Int) ↔ hasK (l.take i) v = true) := by
 have hk : ∀ d j, i - j = d → j ≤ i → (∀ n, n < j → ∀ h : n < l.length, (l[n]).toList ≠ v.toList) →
   ∃ r : Int, Ev (fun k => r39_Find.l0 k v (j : Int) a l) r ∧ (r < (i : Int) ↔ hasK (l.take i) v = true) := by
  intro d
  induction d with
  | zero =>
   intro j hd hj hn
   obtain rfl : j = i := by omega
   refine ⟨(j : Int), ?_, ?_⟩
   ·refine Ev.succ ?_
    simp only [r39_Find.l0]
    refine Ev.pos (by omega) (Ev.pos (by omega) ?_)
    rw [rdOf_get hi, hv]
    exact Ev.pos rfl (Ev.now _)
   ·refine ⟨fun h => absurd h (by omega), fun h => ?_⟩
    exfalso
    simp only [hasK, List.any_eq_true, decide_eq_true_eq] at h
    obtain ⟨x, hx, he⟩ := h
    obtain ⟨n, hn', rfl⟩ := List.mem_iff_getElem.1 hx
    simp only [List.length_take] at hn'
    rw [List.getElem_take] at he
    exact hn n (by omega) (by omega) ((data_iff _ _).1 he)
  | succ d ih =>
   intro j hd hj hn
   have hjl : j < l.length := by omega
   by_cases he : (l[j]).toList = v.toList
   ·refine ⟨(j : Int), ?_, ?_⟩
    ·refine Ev.succ ?_
     simp only [r39_Find.l0]
     refine Ev.pos (by omega) (Ev.pos (by omega) ?_)
     rw [rdOf_get hjl]
     exact Ev.pos he (Ev.now _)
    ·refine ⟨fun _ => ?_, fun _ => by omega⟩
     simp only [hasK, List.any_eq_true, decide_eq_true_eq]
     refine ⟨l[j], ?_, (data_iff _ _).2 he⟩
     exact List.mem_iff_getElem.2 ⟨j, by simp only [List.length_take]; omega, by rw [List.getElem_take]⟩
   ·obtain ⟨r, hr, hi'⟩ := ih (j + 1) (by omega) (by omega) (fun n hn' h => by
     by_cases hnj : n = j
     ·subst hnj; exact he
     ·exact hn n (by omega) h)
    refine ⟨r, ?_, hi'⟩
    refine Ev.succ ?_
    simp only [r39_Find.l0]
    refine Ev.pos (by omega) (Ev.pos (by omega) ?_)
    rw [rdOf_get hjl]
    refine Ev.neg he ?_
    rw [wrap_succ (by omega)]
    exact hr
 exact hk _ 0 rfl (by omega) (fun n hn _ => by omega)

theorem rcheck39_l0 (a : ByteArray) (l : List ByteArray) (hl : l.length < 4611686018427387904) : ∀ d i, l.length - i = d → i ≤ l.length →
  Ev (fun k => r39_Check.l0 k (i : Int) a l) (colGo (l.drop i) (l.take i)) := by
 intro d
 induction d with
 | zero =>
  intro i hd hi
  obtain rfl : i = l.length := by omega
  refine Ev.succ ?_
  simp only [r39_Check.l0, List.drop_length, colGo]
  exact Ev.neg (by omega) (Ev.now _)
 | succ d ih =>
  intro i hd hi
  have hil : i < l.length := by omega
  refine Ev.succ ?_
  simp only [r39_Check.l0, rdOf_get hil]
  refine Ev.pos (by omega) (Ev.pos (by omega) ?_)
  rw [List.drop_eq_getElem_cons hil]
  unfold colGo
  refine Ev.bind (rname39 _) ?_
  refine Ev.ite (fun h => ?_) (fun h => ?_)
  ·obtain ⟨r, hr, hi'⟩ := rfind a l l[i] hl i hil rfl
   rw [if_pos h]
   refine Ev.bind hr ?_
   refine Ev.ite (fun h => ?_) (fun h => ?_)
   ·rw [if_pos (hi'.1 h)]; exact Ev.now _
   ·rw [if_neg (fun h' => h (hi'.2 h'))]
    rw [wrap_succ (by omega)]
    have := ih (i + 1) (by omega) (by omega)
    rwa [List.take_succ_eq_append_getElem hil] at this
  ·rw [if_neg h]; exact Ev.now _
theorem rcheck39 (a : ByteArray) (l : List ByteArray) (hl : l.length < 4611686018427387904) : Ev (fun k => r39_Check.f k a l) (colV a l) := by
 unfold r39_Check.f colV
 refine Ev.bind (rname39 _) ?_
 refine Ev.ite (fun h => ?_) (fun h => ?_)
 ·rw [if_pos h]
  refine Ev.ite (fun h1 => ?_) (fun h1 => ?_)
  ·rw [if_pos (by omega)]
   refine Ev.succ ?_
   simp only [r39_Check.j0]
   exact Ev.pos trivial (Ev.now _)
  ·rw [if_neg (by omega)]
   refine Ev.succ ?_
   simp only [r39_Check.j0]
   refine Ev.ite (fun h2 => ?_) (fun h2 => ?_)
   ·rw [if_pos (by have := of_decide_eq_true h2; omega)]; exact Ev.now _
   ·rw [if_neg (by simp at h2; omega)]
    have := rcheck39_l0 a l hl _ 0 rfl (by omega)
    simpa using this
 ·rw [if_neg h]; exact Ev.now _

theorem rvariable (x : List CS) (a : ByteArray) (b : List CV) (c : List CG) (d e : List CA) (hb : b.length < 4611686018427387904) (i : Nat) (hi : i < b.length) :
  Ev (fun k => r40_variable.f k x a b c d e (i : Int)) (varE x.length (b.take i) b[i]) := by
 unfold r40_variable.f
 refine Ev.pos (by omega) (Ev.pos (by omega) ?_)
 rw [rd48 hi]
 have hl : ∀ dd j, i - j = dd → j ≤ i → (∀ n, n < j → ∀ h : n < b.length, (b[n]).f0.toList ≠ (b[i]).f0.toList) → nameB b[i].f0 = true →
   Ev (fun k => r40_variable.l0 k x (i : Int) (j : Int) a b c d e b[i].f0 b[i].f1) (varE x.length (b.take i) b[i]) := by
  intro dd
  induction dd with
  | zero =>
   intro j hd hj hn hnm
   obtain rfl : j = i := by omega
   refine Ev.succ ?_
   simp only [r40_variable.l0]
   refine Ev.neg (by omega) ?_
   have hno : ¬ ((b.take j).any fun y => sameB y.f0 b[j].f0) = true := by
    intro h
    simp only [List.any_eq_true] at h
    obtain ⟨y, hy, he⟩ := h
    obtain ⟨n, hn', rfl⟩ := List.mem_iff_getElem.1 hy
    simp only [List.length_take] at hn'
    rw [List.getElem_take] at he
    exact hn n (by omega) (by omega) (same_iff.1 he)
   unfold varE
   rw [if_pos hnm, if_neg hno]
   refine Ev.ite (fun h => ?_) (fun h => ?_)
   ·rw [if_pos h]; exact Ev.now _
   ·rw [if_neg h]
    refine Ev.ite (fun h => ?_) (fun h => ?_)
    ·rw [if_pos h]; exact Ev.now _
    ·rw [if_neg h]; exact Ev.now _
  | succ dd ih =>
   intro j hd hj hn hnm
   have hjl : j < b.length := by omega
   refine Ev.succ ?_
   simp only [r40_variable.l0]
   refine Ev.pos (by omega) (Ev.pos (by omega) (Ev.pos (by omega) ?_))
   rw [rd48 hjl]
   refine Ev.ite (fun h => ?_) (fun h => ?_)
   ·unfold varE
    rw [if_pos hnm, if_pos ?_]
    ·exact Ev.now _
    ·simp only [List.any_eq_true]
     exact ⟨b[j], List.mem_iff_getElem.2 ⟨j, by simp only [List.length_take]; omega, by rw [List.getElem_take]⟩, same_iff.2 h⟩
   ·rw [wrap_succ (by omega)]
    exact ih (j + 1) (by omega) (by omega) (fun n hn' h' => by
     by_cases hnj : n = j
     ·subst hnj; exact h
     ·exact hn n (by omega) h') hnm
 refine Ev.bind (rname _) ?_
 refine Ev.ite (fun h => ?_) (fun h => ?_)
 ·exact hl _ 0 rfl (by omega) (fun n hn _ => by omega) h
 ·unfold varE; rw [if_neg h]; exact Ev.now _

theorem inV_iff {b : List CV} {z : Int} : inV b z = true ↔ 0 ≤ z ∧ z < (b.length : Int) := by simp [inV]
theorem rguard (a : ByteArray) (b : List CV) (c : List CG) (d e : List CA) (g : CG) :
  Ev (fun k => r40_guard.f k a b c d e g.f0 g.f1 g.f2) (grdE b g) := by
 have h1 : ∀ p : Bool, ¬ g.f0 < 1 → ¬ 3 < g.f0 → (p = true ↔ ¬ (inV b g.f1 = true ∧ inV b g.f2 = true)) → Ev (fun k => r40_guard.j1 k p a b c d e g.f0 g.f1 g.f2) (grdE b g) := by
  intro p hn1 hn3 hp
  refine Ev.succ ?_
  simp only [r40_guard.j1]
  unfold grdE
  rw [if_neg hn1, if_neg hn3]
  refine Ev.ite (fun h => ?_) (fun h => ?_)
  ·have := hp.1 h
   by_cases h1 : inV b g.f1 = true
   ·rw [if_pos h1, if_neg (fun h2 => this ⟨h1, h2⟩)]; exact Ev.now _
   ·rw [if_neg h1]; exact Ev.now _
  ·have h12 : inV b g.f1 = true ∧ inV b g.f2 = true := Classical.byContradiction fun h' => h (hp.2 h')
   rw [if_pos h12.1, if_pos h12.2]
   have i1 := inV_iff.1 h12.1
   have i2 := inV_iff.1 h12.2
   refine Ev.pos i1.1 (Ev.pos i1.2 (Ev.pos i2.1 (Ev.pos i2.2 ?_)))
   refine Ev.ite (fun h => ?_) (fun h => ?_)
   ·rw [if_pos h]; exact Ev.now _
   ·rw [if_neg h]; exact Ev.now _
 have h0 : ∀ p : Bool, (p = true ↔ g.f0 < 1 ∨ 3 < g.f0) → Ev (fun k => r40_guard.j0 k p a b c d e g.f0 g.f1 g.f2) (grdE b g) := by
  intro p hp
  refine Ev.succ ?_
  simp only [r40_guard.j0]
  refine Ev.ite (fun h => ?_) (fun h => ?_)
  ·unfold grdE
   rcases hp.1 h with h | h
   ·rw [if_pos h]; exact Ev.now _
   ·rw [if_neg (by omega), if_pos h]; exact Ev.now _
  ·have hn1 : ¬ g.f0 < 1 := fun h' => h (hp.2 (Or.inl h'))
   have hn3 : ¬ 3 < g.f0 := fun h' => h (hp.2 (Or.inr h'))
   refine Ev.ite (fun h => ?_) (fun h => ?_)
   ·exact h1 _ hn1 hn3 ⟨fun _ h' => absurd (inV_iff.1 h'.1) (by omega), fun _ => rfl⟩
   refine Ev.ite (fun h => ?_) (fun h => ?_)
   ·exact h1 _ hn1 hn3 ⟨fun _ h' => absurd (inV_iff.1 h'.1) (by omega), fun _ => rfl⟩
   refine Ev.ite (fun h => ?_) (fun h => ?_)
   ·exact h1 _ hn1 hn3 ⟨fun _ h' => absurd (inV_iff.1 h'.2) (by omega), fun _ => rfl⟩
   ·refine h1 _ hn1 hn3 ⟨fun h' h'' => ?_, fun h' => ?_⟩
    ·have := of_decide_eq_true h'; have := (inV_iff.1 h''.2).2; omega
    ·refine decide_eq_true ?_
     refine Classical.byContradiction fun h'' => h' ⟨inV_iff.2 (by omega), inV_iff.2 (by omega)⟩
 unfold r40_guard.f
 refine Ev.ite (fun h => ?_) (fun h => ?_)
 ·exact h0 _ ⟨fun _ => Or.inl h, fun _ => rfl⟩
 ·refine h0 _ ⟨fun h' => Or.inr ?_, fun h' => decide_eq_true ?_⟩
  ·have := of_decide_eq_true h'; omega
  ·omega

structure Sm (x : List CS) (b : List CV) (c : List CG) : Prop where
 hx : x.length ≤ 1000
 hb : b.length ≤ 1000
 hc : c.length ≤ 1000
 hv : ∀ s ∈ x, s.f1.length < 4611686018427387904

theorem rCheck (x : List CS) (a : ByteArray) (b : List CV) (c : List CG) (d e : List CA) (hs : Sm x b c) :
  Ev (fun k => r40_Check.f k x a b c d e) (chkAll x x.length b c) := by
 obtain ⟨hx, hb, hc, hv⟩ := hs
 have l2 : ∀ dd i, c.length - i = dd → i ≤ c.length → Ev (fun k => r40_Check.l2 k (i : Int) a b c d e) (grdsGo b (c.drop i)) := by
  intro dd
  induction dd with
  | zero =>
   intro i hd hi
   obtain rfl : i = c.length := by omega
   refine Ev.succ ?_
   simp only [r40_Check.l2, List.drop_length, grdsGo]
   exact Ev.neg (by omega) (Ev.now _)
  | succ dd ih =>
   intro i hd hi
   have hil : i < c.length := by omega
   refine Ev.succ ?_
   simp only [r40_Check.l2, rd62 hil]
   refine Ev.pos (by omega) (Ev.pos (by omega) ?_)
   rw [List.drop_eq_getElem_cons hil]
   unfold grdsGo
   refine Ev.bind (rguard a b c d e c[i]) ?_
   refine Ev.ite (fun h => ?_) (fun h => ?_)
   ·rw [if_pos h, wrap_succ (by omega)]; exact ih (i + 1) (by omega) (by omega)
   ·rw [if_neg h]; exact Ev.now _
 have l1 : ∀ dd i, b.length - i = dd → i ≤ b.length → Ev (fun k => r40_Check.l1 k x (i : Int) a b c d e) (if varsGo x.length (b.drop i) (b.take i) = 0 then grdsGo b c else varsGo x.length (b.drop i) (b.take i)) := by
  intro dd
  induction dd with
  | zero =>
   intro i hd hi
   obtain rfl : i = b.length := by omega
   refine Ev.succ ?_
   simp only [r40_Check.l1, List.drop_length, varsGo, if_true]
   refine Ev.neg (by omega) ?_
   simpa using l2 _ 0 rfl (by omega)
  | succ dd ih =>
   intro i hd hi
   have hil : i < b.length := by omega
   refine Ev.succ ?_
   simp only [r40_Check.l1]
   refine Ev.pos (by omega) ?_
   rw [List.drop_eq_getElem_cons hil]
   unfold varsGo
   refine Ev.bind (rvariable x a b c d e (by omega) i hil) ?_
   refine Ev.ite (fun h => ?_) (fun h => ?_)
   ·rw [if_pos h, wrap_succ (by omega)]
    have := ih (i + 1) (by omega) (by omega)
    rwa [List.take_succ_eq_append_getElem hil] at this
   ·rw [if_neg h, if_neg h]; exact Ev.now _
 have j1 : ∀ p : Bool, (p = true ↔ x.length < 1 ∨ 8 < x.length ∨ 4 < b.length) → Ev (fun k => r40_Check.j1 k x p a b c d e) (chkTail x.length b c) := by
  intro p hp
  refine Ev.succ ?_
  simp only [r40_Check.j1]
  unfold chkTail
  refine Ev.ite (fun h => ?_) (fun h => ?_)
  ·refine Ev.val ?_
   have := hp.1 h
   split
   ·rfl
   ·split
    ·rfl
    ·rw [if_pos (by omega)]
  ·have hno : ¬ (x.length < 1 ∨ 8 < x.length ∨ 4 < b.length) := fun h' => h (hp.2 h')
   rw [if_neg (by omega), if_neg (by omega), if_neg (by omega)]
   simpa using l1 _ 0 rfl (by omega)
 have l0 : ∀ dd i, x.length - i = dd → i ≤ x.length → Ev (fun k => r40_Check.l0 k x (i : Int) a b c d e) (chkAll (x.drop i) x.length b c) := by
  intro dd
  induction dd with
  | zero =>
   intro i hd hi
   obtain rfl : i = x.length := by omega
   refine Ev.succ ?_
   simp only [r40_Check.l0, List.drop_length, chkAll, setsGo, if_true]
   refine Ev.neg (by omega) ?_
   refine Ev.ite (fun h => j1 _ ⟨fun _ => by omega, fun _ => rfl⟩) (fun h => ?_)
   refine Ev.ite (fun h => j1 _ ⟨fun _ => by omega, fun _ => rfl⟩) (fun h => ?_)
   exact j1 _ ⟨fun h' => by have := of_decide_eq_true h'; omega, fun h' => decide_eq_true (by omega)⟩
  | succ dd ih =>
   intro i hd hi
   have hil : i < x.length := by omega
   refine Ev.succ ?_
   simp only [r40_Check.l0, rd51 hil]
   refine Ev.pos (by omega) (Ev.pos (by omega) ?_)
   have hih := ih (i + 1) (by omega) (by omega)
   rw [List.drop_eq_getElem_cons hil]
   unfold chkAll at hih ⊢
   unfold setsGo
   refine Ev.bind (rcheck39 _ _ (hv _ (List.getElem_mem hil))) ?_
   refine Ev.ite (fun h => ?_) (fun h => ?_)
   ·rw [if_pos h, wrap_succ (by omega)]; exact hih
   ·rw [if_neg h, if_neg h]; exact Ev.now _
 unfold r40_Check.f
 simpa using l0 _ 0 rfl (by omega)

theorem pCheck {x : List CS} {a : ByteArray} {b : List CV} {c : List CG} {d e : List CA} (hs : Sm x b c) : binding_Check.f x a b c d e = some (chkAll x x.length b c) := by
 unfold binding_Check.f
 rw [if_pos ⟨hs.hx, hs.hc⟩]

/-- The error of a variable's number in a term. -/
def vE (b : List CV) (set n : Int) : Int := if 0 ≤ n ∧ n < (b.length : Int) then (if (rd_T48 b n).f1 = set then 0 else 17) else 1
def nE (m n : Int) : Int := if 0 ≤ n ∧ n < m then 0 else 1
/-- The error of a term over a set of colors that is there. -/
def termE (x : List CS) (b : List CV) (set : Int) (t : CT) : Int :=
 if t.f0 < 1 ∨ 99 < t.f0 then 9 else if t.f1 < 1 ∨ 5 < t.f1 then 12 else
 if t.f1 = 1 then nE ((rd_T51 x set).f1.length : Int) t.f2 else
 if t.f1 = 5 then nE 1 t.f2 else vE b set t.f2
theorem termE_w {x : List CS} {b : List CV} {set : Int} {t : CT} (h : t.f0 < 1 ∨ 99 < t.f0) : termE x b set t = 9 := if_pos h
theorem termE_k {x : List CS} {b : List CV} {set : Int} {t : CT} (h : ¬ (t.f0 < 1 ∨ 99 < t.f0)) (hk : t.f1 < 1 ∨ 5 < t.f1) : termE x b set t = 12 := by unfold termE; rw [if_neg h, if_pos hk]
theorem termE_1 {x : List CS} {b : List CV} {set : Int} {t : CT} (h : ¬ (t.f0 < 1 ∨ 99 < t.f0)) (hk : t.f1 = 1) : termE x b set t = nE ((rd_T51 x set).f1.length : Int) t.f2 := by unfold termE; rw [if_neg h, if_neg (by omega), if_pos hk]
theorem termE_5 {x : List CS} {b : List CV} {set : Int} {t : CT} (h : ¬ (t.f0 < 1 ∨ 99 < t.f0)) (hk : t.f1 = 5) : termE x b set t = nE 1 t.f2 := by unfold termE; rw [if_neg h, if_neg (by omega), if_neg (by omega), if_pos hk]
theorem termE_v {x : List CS} {b : List CV} {set : Int} {t : CT} (h : ¬ (t.f0 < 1 ∨ 99 < t.f0)) (hk : ¬ (t.f1 < 1 ∨ 5 < t.f1)) (h1 : ¬ t.f1 = 1) (h5 : ¬ t.f1 = 5) : termE x b set t = vE b set t.f2 := by unfold termE; rw [if_neg h, if_neg hk, if_neg h1, if_neg h5]
theorem nE_0 {m n : Int} (h : 0 ≤ n ∧ n < m) : nE m n = 0 := if_pos h
theorem nE_1 {m n : Int} (h : ¬ (0 ≤ n ∧ n < m)) : nE m n = 1 := if_neg h
def termsGo (x : List CS) (b : List CV) (set : Int) : List CT → Int
 | [] => 0
 | t :: ts => if termE x b set t = 0 then termsGo x b set ts else termE x b set t

theorem bool_cases {p : Bool} {P : Prop} (h : p = true ↔ P) : (p = true ∧ P) ∨ (p = false ∧ ¬ P) := by
 cases p with
 | true => exact Or.inl ⟨rfl, h.1 rfl⟩
 | false => exact Or.inr ⟨rfl, fun hp => by have := h.2 hp; cases this⟩
set_option maxHeartbeats 2000000 in
theorem pterm (x : List CS) (a : ByteArray) (b : List CV) (c : List CG) (d e : List CA) (set : Int) (h0 : 0 ≤ set) (h1 : set < (x.length : Int)) (t : CT) :
  Ev (fun k => binding_term.f k x a b c d e set t.f0 t.f1 t.f2) (termE x b set t) := by
 have j2 : ∀ p : Bool, (p = true ↔ t.f2 < 0 ∨ (b.length : Int) ≤ t.f2) → Ev (fun k => binding_term.j2 k set p a b c d e t.f0 t.f1 t.f2) (vE b set t.f2) := by
  intro p hp
  refine Ev.succ ?_
  simp only [binding_term.j2]
  rcases bool_cases hp with ⟨h, h'⟩ | ⟨h, h'⟩
  ·exact Ev.pos h (Ev.val (if_neg (by omega)).symm)
  ·have hv : vE b set t.f2 = if (rd_T48 b t.f2).f1 = set then 0 else 17 := if_pos (by omega)
   rw [hv]
   refine Ev.neg (by simp [h]) (Ev.pos (by omega) (Ev.pos (by omega) ?_))
   refine Ev.ite (fun h => Ev.val (if_pos h).symm) (fun h => Ev.val (if_neg h).symm)
 have j1 : ∀ p : Bool, ¬ (t.f0 < 1 ∨ 99 < t.f0) → (p = true ↔ t.f1 = 2 ∨ t.f1 = 3 ∨ t.f1 = 4) → Ev (fun k => binding_term.j1 k set ((rd_T51 x set).f1.length : Int) t.f1 p a b c d e t.f0 t.f1 t.f2) (termE x b set t) := by
  intro p hw hp
  refine Ev.succ ?_
  simp only [binding_term.j1]
  rcases bool_cases hp with ⟨h, h'⟩ | ⟨h, h'⟩
  ·rw [termE_v hw (by omega) (by omega) (by omega)]
   refine Ev.pos h ?_
   refine Ev.ite (fun h => j2 _ ⟨fun _ => Or.inl h, fun _ => rfl⟩) (fun h => j2 _ ⟨fun h' => Or.inr (of_decide_eq_true h'), fun h' => decide_eq_true (by omega)⟩)
  ·refine Ev.neg (by simp [h]) ?_
   refine Ev.ite (fun h5 => ?_) (fun h5 => ?_)
   ·rw [termE_5 hw h5]
    refine Ev.ite (fun h => Ev.val (nE_1 (by omega)).symm) (fun h => ?_)
    refine Ev.ite (fun h => Ev.val (nE_1 (by omega)).symm) (fun h => Ev.val (nE_0 (by omega)).symm)
   ·refine Ev.ite (fun h5 => ?_) (fun h5 => ?_)
    ·rw [termE_1 hw h5]
     refine Ev.ite (fun h => Ev.val (nE_1 (by omega)).symm) (fun h => ?_)
     refine Ev.ite (fun h => Ev.val (nE_1 (by omega)).symm) (fun h => Ev.val (nE_0 (by omega)).symm)
    ·rw [termE_k hw (by omega)]; exact Ev.now _
 have j0 : ∀ p : Bool, (p = true ↔ t.f0 < 1 ∨ 99 < t.f0) → Ev (fun k => binding_term.j0 k x set p a b c d e t.f0 t.f1 t.f2) (termE x b set t) := by
  intro p hp
  refine Ev.succ ?_
  simp only [binding_term.j0]
  rcases bool_cases hp with ⟨h, h'⟩ | ⟨h, h'⟩
  ·rw [termE_w h']; exact Ev.pos h (Ev.now _)
  ·refine Ev.neg (by simp [h]) (Ev.pos h0 (Ev.pos h1 ?_))
   refine Ev.ite (fun h2 => ?_) (fun h2 => ?_)
   ·exact j1 _ h' (by simp [h2])
   refine Ev.ite (fun h3 => ?_) (fun h3 => ?_)
   ·exact j1 _ h' (by simp [h3])
   ·exact j1 _ h' (by simp [h2, h3])
 unfold binding_term.f
 refine Ev.ite (fun h => j0 _ ⟨fun _ => Or.inl h, fun _ => rfl⟩) (fun h => j0 _ ⟨fun h' => Or.inr (of_decide_eq_true h'), fun h' => decide_eq_true (by omega)⟩)
set_option maxHeartbeats 2000000 in
theorem rterm (x : List CS) (a : ByteArray) (b : List CV) (c : List CG) (d e : List CA) (set : Int) (h0 : 0 ≤ set) (h1 : set < (x.length : Int)) (t : CT) :
  Ev (fun k => r40_term.f k x a b c d e set t.f0 t.f1 t.f2) (termE x b set t) := by
 have j2 : ∀ p : Bool, (p = true ↔ t.f2 < 0 ∨ (b.length : Int) ≤ t.f2) → Ev (fun k => r40_term.j2 k set p a b c d e t.f0 t.f1 t.f2) (vE b set t.f2) := by
  intro p hp
  refine Ev.succ ?_
  simp only [r40_term.j2]
  rcases bool_cases hp with ⟨h, h'⟩ | ⟨h, h'⟩
  ·exact Ev.pos h (Ev.val (if_neg (by omega)).symm)
  ·have hv : vE b set t.f2 = if (rd_T48 b t.f2).f1 = set then 0 else 17 := if_pos (by omega)
   rw [hv]
   refine Ev.neg (by simp [h]) (Ev.pos (by omega) (Ev.pos (by omega) ?_))
   refine Ev.ite (fun h => Ev.val (if_pos h).symm) (fun h => Ev.val (if_neg h).symm)
 have j1 : ∀ p : Bool, ¬ (t.f0 < 1 ∨ 99 < t.f0) → (p = true ↔ t.f1 < 1 ∨ 5 < t.f1) → Ev (fun k => r40_term.j1 k x set p a b c d e t.f0 t.f1 t.f2) (termE x b set t) := by
  intro p hw hp
  refine Ev.succ ?_
  simp only [r40_term.j1]
  rcases bool_cases hp with ⟨h, h'⟩ | ⟨h, h'⟩
  ·rw [termE_k hw h']
   exact Ev.pos h (Ev.now _)
  ·refine Ev.neg (by simp [h]) ?_
   refine Ev.ite (fun h5 => ?_) (fun h5 => ?_)
   ·rw [termE_1 hw h5]
    refine Ev.ite (fun h => Ev.val (nE_1 (by omega)).symm) (fun h => ?_)
    refine Ev.pos h0 (Ev.pos h1 ?_)
    refine Ev.ite (fun h => Ev.val (nE_1 (by omega)).symm) (fun h => Ev.val (nE_0 (by omega)).symm)
   ·refine Ev.ite (fun h5 => ?_) (fun h5 => ?_)
    ·rw [termE_5 hw h5]
     refine Ev.ite (fun h => Ev.val (nE_0 (by omega)).symm) (fun h => Ev.val (nE_1 (by omega)).symm)
    ·rw [termE_v hw h' (by omega) (by omega)]
     refine Ev.ite (fun h => j2 _ ⟨fun _ => Or.inl h, fun _ => rfl⟩) (fun h => j2 _ ⟨fun h' => Or.inr (of_decide_eq_true h'), fun h' => decide_eq_true (by omega)⟩)
 have j0 : ∀ p : Bool, (p = true ↔ t.f0 < 1 ∨ 99 < t.f0) → Ev (fun k => r40_term.j0 k x set p a b c d e t.f0 t.f1 t.f2) (termE x b set t) := by
  intro p hp
  refine Ev.succ ?_
  simp only [r40_term.j0]
  rcases bool_cases hp with ⟨h, h'⟩ | ⟨h, h'⟩
  ·rw [termE_w h']; exact Ev.pos h (Ev.now _)
  ·refine Ev.neg (by simp [h]) ?_
   refine Ev.ite (fun h => j1 _ h' ⟨fun _ => Or.inl h, fun _ => rfl⟩) (fun h => j1 _ h' ⟨fun h' => Or.inr (of_decide_eq_true h'), fun h' => decide_eq_true (by omega)⟩)
 unfold r40_term.f
 refine Ev.ite (fun h => j0 _ ⟨fun _ => Or.inl h, fun _ => rfl⟩) (fun h => j0 _ ⟨fun h' => Or.inr (of_decide_eq_true h'), fun h' => decide_eq_true (by omega)⟩)

/-- The first error of color sets, variables, guards and terms. -/
def ctE (x : List CS) (b : List CV) (c : List CG) (set : Int) (ts : List CT) : Int :=
 if chkAll x x.length b c = 0 then (if 0 ≤ set ∧ set < (x.length : Int) then termsGo x b set ts else 1) else chkAll x x.length b c
theorem pCheckTerms (x : List CS) (a : ByteArray) (b : List CV) (c : List CG) (d e : List CA) (hs : Sm x b c) (set : Int) (ts : List CT) (hts : ts.length < 4611686018427387904) :
  Ev (fun k => binding_CheckTerms.f k x a b c d e set ts) (ctE x b c set ts) := by
 have l0 : 0 ≤ set → set < (x.length : Int) → ∀ dd i, ts.length - i = dd → i ≤ ts.length → Ev (fun k => binding_CheckTerms.l0 k x set ts (ts.length : Int) (i : Int) a b c d e) (termsGo x b set (ts.drop i)) := by
  intro h0 h1 dd
  induction dd with
  | zero =>
   intro i hd hi
   obtain rfl : i = ts.length := by omega
   refine Ev.succ ?_
   simp only [binding_CheckTerms.l0, List.drop_length, termsGo]
   exact Ev.neg (by omega) (Ev.now _)
  | succ dd ih =>
   intro i hd hi
   have hil : i < ts.length := by omega
   refine Ev.succ ?_
   simp only [binding_CheckTerms.l0, rd54 hil]
   refine Ev.pos (by omega) (Ev.pos (by omega) (Ev.pos (by omega) ?_))
   rw [List.drop_eq_getElem_cons hil]
   unfold termsGo
   refine Ev.bind (pterm x a b c d e set h0 h1 ts[i]) ?_
   refine Ev.ite (fun h => ?_) (fun h => ?_)
   ·rw [if_pos h, wrap_succ (by omega)]; exact ih (i + 1) (by omega) (by omega)
   ·rw [if_neg h]; exact Ev.now _
 have j0 : ∀ p : Bool, (p = true ↔ set < 0 ∨ (x.length : Int) ≤ set) → Ev (fun k => binding_CheckTerms.j0 k x set ts p a b c d e) (if 0 ≤ set ∧ set < (x.length : Int) then termsGo x b set ts else 1) := by
  intro p hp
  refine Ev.succ ?_
  simp only [binding_CheckTerms.j0]
  rcases bool_cases hp with ⟨h, h'⟩ | ⟨h, h'⟩
  ·rw [if_neg (by omega)]; exact Ev.pos h (Ev.now _)
  ·rw [if_pos (by omega)]
   refine Ev.neg (by simp [h]) ?_
   simpa using l0 (by omega) (by omega) _ 0 rfl (by omega)
 unfold binding_CheckTerms.f
 simp only [pCheck hs, Option.bind_some]
 unfold ctE
 refine Ev.ite (fun h => ?_) (fun h => ?_)
 ·rw [if_pos h]
  refine Ev.ite (fun h => j0 _ ⟨fun _ => Or.inl h, fun _ => rfl⟩) (fun h => j0 _ ⟨fun h' => Or.inr (of_decide_eq_true h'), fun h' => decide_eq_true (by omega)⟩)
 ·rw [if_neg h]; exact Ev.now _
theorem rCheckTerms (x : List CS) (a : ByteArray) (b : List CV) (c : List CG) (d e : List CA) (hs : Sm x b c) (set : Int) (ts : List CT) (hts : ts.length < 4611686018427387904) :
  Ev (fun k => r40_CheckTerms.f k x a b c d e set ts) (ctE x b c set ts) := by
 have l0 : 0 ≤ set → set < (x.length : Int) → ∀ dd i, ts.length - i = dd → i ≤ ts.length → Ev (fun k => r40_CheckTerms.l0 k x set ts (i : Int) a b c d e) (termsGo x b set (ts.drop i)) := by
  intro h0 h1 dd
  induction dd with
  | zero =>
   intro i hd hi
   obtain rfl : i = ts.length := by omega
   refine Ev.succ ?_
   simp only [r40_CheckTerms.l0, List.drop_length, termsGo]
   exact Ev.neg (by omega) (Ev.now _)
  | succ dd ih =>
   intro i hd hi
   have hil : i < ts.length := by omega
   refine Ev.succ ?_
   simp only [r40_CheckTerms.l0, rd54 hil]
   refine Ev.pos (by omega) (Ev.pos (by omega) ?_)
   rw [List.drop_eq_getElem_cons hil]
   unfold termsGo
   refine Ev.bind (rterm x a b c d e set h0 h1 ts[i]) ?_
   refine Ev.ite (fun h => ?_) (fun h => ?_)
   ·rw [if_pos h, wrap_succ (by omega)]; exact ih (i + 1) (by omega) (by omega)
   ·rw [if_neg h]; exact Ev.now _
 have j0 : ∀ p : Bool, (p = true ↔ set < 0 ∨ (x.length : Int) ≤ set) → Ev (fun k => r40_CheckTerms.j0 k x set ts p a b c d e) (if 0 ≤ set ∧ set < (x.length : Int) then termsGo x b set ts else 1) := by
  intro p hp
  refine Ev.succ ?_
  simp only [r40_CheckTerms.j0]
  rcases bool_cases hp with ⟨h, h'⟩ | ⟨h, h'⟩
  ·rw [if_neg (by omega)]; exact Ev.pos h (Ev.now _)
  ·rw [if_pos (by omega)]
   refine Ev.neg (by simp [h]) ?_
   simpa using l0 (by omega) (by omega) _ 0 rfl (by omega)
 unfold r40_CheckTerms.f
 unfold ctE
 refine Ev.bind (rCheck x a b c d e hs) ?_
 refine Ev.ite (fun h => ?_) (fun h => ?_)
 ·rw [if_pos h]
  refine Ev.ite (fun h => j0 _ ⟨fun _ => Or.inl h, fun _ => rfl⟩) (fun h => j0 _ ⟨fun h' => Or.inr (of_decide_eq_true h'), fun h' => decide_eq_true (by omega)⟩)
 ·rw [if_neg h]; exact Ev.now _
end Go.Proofs.Ytapkjfnfkalibaa.BChk

/- The example that every statement on bindings checks holds. -/
namespace Go.Proofs.Ytapkjfnfkalibaa.BLives
set_option linter.unusedVariables false
set_option linter.unusedSimpArgs false
open Go.RowKit Go.Proofs.Ytapkjfnfkalibaa.Pr Go.Proofs.Ytapkjfnfkalibaa.Evs Go.Proofs.Ytapkjfnfkalibaa.Names Go.Proofs.Ytapkjfnfkalibaa.BChk Go.Proofs.YtapkjfnfkalibaaW.PrintWords Go.Proofs.YtapkjfnfkalibaaW.PrintLast Go.Proofs.YtapkjfnfkalibaaW.PrintMore
theorem lives_now : l40_lives.f 60 = some true := by decide +kernel
theorem lives : Ev (fun k => l40_lives.f k) true := Ev.of l40_lives.mono lives_now
theorem lives' : Ev (fun k => (l40_lives.f k).bind fun t => some t) true := Ev.bind lives (Ev.now _)

/-- Few's answer: what it bounds. -/
theorem few (x : List CS) (a : ByteArray) (b : List CV) (c : List CG) (d e : List CA) :
  ∃ r : Bool, Ev (fun k => r40_Few.f k x a b c d e) r ∧ (r = true → (x.length ≤ 10 ∧ b.length ≤ 6 ∧ c.length ≤ 8) ∧ ∀ s ∈ x, s.f1.length ≤ 14) := by
 by_cases hs : x.length ≤ 10 ∧ b.length ≤ 6 ∧ c.length ≤ 8
 ·obtain ⟨h1, h2, h3⟩ := hs
  have l2 : ∀ dd i, b.length - i = dd → i ≤ b.length → ∃ r : Bool, Ev (fun k => r40_Few.l2 k (i : Int) a b c d e) r := by
   intro dd
   induction dd with
   | zero =>
    intro i hd hi
    refine ⟨true, Ev.succ ?_⟩
    simp only [r40_Few.l2]
    exact Ev.neg (by omega) (Ev.now _)
   | succ dd ih =>
    intro i hd hi
    obtain ⟨r, hr⟩ := ih (i + 1) (by omega) (by omega)
    by_cases h : (((rd_T48 b (i : Int)).f0).size : Int) > 20
    ·refine ⟨false, Ev.succ ?_⟩
     simp only [r40_Few.l2]
     exact Ev.pos (by omega) (Ev.pos (by omega) (Ev.pos h (Ev.now _)))
    ·refine ⟨r, Ev.succ ?_⟩
     simp only [r40_Few.l2]
     refine Ev.pos (by omega) (Ev.pos (by omega) (Ev.neg h ?_))
     rw [wrap_succ (by omega)]; exact hr
  obtain ⟨r2, hr2⟩ := l2 _ 0 rfl (by omega)
  have l0 : ∀ dd i, x.length - i = dd → i ≤ x.length → ∃ r : Bool, Ev (fun k => r40_Few.l0 k x (i : Int) a b c d e) r ∧ (r = true → ∀ s ∈ x.drop i, s.f1.length ≤ 14) := by
   intro dd
   induction dd with
   | zero =>
    intro i hd hi
    refine ⟨r2, Ev.succ ?_, fun _ s hs => ?_⟩
    ·simp only [r40_Few.l0]
     exact Ev.neg (by omega) hr2
    ·rw [List.drop_of_length_le (by omega)] at hs; cases hs
   | succ dd ih =>
    intro i hd hi
    have hil : i < x.length := by omega
    obtain ⟨r, hr, hrs⟩ := ih (i + 1) (by omega) (by omega)
    by_cases hvl : x[i].f1.length ≤ 14
    case neg =>
     refine ⟨false, Ev.succ ?_, fun h => by cases h⟩
     simp only [r40_Few.l0, rd51 hil]
     refine Ev.pos (by omega) (Ev.pos (by omega) (Ev.pos (by omega) (Ev.succ ?_)))
     simp only [r40_Few.j2]
     exact Ev.pos trivial (Ev.now _)
    have l1 : ∀ d1 j, x[i].f1.length - j = d1 → j ≤ x[i].f1.length → ∃ r' : Bool, Ev (fun k => r40_Few.l1 k x (i : Int) (j : Int) a b c d e) r' ∧ (r' = true → r = true) := by
     intro d1
     induction d1 with
     | zero =>
      intro j hd1 hj
      refine ⟨r, Ev.succ ?_, fun h => h⟩
      simp only [r40_Few.l1, rd51 hil]
      refine Ev.pos (by omega) (Ev.pos (by omega) (Ev.neg (by omega) ?_))
      rw [wrap_succ (by omega)]; exact hr
     | succ d1 ih1 =>
      intro j hd1 hj
      obtain ⟨r', hr', hrr⟩ := ih1 (j + 1) (by omega) (by omega)
      by_cases h : ((rdOf ByteArray.empty (x[i].f1) (j : Int)).size : Int) > 20
      ·refine ⟨false, Ev.succ ?_, fun h => by cases h⟩
       simp only [r40_Few.l1, rd51 hil]
       exact Ev.pos (by omega) (Ev.pos (by omega) (Ev.pos (by omega) (Ev.pos (by omega) (Ev.pos h (Ev.now _)))))
      ·refine ⟨r', Ev.succ ?_, hrr⟩
       simp only [r40_Few.l1, rd51 hil]
       refine Ev.pos (by omega) (Ev.pos (by omega) (Ev.pos (by omega) (Ev.pos (by omega) (Ev.neg h ?_))))
       rw [wrap_succ (by omega)]; exact hr'
    obtain ⟨r1, hr1, hrr⟩ := l1 _ 0 rfl (by omega)
    have j2 : ∀ p : Bool, ∃ r' : Bool, Ev (fun k => r40_Few.j2 k x (i : Int) p a b c d e) r' ∧ (r' = true → r = true) := by
     intro p
     cases p with
     | true =>
      refine ⟨false, Ev.succ ?_, fun h => by cases h⟩
      simp only [r40_Few.j2]
      exact Ev.pos trivial (Ev.now _)
     | false =>
      refine ⟨r1, Ev.succ ?_, hrr⟩
      simp only [r40_Few.j2]
      exact Ev.neg (by simp) hr1
    obtain ⟨q, hq, hqr⟩ := j2 (decide (((x[i].f0).size : Int) > 20))
    refine ⟨q, Ev.succ ?_, fun h s hs => ?_⟩
    ·simp only [r40_Few.l0, rd51 hil]
     exact Ev.pos (by omega) (Ev.pos (by omega) (Ev.neg (by omega) hq))
    ·rw [List.drop_eq_getElem_cons hil] at hs
     rcases List.mem_cons.1 hs with rfl | hs
     ·exact hvl
     ·exact hrs (hqr h) s hs
  obtain ⟨r0, hr0, hr0s⟩ := l0 _ 0 rfl (by omega)
  refine ⟨r0, ?_, fun h => ⟨⟨h1, h2, h3⟩, fun s hs => hr0s h s (by simpa using hs)⟩⟩
  unfold r40_Few.f
  refine Ev.neg (by omega) (Ev.neg (by omega) (Ev.succ ?_))
  simp only [r40_Few.j0]
  exact Ev.neg (by simp; omega) hr0
 ·refine ⟨false, ?_, fun h => by cases h⟩
  unfold r40_Few.f
  have j0 : Ev (fun k => r40_Few.j0 k x true a b c d e) false := by
   refine Ev.succ ?_
   simp only [r40_Few.j0]
   exact Ev.pos trivial (Ev.now _)
  refine Ev.ite (fun _ => j0) (fun h1 => Ev.ite (fun _ => j0) (fun h2 => ?_))
  rw [decide_eq_true (by omega)]; exact j0
theorem sm {x : List CS} {b : List CV} {c : List CG} (h : (x.length ≤ 10 ∧ b.length ≤ 6 ∧ c.length ≤ 8) ∧ ∀ s ∈ x, s.f1.length ≤ 14) : Sm x b c := ⟨by omega, by omega, by omega, fun s hs => by have := h.2 s hs; omega⟩
end Go.Proofs.Ytapkjfnfkalibaa.BLives

/- For all color sets, transitions and sums of terms, Check and CheckTerms of package binding return what the reference returns. -/
namespace Go.Proofs.Ytapkjfnfkalibaa.Pure
open Go.RowKit Go.Proofs.Ytapkjfnfkalibaa.Pr Go.Proofs.Ytapkjfnfkalibaa.Evs Go.Proofs.Ytapkjfnfkalibaa.BChk Go.Proofs.Ytapkjfnfkalibaa.BLives Go.Proofs.YtapkjfnfkalibaaW.PrintWords Go.Proofs.YtapkjfnfkalibaaW.PrintLast Go.Proofs.YtapkjfnfkalibaaW.PrintMore
set_option linter.unusedVariables false
theorem BindingChecks (x : List CS) (t : ByteArray × List CV × List CG × List CA × List CA) (q : Int × List CT × List Int) {P0 P1 P2 : Prop} (h0 : P0) (h1 : P1) (h2 : P2) :
  ∃ k, l40_BindingChecks.f k x t.1 t.2.1 t.2.2.1 t.2.2.2.1 t.2.2.2.2 q.1 q.2.1 q.2.2 = some true := by
 obtain ⟨a, b, c, d, e⟩ := t
 obtain ⟨set, ts, l⟩ := q
 obtain ⟨r, hr, hf⟩ := few x a b c d e
 apply Ev.rounds
 unfold l40_BindingChecks.f
 refine Ev.bind hr ?_
 have hyes : Ev (fun k => l40_BindingChecks.j0 k x true a b c d e set ts l) true := by
  refine Ev.succ ?_
  simp only [l40_BindingChecks.j0]
  exact Ev.pos trivial lives'
 refine Ev.ite (fun h => ?_) (fun _ => hyes)
 have hs := sm (hf h)
 by_cases hl : (ts.length : Int) > 20
 ·show Ev (fun k => l40_BindingChecks.j0 k x (decide ((ts.length : Int) > 20)) a b c d e set ts l) true
  rw [decide_eq_true hl]; exact hyes
 ·show Ev (fun k => l40_BindingChecks.j0 k x (decide ((ts.length : Int) > 20)) a b c d e set ts l) true
  rw [decide_eq_false hl]
  refine Ev.succ ?_
  simp only [l40_BindingChecks.j0, pCheck hs, Option.bind_some]
  refine Ev.neg (by simp) (Ev.bind (rCheck x a b c d e hs) (Ev.pos rfl ?_))
  refine Ev.bind (pCheckTerms x a b c d e hs set ts (by omega)) (Ev.bind (rCheckTerms x a b c d e hs set ts (by omega)) (Ev.pos rfl lives'))
end Go.Proofs.Ytapkjfnfkalibaa.Pure

