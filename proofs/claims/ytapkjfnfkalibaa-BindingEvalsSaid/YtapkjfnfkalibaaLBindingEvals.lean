/- For all color sets, transitions, sums of terms and bindings, Eval, Holds and Text of package binding return what the reference returns. -/
import Derived.Test.YtapkjfnfkalibaaQBindingEvals0
import Derived.Test.YtapkjfnfkalibaaQBindingEvals1
import Derived.Test.YtapkjfnfkalibaaQBindingEvals2
import Derived.Test.YtapkjfnfkalibaaQBindingEvals3
import Derived.Test.YtapkjfnfkalibaaQBindingEvals4
import Derived.Test.YtapkjfnfkalibaaQBindingEvals5
import Derived.Test.YtapkjfnfkalibaaBBindingEvals
import Derived.Test.YtapkjfnfkalibaaVBindingEvals
import Derived.Deep.Slices
import Derived.ChangeArms
import Derived.Lib.Join
/- General lemmas of this seat's proofs, in one text. -/
/- What the references' Name answers: the same of bytes as Names.nameB. -/
namespace Go.Proofs.Ytapkjfnfkalibaa.RName
open Go.RowKit Go.Proofs.Ytapkjfnfkalibaa.Pr Go.Proofs.Ytapkjfnfkalibaa.Evs Go.Proofs.Ytapkjfnfkalibaa.Names Go.Proofs.YtapkjfnfkalibaaW.PrintWords Go.Proofs.YtapkjfnfkalibaaW.PrintLast Go.Proofs.YtapkjfnfkalibaaW.PrintMore
set_option linter.unusedVariables false
set_option linter.unusedSimpArgs false

theorem bt_byte {s : ByteArray} {i : Nat} (h : i < s.size) : bt s (i : Int) = (byteAt s i : Int) := by
 rw [byteAt_get s i h]
 simp [bt, h]
set_option maxHeartbeats 2000000 in
theorem name_l0 (s : ByteArray) (h1 : 1 ≤ s.size) (h16 : s.size ≤ 16) : ∀ (d i : Nat), i ≤ s.size → s.size - i = d → (∀ j, j < i → okB j (byteAt s j) = true) → Ev (fun k => r09_Name.l0 k s (i : Int)) (nameB s) := by
 intro d
 induction d with
 | zero =>
  intro i hi hd hok
  obtain rfl : i = s.size := by omega
  refine Ev.succ ?_
  simp only [r09_Name.l0]
  exact Ev.neg (by omega) (Ev.val (nameB_true h1 h16 hok).symm)
 | succ d ih =>
  intro i hi hd hok
  have hlt : i < s.size := by omega
  have hb := bt_byte hlt
  obtain ⟨c, hc⟩ : ∃ c, byteAt s i = c := ⟨_, rfl⟩
  rw [hc] at hb
  have hgo : okB i c = true → Ev (fun k => r09_Name.l0 k s (wrap64 ((i : Int) + 1))) (nameB s) := by
   intro hk
   rw [wrap_succ (by omega)]
   refine ih (i + 1) (by omega) (by omega) (fun j hj => ?_)
   by_cases hji : j = i
   ·subst hji; rw [hc]; exact hk
   ·exact hok j (by omega)
  have hstop : okB i c = false → Ev (fun _ : Nat => some false) (nameB s) := fun hk => Ev.val (nameB_false hlt (by rw [hc]; exact hk)).symm
  refine Ev.succ ?_
  simp only [r09_Name.l0, hb]
  refine Ev.pos (by omega) (Ev.pos (by omega) ?_)
  repeat' (refine Ev.ite (fun _ => ?_) (fun _ => ?_))
  all_goals first
   | exact hgo (okB_of (by omega))
   | exact hstop (okB_not (by omega))
   | (exfalso; omega)
theorem rname (s : ByteArray) : Ev (fun k => r09_Name.f k s) (nameB s) := by
 unfold r09_Name.f
 have hj : ∀ b : Bool, (b = true → nameB s = false) → (b = false → 1 ≤ s.size ∧ s.size ≤ 16) → Ev (fun k => r09_Name.j0 k s b) (nameB s) := by
  intro b ht hf
  refine Ev.succ ?_
  simp only [r09_Name.j0]
  refine Ev.ite (fun h => Ev.val (ht h).symm) (fun h => ?_)
  obtain ⟨h1, h2⟩ := hf (by simpa using h)
  exact name_l0 s h1 h2 _ 0 (by omega) rfl (fun j hj => by omega)
 refine Ev.ite (fun h => hj true (fun _ => ?_) (fun h => by cases h)) (fun h => hj _ (fun h2 => ?_) (fun h2 => ?_))
 ·unfold nameB; rw [decide_eq_false (show ¬ 1 ≤ s.size by omega)]; rfl
 ·have h3 := of_decide_eq_true h2
  unfold nameB; rw [decide_eq_false (show ¬ s.size ≤ 16 by omega)]; simp
 ·have h3 := of_decide_eq_false h2
  omega
end Go.Proofs.Ytapkjfnfkalibaa.RName

/- A datum that is read deep (the statements' reader) told as the walks tell it: rows of rows, texts, numbers. -/
namespace Go.Proofs.Ytapkjfnfkalibaa.Opens
set_option linter.unusedVariables false
open Go.RowKit Go.WideShapes Go.Deep Go.Proofs.YtapkjfnfkalibaaW.PrintWords

/-- What the statements' reader finds at cells of type t is what d tells of some a with ok. -/
structure Opens {α H : Type} (enc : TypeId × Value → H) (P : Program) (w : World) (base : Nat) (spare : Nat → Bool) (held : Bool) (d : Kd α) (t : TypeId) (ok : α → Prop) : Prop where
 cells : P.cellsOf t = d.sz
 opens : ∀ (fuel : Nat) (cs : List Value) (x : DataW H × List MemPlace), DataW.trod enc P w base spare held fuel t cs = some x → ∃ a, d.K w a cs ∧ ok a

section
variable {H : Type} {enc : TypeId × Value → H} {P : Program} {w : World} {base : Nat} {spare : Nat → Bool} {held : Bool}
theorem string {t : TypeId} (ht : P.underlying t = some .string) (hc : P.cellsOf t = 1) : Opens enc P w base spare held Kd.string t (fun s => s.size ≤ maxLen) :=
 ⟨hc, fun fuel cs x h => by obtain ⟨s, rfl, _, hs⟩ := DataW.trod_string ht h; exact ⟨s, rfl, hs⟩⟩
theorem bool {t : TypeId} (ht : P.underlying t = some .bool) (hc : P.cellsOf t = 1) : Opens enc P w base spare held Kd.bool t (fun _ => True) :=
 ⟨hc, fun fuel cs x h => by obtain ⟨s, rfl, _⟩ := DataW.trod_bool ht h; exact ⟨s, rfl, trivial⟩⟩
theorem int {t : TypeId} {k : IntKind} (ht : P.underlying t = some (.int k)) (hc : P.cellsOf t = 1) : Opens enc P w base spare held (Kd.int k) t (fun n => (Lit.int k n).wf = true) :=
 ⟨hc, fun fuel cs x h => by obtain ⟨s, rfl, _, hs⟩ := DataW.trod_int ht h; exact ⟨s, rfl, hs⟩⟩
theorem list_of {α : Type} {p : Nat → α → Prop} : ∀ (n : Nat), (∀ i, i < n → ∃ a, p i a) → ∃ xs : List α, xs.length = n ∧ ∀ i a, xs[i]? = some a → p i a
 | 0, _ => ⟨[], rfl, fun i a h => by simp at h⟩
 | n + 1, h => by
  obtain ⟨xs, hl, hx⟩ := list_of n (fun i hi => h i (by omega))
  obtain ⟨a, ha⟩ := h n (by omega)
  refine ⟨xs ++ [a], by simp [hl], fun i b hb => ?_⟩
  by_cases hi : i < xs.length
  ·rw [List.getElem?_append_left hi] at hb; exact hx i b hb
  ·have hlt := (List.getElem?_eq_some_iff.1 hb).1
   simp only [List.length_append, List.length_cons, List.length_nil] at hlt
   obtain rfl : i = n := by omega
   rw [List.getElem?_append_right (by omega)] at hb
   simp [hl] at hb
   rw [← hb]; exact ha
theorem slice {α : Type} {d : Kd α} {t e : TypeId} {ok : α → Prop} (h : Opens enc P w base spare held d e ok) (ht : P.underlying t = some (.slice e)) (hc : P.cellsOf t = 1) :
  Opens enc P w base spare held (Kd.slice e d) t (fun xs => xs.length ≤ maxLen ∧ ∀ x ∈ xs, ok x) := by
 refine ⟨hc, fun fuel cs x hx => ?_⟩
 rcases open_slice ht hx with ⟨rfl, _⟩ | ⟨a, len, cap, m, n, D, Pl, rfl, _, hl, hm, hmm, _, hi⟩
 ·exact ⟨[], ⟨none, 0, rfl, Nat.le_refl _, Kd.C_nil _ _⟩, by simp, by simp⟩
 ·have hlm : len ≤ m := by rw [hmm]; split <;> omega
  obtain ⟨xs, hxl, hxs⟩ := list_of (p := fun i b => ∃ c, c.length = d.sz ∧ d.K w b c ∧ ok b ∧ ∀ j u, c[j]? = some u → w.cell? (a.add (i * d.sz + j)) = some u) len (fun i hlt => by
   obtain ⟨cs', h1, h2⟩ := hi i (by omega)
   obtain ⟨b, hK, hok⟩ := h.opens _ _ _ h2
   obtain ⟨_, hlen, hcell⟩ := World.cells?_some h1
   refine ⟨b, cs', by rw [hlen, h.cells], hK, hok, fun j u hu => ?_⟩
   have hj := (List.getElem?_eq_some_iff.1 hu).1
   rw [← hu, ← hcell j (by omega), h.cells, Addr.add_add])
  subst hxl
  refine ⟨xs, ⟨some a, cap, rfl, hl, rfl, by unfold maxLen at hm; omega, fun _ => ⟨a, rfl, fun j p hp => ?_⟩⟩, by omega, fun y hy => ?_⟩
  ·obtain ⟨c, h1, h2, _, h4⟩ := hxs j p hp
   exact ⟨c, h1, h2, h4⟩
  ·obtain ⟨j, hj⟩ := List.mem_iff_getElem?.1 hy
   obtain ⟨c, _, _, h3, _⟩ := hxs j y hj
   exact h3
/-- A parameter that is a row. -/
theorem param {α : Type} {d : Kd α} {t e : TypeId} {ok : α → Prop} (h : Opens enc P w base spare held d e ok) (ht : P.underlying t = some (.slice e)) (hc : P.cellsOf t = 1) {a : Option Addr} {len cap : Nat} {D : DataW H} {ps : List MemPlace}
  (hd : DataW.Trod enc P w base spare held t (.slice a len cap) D ps) : ∃ xs : List α, len = xs.length ∧ xs.length ≤ cap ∧ d.C w a xs.length xs ∧ xs.length ≤ maxLen ∧ ∀ x ∈ xs, ok x := by
 obtain ⟨fuel, hf⟩ := hd
 obtain ⟨xs, ⟨A, c, he, hcap, hC⟩, hl, hx⟩ := (slice h ht hc).opens _ _ _ hf
 have he' : [Value.slice a len cap] = [.slice A xs.length c] := he
 simp only [List.cons.injEq, Value.slice.injEq, and_true] at he'
 obtain ⟨rfl, rfl, rfl⟩ := he'
 exact ⟨xs, rfl, hcap, hC, hl, hx⟩
/-! ### Structs -/
/-- The fields of a struct, from some place of its cells on. -/
structure OpensL {α H : Type} (enc : TypeId × Value → H) (P : Program) (w : World) (base : Nat) (spare : Nat → Bool) (held : Bool) (d : Kd α) (fs : List Field) (o : Nat) (ok : α → Prop) : Prop where
 opens : ∀ (n : Nat) (cs : List Value), (∀ f ∈ fs, ∃ y, DataW.trod enc P w base spare held n f.type ((cs.drop f.offset).take (P.cellsOf f.type)) = some y) → ∃ a, d.K w a ((cs.drop o).take d.sz) ∧ ok a
theorem one {α : Type} {d : Kd α} {f : Field} {o : Nat} {ok : α → Prop} (h : Opens enc P w base spare held d f.type ok) (ho : f.offset = o) : OpensL enc P w base spare held d [f] o ok :=
 ⟨fun n cs hf => by
  obtain ⟨y, hy⟩ := hf f List.mem_cons_self
  obtain ⟨a, hK, hok⟩ := h.opens _ _ _ hy
  rw [h.cells, ho] at hK
  exact ⟨a, hK, hok⟩⟩
theorem cons {α β : Type} {d1 : Kd α} {d2 : Kd β} {f : Field} {fs : List Field} {o o2 : Nat} {ok1 : α → Prop} {ok2 : β → Prop} (h : Opens enc P w base spare held d1 f.type ok1) (ho : f.offset = o) (ho2 : o + d1.sz = o2) (h2 : OpensL enc P w base spare held d2 fs o2 ok2) :
  OpensL enc P w base spare held (Kd.pair d1 d2) (f :: fs) o (fun a => ok1 a.1 ∧ ok2 a.2) :=
 ⟨fun n cs hf => by
  obtain ⟨y, hy⟩ := hf f List.mem_cons_self
  obtain ⟨a, hK, hok⟩ := h.opens _ _ _ hy
  rw [h.cells, ho] at hK
  obtain ⟨b, hK2, hok2⟩ := h2.opens n cs (fun g hg => hf g (List.mem_cons_of_mem _ hg))
  refine ⟨(a, b), ⟨_, _, ?_, hK, hK2⟩, hok, hok2⟩
  rw [← ho2, ← List.drop_drop]
  exact List.take_add⟩
theorem tuple {α : Type} {d : Kd α} {t : TypeId} {fs : Array Field} {ok : α → Prop} (ht : P.underlying t = some (.struct fs)) (hc : P.cellsOf t = d.sz) (h : OpensL enc P w base spare held d fs.toList 0 ok) : Opens enc P w base spare held d t ok := by
 refine ⟨hc, fun fuel cs x hx => ?_⟩
 obtain ⟨xs, n, rfl, rfl, hl, hlen, hf⟩ := DataW.trod_struct ht hx
 obtain ⟨a, hK, hok⟩ := h.opens n cs (fun f hm => by
  obtain ⟨i, hi⟩ := List.mem_iff_getElem?.1 hm
  have hi' : fs[i]? = some f := by simpa using hi
  have hlt : i < xs.length := by rw [hlen]; exact (Array.getElem?_eq_some_iff.1 hi').1
  exact ⟨xs[i], by rw [hf i f hi', List.getElem?_eq_getElem hlt]⟩)
 rw [List.drop_zero, List.take_of_length_le (by rw [hl, hc]; exact Nat.le_refl _)] at hK
 exact ⟨a, hK, hok⟩
theorem struct {α β : Type} {d : Kd α} {t : TypeId} {fs : Array Field} {ok : α → Prop} {f : β → α} (g : α → β) (hg : ∀ a, f (g a) = a) (ht : P.underlying t = some (.struct fs)) (hc : P.cellsOf t = d.sz) (h : OpensL enc P w base spare held d fs.toList 0 ok) :
  Opens enc P w base spare held (Kd.iso d f) t (fun b => ok (f b)) := by
 refine ⟨hc, fun fuel cs x hx => ?_⟩
 obtain ⟨a, hK, hok⟩ := (tuple ht hc h).opens fuel cs x hx
 exact ⟨g a, by show d.K w (f (g a)) cs; rw [hg]; exact hK, by rw [hg]; exact hok⟩
/-- A parameter that is a struct. -/
theorem value {α : Type} {d : Kd α} {t : TypeId} {ok : α → Prop} (h : Opens enc P w base spare held d t ok) {cs : Array Value} {D : DataW H} {ps : List MemPlace}
  (hd : DataW.Trod enc P w base spare held t (.agg cs) D ps) : ∃ a, d.K w a cs.toList ∧ ok a := by
 obtain ⟨fuel, hf⟩ := hd
 obtain ⟨a, hK, hok⟩ := h.opens _ _ _ hf
 exact ⟨a, by simpa [Value.cells] using hK, hok⟩
end
end Go.Proofs.Ytapkjfnfkalibaa.Opens

/- Chapter 40: Check and CheckTerms, of the program and of the reference. -/
namespace Go.Proofs.Ytapkjfnfkalibaa.BChk
open Go.RowKit Go.Proofs.Ytapkjfnfkalibaa.Pr Go.Proofs.Ytapkjfnfkalibaa.Evs Go.Proofs.Ytapkjfnfkalibaa.Names Go.Proofs.Ytapkjfnfkalibaa.RName Go.Proofs.YtapkjfnfkalibaaW.PrintWords Go.Proofs.YtapkjfnfkalibaaW.PrintLast Go.Proofs.YtapkjfnfkalibaaW.PrintMore
set_option linter.unusedVariables false
set_option linter.unusedSimpArgs false
abbrev CS := S51
abbrev CV := S48
abbrev CG := S62
abbrev CT := S54
abbrev CA := S111

set_option maxHeartbeats 2000000 in
theorem name39_l0 (s : ByteArray) (h1 : 1 ≤ s.size) (h16 : s.size ≤ 16) : ∀ (d i : Nat), i ≤ s.size → s.size - i = d → (∀ j, j < i → okB j (byteAt s j) = true) → Ev (fun k => r39_Name.l0 k s (i : Int)) (nameB s) := by
 intro d
 induction d with
 | zero =>
  intro i hi hd hok
  obtain rfl : i = s.size := by omega
  refine Ev.succ ?_
  simp only [r39_Name.l0]
  exact Ev.neg (by omega) (Ev.val (nameB_true h1 h16 hok).symm)
 | succ d ih =>
  intro i hi hd hok
  have hlt : i < s.size := by omega
  have hb := bt_byte hlt
  obtain ⟨c, hc⟩ : ∃ c, byteAt s i = c := ⟨_, rfl⟩
  rw [hc] at hb
  have hgo : okB i c = true → Ev (fun k => r39_Name.l0 k s (wrap64 ((i : Int) + 1))) (nameB s) := by
   intro hk
   rw [wrap_succ (by omega)]
   refine ih (i + 1) (by omega) (by omega) (fun j hj => ?_)
   by_cases hji : j = i
   ·subst hji; rw [hc]; exact hk
   ·exact hok j (by omega)
  have hstop : okB i c = false → Ev (fun _ : Nat => some false) (nameB s) := fun hk => Ev.val (nameB_false hlt (by rw [hc]; exact hk)).symm
  refine Ev.succ ?_
  simp only [r39_Name.l0, hb]
  refine Ev.pos (by omega) (Ev.pos (by omega) ?_)
  repeat' (refine Ev.ite (fun _ => ?_) (fun _ => ?_))
  all_goals first
   | exact hgo (okB_of (by omega))
   | exact hstop (okB_not (by omega))
   | (exfalso; omega)
theorem rname39 (s : ByteArray) : Ev (fun k => r39_Name.f k s) (nameB s) := by
 unfold r39_Name.f
 have hj : ∀ b : Bool, (b = true → nameB s = false) → (b = false → 1 ≤ s.size ∧ s.size ≤ 16) → Ev (fun k => r39_Name.j0 k s b) (nameB s) := by
  intro b ht hf
  refine Ev.succ ?_
  simp only [r39_Name.j0]
  refine Ev.ite (fun h => Ev.val (ht h).symm) (fun h => ?_)
  obtain ⟨h1, h2⟩ := hf (by simpa using h)
  exact name39_l0 s h1 h2 _ 0 (by omega) rfl (fun j hj => by omega)
 refine Ev.ite (fun h => hj true (fun _ => ?_) (fun h => by cases h)) (fun h => hj _ (fun h2 => ?_) (fun h2 => ?_))
 ·unfold nameB; rw [decide_eq_false (show ¬ 1 ≤ s.size by omega)]; rfl
 ·have h3 := of_decide_eq_true h2
  unfold nameB; rw [decide_eq_false (show ¬ s.size ≤ 16 by omega)]; simp
 ·have h3 := of_decide_eq_false h2
  omega

theorem rd51 {x : List CS} {i : Nat} (h : i < x.length) : rd_T51 x (i : Int) = x[i] := by simp [rd_T51, h]
theorem rd48 {x : List CV} {i : Nat} (h : i < x.length) : rd_T48 x (i : Int) = x[i] := by simp [rd_T48, h]
theorem rd62 {x : List CG} {i : Nat} (h : i < x.length) : rd_T62 x (i : Int) = x[i] := by simp [rd_T62, h]
theorem rd54 {x : List CT} {i : Nat} (h : i < x.length) : rd_T54 x (i : Int) = x[i] := by simp [rd_T54, h]
theorem same_iff {a b : ByteArray} : sameB a b = true ↔ a.toList = b.toList := by simp [sameB]
theorem data_iff (a b : ByteArray) : a.data.toList = b.data.toList ↔ a.toList = b.toList := by rw [ByteArray.toList_eq, ByteArray.toList_eq]

/-- The first place of a name in a list that holds it. -/
theorem rfind (a : ByteArray) (l : List ByteArray) (v : ByteArray) (hl : l.length < 4611686018427387904) (i : Nat) (hi : i < l.length) (hv : l[i] = v) :
  ∃ r : Int, Ev (fun k => r39_Find.f k a l v) r ∧ (r < (i : Int) ↔ hasK (l.take i) v = true) := by
 have hk : ∀ d j, i - j = d → j ≤ i → (∀ n, n < j → ∀ h : n < l.length, (l[n]).toList ≠ v.toList) →
   ∃ r : Int, Ev (fun k => r39_Find.l0 k v (j : Int) a l) r ∧ (r < (i : Int) ↔ hasK (l.take i) v = true) := by
  intro d
  induction d with
  | zero =>
   intro j hd hj hn
   obtain rfl : j = i := by omega
   refine ⟨(j : Int), ?_, ?_⟩
   ·refine Ev.succ ?_
    simp only [r39_Find.l0]
    refine Ev.pos (by omega) (Ev.pos (by omega) ?_)
    rw [rdOf_get hi, hv]
    exact Ev.pos rfl (Ev.now _)
   ·refine ⟨fun h => absurd h (by omega), fun h => ?_⟩
    exfalso
    simp only [hasK, List.any_eq_true, decide_eq_true_eq] at h
    obtain ⟨x, hx, he⟩ := h
    obtain ⟨n, hn', rfl⟩ := List.mem_iff_getElem.1 hx
    simp only [List.length_take] at hn'
    rw [List.getElem_take] at he
    exact hn n (by omega) (by omega) ((data_iff _ _).1 he)
  | succ d ih =>
   intro j hd hj hn
   have hjl : j < l.length := by omega
   by_cases he : (l[j]).toList = v.toList
   ·refine ⟨(j : Int), ?_, ?_⟩
    ·refine Ev.succ ?_
     simp only [r39_Find.l0]
     refine Ev.pos (by omega) (Ev.pos (by omega) ?_)
     rw [rdOf_get hjl]
     exact Ev.pos he (Ev.now _)
    ·refine ⟨fun _ => ?_, fun _ => by omega⟩
     simp only [hasK, List.any_eq_true, decide_eq_true_eq]
     refine ⟨l[j], ?_, (data_iff _ _).2 he⟩
     exact List.mem_iff_getElem.2 ⟨j, by simp only [List.length_take]; omega, by rw [List.getElem_take]⟩
   ·obtain ⟨r, hr, hi'⟩ := ih (j + 1) (by omega) (by omega) (fun n hn' h => by
     by_cases hnj : n = j
     ·subst hnj; exact he
     ·exact hn n (by omega) h)
    refine ⟨r, ?_, hi'⟩
    refine Ev.succ ?_
    simp only [r39_Find.l0]
    refine Ev.pos (by omega) (Ev.pos (by omega) ?_)
    rw [rdOf_get hjl]
    refine Ev.neg he ?_
    rw [wrap_succ (by omega)]
    exact hr
 exact hk _ 0 rfl (by omega) (fun n hn _ => by omega)

theorem rcheck39_l0 (a : ByteArray) (l : List ByteArray) (hl : l.length < 4611686018427387904) : ∀ d i, l.length - i = d → i ≤ l.length →
  Ev (fun k => r39_Check.l0 k (i : Int) a l) (colGo (l.drop i) (l.take i)) := by
 intro d
 induction d with
 | zero =>
  intro i hd hi
  obtain rfl : i = l.length := by omega
  refine Ev.succ ?_
  simp only [r39_Check.l0, List.drop_length, colGo]
  exact Ev.neg (by omega) (Ev.now _)
 | succ d ih =>
  intro i hd hi
  have hil : i < l.length := by omega
  refine Ev.succ ?_
  simp only [r39_Check.l0, rdOf_get hil]
  refine Ev.pos (by omega) (Ev.pos (by omega) ?_)
  rw [List.drop_eq_getElem_cons hil]
  unfold colGo
  refine Ev.bind (rname39 _) ?_
  refine Ev.ite (fun h => ?_) (fun h => ?_)
  ·obtain ⟨r, hr, hi'⟩ := rfind a l l[i] hl i hil rfl
   rw [if_pos h]
   refine Ev.bind hr ?_
   refine Ev.ite (fun h => ?_) (fun h => ?_)
   ·rw [if_pos (hi'.1 h)]; exact Ev.now _
   ·rw [if_neg (fun h' => h (hi'.2 h'))]
    rw [wrap_succ (by omega)]
    have := ih (i + 1) (by omega) (by omega)
    rwa [List.take_succ_eq_append_getElem hil] at this
  ·rw [if_neg h]; exact Ev.now _
theorem rcheck39 (a : ByteArray) (l : List ByteArray) (hl : l.length < 4611686018427387904) : Ev (fun k => r39_Check.f k a l) (colV a l) := by
 unfold r39_Check.f colV
 refine Ev.bind (rname39 _) ?_
 refine Ev.ite (fun h => ?_) (fun h => ?_)
 ·rw [if_pos h]
  refine Ev.ite (fun h1 => ?_) (fun h1 => ?_)
  ·rw [if_pos (by omega)]
   refine Ev.succ ?_
   simp only [r39_Check.j0]
   exact Ev.pos trivial (Ev.now _)
  ·rw [if_neg (by omega)]
   refine Ev.succ ?_
   simp only [r39_Check.j0]
   refine Ev.ite (fun h2 => ?_) (fun h2 => ?_)
   ·rw [if_pos (by have := of_decide_eq_true h2; omega)]; exact Ev.now _
   ·rw [if_neg (by simp at h2; omega)]
    have := rcheck39_l0 a l hl _ 0 rfl (by omega)
    simpa using this
 ·rw [if_neg h]; exact Ev.now _

theorem rvariable (x : List CS) (a : ByteArray) (b : List CV) (c : List CG) (d e : List CA) (hb : b.length < 4611686018427387904) (i : Nat) (hi : i < b.length) :
  Ev (fun k => r40_variable.f k x a b c d e (i : Int)) (varE x.length (b.take i) b[i]) := by
 unfold r40_variable.f
 refine Ev.pos (by omega) (Ev.pos (by omega) ?_)
 rw [rd48 hi]
 have hl : ∀ dd j, i - j = dd → j ≤ i → (∀ n, n < j → ∀ h : n < b.length, (b[n]).f0.toList ≠ (b[i]).f0.toList) → nameB b[i].f0 = true →
   Ev (fun k => r40_variable.l0 k x (i : Int) (j : Int) a b c d e b[i].f0 b[i].f1) (varE x.length (b.take i) b[i]) := by
  intro dd
  induction dd with
  | zero =>
   intro j hd hj hn hnm
   obtain rfl : j = i := by omega
   refine Ev.succ ?_
   simp only [r40_variable.l0]
   refine Ev.neg (by omega) ?_
   have hno : ¬ ((b.take j).any fun y => sameB y.f0 b[j].f0) = true := by
    intro h
    simp only [List.any_eq_true] at h
    obtain ⟨y, hy, he⟩ := h
    obtain ⟨n, hn', rfl⟩ := List.mem_iff_getElem.1 hy
    simp only [List.length_take] at hn'
    rw [List.getElem_take] at he
    exact hn n (by omega) (by omega) (same_iff.1 he)
   unfold varE
   rw [if_pos hnm, if_neg hno]
   refine Ev.ite (fun h => ?_) (fun h => ?_)
   ·rw [if_pos h]; exact Ev.now _
   ·rw [if_neg h]
    refine Ev.ite (fun h => ?_) (fun h => ?_)
    ·rw [if_pos h]; exact Ev.now _
    ·rw [if_neg h]; exact Ev.now _
  | succ dd ih =>
   intro j hd hj hn hnm
   have hjl : j < b.length := by omega
   refine Ev.succ ?_
   simp only [r40_variable.l0]
   refine Ev.pos (by omega) (Ev.pos (by omega) (Ev.pos (by omega) ?_))
   rw [rd48 hjl]
   refine Ev.ite (fun h => ?_) (fun h => ?_)
   ·unfold varE
    rw [if_pos hnm, if_pos ?_]
    ·exact Ev.now _
    ·simp only [List.any_eq_true]
     exact ⟨b[j], List.mem_iff_getElem.2 ⟨j, by simp only [List.length_take]; omega, by rw [List.getElem_take]⟩, same_iff.2 h⟩
   ·rw [wrap_succ (by omega)]
    exact ih (j + 1) (by omega) (by omega) (fun n hn' h' => by
     by_cases hnj : n = j
     ·subst hnj; exact h
     ·exact hn n (by omega) h') hnm
 refine Ev.bind (rname _) ?_
 refine Ev.ite (fun h => ?_) (fun h => ?_)
 ·exact hl _ 0 rfl (by omega) (fun n hn _ => by omega) h
 ·unfold varE; rw [if_neg h]; exact Ev.now _

theorem inV_iff {b : List CV} {z : Int} : inV b z = true ↔ 0 ≤ z ∧ z < (b.length : Int) := by simp [inV]
theorem rguard (a : ByteArray) (b : List CV) (c : List CG) (d e : List CA) (g : CG) :
  Ev (fun k => r40_guard.f k a b c d e g.f0 g.f1 g.f2) (grdE b g) := by
 have h1 : ∀ p : Bool, ¬ g.f0 < 1 → ¬ 3 < g.f0 → (p = true ↔ ¬ (inV b g.f1 = true ∧ inV b g.f2 = true)) → Ev (fun k => r40_guard.j1 k p a b c d e g.f0 g.f1 g.f2) (grdE b g) := by
  intro p hn1 hn3 hp
  refine Ev.succ ?_
  simp only [r40_guard.j1]
  unfold grdE
  rw [if_neg hn1, if_neg hn3]
  refine Ev.ite (fun h => ?_) (fun h => ?_)
  ·have := hp.1 h
   by_cases h1 : inV b g.f1 = true
   ·rw [if_pos h1, if_neg (fun h2 => this ⟨h1, h2⟩)]; exact Ev.now _
   ·rw [if_neg h1]; exact Ev.now _
  ·have h12 : inV b g.f1 = true ∧ inV b g.f2 = true := Classical.byContradiction fun h' => h (hp.2 h')
   rw [if_pos h12.1, if_pos h12.2]
   have i1 := inV_iff.1 h12.1
   have i2 := inV_iff.1 h12.2
   refine Ev.pos i1.1 (Ev.pos i1.2 (Ev.pos i2.1 (Ev.pos i2.2 ?_)))
   refine Ev.ite (fun h => ?_) (fun h => ?_)
   ·rw [if_pos h]; exact Ev.now _
   ·rw [if_neg h]; exact Ev.now _
 have h0 : ∀ p : Bool, (p = true ↔ g.f0 < 1 ∨ 3 < g.f0) → Ev (fun k => r40_guard.j0 k p a b c d e g.f0 g.f1 g.f2) (grdE b g) := by
  intro p hp
  refine Ev.succ ?_
  simp only [r40_guard.j0]
  refine Ev.ite (fun h => ?_) (fun h => ?_)
  ·unfold grdE
   rcases hp.1 h with h | h
   ·rw [if_pos h]; exact Ev.now _
   ·rw [if_neg (by omega), if_pos h]; exact Ev.now _
  ·have hn1 : ¬ g.f0 < 1 := fun h' => h (hp.2 (Or.inl h'))
   have hn3 : ¬ 3 < g.f0 := fun h' => h (hp.2 (Or.inr h'))
   refine Ev.ite (fun h => ?_) (fun h => ?_)
   ·exact h1 _ hn1 hn3 ⟨fun _ h' => absurd (inV_iff.1 h'.1) (by omega), fun _ => rfl⟩
   refine Ev.ite (fun h => ?_) (fun h => ?_)
   ·exact h1 _ hn1 hn3 ⟨fun _ h' => absurd (inV_iff.1 h'.1) (by omega), fun _ => rfl⟩
   refine Ev.ite (fun h => ?_) (fun h => ?_)
   ·exact h1 _ hn1 hn3 ⟨fun _ h' => absurd (inV_iff.1 h'.2) (by omega), fun _ => rfl⟩
   ·refine h1 _ hn1 hn3 ⟨fun h' h'' => ?_, fun h' => ?_⟩
    ·have := of_decide_eq_true h'; have := (inV_iff.1 h''.2).2; omega
    ·refine decide_eq_true ?_
     refine Classical.byContradiction fun h'' => h' ⟨inV_iff.2 (by omega), inV_iff.2 (by omega)⟩
 unfold r40_guard.f
 refine Ev.ite (fun h => ?_) (fun h => ?_)
 ·exact h0 _ ⟨fun _ => Or.inl h, fun _ => rfl⟩
 ·refine h0 _ ⟨fun h' => Or.inr ?_, fun h' => decide_eq_true ?_⟩
  ·have := of_decide_eq_true h'; omega
  ·omega

structure Sm (x : List CS) (b : List CV) (c : List CG) : Prop where
 hx : x.length ≤ 1000
 hb : b.length ≤ 1000
 hc : c.length ≤ 1000
 hv : ∀ s ∈ x, s.f1.length < 4611686018427387904

theorem rCheck (x : List CS) (a : ByteArray) (b : List CV) (c : List CG) (d e : List CA) (hs : Sm x b c) :
  Ev (fun k => r40_Check.f k x a b c d e) (chkAll x x.length b c) := by
 obtain ⟨hx, hb, hc, hv⟩ := hs
 have l2 : ∀ dd i, c.length - i = dd → i ≤ c.length → Ev (fun k => r40_Check.l2 k (i : Int) a b c d e) (grdsGo b (c.drop i)) := by
  intro dd
  induction dd with
  | zero =>
   intro i hd hi
   obtain rfl : i = c.length := by omega
   refine Ev.succ ?_
   simp only [r40_Check.l2, List.drop_length, grdsGo]
   exact Ev.neg (by omega) (Ev.now _)
  | succ dd ih =>
   intro i hd hi
   have hil : i < c.length := by omega
   refine Ev.succ ?_
   simp only [r40_Check.l2, rd62 hil]
   refine Ev.pos (by omega) (Ev.pos (by omega) ?_)
   rw [List.drop_eq_getElem_cons hil]
   unfold grdsGo
   refine Ev.bind (rguard a b c d e c[i]) ?_
   refine Ev.ite (fun h => ?_) (fun h => ?_)
   ·rw [if_pos h, wrap_succ (by omega)]; exact ih (i + 1) (by omega) (by omega)
   ·rw [if_neg h]; exact Ev.now _
 have l1 : ∀ dd i, b.length - i = dd → i ≤ b.length → Ev (fun k => r40_Check.l1 k x (i : Int) a b c d e) (if varsGo x.length (b.drop i) (b.take i) = 0 then grdsGo b c else varsGo x.length (b.drop i) (b.take i)) := by
  intro dd
  induction dd with
  | zero =>
   intro i hd hi
   obtain rfl : i = b.length := by omega
   refine Ev.succ ?_
   simp only [r40_Check.l1, List.drop_length, varsGo, if_true]
   refine Ev.neg (by omega) ?_
   simpa using l2 _ 0 rfl (by omega)
  | succ dd ih =>
   intro i hd hi
   have hil : i < b.length := by omega
   refine Ev.succ ?_
   simp only [r40_Check.l1]
   refine Ev.pos (by omega) ?_
   rw [List.drop_eq_getElem_cons hil]
   unfold varsGo
   refine Ev.bind (rvariable x a b c d e (by omega) i hil) ?_
   refine Ev.ite (fun h => ?_) (fun h => ?_)
   ·rw [if_pos h, wrap_succ (by omega)]
    have := ih (i + 1) (by omega) (by omega)
    rwa [List.take_succ_eq_append_getElem hil] at this
   ·rw [if_neg h, if_neg h]; exact Ev.now _
 have j1 : ∀ p : Bool, (p = true ↔ x.length < 1 ∨ 8 < x.length ∨ 4 < b.length) → Ev (fun k => r40_Check.j1 k x p a b c d e) (chkTail x.length b c) := by
  intro p hp
  refine Ev.succ ?_
  simp only [r40_Check.j1]
  unfold chkTail
  refine Ev.ite (fun h => ?_) (fun h => ?_)
  ·refine Ev.val ?_
   have := hp.1 h
   split
   ·rfl
   ·split
    ·rfl
    ·rw [if_pos (by omega)]
  ·have hno : ¬ (x.length < 1 ∨ 8 < x.length ∨ 4 < b.length) := fun h' => h (hp.2 h')
   rw [if_neg (by omega), if_neg (by omega), if_neg (by omega)]
   simpa using l1 _ 0 rfl (by omega)
 have l0 : ∀ dd i, x.length - i = dd → i ≤ x.length → Ev (fun k => r40_Check.l0 k x (i : Int) a b c d e) (chkAll (x.drop i) x.length b c) := by
  intro dd
  induction dd with
  | zero =>
   intro i hd hi
   obtain rfl : i = x.length := by omega
   refine Ev.succ ?_
   simp only [r40_Check.l0, List.drop_length, chkAll, setsGo, if_true]
   refine Ev.neg (by omega) ?_
   refine Ev.ite (fun h => j1 _ ⟨fun _ => by omega, fun _ => rfl⟩) (fun h => ?_)
   refine Ev.ite (fun h => j1 _ ⟨fun _ => by omega, fun _ => rfl⟩) (fun h => ?_)
   exact j1 _ ⟨fun h' => by have := of_decide_eq_true h'; omega, fun h' => decide_eq_true (by omega)⟩
  | succ dd ih =>
   intro i hd hi
   have hil : i < x.length := by omega
   refine Ev.succ ?_
   simp only [r40_Check.l0, rd51 hil]
   refine Ev.pos (by omega) (Ev.pos (by omega) ?_)
   have hih := ih (i + 1) (by omega) (by omega)
   rw [List.drop_eq_getElem_cons hil]
   unfold chkAll at hih ⊢
   unfold setsGo
   refine Ev.bind (rcheck39 _ _ (hv _ (List.getElem_mem hil))) ?_
   refine Ev.ite (fun h => ?_) (fun h => ?_)
   ·rw [if_pos h, wrap_succ (by omega)]; exact hih
   ·rw [if_neg h, if_neg h]; exact Ev.now _
 unfold r40_Check.f
 simpa using l0 _ 0 rfl (by omega)

theorem pCheck {x : List CS} {a : ByteArray} {b : List CV} {c : List CG} {d e : List CA} (hs : Sm x b c) : binding_Check.f x a b c d e = some (chkAll x x.length b c) := by
 unfold binding_Check.f
 rw [if_pos ⟨hs.hx, hs.hc⟩]

/-- What Check's answer 0 says. -/
theorem setsGo_zero : ∀ (l : List CS), setsGo l = 0 → ∀ s ∈ l, colV s.f0 s.f1 = 0
 | [], _, s, hs => by cases hs
 | c :: cs, h, s, hs => by
  unfold setsGo at h
  by_cases h0 : colV c.f0 c.f1 = 0
  ·rw [if_pos h0] at h
   rcases List.mem_cons.1 hs with rfl | hs
   ·exact h0
   ·exact setsGo_zero cs h s hs
  ·rw [if_neg h0] at h; exact absurd h h0
theorem varsGo_zero (n : Nat) : ∀ (l pre : List CV), varsGo n l pre = 0 → ∀ v ∈ l, 0 ≤ v.f1 ∧ v.f1 < (n : Int)
 | [], _, _, v, hv => by cases hv
 | c :: cs, pre, h, v, hv => by
  unfold varsGo at h
  by_cases h0 : varE n pre c = 0
  ·rw [if_pos h0] at h
   rcases List.mem_cons.1 hv with rfl | hv
   ·unfold varE at h0
    split at h0
    ·split at h0
     ·cases h0
     ·split at h0
      ·cases h0
      ·split at h0
       ·cases h0
       ·omega
    ·cases h0
   ·exact varsGo_zero n cs _ h v hv
  ·rw [if_neg h0] at h; exact absurd h h0
theorem grdsGo_zero (b : List CV) : ∀ (l : List CG), grdsGo b l = 0 → ∀ g ∈ l, grdE b g = 0
 | [], _, s, hs => by cases hs
 | c :: cs, h, s, hs => by
  unfold grdsGo at h
  by_cases h0 : grdE b c = 0
  ·rw [if_pos h0] at h
   rcases List.mem_cons.1 hs with rfl | hs
   ·exact h0
   ·exact grdsGo_zero b cs h s hs
  ·rw [if_neg h0] at h; exact absurd h h0
structure Okk (x : List CS) (b : List CV) (c : List CG) : Prop where
 xl : 1 ≤ x.length ∧ x.length ≤ 8
 bl : b.length ≤ 4
 cols : ∀ s ∈ x, 1 ≤ s.f1.length ∧ s.f1.length ≤ 12
 sets : ∀ v ∈ b, 0 ≤ v.f1 ∧ v.f1 < (x.length : Int)
 grds : ∀ g ∈ c, (0 ≤ g.f1 ∧ g.f1 < (b.length : Int)) ∧ 0 ≤ g.f2 ∧ g.f2 < (b.length : Int)
 names : ∀ s ∈ x, colV s.f0 s.f1 = 0
theorem colV_zero {a : ByteArray} {l : List ByteArray} (h : colV a l = 0) : 1 ≤ l.length ∧ l.length ≤ 12 := by
 unfold colV at h
 split at h
 ·split at h
  ·cases h
  ·split at h
   ·cases h
   ·omega
 ·cases h
theorem chk_zero {x : List CS} {b : List CV} {c : List CG} (h : chkAll x x.length b c = 0) : Okk x b c := by
 unfold chkAll at h
 by_cases hs : setsGo x = 0
 ·rw [if_pos hs] at h
  unfold chkTail at h
  split at h
  ·cases h
  ·split at h
   ·cases h
   ·split at h
    ·cases h
    ·split at h
     ·rename_i h1 h2 h3 h4
      refine ⟨⟨by omega, by omega⟩, by omega, fun s hs' => colV_zero (setsGo_zero x hs s hs'), fun v hv => varsGo_zero _ _ _ h4 v hv, fun g hg => ?_, setsGo_zero x hs⟩
      have h0 := grdsGo_zero b c h g hg
      unfold grdE at h0
      split at h0
      ·cases h0
      ·split at h0
       ·cases h0
       ·split at h0
        ·split at h0
         ·rename_i i1 i2
          exact ⟨inV_iff.1 i1, inV_iff.1 i2⟩
         ·cases h0
        ·cases h0
     ·rename_i h4; exact absurd h h4
 ·rw [if_neg hs] at h; exact absurd h hs

/-- The error of a variable's number in a term. -/
def vE (b : List CV) (set n : Int) : Int := if 0 ≤ n ∧ n < (b.length : Int) then (if (rd_T48 b n).f1 = set then 0 else 17) else 1
def nE (m n : Int) : Int := if 0 ≤ n ∧ n < m then 0 else 1
/-- The error of a term over a set of colors that is there. -/
def termE (x : List CS) (b : List CV) (set : Int) (t : CT) : Int :=
 if t.f0 < 1 ∨ 99 < t.f0 then 9 else if t.f1 < 1 ∨ 5 < t.f1 then 12 else
 if t.f1 = 1 then nE ((rd_T51 x set).f1.length : Int) t.f2 else
 if t.f1 = 5 then nE 1 t.f2 else vE b set t.f2
theorem termE_w {x : List CS} {b : List CV} {set : Int} {t : CT} (h : t.f0 < 1 ∨ 99 < t.f0) : termE x b set t = 9 := if_pos h
theorem termE_k {x : List CS} {b : List CV} {set : Int} {t : CT} (h : ¬ (t.f0 < 1 ∨ 99 < t.f0)) (hk : t.f1 < 1 ∨ 5 < t.f1) : termE x b set t = 12 := by unfold termE; rw [if_neg h, if_pos hk]
theorem termE_1 {x : List CS} {b : List CV} {set : Int} {t : CT} (h : ¬ (t.f0 < 1 ∨ 99 < t.f0)) (hk : t.f1 = 1) : termE x b set t = nE ((rd_T51 x set).f1.length : Int) t.f2 := by unfold termE; rw [if_neg h, if_neg (by omega), if_pos hk]
theorem termE_5 {x : List CS} {b : List CV} {set : Int} {t : CT} (h : ¬ (t.f0 < 1 ∨ 99 < t.f0)) (hk : t.f1 = 5) : termE x b set t = nE 1 t.f2 := by unfold termE; rw [if_neg h, if_neg (by omega), if_neg (by omega), if_pos hk]
theorem termE_v {x : List CS} {b : List CV} {set : Int} {t : CT} (h : ¬ (t.f0 < 1 ∨ 99 < t.f0)) (hk : ¬ (t.f1 < 1 ∨ 5 < t.f1)) (h1 : ¬ t.f1 = 1) (h5 : ¬ t.f1 = 5) : termE x b set t = vE b set t.f2 := by unfold termE; rw [if_neg h, if_neg hk, if_neg h1, if_neg h5]
theorem nE_0 {m n : Int} (h : 0 ≤ n ∧ n < m) : nE m n = 0 := if_pos h
theorem nE_1 {m n : Int} (h : ¬ (0 ≤ n ∧ n < m)) : nE m n = 1 := if_neg h
def termsGo (x : List CS) (b : List CV) (set : Int) : List CT → Int
 | [] => 0
 | t :: ts => if termE x b set t = 0 then termsGo x b set ts else termE x b set t

theorem bool_cases {p : Bool} {P : Prop} (h : p = true ↔ P) : (p = true ∧ P) ∨ (p = false ∧ ¬ P) := by
 cases p with
 | true => exact Or.inl ⟨rfl, h.1 rfl⟩
 | false => exact Or.inr ⟨rfl, fun hp => by have := h.2 hp; cases this⟩
set_option maxHeartbeats 2000000 in
theorem pterm (x : List CS) (a : ByteArray) (b : List CV) (c : List CG) (d e : List CA) (set : Int) (h0 : 0 ≤ set) (h1 : set < (x.length : Int)) (t : CT) :
  Ev (fun k => binding_term.f k x a b c d e set t.f0 t.f1 t.f2) (termE x b set t) := by
 have j2 : ∀ p : Bool, (p = true ↔ t.f2 < 0 ∨ (b.length : Int) ≤ t.f2) → Ev (fun k => binding_term.j2 k set p a b c d e t.f0 t.f1 t.f2) (vE b set t.f2) := by
  intro p hp
  refine Ev.succ ?_
  simp only [binding_term.j2]
  rcases bool_cases hp with ⟨h, h'⟩ | ⟨h, h'⟩
  ·exact Ev.pos h (Ev.val (if_neg (by omega)).symm)
  ·have hv : vE b set t.f2 = if (rd_T48 b t.f2).f1 = set then 0 else 17 := if_pos (by omega)
   rw [hv]
   refine Ev.neg (by simp [h]) (Ev.pos (by omega) (Ev.pos (by omega) ?_))
   refine Ev.ite (fun h => Ev.val (if_pos h).symm) (fun h => Ev.val (if_neg h).symm)
 have j1 : ∀ p : Bool, ¬ (t.f0 < 1 ∨ 99 < t.f0) → (p = true ↔ t.f1 = 2 ∨ t.f1 = 3 ∨ t.f1 = 4) → Ev (fun k => binding_term.j1 k set ((rd_T51 x set).f1.length : Int) t.f1 p a b c d e t.f0 t.f1 t.f2) (termE x b set t) := by
  intro p hw hp
  refine Ev.succ ?_
  simp only [binding_term.j1]
  rcases bool_cases hp with ⟨h, h'⟩ | ⟨h, h'⟩
  ·rw [termE_v hw (by omega) (by omega) (by omega)]
   refine Ev.pos h ?_
   refine Ev.ite (fun h => j2 _ ⟨fun _ => Or.inl h, fun _ => rfl⟩) (fun h => j2 _ ⟨fun h' => Or.inr (of_decide_eq_true h'), fun h' => decide_eq_true (by omega)⟩)
  ·refine Ev.neg (by simp [h]) ?_
   refine Ev.ite (fun h5 => ?_) (fun h5 => ?_)
   ·rw [termE_5 hw h5]
    refine Ev.ite (fun h => Ev.val (nE_1 (by omega)).symm) (fun h => ?_)
    refine Ev.ite (fun h => Ev.val (nE_1 (by omega)).symm) (fun h => Ev.val (nE_0 (by omega)).symm)
   ·refine Ev.ite (fun h5 => ?_) (fun h5 => ?_)
    ·rw [termE_1 hw h5]
     refine Ev.ite (fun h => Ev.val (nE_1 (by omega)).symm) (fun h => ?_)
     refine Ev.ite (fun h => Ev.val (nE_1 (by omega)).symm) (fun h => Ev.val (nE_0 (by omega)).symm)
    ·rw [termE_k hw (by omega)]; exact Ev.now _
 have j0 : ∀ p : Bool, (p = true ↔ t.f0 < 1 ∨ 99 < t.f0) → Ev (fun k => binding_term.j0 k x set p a b c d e t.f0 t.f1 t.f2) (termE x b set t) := by
  intro p hp
  refine Ev.succ ?_
  simp only [binding_term.j0]
  rcases bool_cases hp with ⟨h, h'⟩ | ⟨h, h'⟩
  ·rw [termE_w h']; exact Ev.pos h (Ev.now _)
  ·refine Ev.neg (by simp [h]) (Ev.pos h0 (Ev.pos h1 ?_))
   refine Ev.ite (fun h2 => ?_) (fun h2 => ?_)
   ·exact j1 _ h' (by simp [h2])
   refine Ev.ite (fun h3 => ?_) (fun h3 => ?_)
   ·exact j1 _ h' (by simp [h3])
   ·exact j1 _ h' (by simp [h2, h3])
 unfold binding_term.f
 refine Ev.ite (fun h => j0 _ ⟨fun _ => Or.inl h, fun _ => rfl⟩) (fun h => j0 _ ⟨fun h' => Or.inr (of_decide_eq_true h'), fun h' => decide_eq_true (by omega)⟩)
set_option maxHeartbeats 2000000 in
theorem rterm (x : List CS) (a : ByteArray) (b : List CV) (c : List CG) (d e : List CA) (set : Int) (h0 : 0 ≤ set) (h1 : set < (x.length : Int)) (t : CT) :
  Ev (fun k => r40_term.f k x a b c d e set t.f0 t.f1 t.f2) (termE x b set t) := by
 have j2 : ∀ p : Bool, (p = true ↔ t.f2 < 0 ∨ (b.length : Int) ≤ t.f2) → Ev (fun k => r40_term.j2 k set p a b c d e t.f0 t.f1 t.f2) (vE b set t.f2) := by
  intro p hp
  refine Ev.succ ?_
  simp only [r40_term.j2]
  rcases bool_cases hp with ⟨h, h'⟩ | ⟨h, h'⟩
  ·exact Ev.pos h (Ev.val (if_neg (by omega)).symm)
  ·have hv : vE b set t.f2 = if (rd_T48 b t.f2).f1 = set then 0 else 17 := if_pos (by omega)
   rw [hv]
   refine Ev.neg (by simp [h]) (Ev.pos (by omega) (Ev.pos (by omega) ?_))
   refine Ev.ite (fun h => Ev.val (if_pos h).symm) (fun h => Ev.val (if_neg h).symm)
 have j1 : ∀ p : Bool, ¬ (t.f0 < 1 ∨ 99 < t.f0) → (p = true ↔ t.f1 < 1 ∨ 5 < t.f1) → Ev (fun k => r40_term.j1 k x set p a b c d e t.f0 t.f1 t.f2) (termE x b set t) := by
  intro p hw hp
  refine Ev.succ ?_
  simp only [r40_term.j1]
  rcases bool_cases hp with ⟨h, h'⟩ | ⟨h, h'⟩
  ·rw [termE_k hw h']
   exact Ev.pos h (Ev.now _)
  ·refine Ev.neg (by simp [h]) ?_
   refine Ev.ite (fun h5 => ?_) (fun h5 => ?_)
   ·rw [termE_1 hw h5]
    refine Ev.ite (fun h => Ev.val (nE_1 (by omega)).symm) (fun h => ?_)
    refine Ev.pos h0 (Ev.pos h1 ?_)
    refine Ev.ite (fun h => Ev.val (nE_1 (by omega)).symm) (fun h => Ev.val (nE_0 (by omega)).symm)
   ·refine Ev.ite (fun h5 => ?_) (fun h5 => ?_)
    ·rw [termE_5 hw h5]
     refine Ev.ite (fun h => Ev.val (nE_0 (by omega)).symm) (fun h => Ev.val (nE_1 (by omega)).symm)
    ·rw [termE_v hw h' (by omega) (by omega)]
     refine Ev.ite (fun h => j2 _ ⟨fun _ => Or.inl h, fun _ => rfl⟩) (fun h => j2 _ ⟨fun h' => Or.inr (of_decide_eq_true h'), fun h' => decide_eq_true (by omega)⟩)
 have j0 : ∀ p : Bool, (p = true ↔ t.f0 < 1 ∨ 99 < t.f0) → Ev (fun k => r40_term.j0 k x set p a b c d e t.f0 t.f1 t.f2) (termE x b set t) := by
  intro p hp
  refine Ev.succ ?_
  simp only [r40_term.j0]
  rcases bool_cases hp with ⟨h, h'⟩ | ⟨h, h'⟩
  ·rw [termE_w h']; exact Ev.pos h (Ev.now _)
  ·refine Ev.neg (by simp [h]) ?_
   refine Ev.ite (fun h => j1 _ h' ⟨fun _ => Or.inl h, fun _ => rfl⟩) (fun h => j1 _ h' ⟨fun h' => Or.inr (of_decide_eq_true h'), fun h' => decide_eq_true (by omega)⟩)
 unfold r40_term.f
 refine Ev.ite (fun h => j0 _ ⟨fun _ => Or.inl h, fun _ => rfl⟩) (fun h => j0 _ ⟨fun h' => Or.inr (of_decide_eq_true h'), fun h' => decide_eq_true (by omega)⟩)

/-- The first error of color sets, variables, guards and terms. -/
def ctE (x : List CS) (b : List CV) (c : List CG) (set : Int) (ts : List CT) : Int :=
 if chkAll x x.length b c = 0 then (if 0 ≤ set ∧ set < (x.length : Int) then termsGo x b set ts else 1) else chkAll x x.length b c
theorem pCheckTerms (x : List CS) (a : ByteArray) (b : List CV) (c : List CG) (d e : List CA) (hs : Sm x b c) (set : Int) (ts : List CT) (hts : ts.length < 4611686018427387904) :
  Ev (fun k => binding_CheckTerms.f k x a b c d e set ts) (ctE x b c set ts) := by
 have l0 : 0 ≤ set → set < (x.length : Int) → ∀ dd i, ts.length - i = dd → i ≤ ts.length → Ev (fun k => binding_CheckTerms.l0 k x set ts (ts.length : Int) (i : Int) a b c d e) (termsGo x b set (ts.drop i)) := by
  intro h0 h1 dd
  induction dd with
  | zero =>
   intro i hd hi
   obtain rfl : i = ts.length := by omega
   refine Ev.succ ?_
   simp only [binding_CheckTerms.l0, List.drop_length, termsGo]
   exact Ev.neg (by omega) (Ev.now _)
  | succ dd ih =>
   intro i hd hi
   have hil : i < ts.length := by omega
   refine Ev.succ ?_
   simp only [binding_CheckTerms.l0, rd54 hil]
   refine Ev.pos (by omega) (Ev.pos (by omega) (Ev.pos (by omega) ?_))
   rw [List.drop_eq_getElem_cons hil]
   unfold termsGo
   refine Ev.bind (pterm x a b c d e set h0 h1 ts[i]) ?_
   refine Ev.ite (fun h => ?_) (fun h => ?_)
   ·rw [if_pos h, wrap_succ (by omega)]; exact ih (i + 1) (by omega) (by omega)
   ·rw [if_neg h]; exact Ev.now _
 have j0 : ∀ p : Bool, (p = true ↔ set < 0 ∨ (x.length : Int) ≤ set) → Ev (fun k => binding_CheckTerms.j0 k x set ts p a b c d e) (if 0 ≤ set ∧ set < (x.length : Int) then termsGo x b set ts else 1) := by
  intro p hp
  refine Ev.succ ?_
  simp only [binding_CheckTerms.j0]
  rcases bool_cases hp with ⟨h, h'⟩ | ⟨h, h'⟩
  ·rw [if_neg (by omega)]; exact Ev.pos h (Ev.now _)
  ·rw [if_pos (by omega)]
   refine Ev.neg (by simp [h]) ?_
   simpa using l0 (by omega) (by omega) _ 0 rfl (by omega)
 unfold binding_CheckTerms.f
 simp only [pCheck hs, Option.bind_some]
 unfold ctE
 refine Ev.ite (fun h => ?_) (fun h => ?_)
 ·rw [if_pos h]
  refine Ev.ite (fun h => j0 _ ⟨fun _ => Or.inl h, fun _ => rfl⟩) (fun h => j0 _ ⟨fun h' => Or.inr (of_decide_eq_true h'), fun h' => decide_eq_true (by omega)⟩)
 ·rw [if_neg h]; exact Ev.now _
theorem rCheckTerms (x : List CS) (a : ByteArray) (b : List CV) (c : List CG) (d e : List CA) (hs : Sm x b c) (set : Int) (ts : List CT) (hts : ts.length < 4611686018427387904) :
  Ev (fun k => r40_CheckTerms.f k x a b c d e set ts) (ctE x b c set ts) := by
 have l0 : 0 ≤ set → set < (x.length : Int) → ∀ dd i, ts.length - i = dd → i ≤ ts.length → Ev (fun k => r40_CheckTerms.l0 k x set ts (i : Int) a b c d e) (termsGo x b set (ts.drop i)) := by
  intro h0 h1 dd
  induction dd with
  | zero =>
   intro i hd hi
   obtain rfl : i = ts.length := by omega
   refine Ev.succ ?_
   simp only [r40_CheckTerms.l0, List.drop_length, termsGo]
   exact Ev.neg (by omega) (Ev.now _)
  | succ dd ih =>
   intro i hd hi
   have hil : i < ts.length := by omega
   refine Ev.succ ?_
   simp only [r40_CheckTerms.l0, rd54 hil]
   refine Ev.pos (by omega) (Ev.pos (by omega) ?_)
   rw [List.drop_eq_getElem_cons hil]
   unfold termsGo
   refine Ev.bind (rterm x a b c d e set h0 h1 ts[i]) ?_
   refine Ev.ite (fun h => ?_) (fun h => ?_)
   ·rw [if_pos h, wrap_succ (by omega)]; exact ih (i + 1) (by omega) (by omega)
   ·rw [if_neg h]; exact Ev.now _
 have j0 : ∀ p : Bool, (p = true ↔ set < 0 ∨ (x.length : Int) ≤ set) → Ev (fun k => r40_CheckTerms.j0 k x set ts p a b c d e) (if 0 ≤ set ∧ set < (x.length : Int) then termsGo x b set ts else 1) := by
  intro p hp
  refine Ev.succ ?_
  simp only [r40_CheckTerms.j0]
  rcases bool_cases hp with ⟨h, h'⟩ | ⟨h, h'⟩
  ·rw [if_neg (by omega)]; exact Ev.pos h (Ev.now _)
  ·rw [if_pos (by omega)]
   refine Ev.neg (by simp [h]) ?_
   simpa using l0 (by omega) (by omega) _ 0 rfl (by omega)
 unfold r40_CheckTerms.f
 unfold ctE
 refine Ev.bind (rCheck x a b c d e hs) ?_
 refine Ev.ite (fun h => ?_) (fun h => ?_)
 ·rw [if_pos h]
  refine Ev.ite (fun h => j0 _ ⟨fun _ => Or.inl h, fun _ => rfl⟩) (fun h => j0 _ ⟨fun h' => Or.inr (of_decide_eq_true h'), fun h' => decide_eq_true (by omega)⟩)
 ·rw [if_neg h]; exact Ev.now _
end Go.Proofs.Ytapkjfnfkalibaa.BChk

/- The example that every statement on bindings checks holds. -/
namespace Go.Proofs.Ytapkjfnfkalibaa.BLives
set_option linter.unusedVariables false
set_option linter.unusedSimpArgs false
open Go.RowKit Go.Proofs.Ytapkjfnfkalibaa.Pr Go.Proofs.Ytapkjfnfkalibaa.Evs Go.Proofs.Ytapkjfnfkalibaa.Names Go.Proofs.Ytapkjfnfkalibaa.BChk Go.Proofs.YtapkjfnfkalibaaW.PrintWords Go.Proofs.YtapkjfnfkalibaaW.PrintLast Go.Proofs.YtapkjfnfkalibaaW.PrintMore
theorem lives_now : l40_lives.f 60 = some true := by decide +kernel
theorem lives : Ev (fun k => l40_lives.f k) true := Ev.of l40_lives.mono lives_now
theorem lives' : Ev (fun k => (l40_lives.f k).bind fun t => some t) true := Ev.bind lives (Ev.now _)

/-- Few's answer: what it bounds. -/
theorem few (x : List CS) (a : ByteArray) (b : List CV) (c : List CG) (d e : List CA) :
  ∃ r : Bool, Ev (fun k => r40_Few.f k x a b c d e) r ∧ (r = true → (x.length ≤ 10 ∧ b.length ≤ 6 ∧ c.length ≤ 8) ∧ ∀ s ∈ x, s.f1.length ≤ 14) := by
 by_cases hs : x.length ≤ 10 ∧ b.length ≤ 6 ∧ c.length ≤ 8
 ·obtain ⟨h1, h2, h3⟩ := hs
  have l2 : ∀ dd i, b.length - i = dd → i ≤ b.length → ∃ r : Bool, Ev (fun k => r40_Few.l2 k (i : Int) a b c d e) r := by
   intro dd
   induction dd with
   | zero =>
    intro i hd hi
    refine ⟨true, Ev.succ ?_⟩
    simp only [r40_Few.l2]
    exact Ev.neg (by omega) (Ev.now _)
   | succ dd ih =>
    intro i hd hi
    obtain ⟨r, hr⟩ := ih (i + 1) (by omega) (by omega)
    by_cases h : (((rd_T48 b (i : Int)).f0).size : Int) > 20
    ·refine ⟨false, Ev.succ ?_⟩
     simp only [r40_Few.l2]
     exact Ev.pos (by omega) (Ev.pos (by omega) (Ev.pos h (Ev.now _)))
    ·refine ⟨r, Ev.succ ?_⟩
     simp only [r40_Few.l2]
     refine Ev.pos (by omega) (Ev.pos (by omega) (Ev.neg h ?_))
     rw [wrap_succ (by omega)]; exact hr
  obtain ⟨r2, hr2⟩ := l2 _ 0 rfl (by omega)
  have l0 : ∀ dd i, x.length - i = dd → i ≤ x.length → ∃ r : Bool, Ev (fun k => r40_Few.l0 k x (i : Int) a b c d e) r ∧ (r = true → ∀ s ∈ x.drop i, s.f1.length ≤ 14) := by
   intro dd
   induction dd with
   | zero =>
    intro i hd hi
    refine ⟨r2, Ev.succ ?_, fun _ s hs => ?_⟩
    ·simp only [r40_Few.l0]
     exact Ev.neg (by omega) hr2
    ·rw [List.drop_of_length_le (by omega)] at hs; cases hs
   | succ dd ih =>
    intro i hd hi
    have hil : i < x.length := by omega
    obtain ⟨r, hr, hrs⟩ := ih (i + 1) (by omega) (by omega)
    by_cases hvl : x[i].f1.length ≤ 14
    case neg =>
     refine ⟨false, Ev.succ ?_, fun h => by cases h⟩
     simp only [r40_Few.l0, rd51 hil]
     refine Ev.pos (by omega) (Ev.pos (by omega) (Ev.pos (by omega) (Ev.succ ?_)))
     simp only [r40_Few.j2]
     exact Ev.pos trivial (Ev.now _)
    have l1 : ∀ d1 j, x[i].f1.length - j = d1 → j ≤ x[i].f1.length → ∃ r' : Bool, Ev (fun k => r40_Few.l1 k x (i : Int) (j : Int) a b c d e) r' ∧ (r' = true → r = true) := by
     intro d1
     induction d1 with
     | zero =>
      intro j hd1 hj
      refine ⟨r, Ev.succ ?_, fun h => h⟩
      simp only [r40_Few.l1, rd51 hil]
      refine Ev.pos (by omega) (Ev.pos (by omega) (Ev.neg (by omega) ?_))
      rw [wrap_succ (by omega)]; exact hr
     | succ d1 ih1 =>
      intro j hd1 hj
      obtain ⟨r', hr', hrr⟩ := ih1 (j + 1) (by omega) (by omega)
      by_cases h : ((rdOf ByteArray.empty (x[i].f1) (j : Int)).size : Int) > 20
      ·refine ⟨false, Ev.succ ?_, fun h => by cases h⟩
       simp only [r40_Few.l1, rd51 hil]
       exact Ev.pos (by omega) (Ev.pos (by omega) (Ev.pos (by omega) (Ev.pos (by omega) (Ev.pos h (Ev.now _)))))
      ·refine ⟨r', Ev.succ ?_, hrr⟩
       simp only [r40_Few.l1, rd51 hil]
       refine Ev.pos (by omega) (Ev.pos (by omega) (Ev.pos (by omega) (Ev.pos (by omega) (Ev.neg h ?_))))
       rw [wrap_succ (by omega)]; exact hr'
    obtain ⟨r1, hr1, hrr⟩ := l1 _ 0 rfl (by omega)
    have j2 : ∀ p : Bool, ∃ r' : Bool, Ev (fun k => r40_Few.j2 k x (i : Int) p a b c d e) r' ∧ (r' = true → r = true) := by
     intro p
     cases p with
     | true =>
      refine ⟨false, Ev.succ ?_, fun h => by cases h⟩
      simp only [r40_Few.j2]
      exact Ev.pos trivial (Ev.now _)
     | false =>
      refine ⟨r1, Ev.succ ?_, hrr⟩
      simp only [r40_Few.j2]
      exact Ev.neg (by simp) hr1
    obtain ⟨q, hq, hqr⟩ := j2 (decide (((x[i].f0).size : Int) > 20))
    refine ⟨q, Ev.succ ?_, fun h s hs => ?_⟩
    ·simp only [r40_Few.l0, rd51 hil]
     exact Ev.pos (by omega) (Ev.pos (by omega) (Ev.neg (by omega) hq))
    ·rw [List.drop_eq_getElem_cons hil] at hs
     rcases List.mem_cons.1 hs with rfl | hs
     ·exact hvl
     ·exact hrs (hqr h) s hs
  obtain ⟨r0, hr0, hr0s⟩ := l0 _ 0 rfl (by omega)
  refine ⟨r0, ?_, fun h => ⟨⟨h1, h2, h3⟩, fun s hs => hr0s h s (by simpa using hs)⟩⟩
  unfold r40_Few.f
  refine Ev.neg (by omega) (Ev.neg (by omega) (Ev.succ ?_))
  simp only [r40_Few.j0]
  exact Ev.neg (by simp; omega) hr0
 ·refine ⟨false, ?_, fun h => by cases h⟩
  unfold r40_Few.f
  have j0 : Ev (fun k => r40_Few.j0 k x true a b c d e) false := by
   refine Ev.succ ?_
   simp only [r40_Few.j0]
   exact Ev.pos trivial (Ev.now _)
  refine Ev.ite (fun _ => j0) (fun h1 => Ev.ite (fun _ => j0) (fun h2 => ?_))
  rw [decide_eq_true (by omega)]; exact j0
theorem sm {x : List CS} {b : List CV} {c : List CG} (h : (x.length ≤ 10 ∧ b.length ≤ 6 ∧ c.length ≤ 8) ∧ ∀ s ∈ x, s.f1.length ≤ 14) : Sm x b c := ⟨by omega, by omega, by omega, fun s hs => by have := h.2 s hs; omega⟩
end Go.Proofs.Ytapkjfnfkalibaa.BLives

/- Chapter 40: bindings, sums of terms and guards, of the program and of the reference. -/
namespace Go.Proofs.Ytapkjfnfkalibaa.BEval
open Go.RowKit Go.Proofs.Ytapkjfnfkalibaa.Pr Go.Proofs.Ytapkjfnfkalibaa.Evs Go.Proofs.Ytapkjfnfkalibaa.Names Go.Proofs.Ytapkjfnfkalibaa.RName Go.Proofs.Ytapkjfnfkalibaa.BChk Go.Proofs.Ytapkjfnfkalibaa.Iter Go.Proofs.YtapkjfnfkalibaaW.PrintWords Go.Proofs.YtapkjfnfkalibaaW.PrintLast Go.Proofs.YtapkjfnfkalibaaW.PrintMore
set_option linter.unusedVariables false
set_option linter.unusedSimpArgs false

theorem rd_get {l : List Int} {i : Nat} (h : i < l.length) : rd l (i : Int) = l[i] := by simp [rd, h]
def allF (P : Nat → Bool) (i : Nat) : Nat → Bool
 | 0 => true
 | d + 1 => P i && allF P (i + 1) d
theorem allF_iff (P : Nat → Bool) : ∀ d i, allF P i d = true ↔ ∀ j, i ≤ j → j < i + d → P j = true
 | 0, i => by simp only [allF]; exact ⟨fun _ j _ _ => by omega, fun _ => trivial⟩
 | d + 1, i => by
  simp only [allF, Bool.and_eq_true, allF_iff P d (i + 1)]
  constructor
  ·rintro ⟨h0, h⟩ j h1 h2
   by_cases hj : j = i
   ·subst hj; exact h0
   ·exact h j (by omega) (by omega)
  ·intro h
   exact ⟨h i (by omega) (by omega), fun j h1 h2 => h j (by omega) (by omega)⟩
/-- A place of a binding is a color. -/
def bAt (x : List CS) (b : List CV) (l : List Int) (i : Nat) : Bool := decide (0 ≤ rd l (i : Int)) && decide (rd l (i : Int) < setOf x b i)
def boundB (x : List CS) (b : List CV) (l : List Int) : Bool := decide (l.length = b.length) && allF (bAt x b l) 0 l.length
theorem boundB_iff {x : List CS} {b : List CV} {l : List Int} : boundB x b l = true ↔ l.length = b.length ∧ ∀ i, i < b.length → 0 ≤ rd l (i : Int) ∧ rd l (i : Int) < setOf x b i := by
 unfold boundB
 simp only [Bool.and_eq_true, decide_eq_true_eq, allF_iff]
 constructor
 ·rintro ⟨h1, h2⟩
  refine ⟨h1, fun i hi => ?_⟩
  have := h2 i (by omega) (by omega)
  simpa [bAt] using this
 ·rintro ⟨h1, h2⟩
  refine ⟨h1, fun i _ hi => ?_⟩
  have := h2 i (by omega)
  simpa [bAt] using this
theorem setOf_eq {x : List CS} {b : List CV} {i : Nat} (hi : i < b.length) : setOf x b i = ((rd_T51 x b[i].f1).f1.length : Int) := by unfold setOf; rw [rd48 hi]
theorem set_get {x : List CS} {z : Int} (h0 : 0 ≤ z) (h1 : z < (x.length : Int)) : ∃ n : Nat, ∃ h : n < x.length, z = (n : Int) ∧ rd_T51 x z = x[n] := ⟨z.toNat, by omega, by omega, by
 have := rd51 (x := x) (i := z.toNat) (by omega)
 rwa [show ((z.toNat : Nat) : Int) = z by omega] at this⟩

theorem pis (x : List CS) (a : ByteArray) (b : List CV) (c : List CG) (d e : List CA) (hb : b.length < 4611686018427387904) (hs : ∀ v ∈ b, 0 ≤ v.f1 ∧ v.f1 < (x.length : Int)) (l : List Int) :
  Ev (fun k => binding_is.f k x a b c d e l) (boundB x b l) := by
 unfold binding_is.f
 by_cases hl : l.length = b.length
 ·refine Ev.pos (by omega) ?_
  have hk : ∀ dd i, b.length - i = dd → i ≤ b.length → Ev (fun k => binding_is.l0 k x l b (b.length : Int) (i : Int)) (allF (bAt x b l) i dd) := by
   intro dd
   induction dd with
   | zero =>
    intro i hd hi
    obtain rfl : i = b.length := by omega
    refine Ev.succ ?_
    simp only [binding_is.l0, allF]
    exact Ev.neg (by omega) (Ev.now _)
   | succ dd ih =>
    intro i hd hi
    have hil : i < b.length := by omega
    have hsi := hs _ (List.getElem_mem hil)
    refine Ev.succ ?_
    simp only [binding_is.l0, rd48 hil]
    refine Ev.pos (by omega) (Ev.pos (by omega) (Ev.pos (by omega) (Ev.pos (by omega) ?_)))
    have hat : bAt x b l i = (decide (0 ≤ rd l (i : Int)) && decide (rd l (i : Int) < ((rd_T51 x b[i].f1).f1.length : Int))) := by unfold bAt; rw [setOf_eq hil]
    refine Ev.ite (fun h => ?_) (fun h => ?_)
    ·refine Ev.val ?_
     rw [allF, hat, decide_eq_false (by omega)]; rfl
    ·refine Ev.pos hsi.1 (Ev.pos hsi.2 ?_)
     refine Ev.ite (fun h => ?_) (fun h => ?_)
     ·refine Ev.val ?_
      rw [allF, hat, decide_eq_false (show ¬ rd l (i : Int) < _ by omega)]; simp
     ·rw [allF, hat, decide_eq_true (by omega), decide_eq_true (by omega), wrap_succ (by omega)]
      simpa using ih (i + 1) (by omega) (by omega)
  have := hk _ 0 rfl (by omega)
  unfold boundB
  rw [decide_eq_true hl, hl]
  simpa using this
 ·refine Ev.neg (by omega) (Ev.val ?_)
  unfold boundB; rw [decide_eq_false hl]; rfl
theorem rbound (x : List CS) (a : ByteArray) (b : List CV) (c : List CG) (d e : List CA) (hb : b.length < 4611686018427387904) (hs : ∀ v ∈ b, 0 ≤ v.f1 ∧ v.f1 < (x.length : Int)) (l : List Int) :
  Ev (fun k => r40_Bound.f k x a b c d e l) (boundB x b l) := by
 unfold r40_Bound.f
 by_cases hl : l.length = b.length
 ·refine Ev.pos (by omega) ?_
  have hk : ∀ dd i, b.length - i = dd → i ≤ b.length → Ev (fun k => r40_Bound.l0 k x l (i : Int) a b c d e) (allF (bAt x b l) i dd) := by
   intro dd
   induction dd with
   | zero =>
    intro i hd hi
    obtain rfl : i = b.length := by omega
    refine Ev.succ ?_
    simp only [r40_Bound.l0, allF]
    exact Ev.neg (by omega) (Ev.now _)
   | succ dd ih =>
    intro i hd hi
    have hil : i < b.length := by omega
    have hsi := hs _ (List.getElem_mem hil)
    refine Ev.succ ?_
    simp only [r40_Bound.l0, rd48 hil]
    refine Ev.pos (by omega) (Ev.pos (by omega) ?_)
    have hat : bAt x b l i = (decide (0 ≤ rd l (i : Int)) && decide (rd l (i : Int) < ((rd_T51 x b[i].f1).f1.length : Int))) := by unfold bAt; rw [setOf_eq hil]
    refine Ev.ite (fun h => ?_) (fun h => ?_)
    ·refine Ev.val ?_
     rw [allF, hat, decide_eq_false (by omega)]; rfl
    ·refine Ev.pos (by omega) (Ev.pos hsi.1 (Ev.pos hsi.2 ?_))
     refine Ev.ite (fun h => ?_) (fun h => ?_)
     ·refine Ev.val ?_
      rw [allF, hat, decide_eq_false (show ¬ rd l (i : Int) < _ by omega)]; simp
     ·rw [allF, hat, decide_eq_true (by omega), decide_eq_true (by omega), wrap_succ (by omega)]
      simpa using ih (i + 1) (by omega) (by omega)
  have := hk _ 0 rfl (by omega)
  unfold boundB
  rw [decide_eq_true hl, hl]
  simpa using this
 ·refine Ev.neg (by omega) (Ev.val ?_)
  unfold boundB; rw [decide_eq_false hl]; rfl

/-- Whether all guards hold for a binding. -/
def gOk (c : List CG) (l : List Int) : Bool := c.all fun g => !badG g.f0 (rd l g.f1) (rd l g.f2)
theorem holdsGo_eq (l : List Int) : ∀ (c : List CG), (∀ g ∈ c, (0 ≤ g.f1 ∧ g.f1 < (l.length : Int)) ∧ 0 ≤ g.f2 ∧ g.f2 < (l.length : Int)) → holdsGo l c = some (gOk c l)
 | [], _ => rfl
 | g :: gs, h => by
  unfold holdsGo
  rw [if_pos (h g List.mem_cons_self)]
  have ih := holdsGo_eq l gs (fun g' hg' => h g' (List.mem_cons_of_mem _ hg'))
  split
  ·rename_i hb; simp [gOk, hb]
  ·rename_i hb; rw [ih]; simp [gOk, hb]
def holdB (x : List CS) (b : List CV) (c : List CG) (l : List Int) : Bool := decide (chkAll x x.length b c = 0) && boundB x b l && gOk c l
theorem pHolds (x : List CS) (a : ByteArray) (b : List CV) (c : List CG) (d e : List CA) (hs : Sm x b c) (l : List Int) : Ev (fun k => binding_Holds.f k x a b c d e l) (holdB x b c l) := by
 unfold binding_Holds.f
 simp only [pCheck hs, Option.bind_some]
 refine Ev.ite (fun h => ?_) (fun h => Ev.val (by simp [holdB, h]))
 have ok := chk_zero h
 refine Ev.bind (pis x a b c d e (by have := hs.hb; omega) ok.sets l) ?_
 refine Ev.ite (fun hb => ?_) (fun hb => Ev.val (by simp [holdB, h, hb]))
 unfold binding_holds.f
 have hbl := (boundB_iff.1 hb).1
 rw [if_pos hs.hc, holdsGo_eq l c (by rw [hbl]; exact ok.grds)]
 refine Ev.val ?_
 simp [holdB, h, hb]
theorem rHolds (x : List CS) (a : ByteArray) (b : List CV) (c : List CG) (d e : List CA) (hs : Sm x b c) (l : List Int) : Ev (fun k => r40_Holds.f k x a b c d e l) (holdB x b c l) := by
 unfold r40_Holds.f
 refine Ev.bind (rCheck x a b c d e hs) ?_
 refine Ev.ite (fun h => ?_) (fun h => Ev.val (by simp [holdB, h]))
 have ok := chk_zero h
 refine Ev.bind (rbound x a b c d e (by have := hs.hb; omega) ok.sets l) ?_
 refine Ev.ite (fun hb => ?_) (fun hb => Ev.val (by simp [holdB, h, hb]))
 have hbl := (boundB_iff.1 hb).1
 rw [if_pos hs.hc, holdsGo_eq l c (by rw [hbl]; exact ok.grds)]
 refine Ev.val ?_
 simp [holdB, h, hb]

/-- A row of n numbers. -/
def row (n : Nat) (f : Nat → Int) : List Int := (List.range n).map f
theorem row_len (n : Nat) (f : Nat → Int) : (row n f).length = n := by simp [row]
theorem rd_row {n : Nat} {f : Nat → Int} {q : Nat} (h : q < n) : rd (row n f) (q : Int) = f q := by
 rw [rd_get (by rw [row_len]; exact h)]; simp [row]
theorem row_congr {n : Nat} {f g : Nat → Int} (h : ∀ q, q < n → f q = g q) : row n f = row n g := by
 unfold row
 exact List.map_congr_left fun q hq => h q (List.mem_range.1 hq)
theorem row_set {n : Nat} {f : Nat → Int} {j : Nat} {v : Int} : (row n f).set j v = row n (fun q => if q = j then v else f q) := by
 refine List.ext_getElem (by simp [row]) (fun i h1 h2 => ?_)
 simp only [row, List.getElem_set, List.getElem_map, List.getElem_range]
 by_cases hij : i = j
 ·subst hij; simp
 ·rw [if_neg (fun h => hij h.symm), if_neg hij]
theorem row_zero (n : Nat) : List.replicate n (0 : Int) = row n (fun _ => 0) := by
 refine List.ext_getElem (by simp [row]) (fun i h1 h2 => by simp [row])

/-- The color of a term, or -1 for all colors. -/
def colAt (n : Int) (l : List Int) (t : CT) : Int :=
 if t.f1 = 1 then t.f2 else if t.f1 = 2 then rd l t.f2 else
 if t.f1 = 3 then (if rd l t.f2 + 1 = n then 0 else rd l t.f2 + 1) else
 if t.f1 = 4 then (if rd l t.f2 = 0 then n - 1 else rd l t.f2 - 1) else -1
def addT (n : Int) (l : List Int) (t : CT) (q : Nat) : Int := if colAt n l t = -1 ∨ colAt n l t = (q : Int) then t.f0 else 0
def sumT (n : Int) (l : List Int) (ts : List CT) (q : Nat) : Int := (ts.map fun t => addT n l t q).sum
theorem sumT_snoc (n : Int) (l : List Int) (ts : List CT) (t : CT) (q : Nat) : sumT n l (ts ++ [t]) q = sumT n l ts q + addT n l t q := by simp [sumT]
theorem sumT_bound (n : Int) (l : List Int) : ∀ (ts : List CT), (∀ t ∈ ts, 1 ≤ t.f0 ∧ t.f0 ≤ 99) → ∀ q, 0 ≤ sumT n l ts q ∧ sumT n l ts q ≤ 99 * (ts.length : Int)
 | [], _, q => by simp [sumT]
 | t :: ts, h, q => by
  have ih := sumT_bound n l ts (fun t' ht' => h t' (List.mem_cons_of_mem _ ht')) q
  have ht := h t List.mem_cons_self
  have e : sumT n l (t :: ts) q = addT n l t q + sumT n l ts q := by simp [sumT]
  have ha : 0 ≤ addT n l t q ∧ addT n l t q ≤ 99 := by unfold addT; split <;> omega
  rw [e, List.length_cons]
  omega

theorem tmod_lt {a n : Int} (h0 : 0 ≤ a) (h1 : a < n) : Int.tmod a n = a := Int.tmod_eq_of_lt h0 h1
theorem tmod_add {a n : Int} (h0 : 0 ≤ a) (h1 : a < n) : Int.tmod (a + n) n = a := by
 rw [Int.tmod_eq_emod_of_nonneg (by omega), Int.add_emod_right, Int.emod_eq_of_lt h0 h1]
theorem tmod_one {n : Int} (h : 1 ≤ n) : Int.tmod 1 n = if n = 1 then 0 else 1 := by
 split
 ·subst_vars; rfl
 ·exact tmod_lt (by omega) (by omega)
theorem tmod_neg {n : Int} (h : 1 ≤ n) : Int.tmod (-1) n = if n = 1 then 0 else -1 := by
 rw [Int.neg_tmod, tmod_one h]; split <;> rfl
theorem wrap_id {z : Int} (h0 : -9223372036854775808 ≤ z) (h1 : z < 9223372036854775808) : wrap64 z = z := by unfold wrap64; omega
theorem shift_core {n u v : Int} (h1 : -1000 ≤ u) (h2 : u ≤ 1000) (hn : 1 ≤ n) (hb : n ≤ 1000) (h : Int.tmod u n = v) (h3 : -n ≤ v) (h4 : v < n) :
  Int.tmod (wrap64 (Int.tmod (wrap64 u) n + n)) n = if v < 0 then v + n else v := by
 rw [wrap_id (z := u) (by omega) (by omega), h, wrap_id (z := v + n) (by omega) (by omega)]
 split
 ·exact tmod_lt (by omega) (by omega)
 ·exact tmod_add (by omega) (by omega)
theorem pshift (a : ByteArray) (s : List ByteArray) (hs : s.length ≤ 1000) (z : Int) (h0 : 0 ≤ z) (h1 : z < (s.length : Int)) :
  colorset_Shift.f a s z 0 = some z ∧ colorset_Shift.f a s z (2 - 1) = some (if z + 1 = (s.length : Int) then 0 else z + 1) ∧ colorset_Shift.f a s z (-1) = some (if z = 0 then (s.length : Int) - 1 else z - 1) := by
 have hn : 1 ≤ (s.length : Int) := by omega
 have hb : (s.length : Int) ≤ 1000 := by omega
 generalize hl : (s.length : Int) = n at *
 refine ⟨?_, ?_, ?_⟩
 ·unfold colorset_Shift.f
  rw [hl, if_neg (by omega), if_neg (by omega), if_neg (by omega), Int.zero_tmod, Int.add_zero, shift_core (v := z) (by omega) (by omega) hn hb (tmod_lt h0 h1) (by omega) (by omega), if_neg (by omega)]
 ·unfold colorset_Shift.f
  rw [hl, if_neg (by omega), if_neg (by omega), if_neg (by omega), show (2 - 1 : Int) = 1 from rfl, tmod_one hn]
  by_cases h1n : n = 1
  ·rw [if_pos h1n, Int.add_zero, shift_core (v := z) (by omega) (by omega) hn hb (tmod_lt h0 h1) (by omega) (by omega), if_neg (by omega), if_pos (by omega)]
   congr 1; omega
  ·rw [if_neg h1n]
   by_cases hz : z + 1 = n
   ·rw [if_pos hz, shift_core (v := 0) (by omega) (by omega) hn hb (by rw [hz]; exact Int.tmod_self) (by omega) (by omega), if_neg (by omega)]
   ·rw [if_neg hz, shift_core (v := z + 1) (by omega) (by omega) hn hb (tmod_lt (by omega) (by omega)) (by omega) (by omega), if_neg (by omega)]
 ·unfold colorset_Shift.f
  rw [hl, if_neg (by omega), if_neg (by omega), if_neg (by omega), tmod_neg hn]
  by_cases h1n : n = 1
  ·rw [if_pos h1n, Int.add_zero, shift_core (v := z) (by omega) (by omega) hn hb (tmod_lt h0 h1) (by omega) (by omega), if_neg (by omega), if_pos (by omega)]
   congr 1; omega
  ·rw [if_neg h1n]
   by_cases hz : z = 0
   ·rw [if_pos hz, shift_core (v := -1) (by omega) (by omega) hn hb (by rw [hz]; show Int.tmod (-1) n = -1; rw [tmod_neg hn, if_neg h1n]) (by omega) (by omega), if_pos (by omega)]
    congr 1; omega
   ·rw [if_neg hz, shift_core (u := z + -1) (v := z - 1) (by omega) (by omega) hn hb (by rw [show z + -1 = z - 1 by omega]; exact tmod_lt (by omega) (by omega)) (by omega) (by omega), if_neg (by omega)]
theorem rshift (a : ByteArray) (s : List ByteArray) (hs : s.length ≤ 1000) (z : Int) (h0 : 0 ≤ z) (h1 : z < (s.length : Int)) :
  Ev (fun k => r39_Shift.f k a s z 1) (if z + 1 = (s.length : Int) then 0 else z + 1) ∧ Ev (fun k => r39_Shift.f k a s z (-1)) (if z = 0 then (s.length : Int) - 1 else z - 1) := by
 have hn : 1 ≤ (s.length : Int) := by omega
 have hb : (s.length : Int) ≤ 1000 := by omega
 generalize hl : (s.length : Int) = n at *
 refine ⟨?_, ?_⟩
 ·unfold r39_Shift.f
  refine Ev.neg (by omega) (Ev.succ ?_)
  simp only [r39_Shift.j0, hl]
  refine Ev.neg (by simp; omega) (Ev.neg (by omega) ?_)
  rw [tmod_one hn]
  by_cases h1n : n = 1
  ·subst h1n
   obtain rfl : z = 0 := by omega
   exact Ev.neg (by simp) (Ev.val (by simp [wrap64]))
  ·rw [if_neg h1n]
   refine Ev.neg (by simp) (Ev.val ?_)
   rw [wrap_id (by omega) (by omega)]
   by_cases hz : z + 1 = n
   ·rw [if_pos hz, hz, Int.tmod_self]
   ·rw [if_neg hz, tmod_lt (by omega) (by omega)]
 ·unfold r39_Shift.f
  refine Ev.neg (by omega) (Ev.succ ?_)
  simp only [r39_Shift.j0, hl]
  refine Ev.neg (by simp; omega) (Ev.neg (by omega) ?_)
  rw [tmod_neg hn]
  by_cases h1n : n = 1
  ·subst h1n
   obtain rfl : z = 0 := by omega
   exact Ev.neg (by simp) (Ev.val (by simp [wrap64]))
  ·rw [if_neg h1n]
   refine Ev.pos (by simp) (Ev.val ?_)
   rw [wrap_id (z := -1 + n) (by omega) (by omega), wrap_id (by omega) (by omega)]
   by_cases hz : z = 0
   ·subst hz; rw [if_pos rfl, tmod_lt (by omega) (by omega)]; omega
   ·rw [if_neg hz, show z + (-1 + n) = (z - 1) + n by omega, tmod_add (by omega) (by omega)]

theorem maxGo_le : ∀ (l : List Int) (m B : Int), m ≤ B → (∀ v ∈ l, v ≤ B) → maxGo m l ≤ B := by
 intro l
 induction l with
 | nil => intro m B hm _; exact hm
 | cons v vs ih =>
  intro m B hm h
  show maxGo (mx m v) vs ≤ B
  refine ih _ B ?_ (fun v' hv' => h v' (List.mem_cons_of_mem _ hv'))
  have := h v List.mem_cons_self
  unfold mx; split <;> omega

/-- What a term without errors says. -/
theorem termsGo_zero {x : List CS} {b : List CV} {set : Int} : ∀ (ts : List CT), termsGo x b set ts = 0 → ∀ t ∈ ts, termE x b set t = 0
 | [], _, t, ht => by cases ht
 | u :: us, h, t, ht => by
  unfold termsGo at h
  by_cases h0 : termE x b set u = 0
  ·rw [if_pos h0] at h
   rcases List.mem_cons.1 ht with rfl | ht
   ·exact h0
   ·exact termsGo_zero us h t ht
  ·rw [if_neg h0] at h; exact absurd h h0
structure TOk (x : List CS) (b : List CV) (set : Int) (t : CT) : Prop where
 w : 1 ≤ t.f0 ∧ t.f0 ≤ 99
 k : 1 ≤ t.f1 ∧ t.f1 ≤ 5
 one : t.f1 = 1 → 0 ≤ t.f2 ∧ t.f2 < ((rd_T51 x set).f1.length : Int)
 five : t.f1 = 5 → t.f2 = 0
 vs : t.f1 ≠ 1 → t.f1 ≠ 5 → (0 ≤ t.f2 ∧ t.f2 < (b.length : Int)) ∧ (rd_T48 b t.f2).f1 = set
theorem termE_zero {x : List CS} {b : List CV} {set : Int} {t : CT} (h : termE x b set t = 0) : TOk x b set t := by
 have hw : ¬ (t.f0 < 1 ∨ 99 < t.f0) := fun hw => by rw [termE_w hw] at h; cases h
 have hk : ¬ (t.f1 < 1 ∨ 5 < t.f1) := fun hk => by rw [termE_k hw hk] at h; cases h
 refine ⟨by omega, by omega, fun h1 => ?_, fun h5 => ?_, fun h1 h5 => ?_⟩
 ·rw [termE_1 hw h1] at h
  exact Classical.byContradiction fun hn => by rw [nE_1 hn] at h; cases h
 ·rw [termE_5 hw h5] at h
  have : 0 ≤ t.f2 ∧ t.f2 < 1 := Classical.byContradiction fun hn => by rw [nE_1 hn] at h; cases h
  omega
 ·rw [termE_v hw hk h1 h5] at h
  unfold vE at h
  split at h
  ·rename_i hr
   split at h
   ·rename_i hr2; exact ⟨hr, hr2⟩
   ·cases h
  ·cases h
/-- The colors of terms without errors, for a binding. -/
theorem colAt_range {x : List CS} {b : List CV} {set : Int} {l : List Int} {t : CT} (ht : TOk x b set t) (hb : boundB x b l = true) (h1 : 1 ≤ (rd_T51 x set).f1.length) :
  (t.f1 ≠ 1 → t.f1 ≠ 5 → t.f2 < (l.length : Int) ∧ 0 ≤ rd l t.f2 ∧ rd l t.f2 < ((rd_T51 x set).f1.length : Int)) ∧ (t.f1 ≠ 5 → 0 ≤ colAt ((rd_T51 x set).f1.length : Int) l t ∧ colAt ((rd_T51 x set).f1.length : Int) l t < ((rd_T51 x set).f1.length : Int)) := by
 have hv : t.f1 ≠ 1 → t.f1 ≠ 5 → t.f2 < (l.length : Int) ∧ 0 ≤ rd l t.f2 ∧ rd l t.f2 < ((rd_T51 x set).f1.length : Int) := by
  intro hn1 hn5
  obtain ⟨⟨h0, hlt⟩, hset⟩ := ht.vs hn1 hn5
  obtain ⟨hll, hall⟩ := boundB_iff.1 hb
  have := hall t.f2.toNat (by omega)
  unfold setOf at this
  rw [show ((t.f2.toNat : Nat) : Int) = t.f2 by omega, hset] at this
  exact ⟨by omega, this⟩
 refine ⟨hv, fun hn5 => ?_⟩
 unfold colAt
 by_cases k1 : t.f1 = 1
 ·rw [if_pos k1]; exact ht.one k1
 ·obtain ⟨_, hr0, hr1⟩ := hv k1 hn5
  rw [if_neg k1]
  split
  ·exact ⟨hr0, hr1⟩
  ·split
   ·split <;> omega
   ·split
    ·split <;> omega
    ·have := ht.k; omega
theorem colAt_5 {n : Int} {l : List Int} {t : CT} (h : t.f1 = 5) : colAt n l t = -1 := by
 unfold colAt; rw [if_neg (by omega), if_neg (by omega), if_neg (by omega), if_neg (by omega)]
theorem addT_at {n : Int} {l : List Int} {t : CT} {q : Nat} (h : 0 ≤ colAt n l t) : addT n l t q = if q = (colAt n l t).toNat then t.f0 else 0 := by
 unfold addT
 by_cases hq : q = (colAt n l t).toNat
 ·rw [if_pos hq, if_pos (Or.inr (by omega))]
 ·rw [if_neg hq, if_neg (by omega)]
/-- One place of a row goes up by a term's weight. -/
theorem row_add {n : Nat} {l : List Int} {t : CT} {f : Nat → Int} (h0 : 0 ≤ colAt (n : Int) l t) (h1 : colAt (n : Int) l t < (n : Int)) (hf : ∀ q, 0 ≤ f q ∧ f q ≤ 99000) (hw : 1 ≤ t.f0 ∧ t.f0 ≤ 99) :
  (row n f).set (colAt (n : Int) l t).toNat (wrap64 (rd (row n f) (colAt (n : Int) l t) + t.f0)) = row n (fun q => f q + addT (n : Int) l t q) := by
 rw [row_set]
 refine row_congr fun q hq => ?_
 show (if q = _ then _ else f q) = f q + addT (n : Int) l t q
 rw [addT_at h0]
 have hr : rd (row n f) (colAt (n : Int) l t) = f (colAt (n : Int) l t).toNat := by
  have := rd_row (n := n) (f := f) (q := (colAt (n : Int) l t).toNat) (by omega)
  rwa [show (((colAt (n : Int) l t).toNat : Nat) : Int) = colAt (n : Int) l t by omega] at this
 by_cases hqe : q = (colAt (n : Int) l t).toNat
 ·rw [if_pos hqe, if_pos hqe, hr, ← hqe]
  have := hf q
  exact wrap_id (by omega) (by omega)
 ·rw [if_neg hqe, if_neg hqe]; omega

def evalR (x : List CS) (b : List CV) (c : List CG) (set : Int) (ts : List CT) (l : List Int) : List Int × Int :=
 if ctE x b c set ts = 0 then (if boundB x b l = true then (row (rd_T51 x set).f1.length (sumT ((rd_T51 x set).f1.length : Int) l ts), 0) else ([], 15)) else ([], ctE x b c set ts)
theorem ctE_zero {x : List CS} {b : List CV} {c : List CG} {set : Int} {ts : List CT} (h : ctE x b c set ts = 0) : Okk x b c ∧ (0 ≤ set ∧ set < (x.length : Int)) ∧ ∀ t ∈ ts, TOk x b set t := by
 unfold ctE at h
 split at h
 ·rename_i h0
  split at h
  ·rename_i h1
   exact ⟨chk_zero h0, h1, fun t ht => termE_zero (termsGo_zero ts h t ht)⟩
  ·cases h
 ·rename_i h0; exact absurd h h0
end Go.Proofs.Ytapkjfnfkalibaa.BEval

/- Chapter 40: Eval of the program and of the reference. -/
namespace Go.Proofs.Ytapkjfnfkalibaa.BEval
open Go.RowKit Go.Proofs.Ytapkjfnfkalibaa.Pr Go.Proofs.Ytapkjfnfkalibaa.Evs Go.Proofs.Ytapkjfnfkalibaa.Names Go.Proofs.Ytapkjfnfkalibaa.RName Go.Proofs.Ytapkjfnfkalibaa.BChk Go.Proofs.Ytapkjfnfkalibaa.Iter Go.Proofs.YtapkjfnfkalibaaW.PrintWords Go.Proofs.YtapkjfnfkalibaaW.PrintLast Go.Proofs.YtapkjfnfkalibaaW.PrintMore
set_option linter.unusedVariables false
set_option linter.unusedSimpArgs false

theorem take_bound {ts : List CT} {n : Int} {l : List Int} (hl : ts.length ≤ 1000) (hw : ∀ t ∈ ts, 1 ≤ t.f0 ∧ t.f0 ≤ 99) (i : Nat) (q : Nat) : 0 ≤ sumT n l (ts.take i) q ∧ sumT n l (ts.take i) q ≤ 99000 := by
 have := sumT_bound n l (ts.take i) (fun t ht => hw t (List.mem_of_mem_take ht)) q
 have h2 : (ts.take i).length ≤ 1000 := by simp only [List.length_take]; omega
 omega
theorem take_snoc {ts : List CT} {n : Int} {l : List Int} {i : Nat} (hi : i < ts.length) (q : Nat) : sumT n l (ts.take (i + 1)) q = sumT n l (ts.take i) q + addT n l ts[i] q := by
 rw [List.take_succ_eq_append_getElem hi, sumT_snoc]
set_option maxHeartbeats 4000000 in
theorem pEval (x : List CS) (a : ByteArray) (b : List CV) (c : List CG) (d e : List CA) (hs : Sm x b c) (set : Int) (ts : List CT) (hts : ts.length ≤ 1000) (l : List Int) :
  Ev (fun k => binding_Eval.f k x a b c d e set ts l) (evalR x b c set ts l) := by
 unfold binding_Eval.f evalR
 refine Ev.bind (pCheckTerms x a b c d e hs set ts (by omega)) ?_
 refine Ev.ite (fun h => ?_) (fun h => ?_)
 case refine_2 => rw [if_neg h]; exact Ev.now _
 rw [if_pos h]
 obtain ⟨ok, ⟨hs0, hs1⟩, htk⟩ := ctE_zero h
 refine Ev.bind (pis x a b c d e (by have := hs.hb; omega) ok.sets l) ?_
 refine Ev.ite (fun hb => ?_) (fun hb => ?_)
 case refine_2 => rw [if_neg hb]; exact Ev.now _
 rw [if_pos hb]
 refine Ev.pos hs0 (Ev.pos hs1 (Ev.pos (by omega) ?_))
 obtain ⟨sn, hsn, hse, hsx⟩ := set_get hs0 hs1
 have hcl := ok.cols _ (List.getElem_mem hsn)
 rw [← hsx] at hcl
 have hrg := fun t (ht : t ∈ ts) => colAt_range (htk t ht) hb hcl.1
 generalize hm : (rd_T51 x set).f1.length = m at *
 refine Ev.pos (by omega) ?_
 rw [Int.toNat_natCast, row_zero]
 have hwt : ∀ t ∈ ts, 1 ≤ t.f0 ∧ t.f0 ≤ 99 := fun t ht => (htk t ht).w
 have hl1 : ∀ (i : Nat) (f : Nat → Int) (t : CT) (R : List Int × Int), (∀ q, 0 ≤ f q ∧ f q ≤ 99000) → (1 ≤ t.f0 ∧ t.f0 ≤ 99) →
   Ev (fun k => binding_Eval.l0 k x set l (row m (fun q => f q + t.f0)) ts (ts.length : Int) (wrap64 ((i : Int) + 1))) R →
   ∀ dd j, m - j = dd → j ≤ m → Ev (fun k => binding_Eval.l1 k x set l (row m (fun q => f q + if q < j then t.f0 else 0)) ts (ts.length : Int) (i : Int) (m : Int) (j : Int) t.f0 t.f1 t.f2) R := by
  intro i f t R hf hw hR dd
  induction dd with
  | zero =>
   intro j hd hj
   obtain rfl : j = m := by omega
   refine Ev.succ ?_
   simp only [binding_Eval.l1]
   refine Ev.neg (by omega) ?_
   rw [row_congr (g := fun q => f q + t.f0) (fun q hq => by rw [if_pos hq])]
   exact hR
  | succ dd ih =>
   intro j hd hj
   have hjm : j < m := by omega
   refine Ev.succ ?_
   simp only [binding_Eval.l1, row_len]
   refine Ev.pos (by omega) (Ev.pos (by omega) (Ev.pos (by omega) ?_))
   rw [rd_row hjm, wrap_succ (by omega), Int.toNat_natCast, row_set]
   have := ih (j + 1) (by omega) (by omega)
   rw [row_congr (g := fun q => f q + if q < j + 1 then t.f0 else 0) (fun q hq => ?_)]
   ·exact this
   ·have := hf q
    by_cases hqj : q = j
    ·subst hqj
     rw [if_pos rfl, if_neg (by omega), if_pos (by omega), wrap_id (by omega) (by omega)]; omega
    ·rw [if_neg hqj]
     by_cases hq2 : q < j
     ·rw [if_pos hq2, if_pos (by omega)]
     ·rw [if_neg hq2, if_neg (by omega)]
 have hl0 : ∀ dd i, ts.length - i = dd → i ≤ ts.length → Ev (fun k => binding_Eval.l0 k x set l (row m (sumT (m : Int) l (ts.take i))) ts (ts.length : Int) (i : Int)) (row m (sumT (m : Int) l ts), 0) := by
  intro dd
  induction dd with
  | zero =>
   intro i hd hi
   obtain rfl : i = ts.length := by omega
   refine Ev.succ ?_
   simp only [binding_Eval.l0, List.take_length]
   refine Ev.neg (by omega) ?_
   have hbd : ∀ q, 0 ≤ sumT (m : Int) l ts q ∧ sumT (m : Int) l ts q ≤ 99000 := fun q => by
    have := take_bound (n := (m : Int)) (l := l) hts hwt ts.length q
    rwa [List.take_length] at this
   unfold slices_Max_int_int.f
   rw [if_pos (by rw [row_len]; omega)]
   simp only [Option.bind_some]
   refine Ev.neg ?_ (Ev.now _)
   have := maxGo_le ((row m (sumT (m : Int) l ts)).drop 1) (rd (row m (sumT (m : Int) l ts)) 0) 99000 (by
    have := rd_row (n := m) (f := sumT (m : Int) l ts) (q := 0) (by omega)
    rw [show ((0 : Nat) : Int) = 0 from rfl] at this
    rw [this]; exact (hbd 0).2) (fun v hv => by
     have hv' := List.mem_of_mem_drop hv
     simp only [row, List.mem_map, List.mem_range] at hv'
     obtain ⟨q, _, rfl⟩ := hv'
     exact (hbd q).2)
   omega
  | succ dd ih =>
   intro i hd hi
   have hil : i < ts.length := by omega
   have htm : ts[i] ∈ ts := List.getElem_mem hil
   have hto := htk _ htm
   have hbd := fun q => take_bound (n := (m : Int)) (l := l) hts hwt i q
   obtain ⟨hv, hc⟩ := hrg _ htm
   have hih := ih (i + 1) (by omega) (by omega)
   rw [row_congr (g := fun q => sumT (m : Int) l (ts.take i) q + addT (m : Int) l ts[i] q) (fun q _ => take_snoc hil q)] at hih
   refine Ev.succ ?_
   simp only [binding_Eval.l0, rd54 hil, row_len]
   refine Ev.pos (by omega) (Ev.pos (by omega) (Ev.pos (by omega) ?_))
   by_cases k5 : ts[i].f1 = 5
   ·refine Ev.pos k5 ?_
    have h5 : ∀ q, addT (m : Int) l ts[i] q = ts[i].f0 := fun q => by unfold addT; rw [if_pos (Or.inl (colAt_5 k5))]
    have := hl1 i (sumT (m : Int) l (ts.take i)) ts[i] (row m (sumT (m : Int) l ts), 0) hbd hto.w (by
     rw [wrap_succ (by omega)]
     simpa only [h5] using hih) m 0 (by omega) (by omega)
    simpa using this
   ·refine Ev.neg k5 ?_
    obtain ⟨c0, c1⟩ := hc k5
    have hset := row_add c0 c1 hbd hto.w
    rw [wrap_succ (by omega)]
    by_cases k1 : ts[i].f1 = 1
    ·have hcol : colAt (m : Int) l ts[i] = ts[i].f2 := by unfold colAt; rw [if_pos k1]
     rw [hcol] at hset c0 c1
     refine Ev.pos k1 (Ev.pos c0 (Ev.pos c1 ?_))
     rw [hset]; exact hih
    refine Ev.neg k1 ?_
    obtain ⟨hl2, hr0, hr1⟩ := hv k1 k5
    have hz := (hto.vs k1 k5).1.1
    have hps := pshift (rd_T51 x set).f0 (rd_T51 x set).f1 (by omega) (rd l ts[i].f2) hr0 (by rw [hm]; exact hr1)
    rw [hm] at hps
    by_cases k3 : ts[i].f1 = 3
    ·have hcol : colAt (m : Int) l ts[i] = (if rd l ts[i].f2 + 1 = (m : Int) then 0 else rd l ts[i].f2 + 1) := by unfold colAt; rw [if_neg k1, if_neg (by omega), if_pos k3]
     refine Ev.pos k3 (Ev.pos hs0 (Ev.pos hs1 (Ev.pos hz (Ev.pos hl2 ?_))))
     rw [hps.2.1]
     simp only [Option.bind_some]
     rw [hcol] at hset c0 c1
     refine Ev.pos c0 (Ev.pos c1 ?_)
     rw [hset]; exact hih
    refine Ev.neg k3 ?_
    by_cases k4 : ts[i].f1 = 4
    ·have hcol : colAt (m : Int) l ts[i] = (if rd l ts[i].f2 = 0 then (m : Int) - 1 else rd l ts[i].f2 - 1) := by unfold colAt; rw [if_neg k1, if_neg (by omega), if_neg k3, if_pos k4]
     refine Ev.pos k4 (Ev.pos hs0 (Ev.pos hs1 (Ev.pos hz (Ev.pos hl2 ?_))))
     rw [hps.2.2]
     simp only [Option.bind_some]
     rw [hcol] at hset c0 c1
     refine Ev.pos c0 (Ev.pos c1 ?_)
     rw [hset]; exact hih
    ·have k2 : ts[i].f1 = 2 := by have := hto.k; omega
     have hcol : colAt (m : Int) l ts[i] = rd l ts[i].f2 := by unfold colAt; rw [if_neg k1, if_pos k2]
     refine Ev.neg k4 (Ev.pos hs0 (Ev.pos hs1 (Ev.pos hz (Ev.pos hl2 ?_))))
     rw [hps.1]
     simp only [Option.bind_some]
     rw [hcol] at hset c0 c1
     refine Ev.pos c0 (Ev.pos c1 ?_)
     rw [hset]; exact hih
 exact hl0 _ 0 rfl (by omega)

theorem rcolor {x : List CS} {b : List CV} {set : Int} {l : List Int} {t : CT} (ht : TOk x b set t) (hb : boundB x b l = true) (h1 : 1 ≤ (rd_T51 x set).f1.length ∧ (rd_T51 x set).f1.length ≤ 12) :
  Ev (fun k => r40_color.f k (rd_T51 x set).f0 (rd_T51 x set).f1 t.f0 t.f1 t.f2 l) (colAt ((rd_T51 x set).f1.length : Int) l t) := by
 obtain ⟨hv, hc⟩ := colAt_range ht hb h1.1
 unfold r40_color.f colAt
 by_cases k1 : t.f1 = 1
 ·rw [if_pos k1]; exact Ev.pos k1 (Ev.now _)
 refine Ev.neg k1 ?_
 by_cases k5 : t.f1 = 5
 ·have hcc : (if t.f1 = 1 then t.f2 else if t.f1 = 2 then rd l t.f2 else if t.f1 = 3 then (if rd l t.f2 + 1 = ((rd_T51 x set).f1.length : Int) then 0 else rd l t.f2 + 1) else if t.f1 = 4 then (if rd l t.f2 = 0 then ((rd_T51 x set).f1.length : Int) - 1 else rd l t.f2 - 1) else -1) = -1 := by
   rw [if_neg k1, if_neg (by omega), if_neg (by omega), if_neg (by omega)]
  rw [hcc]
  exact Ev.neg (by omega) (Ev.neg (by omega) (Ev.neg (by omega) (Ev.now _)))
 rw [if_neg k1]
 obtain ⟨hl2, hr0, hr1⟩ := hv k1 k5
 have hz := (ht.vs k1 k5).1.1
 have hrs := rshift (rd_T51 x set).f0 (rd_T51 x set).f1 (by omega) (rd l t.f2) hr0 hr1
 by_cases k2 : t.f1 = 2
 ·rw [if_pos k2]; exact Ev.pos k2 (Ev.pos hz (Ev.pos hl2 (Ev.now _)))
 refine Ev.neg k2 ?_
 rw [if_neg k2]
 by_cases k3 : t.f1 = 3
 ·rw [if_pos k3]
  refine Ev.pos k3 (Ev.pos hz (Ev.pos hl2 (Ev.bind hrs.1 ?_)))
  exact Ev.now _
 refine Ev.neg k3 ?_
 have k4 : t.f1 = 4 := by have := ht.k; omega
 rw [if_neg k3, if_pos k4]
 refine Ev.pos k4 (Ev.pos hz (Ev.pos hl2 (Ev.bind hrs.2 ?_)))
 exact Ev.now _
set_option maxHeartbeats 4000000 in
theorem rEval (x : List CS) (a : ByteArray) (b : List CV) (c : List CG) (d e : List CA) (hs : Sm x b c) (set : Int) (ts : List CT) (hts : ts.length ≤ 1000) (l : List Int) :
  Ev (fun k => r40_Eval.f k x a b c d e set ts l) (evalR x b c set ts l) := by
 unfold r40_Eval.f evalR
 refine Ev.bind (rCheckTerms x a b c d e hs set ts (by omega)) ?_
 refine Ev.ite (fun h => ?_) (fun h => ?_)
 case refine_2 => rw [if_neg h]; exact Ev.now _
 rw [if_pos h]
 obtain ⟨ok, ⟨hs0, hs1⟩, htk⟩ := ctE_zero h
 refine Ev.bind (rbound x a b c d e (by have := hs.hb; omega) ok.sets l) ?_
 refine Ev.ite (fun hb => ?_) (fun hb => ?_)
 case refine_2 => rw [if_neg hb]; exact Ev.now _
 rw [if_pos hb]
 refine Ev.pos hs0 (Ev.pos hs1 (Ev.pos (by omega) ?_))
 obtain ⟨sn, hsn, hse, hsx⟩ := set_get hs0 hs1
 have hcl := ok.cols _ (List.getElem_mem hsn)
 rw [← hsx] at hcl
 have hrc := fun t (ht : t ∈ ts) => rcolor (htk t ht) hb hcl
 generalize hm : (rd_T51 x set).f1.length = m at *
 refine Ev.pos (by omega) ?_
 rw [Int.toNat_natCast, row_zero]
 have hwt : ∀ t ∈ ts, 1 ≤ t.f0 ∧ t.f0 ≤ 99 := fun t ht => (htk t ht).w
 have hl1 : ∀ (i : Nat) (hi : i < ts.length) (f : Nat → Int) (R : List Int × Int), (∀ q, 0 ≤ f q ∧ f q ≤ 99000) →
   Ev (fun k => r40_Eval.l0 k x set ts l (row m (fun q => f q + addT (m : Int) l ts[i] q)) (wrap64 ((i : Int) + 1))) R →
   ∀ dd j, m - j = dd → j ≤ m → Ev (fun k => r40_Eval.l1 k x set ts l (row m (fun q => f q + if q < j then addT (m : Int) l ts[i] q else 0)) (i : Int) (colAt (m : Int) l ts[i]) (j : Int)) R := by
  intro i hi f R hf hR dd
  have hw := hwt _ (List.getElem_mem hi)
  induction dd with
  | zero =>
   intro j hd hj
   obtain rfl : j = m := by omega
   refine Ev.succ ?_
   simp only [r40_Eval.l1, row_len]
   refine Ev.neg (by omega) ?_
   rw [row_congr (g := fun q => f q + addT (j : Int) l ts[i] q) (fun q hq => by rw [if_pos hq])]
   exact hR
  | succ dd ih =>
   intro j hd hj
   have hjm : j < m := by omega
   have hfj := hf j
   refine Ev.succ ?_
   simp only [r40_Eval.l1, row_len]
   refine Ev.pos (by omega) ?_
   have hih := ih (j + 1) (by omega) (by omega)
   have hj2 : ∀ p : Bool, (p = true ↔ colAt (m : Int) l ts[i] = -1 ∨ colAt (m : Int) l ts[i] = (j : Int)) → Ev (fun k => r40_Eval.j2 k x set ts l (row m (fun q => f q + if q < j then addT (m : Int) l ts[i] q else 0)) (i : Int) (colAt (m : Int) l ts[i]) (j : Int) p) R := by
    intro p hp
    refine Ev.succ ?_
    simp only [r40_Eval.j2, row_len, rd_row hjm, rd54 hi]
    rcases bool_cases hp with ⟨h, h'⟩ | ⟨h, h'⟩
    ·have ha : addT (m : Int) l ts[i] j = ts[i].f0 := by unfold addT; rw [if_pos h']
     refine Ev.pos h (Ev.pos (by omega) (Ev.pos (by omega) (Ev.pos (by omega) (Ev.pos (by omega) ?_))))
     rw [if_neg (show ¬ j < j by omega), Int.add_zero, wrap_id (z := f j + ts[i].f0) (by omega) (by omega)]
     refine Ev.neg (by omega) ?_
     rw [wrap_succ (by omega), Int.toNat_natCast, row_set]
     rw [row_congr (g := fun q => f q + if q < j + 1 then addT (m : Int) l ts[i] q else 0) (fun q hq => ?_)]
     ·exact hih
     ·by_cases hqj : q = j
      ·subst hqj; rw [if_pos rfl, if_pos (by omega), ha]
      ·rw [if_neg hqj]
       by_cases hq2 : q < j
       ·rw [if_pos hq2, if_pos (by omega)]
       ·rw [if_neg hq2, if_neg (by omega)]
    ·have ha : addT (m : Int) l ts[i] j = 0 := by unfold addT; rw [if_neg h']
     refine Ev.neg (by simp [h]) (Ev.pos (by omega) (Ev.pos (by omega) ?_))
     rw [if_neg (show ¬ j < j by omega), Int.add_zero]
     refine Ev.neg (by omega) ?_
     rw [wrap_succ (by omega)]
     rw [row_congr (g := fun q => f q + if q < j + 1 then addT (m : Int) l ts[i] q else 0) (fun q hq => ?_)]
     ·exact hih
     ·by_cases hqj : q = j
      ·subst hqj; rw [if_neg (by omega), if_pos (by omega), ha]
      ·by_cases hq2 : q < j
       ·rw [if_pos hq2, if_pos (by omega)]
       ·rw [if_neg hq2, if_neg (by omega)]
   refine Ev.ite (fun h => hj2 _ ⟨fun _ => Or.inl h, fun _ => rfl⟩) (fun h => hj2 _ ⟨fun h' => Or.inr (beq_iff_eq.1 h'), fun h' => beq_iff_eq.2 (h'.resolve_left h)⟩)
 have hl0 : ∀ dd i, ts.length - i = dd → i ≤ ts.length → Ev (fun k => r40_Eval.l0 k x set ts l (row m (sumT (m : Int) l (ts.take i))) (i : Int)) (row m (sumT (m : Int) l ts), 0) := by
  intro dd
  induction dd with
  | zero =>
   intro i hd hi
   obtain rfl : i = ts.length := by omega
   refine Ev.succ ?_
   simp only [r40_Eval.l0, List.take_length]
   exact Ev.neg (by omega) (Ev.now _)
  | succ dd ih =>
   intro i hd hi
   have hil : i < ts.length := by omega
   have htm : ts[i] ∈ ts := List.getElem_mem hil
   have hbd := fun q => take_bound (n := (m : Int)) (l := l) hts hwt i q
   have hih := ih (i + 1) (by omega) (by omega)
   rw [row_congr (g := fun q => sumT (m : Int) l (ts.take i) q + addT (m : Int) l ts[i] q) (fun q _ => take_snoc hil q)] at hih
   refine Ev.succ ?_
   simp only [r40_Eval.l0, rd54 hil]
   refine Ev.pos (by omega) (Ev.pos hs0 (Ev.pos hs1 (Ev.pos (by omega) ?_)))
   refine Ev.bind (hrc _ htm) ?_
   have := hl1 i hil (sumT (m : Int) l (ts.take i)) _ hbd (by rw [wrap_succ (by omega)]; exact hih) m 0 (by omega) (by omega)
   simpa using this
 exact hl0 _ 0 rfl (by omega)

theorem rsame (xs ys : List Int) (hx : xs.length < 4611686018427387904) : Ev (fun k => r04_Same.f k xs ys) (decide (xs = ys)) := by
 unfold r04_Same.f
 by_cases hl : xs.length = ys.length
 ·refine Ev.pos (by omega) ?_
  have hk : ∀ dd i, xs.length - i = dd → i ≤ xs.length → (xs.take i = ys.take i) → Ev (fun k => r04_Same.l0 k xs ys (i : Int)) (decide (xs = ys)) := by
   intro dd
   induction dd with
   | zero =>
    intro i hd hi he
    obtain rfl : i = xs.length := by omega
    refine Ev.succ ?_
    simp only [r04_Same.l0]
    refine Ev.neg (by omega) (Ev.val ?_)
    rw [List.take_length, hl, List.take_length] at he
    simp [he]
   | succ dd ih =>
    intro i hd hi he
    have h1 : i < xs.length := by omega
    have h2 : i < ys.length := by omega
    refine Ev.succ ?_
    simp only [r04_Same.l0, rd_get h1, rd_get h2]
    refine Ev.pos (by omega) (Ev.pos (by omega) (Ev.pos (by omega) ?_))
    refine Ev.ite (fun h => ?_) (fun h => Ev.val ?_)
    ·rw [wrap_succ (by omega)]
     refine ih (i + 1) (by omega) (by omega) ?_
     rw [List.take_succ_eq_append_getElem h1, List.take_succ_eq_append_getElem h2, he, h]
    ·symm; rw [decide_eq_false_iff_not]
     rintro rfl; exact h rfl
  exact hk _ 0 rfl (by omega) (by simp)
 ·refine Ev.neg (by omega) (Ev.val ?_)
  symm; rw [decide_eq_false_iff_not]
  rintro rfl; exact hl rfl
end Go.Proofs.Ytapkjfnfkalibaa.BEval

/- Chapter 40: the text of a binding, of the program and of the reference. -/
namespace Go.Proofs.Ytapkjfnfkalibaa.BText
open Go.RowKit Go.Proofs.Ytapkjfnfkalibaa.Pr Go.Proofs.Ytapkjfnfkalibaa.Evs Go.Proofs.Ytapkjfnfkalibaa.Names Go.Proofs.Ytapkjfnfkalibaa.BChk Go.Proofs.Ytapkjfnfkalibaa.BEval Go.Proofs.YtapkjfnfkalibaaW.PrintWords Go.Proofs.YtapkjfnfkalibaaW.PrintLast Go.Proofs.YtapkjfnfkalibaaW.PrintMore
set_option linter.unusedVariables false
set_option linter.unusedSimpArgs false

theorem nameB_size {s : ByteArray} (h : nameB s = true) : s.size ≤ 16 := by
 unfold nameB at h
 simp only [Bool.and_eq_true, decide_eq_true_eq] at h
 exact h.1.2
theorem colGo_names : ∀ (l keys : List ByteArray), colGo l keys = 0 → ∀ v ∈ l, nameB v = true
 | [], _, _, v, hv => by cases hv
 | c :: cs, keys, h, v, hv => by
  unfold colGo at h
  split at h
  ·rename_i hn
   split at h
   ·cases h
   ·rcases List.mem_cons.1 hv with rfl | hv
    ·exact hn
    ·exact colGo_names cs _ h v hv
  ·cases h
theorem colV_names {a : ByteArray} {l : List ByteArray} (h : colV a l = 0) : ∀ v ∈ l, nameB v = true := by
 unfold colV at h
 split at h
 ·split at h
  ·cases h
  ·split at h
   ·cases h
   ·exact colGo_names l [] h
 ·cases h
theorem varsGo_names (n : Nat) : ∀ (l pre : List CV), varsGo n l pre = 0 → ∀ v ∈ l, nameB v.f0 = true
 | [], _, _, v, hv => by cases hv
 | c :: cs, pre, h, v, hv => by
  unfold varsGo at h
  by_cases h0 : varE n pre c = 0
  ·rw [if_pos h0] at h
   rcases List.mem_cons.1 hv with rfl | hv
   ·unfold varE at h0
    split at h0
    ·rename_i hn; exact hn
    ·cases h0
   ·exact varsGo_names n cs _ h v hv
  ·rw [if_neg h0] at h; exact absurd h h0
theorem chk_names {x : List CS} {b : List CV} {c : List CG} (h : chkAll x x.length b c = 0) : ∀ v ∈ b, nameB v.f0 = true := by
 unfold chkAll at h
 by_cases hs : setsGo x = 0
 ·rw [if_pos hs] at h
  unfold chkTail at h
  split at h
  ·cases h
  ·split at h
   ·cases h
   ·split at h
    ·cases h
    ·split at h
     ·rename_i h4; exact varsGo_names _ _ _ h4
     ·rename_i h4; exact absurd h h4
 ·rw [if_neg hs] at h; exact absurd h hs

def eqS : ByteArray := ⟨#[61]⟩
def comS : ByteArray := ⟨#[44]⟩
def valS (x : List CS) (b : List CV) (l : List Int) (i : Nat) : ByteArray := rdOf ByteArray.empty ((rd_T51 x (rd_T48 b (i : Int)).f1).f1) (rd l (i : Int))
def partS (x : List CS) (b : List CV) (l : List Int) (i : Nat) : ByteArray := ((rd_T48 b (i : Int)).f0 ++ eqS) ++ valS x b l i
def accS (x : List CS) (b : List CV) (l : List Int) : Nat → ByteArray
 | 0 => ⟨#[]⟩
 | i + 1 => if i > 0 then (((accS x b l i ++ comS) ++ (rd_T48 b (i : Int)).f0) ++ eqS) ++ valS x b l i else ((accS x b l i ++ (rd_T48 b (i : Int)).f0) ++ eqS) ++ valS x b l i
theorem dl_app (a b : ByteArray) : (a ++ b).data.toList = a.data.toList ++ b.data.toList := by simp [ByteArray.data_append]
theorem sz_app (a b : ByteArray) : (a ++ b).size = a.size + b.size := ByteArray.size_append
def sizes (x : List CS) (b : List CV) (l : List Int) : Prop := ∀ i, i < b.length → ((rd_T48 b (i : Int)).f0).size ≤ 16 ∧ (valS x b l i).size ≤ 16
theorem sizes_of {x : List CS} {b : List CV} {c : List CG} {l : List Int} (h : chkAll x x.length b c = 0) (hb : boundB x b l = true) : sizes x b l := by
 intro i hi
 have ok := chk_zero h
 have hs := ok.sets _ (List.getElem_mem hi)
 obtain ⟨hll, hall⟩ := boundB_iff.1 hb
 have hr := hall i hi
 rw [setOf_eq hi] at hr
 obtain ⟨n, hn, he, hx⟩ := set_get hs.1 hs.2
 refine ⟨?_, ?_⟩
 ·rw [rd48 hi]; exact nameB_size (chk_names h _ (List.getElem_mem hi))
 ·unfold valS
  rw [rd48 hi]
  rw [hx] at hr ⊢
  have hz : (rd l (i : Int)).toNat < x[n].f1.length := by omega
  have := rdOf_get (d := ByteArray.empty) hz
  rw [show (((rd l (i : Int)).toNat : Nat) : Int) = rd l (i : Int) by omega] at this
  rw [this]
  exact nameB_size (colV_names (ok.names _ (List.getElem_mem hn)) _ (List.getElem_mem hz))
theorem com_size : comS.size = 1 := rfl
theorem eq_size : eqS.size = 1 := rfl
theorem acc_size {x : List CS} {b : List CV} {l : List Int} (h : sizes x b l) : ∀ i, i ≤ b.length → (accS x b l i).size ≤ 40 * i
 | 0, _ => Nat.le_refl 0
 | i + 1, hi => by
  have ih := acc_size h i (by omega)
  have hh := h i (by omega)
  unfold accS
  split <;> simp only [sz_app, com_size, eq_size] <;> omega
theorem acc_join (x : List CS) (b : List CV) (l : List Int) : ∀ i, (accS x b l (i + 1)).data.toList = Lib.join (((List.range (i + 1)).map (partS x b l)).map (·.data.toList)) comS.data.toList
 | 0 => by
  rw [show (List.range (0 + 1)) = [0] from rfl, List.map_cons, List.map_nil, List.map_cons, List.map_nil, Lib.join_one]
  have e : accS x b l (0 + 1) = ((accS x b l 0 ++ (rd_T48 b ((0 : Nat) : Int)).f0) ++ eqS) ++ valS x b l 0 := rfl
  have e0 : (accS x b l 0).data.toList = [] := rfl
  rw [e]
  unfold partS
  simp only [dl_app, e0, List.nil_append]
 | i + 1 => by
  have ih := acc_join x b l i
  have hr : ∀ n, List.range (n + 1) = 0 :: List.range' 1 n := fun n => by rw [List.range_eq_range', List.range'_succ]
  have hs : List.range' 1 (i + 1) = List.range' 1 i ++ [i + 1] := by
   rw [List.range'_1_concat]; congr 2; omega
  rw [hr, List.map_cons, List.map_cons, Lib.join_cons, hs] at *
  have e : accS x b l (i + 1 + 1) = (((accS x b l (i + 1) ++ comS) ++ (rd_T48 b ((i + 1 : Nat) : Int)).f0) ++ eqS) ++ valS x b l (i + 1) := by
   rw [accS, if_pos (by omega)]
  rw [e]
  simp only [dl_app]
  rw [ih]
  simp only [Lib.joinTail, List.map_append, List.map_cons, List.map_nil, List.flatten_append, List.flatten_cons, List.flatten_nil, List.append_nil, List.append_assoc, partS, dl_app]
def textV (x : List CS) (b : List CV) (c : List CG) (l : List Int) : ByteArray :=
 if chkAll x x.length b c = 0 then (if boundB x b l = true then (if l.length = 0 then ⟨#[45]⟩ else joinB ((List.range b.length).map (partS x b l)) comS) else ⟨#[]⟩) else ⟨#[]⟩
theorem joinB_acc {x : List CS} {b : List CV} {l : List Int} (h : b.length ≠ 0) : joinB ((List.range b.length).map (partS x b l)) comS = accS x b l b.length := by
 obtain ⟨n, hn⟩ : ∃ n, b.length = n + 1 := ⟨b.length - 1, by omega⟩
 rw [hn]
 unfold joinB
 rw [← acc_join]
set_option maxHeartbeats 2000000 in
theorem pText (x : List CS) (a : ByteArray) (b : List CV) (c : List CG) (d e : List CA) (hs : Sm x b c) (l : List Int) : Ev (fun k => binding_Text.f k x a b c d e l) (textV x b c l) := by
 unfold binding_Text.f textV
 simp only [pCheck hs, Option.bind_some]
 have hyes : Ev (fun k => binding_Text.j0 k x l true a b c d e) ⟨#[]⟩ := by
  refine Ev.succ ?_
  simp only [binding_Text.j0]
  exact Ev.pos trivial (Ev.now _)
 refine Ev.ite (fun h => ?_) (fun h => by rw [if_neg h]; exact hyes)
 rw [if_pos h]
 have ok := chk_zero h
 refine Ev.bind (pis x a b c d e (by have := hs.hb; omega) ok.sets l) ?_
 by_cases hb : boundB x b l = true
 case neg => rw [if_neg hb]; rw [Bool.not_eq_true] at hb; rw [hb]; exact hyes
 rw [if_pos hb, hb]
 have hsz := sizes_of h hb
 obtain ⟨hll, hall⟩ := boundB_iff.1 hb
 have hbl := ok.bl
 refine Ev.succ ?_
 simp only [binding_Text.j0]
 refine Ev.neg (by simp) ?_
 refine Ev.ite (fun h0 => ?_) (fun h0 => ?_)
 ·rw [if_pos (by omega)]; exact Ev.now _
 rw [if_neg (by omega)]
 have l0 : ∀ dd i, b.length - i = dd → i ≤ b.length → Ev (fun k => binding_Text.l0 k x l ((List.range i).map (partS x b l)) b (b.length : Int) (i : Int)) (joinB ((List.range b.length).map (partS x b l)) comS) := by
  intro dd
  induction dd with
  | zero =>
   intro i hd hi
   obtain rfl : i = b.length := by omega
   refine Ev.succ ?_
   simp only [binding_Text.l0]
   refine Ev.neg (by omega) ?_
   unfold strings_Join.f
   have hjs : (Lib.join (((List.range b.length).map (partS x b l)).map (·.data.toList)) (⟨#[44]⟩ : ByteArray).data.toList).length ≤ 1099511627776 := by
    have h1 := acc_size hsz b.length (Nat.le_refl _)
    have h2 := joinB_acc (x := x) (b := b) (l := l) (by omega)
    rw [← h2] at h1
    unfold joinB ByteArray.size at h1
    simp only [List.size_toArray] at h1
    show (Lib.join (((List.range b.length).map (partS x b l)).map (·.data.toList)) comS.data.toList).length ≤ _
    omega
   rw [if_pos ⟨by simp; omega, hjs⟩]
   exact Ev.val rfl
  | succ dd ih =>
   intro i hd hi
   have hil : i < b.length := by omega
   have hsi := ok.sets _ (List.getElem_mem hil)
   have hr := hall i hil
   rw [setOf_eq hil] at hr
   have hz := hsz i hil
   have hih := ih (i + 1) (by omega) (by omega)
   rw [List.range_succ, List.map_append, List.map_cons, List.map_nil] at hih
   have e1 : (⟨#[61]⟩ : ByteArray).size = 1 := rfl
   unfold valS at hz
   unfold partS valS at hih
   rw [rd48 hil] at hz hih
   refine Ev.succ ?_
   simp only [binding_Text.l0, rd48 hil, List.length_map, List.length_range]
   refine Ev.pos (by omega) (Ev.pos (by omega) (Ev.pos (by omega) (Ev.pos (by omega) (Ev.pos hsi.1 (Ev.pos hsi.2 (Ev.pos (by omega) (Ev.pos hr.1 (Ev.pos hr.2 (Ev.pos (by simp only [sz_app, e1]; omega) (Ev.pos (by omega) ?_))))))))))
   rw [wrap_succ (by omega)]
   exact hih
 exact l0 _ 0 rfl (by omega)
set_option maxHeartbeats 2000000 in
theorem rText (x : List CS) (a : ByteArray) (b : List CV) (c : List CG) (d e : List CA) (hs : Sm x b c) (l : List Int) : Ev (fun k => r40_Text.f k x a b c d e l) (textV x b c l) := by
 unfold r40_Text.f textV
 refine Ev.bind (rCheck x a b c d e hs) ?_
 have hyes : Ev (fun k => r40_Text.j0 k x l true a b c d e) ⟨#[]⟩ := by
  refine Ev.succ ?_
  simp only [r40_Text.j0]
  exact Ev.pos trivial (Ev.now _)
 refine Ev.ite (fun h => ?_) (fun h => by rw [if_neg h]; exact hyes)
 rw [if_pos h]
 have ok := chk_zero h
 refine Ev.bind (rbound x a b c d e (by have := hs.hb; omega) ok.sets l) ?_
 by_cases hb : boundB x b l = true
 case neg => rw [if_neg hb]; rw [Bool.not_eq_true] at hb; rw [hb]; exact hyes
 rw [if_pos hb, hb]
 have hsz := sizes_of h hb
 obtain ⟨hll, hall⟩ := boundB_iff.1 hb
 have hbl := ok.bl
 refine Ev.succ ?_
 simp only [r40_Text.j0]
 refine Ev.neg (by simp) ?_
 refine Ev.ite (fun h0 => ?_) (fun h0 => ?_)
 ·rw [if_pos (by omega)]; exact Ev.now _
 rw [if_neg (by omega), joinB_acc (by omega)]
 have l0 : ∀ dd i, b.length - i = dd → i ≤ b.length → Ev (fun k => r40_Text.l0 k x l (accS x b l i) (i : Int) a b c d e) (accS x b l b.length) := by
  intro dd
  induction dd with
  | zero =>
   intro i hd hi
   obtain rfl : i = b.length := by omega
   refine Ev.succ ?_
   simp only [r40_Text.l0]
   exact Ev.neg (by omega) (Ev.now _)
  | succ dd ih =>
   intro i hd hi
   have hil : i < b.length := by omega
   have hsi := ok.sets _ (List.getElem_mem hil)
   have hr := hall i hil
   rw [setOf_eq hil] at hr
   have hz := hsz i hil
   have has := acc_size hsz i hi
   have hih := ih (i + 1) (by omega) (by omega)
   have e1 : (⟨#[61]⟩ : ByteArray).size = 1 := rfl
   have e2 : (⟨#[44]⟩ : ByteArray).size = 1 := rfl
   rw [accS] at hih
   unfold valS at hz
   unfold valS at hih
   rw [rd48 hil] at hz hih
   refine Ev.succ ?_
   simp only [r40_Text.l0, rd48 hil]
   refine Ev.pos (by omega) ?_
   rw [wrap_succ (by omega)]
   refine Ev.ite (fun hi0 => ?_) (fun hi0 => ?_)
   ·rw [if_pos (by omega)] at hih
    exact Ev.pos (by omega) (Ev.pos (by omega) (Ev.pos (by omega) (Ev.pos (by simp only [sz_app, e1, e2]; omega) (Ev.pos (by simp only [sz_app, e1, e2]; omega) (Ev.pos hsi.1 (Ev.pos hsi.2 (Ev.pos hr.1 (Ev.pos hr.2 (Ev.pos (by simp only [sz_app, e1, e2]; omega) hih)))))))))
   ·rw [if_neg (by omega)] at hih
    exact Ev.pos (by omega) (Ev.pos (by omega) (Ev.pos (by omega) (Ev.pos (by simp only [sz_app, e1, e2]; omega) (Ev.pos hsi.1 (Ev.pos hsi.2 (Ev.pos hr.1 (Ev.pos hr.2 (Ev.pos (by simp only [sz_app, e1, e2]; omega) hih))))))))
 exact l0 _ 0 rfl (by omega)
end Go.Proofs.Ytapkjfnfkalibaa.BText

/- For all color sets, transitions, sums of terms and bindings, Eval, Holds and Text of package binding return what the reference returns. -/
namespace Go.Proofs.Ytapkjfnfkalibaa.Pure
open Go.RowKit Go.Proofs.Ytapkjfnfkalibaa.Pr Go.Proofs.Ytapkjfnfkalibaa.Evs Go.Proofs.Ytapkjfnfkalibaa.BChk Go.Proofs.Ytapkjfnfkalibaa.BEval Go.Proofs.Ytapkjfnfkalibaa.BLives Go.Proofs.Ytapkjfnfkalibaa.BText Go.Proofs.YtapkjfnfkalibaaW.PrintWords Go.Proofs.YtapkjfnfkalibaaW.PrintLast Go.Proofs.YtapkjfnfkalibaaW.PrintMore
set_option linter.unusedVariables false
theorem BindingEvals (x : List CS) (t : ByteArray × List CV × List CG × List CA × List CA) (q : Int × List CT × List Int) {P0 P1 P2 : Prop} (h0 : P0) (h1 : P1) (h2 : P2) :
  ∃ k, l40_BindingEvals.f k x t.1 t.2.1 t.2.2.1 t.2.2.2.1 t.2.2.2.2 q.1 q.2.1 q.2.2 = some true := by
 obtain ⟨a, b, c, d, e⟩ := t
 obtain ⟨set, ts, l⟩ := q
 obtain ⟨r, hr, hf⟩ := few x a b c d e
 apply Ev.rounds
 unfold l40_BindingEvals.f
 refine Ev.bind hr ?_
 have hyes : Ev (fun k => l40_BindingEvals.j0 k x true a b c d e set ts l) true := by
  refine Ev.succ ?_
  simp only [l40_BindingEvals.j0]
  exact Ev.pos trivial lives'
 refine Ev.ite (fun h => ?_) (fun _ => hyes)
 have hs := sm (hf h)
 refine Ev.ite (fun _ => hyes) (fun hl => ?_)
 have hts : ts.length ≤ 20 := by show ts.length ≤ 20; have : ¬ (ts.length : Int) > 20 := hl; omega
 have hno : Ev (fun k => l40_BindingEvals.j0 k x false a b c d e set ts l) true := by
  refine Ev.succ ?_
  simp only [l40_BindingEvals.j0]
  refine Ev.neg (by simp) ?_
  refine Ev.bind (pEval x a b c d e hs set ts (by omega) l) (Ev.bind (rEval x a b c d e hs set ts (by omega) l) ?_)
  have hlen : (evalR x b c set ts l).1.length < 4611686018427387904 := by
   unfold evalR
   split
   ·rename_i hc0
    split
    ·obtain ⟨ok, hset, _⟩ := ctE_zero hc0
     obtain ⟨sn, hsn, _, hsx⟩ := set_get hset.1 hset.2
     have := ok.cols _ (List.getElem_mem hsn)
     rw [← hsx] at this
     rw [row_len]; omega
    ·simp
   ·simp
  refine Ev.bind (rsame _ _ hlen) (Ev.pos (by simp) (Ev.pos rfl ?_))
  refine Ev.bind (pHolds x a b c d e hs l) (Ev.bind (rHolds x a b c d e hs l) ?_)
  rw [bne_eq_false_iff_eq.2 rfl]
  refine Ev.succ ?_
  simp only [l40_BindingEvals.j1]
  refine Ev.neg (by simp) ?_
  exact Ev.bind (pText x a b c d e hs l) (Ev.bind (rText x a b c d e hs l) (Ev.pos rfl lives'))
 by_cases h8 : (l.length : Int) > 8
 ·show Ev (fun k => l40_BindingEvals.j0 k x (decide ((l.length : Int) > 8)) a b c d e set ts l) true
  rw [decide_eq_true h8]; exact hyes
 ·show Ev (fun k => l40_BindingEvals.j0 k x (decide ((l.length : Int) > 8)) a b c d e set ts l) true
  rw [decide_eq_false h8]; exact hno
end Go.Proofs.Ytapkjfnfkalibaa.Pure

