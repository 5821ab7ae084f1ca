/- Independent of the reference: the term with a variable has its weight at the color of the variable, the successor at the next one and the predecessor at the previous one, cyclically, and the term with all colors has its weight at each color. -/
import Derived.Test.YtapkjfnfkalibaaQBindingTerms0
import Derived.Test.YtapkjfnfkalibaaQBindingTerms1
import Derived.Test.YtapkjfnfkalibaaQBindingTerms2
import Derived.Test.YtapkjfnfkalibaaQBindingTerms3
import Derived.Test.YtapkjfnfkalibaaBBindingTerms
import Derived.Test.YtapkjfnfkalibaaVBindingTerms
import Derived.Deep.Slices
import Derived.ChangeArms
/- General lemmas of this seat's proofs, in one text. -/
/- What the references' Name answers: the same of bytes as Names.nameB. -/
namespace Go.Proofs.Ytapkjfnfkalibaa.RName
open Go.RowKit Go.Proofs.Ytapkjfnfkalibaa.Pr Go.Proofs.Ytapkjfnfkalibaa.Evs Go.Proofs.Ytapkjfnfkalibaa.Names Go.Proofs.YtapkjfnfkalibaaW.PrintWords Go.Proofs.YtapkjfnfkalibaaW.PrintLast Go.Proofs.YtapkjfnfkalibaaW.PrintMore
set_option linter.unusedVariables false
set_option linter.unusedSimpArgs false

end Go.Proofs.Ytapkjfnfkalibaa.RName

/- A datum that is read deep (the statements' reader) told as the walks tell it: rows of rows, texts, numbers. -/
namespace Go.Proofs.Ytapkjfnfkalibaa.Opens
set_option linter.unusedVariables false
open Go.RowKit Go.WideShapes Go.Deep Go.Proofs.YtapkjfnfkalibaaW.PrintWords

/-- What the statements' reader finds at cells of type t is what d tells of some a with ok. -/
structure Opens {α H : Type} (enc : TypeId × Value → H) (P : Program) (w : World) (base : Nat) (spare : Nat → Bool) (held : Bool) (d : Kd α) (t : TypeId) (ok : α → Prop) : Prop where
 cells : P.cellsOf t = d.sz
 opens : ∀ (fuel : Nat) (cs : List Value) (x : DataW H × List MemPlace), DataW.trod enc P w base spare held fuel t cs = some x → ∃ a, d.K w a cs ∧ ok a

section
variable {H : Type} {enc : TypeId × Value → H} {P : Program} {w : World} {base : Nat} {spare : Nat → Bool} {held : Bool}
theorem string {t : TypeId} (ht : P.underlying t = some .string) (hc : P.cellsOf t = 1) : Opens enc P w base spare held Kd.string t (fun s => s.size ≤ maxLen) :=
 ⟨hc, fun fuel cs x h => by obtain ⟨s, rfl, _, hs⟩ := DataW.trod_string ht h; exact ⟨s, rfl, hs⟩⟩
theorem bool {t : TypeId} (ht : P.underlying t = some .bool) (hc : P.cellsOf t = 1) : Opens enc P w base spare held Kd.bool t (fun _ => True) :=
 ⟨hc, fun fuel cs x h => by obtain ⟨s, rfl, _⟩ := DataW.trod_bool ht h; exact ⟨s, rfl, trivial⟩⟩
theorem int {t : TypeId} {k : IntKind} (ht : P.underlying t = some (.int k)) (hc : P.cellsOf t = 1) : Opens enc P w base spare held (Kd.int k) t (fun n => (Lit.int k n).wf = true) :=
 ⟨hc, fun fuel cs x h => by obtain ⟨s, rfl, _, hs⟩ := DataW.trod_int ht h; exact ⟨s, rfl, hs⟩⟩
theorem list_of {α : Type} {p : Nat → α → Prop} : ∀ (n : Nat), (∀ i, i < n → ∃ a, p i a) → ∃ xs : List α, xs.length = n ∧ ∀ i a, xs[i]? = some a → p i a
 | 0, _ => ⟨[], rfl, fun i a h => by simp at h⟩
 | n + 1, h => by
  obtain ⟨xs, hl, hx⟩ := list_of n (fun i hi => h i (by omega))
  obtain ⟨a, ha⟩ := h n (by omega)
  refine ⟨xs ++ [a], by simp [hl], fun i b hb => ?_⟩
  by_cases hi : i < xs.length
  ·rw [List.getElem?_append_left hi] at hb; exact hx i b hb
  ·have hlt := (List.getElem?_eq_some_iff.1 hb).1
   simp only [List.length_append, List.length_cons, List.length_nil] at hlt
   obtain rfl : i = n := by omega
   rw [List.getElem?_append_right (by omega)] at hb
   simp [hl] at hb
   rw [← hb]; exact ha
theorem slice {α : Type} {d : Kd α} {t e : TypeId} {ok : α → Prop} (h : Opens enc P w base spare held d e ok) (ht : P.underlying t = some (.slice e)) (hc : P.cellsOf t = 1) :
  Opens enc P w base spare held (Kd.slice e d) t (fun xs => xs.length ≤ maxLen ∧ ∀ x ∈ xs, ok x) := by
 refine ⟨hc, fun fuel cs x hx => ?_⟩
 rcases open_slice ht hx with ⟨rfl, _⟩ | ⟨a, len, cap, m, n, D, Pl, rfl, _, hl, hm, hmm, _, hi⟩
 ·exact ⟨[], ⟨none, 0, rfl, Nat.le_refl _, Kd.C_nil _ _⟩, by simp, by simp⟩
 ·have hlm : len ≤ m := by rw [hmm]; split <;> omega
  obtain ⟨xs, hxl, hxs⟩ := list_of (p := fun i b => ∃ c, c.length = d.sz ∧ d.K w b c ∧ ok b ∧ ∀ j u, c[j]? = some u → w.cell? (a.add (i * d.sz + j)) = some u) len (fun i hlt => by
   obtain ⟨cs', h1, h2⟩ := hi i (by omega)
   obtain ⟨b, hK, hok⟩ := h.opens _ _ _ h2
   obtain ⟨_, hlen, hcell⟩ := World.cells?_some h1
   refine ⟨b, cs', by rw [hlen, h.cells], hK, hok, fun j u hu => ?_⟩
   have hj := (List.getElem?_eq_some_iff.1 hu).1
   rw [← hu, ← hcell j (by omega), h.cells, Addr.add_add])
  subst hxl
  refine ⟨xs, ⟨some a, cap, rfl, hl, rfl, by unfold maxLen at hm; omega, fun _ => ⟨a, rfl, fun j p hp => ?_⟩⟩, by omega, fun y hy => ?_⟩
  ·obtain ⟨c, h1, h2, _, h4⟩ := hxs j p hp
   exact ⟨c, h1, h2, h4⟩
  ·obtain ⟨j, hj⟩ := List.mem_iff_getElem?.1 hy
   obtain ⟨c, _, _, h3, _⟩ := hxs j y hj
   exact h3
/-- A parameter that is a row. -/
theorem param {α : Type} {d : Kd α} {t e : TypeId} {ok : α → Prop} (h : Opens enc P w base spare held d e ok) (ht : P.underlying t = some (.slice e)) (hc : P.cellsOf t = 1) {a : Option Addr} {len cap : Nat} {D : DataW H} {ps : List MemPlace}
  (hd : DataW.Trod enc P w base spare held t (.slice a len cap) D ps) : ∃ xs : List α, len = xs.length ∧ xs.length ≤ cap ∧ d.C w a xs.length xs ∧ xs.length ≤ maxLen ∧ ∀ x ∈ xs, ok x := by
 obtain ⟨fuel, hf⟩ := hd
 obtain ⟨xs, ⟨A, c, he, hcap, hC⟩, hl, hx⟩ := (slice h ht hc).opens _ _ _ hf
 have he' : [Value.slice a len cap] = [.slice A xs.length c] := he
 simp only [List.cons.injEq, Value.slice.injEq, and_true] at he'
 obtain ⟨rfl, rfl, rfl⟩ := he'
 exact ⟨xs, rfl, hcap, hC, hl, hx⟩
/-! ### Structs -/
/-- The fields of a struct, from some place of its cells on. -/
structure OpensL {α H : Type} (enc : TypeId × Value → H) (P : Program) (w : World) (base : Nat) (spare : Nat → Bool) (held : Bool) (d : Kd α) (fs : List Field) (o : Nat) (ok : α → Prop) : Prop where
 opens : ∀ (n : Nat) (cs : List Value), (∀ f ∈ fs, ∃ y, DataW.trod enc P w base spare held n f.type ((cs.drop f.offset).take (P.cellsOf f.type)) = some y) → ∃ a, d.K w a ((cs.drop o).take d.sz) ∧ ok a
theorem one {α : Type} {d : Kd α} {f : Field} {o : Nat} {ok : α → Prop} (h : Opens enc P w base spare held d f.type ok) (ho : f.offset = o) : OpensL enc P w base spare held d [f] o ok :=
 ⟨fun n cs hf => by
  obtain ⟨y, hy⟩ := hf f List.mem_cons_self
  obtain ⟨a, hK, hok⟩ := h.opens _ _ _ hy
  rw [h.cells, ho] at hK
  exact ⟨a, hK, hok⟩⟩
theorem cons {α β : Type} {d1 : Kd α} {d2 : Kd β} {f : Field} {fs : List Field} {o o2 : Nat} {ok1 : α → Prop} {ok2 : β → Prop} (h : Opens enc P w base spare held d1 f.type ok1) (ho : f.offset = o) (ho2 : o + d1.sz = o2) (h2 : OpensL enc P w base spare held d2 fs o2 ok2) :
  OpensL enc P w base spare held (Kd.pair d1 d2) (f :: fs) o (fun a => ok1 a.1 ∧ ok2 a.2) :=
 ⟨fun n cs hf => by
  obtain ⟨y, hy⟩ := hf f List.mem_cons_self
  obtain ⟨a, hK, hok⟩ := h.opens _ _ _ hy
  rw [h.cells, ho] at hK
  obtain ⟨b, hK2, hok2⟩ := h2.opens n cs (fun g hg => hf g (List.mem_cons_of_mem _ hg))
  refine ⟨(a, b), ⟨_, _, ?_, hK, hK2⟩, hok, hok2⟩
  rw [← ho2, ← List.drop_drop]
  exact List.take_add⟩
theorem tuple {α : Type} {d : Kd α} {t : TypeId} {fs : Array Field} {ok : α → Prop} (ht : P.underlying t = some (.struct fs)) (hc : P.cellsOf t = d.sz) (h : OpensL enc P w base spare held d fs.toList 0 ok) : Opens enc P w base spare held d t ok := by
 refine ⟨hc, fun fuel cs x hx => ?_⟩
 obtain ⟨xs, n, rfl, rfl, hl, hlen, hf⟩ := DataW.trod_struct ht hx
 obtain ⟨a, hK, hok⟩ := h.opens n cs (fun f hm => by
  obtain ⟨i, hi⟩ := List.mem_iff_getElem?.1 hm
  have hi' : fs[i]? = some f := by simpa using hi
  have hlt : i < xs.length := by rw [hlen]; exact (Array.getElem?_eq_some_iff.1 hi').1
  exact ⟨xs[i], by rw [hf i f hi', List.getElem?_eq_getElem hlt]⟩)
 rw [List.drop_zero, List.take_of_length_le (by rw [hl, hc]; exact Nat.le_refl _)] at hK
 exact ⟨a, hK, hok⟩
theorem struct {α β : Type} {d : Kd α} {t : TypeId} {fs : Array Field} {ok : α → Prop} {f : β → α} (g : α → β) (hg : ∀ a, f (g a) = a) (ht : P.underlying t = some (.struct fs)) (hc : P.cellsOf t = d.sz) (h : OpensL enc P w base spare held d fs.toList 0 ok) :
  Opens enc P w base spare held (Kd.iso d f) t (fun b => ok (f b)) := by
 refine ⟨hc, fun fuel cs x hx => ?_⟩
 obtain ⟨a, hK, hok⟩ := (tuple ht hc h).opens fuel cs x hx
 exact ⟨g a, by show d.K w (f (g a)) cs; rw [hg]; exact hK, by rw [hg]; exact hok⟩
/-- A parameter that is a struct. -/
theorem value {α : Type} {d : Kd α} {t : TypeId} {ok : α → Prop} (h : Opens enc P w base spare held d t ok) {cs : Array Value} {D : DataW H} {ps : List MemPlace}
  (hd : DataW.Trod enc P w base spare held t (.agg cs) D ps) : ∃ a, d.K w a cs.toList ∧ ok a := by
 obtain ⟨fuel, hf⟩ := hd
 obtain ⟨a, hK, hok⟩ := h.opens _ _ _ hf
 exact ⟨a, by simpa [Value.cells] using hK, hok⟩
end
end Go.Proofs.Ytapkjfnfkalibaa.Opens

/- Chapter 40: Check and CheckTerms, of the program and of the reference. -/
namespace Go.Proofs.Ytapkjfnfkalibaa.BChk
open Go.RowKit Go.Proofs.Ytapkjfnfkalibaa.Pr Go.Proofs.Ytapkjfnfkalibaa.Evs Go.Proofs.Ytapkjfnfkalibaa.Names Go.Proofs.Ytapkjfnfkalibaa.RName Go.Proofs.YtapkjfnfkalibaaW.PrintWords Go.Proofs.YtapkjfnfkalibaaW.PrintLast Go.Proofs.YtapkjfnfkalibaaW.PrintMore
set_option linter.unusedVariables false
set_option linter.unusedSimpArgs false
abbrev CS := S51
abbrev CV := S48
abbrev CG := S62
abbrev CT := S54
abbrev CA := S111

theorem rd51 {x : List CS} {i : Nat} (h : i < x.length) : rd_T51 x (i : Int) = x[i] := by simp [rd_T51, h]
theorem rd48 {x : List CV} {i : Nat} (h : i < x.length) : rd_T48 x (i : Int) = x[i] := by simp [rd_T48, h]
theorem rd54 {x : List CT} {i : Nat} (h : i < x.length) : rd_T54 x (i : Int) = x[i] := by simp [rd_T54, h]
theorem inV_iff {b : List CV} {z : Int} : inV b z = true ↔ 0 ≤ z ∧ z < (b.length : Int) := by simp [inV]
structure Sm (x : List CS) (b : List CV) (c : List CG) : Prop where
 hx : x.length ≤ 1000
 hb : b.length ≤ 1000
 hc : c.length ≤ 1000
 hv : ∀ s ∈ x, s.f1.length < 4611686018427387904

theorem pCheck {x : List CS} {a : ByteArray} {b : List CV} {c : List CG} {d e : List CA} (hs : Sm x b c) : binding_Check.f x a b c d e = some (chkAll x x.length b c) := by
 unfold binding_Check.f
 rw [if_pos ⟨hs.hx, hs.hc⟩]

/-- What Check's answer 0 says. -/
theorem setsGo_zero : ∀ (l : List CS), setsGo l = 0 → ∀ s ∈ l, colV s.f0 s.f1 = 0
 | [], _, s, hs => by cases hs
 | c :: cs, h, s, hs => by
  unfold setsGo at h
  by_cases h0 : colV c.f0 c.f1 = 0
  ·rw [if_pos h0] at h
   rcases List.mem_cons.1 hs with rfl | hs
   ·exact h0
   ·exact setsGo_zero cs h s hs
  ·rw [if_neg h0] at h; exact absurd h h0
theorem varsGo_zero (n : Nat) : ∀ (l pre : List CV), varsGo n l pre = 0 → ∀ v ∈ l, 0 ≤ v.f1 ∧ v.f1 < (n : Int)
 | [], _, _, v, hv => by cases hv
 | c :: cs, pre, h, v, hv => by
  unfold varsGo at h
  by_cases h0 : varE n pre c = 0
  ·rw [if_pos h0] at h
   rcases List.mem_cons.1 hv with rfl | hv
   ·unfold varE at h0
    split at h0
    ·split at h0
     ·cases h0
     ·split at h0
      ·cases h0
      ·split at h0
       ·cases h0
       ·omega
    ·cases h0
   ·exact varsGo_zero n cs _ h v hv
  ·rw [if_neg h0] at h; exact absurd h h0
theorem grdsGo_zero (b : List CV) : ∀ (l : List CG), grdsGo b l = 0 → ∀ g ∈ l, grdE b g = 0
 | [], _, s, hs => by cases hs
 | c :: cs, h, s, hs => by
  unfold grdsGo at h
  by_cases h0 : grdE b c = 0
  ·rw [if_pos h0] at h
   rcases List.mem_cons.1 hs with rfl | hs
   ·exact h0
   ·exact grdsGo_zero b cs h s hs
  ·rw [if_neg h0] at h; exact absurd h h0
structure Okk (x : List CS) (b : List CV) (c : List CG) : Prop where
 xl : 1 ≤ x.length ∧ x.length ≤ 8
 bl : b.length ≤ 4
 cols : ∀ s ∈ x, 1 ≤ s.f1.length ∧ s.f1.length ≤ 12
 sets : ∀ v ∈ b, 0 ≤ v.f1 ∧ v.f1 < (x.length : Int)
 grds : ∀ g ∈ c, (0 ≤ g.f1 ∧ g.f1 < (b.length : Int)) ∧ 0 ≤ g.f2 ∧ g.f2 < (b.length : Int)
 names : ∀ s ∈ x, colV s.f0 s.f1 = 0
theorem colV_zero {a : ByteArray} {l : List ByteArray} (h : colV a l = 0) : 1 ≤ l.length ∧ l.length ≤ 12 := by
 unfold colV at h
 split at h
 ·split at h
  ·cases h
  ·split at h
   ·cases h
   ·omega
 ·cases h
theorem chk_zero {x : List CS} {b : List CV} {c : List CG} (h : chkAll x x.length b c = 0) : Okk x b c := by
 unfold chkAll at h
 by_cases hs : setsGo x = 0
 ·rw [if_pos hs] at h
  unfold chkTail at h
  split at h
  ·cases h
  ·split at h
   ·cases h
   ·split at h
    ·cases h
    ·split at h
     ·rename_i h1 h2 h3 h4
      refine ⟨⟨by omega, by omega⟩, by omega, fun s hs' => colV_zero (setsGo_zero x hs s hs'), fun v hv => varsGo_zero _ _ _ h4 v hv, fun g hg => ?_, setsGo_zero x hs⟩
      have h0 := grdsGo_zero b c h g hg
      unfold grdE at h0
      split at h0
      ·cases h0
      ·split at h0
       ·cases h0
       ·split at h0
        ·split at h0
         ·rename_i i1 i2
          exact ⟨inV_iff.1 i1, inV_iff.1 i2⟩
         ·cases h0
        ·cases h0
     ·rename_i h4; exact absurd h h4
 ·rw [if_neg hs] at h; exact absurd h hs

/-- The error of a variable's number in a term. -/
def vE (b : List CV) (set n : Int) : Int := if 0 ≤ n ∧ n < (b.length : Int) then (if (rd_T48 b n).f1 = set then 0 else 17) else 1
def nE (m n : Int) : Int := if 0 ≤ n ∧ n < m then 0 else 1
/-- The error of a term over a set of colors that is there. -/
def termE (x : List CS) (b : List CV) (set : Int) (t : CT) : Int :=
 if t.f0 < 1 ∨ 99 < t.f0 then 9 else if t.f1 < 1 ∨ 5 < t.f1 then 12 else
 if t.f1 = 1 then nE ((rd_T51 x set).f1.length : Int) t.f2 else
 if t.f1 = 5 then nE 1 t.f2 else vE b set t.f2
theorem termE_w {x : List CS} {b : List CV} {set : Int} {t : CT} (h : t.f0 < 1 ∨ 99 < t.f0) : termE x b set t = 9 := if_pos h
theorem termE_k {x : List CS} {b : List CV} {set : Int} {t : CT} (h : ¬ (t.f0 < 1 ∨ 99 < t.f0)) (hk : t.f1 < 1 ∨ 5 < t.f1) : termE x b set t = 12 := by unfold termE; rw [if_neg h, if_pos hk]
theorem termE_1 {x : List CS} {b : List CV} {set : Int} {t : CT} (h : ¬ (t.f0 < 1 ∨ 99 < t.f0)) (hk : t.f1 = 1) : termE x b set t = nE ((rd_T51 x set).f1.length : Int) t.f2 := by unfold termE; rw [if_neg h, if_neg (by omega), if_pos hk]
theorem termE_5 {x : List CS} {b : List CV} {set : Int} {t : CT} (h : ¬ (t.f0 < 1 ∨ 99 < t.f0)) (hk : t.f1 = 5) : termE x b set t = nE 1 t.f2 := by unfold termE; rw [if_neg h, if_neg (by omega), if_neg (by omega), if_pos hk]
theorem termE_v {x : List CS} {b : List CV} {set : Int} {t : CT} (h : ¬ (t.f0 < 1 ∨ 99 < t.f0)) (hk : ¬ (t.f1 < 1 ∨ 5 < t.f1)) (h1 : ¬ t.f1 = 1) (h5 : ¬ t.f1 = 5) : termE x b set t = vE b set t.f2 := by unfold termE; rw [if_neg h, if_neg hk, if_neg h1, if_neg h5]
theorem nE_0 {m n : Int} (h : 0 ≤ n ∧ n < m) : nE m n = 0 := if_pos h
theorem nE_1 {m n : Int} (h : ¬ (0 ≤ n ∧ n < m)) : nE m n = 1 := if_neg h
def termsGo (x : List CS) (b : List CV) (set : Int) : List CT → Int
 | [] => 0
 | t :: ts => if termE x b set t = 0 then termsGo x b set ts else termE x b set t

theorem bool_cases {p : Bool} {P : Prop} (h : p = true ↔ P) : (p = true ∧ P) ∨ (p = false ∧ ¬ P) := by
 cases p with
 | true => exact Or.inl ⟨rfl, h.1 rfl⟩
 | false => exact Or.inr ⟨rfl, fun hp => by have := h.2 hp; cases this⟩
set_option maxHeartbeats 2000000 in
theorem pterm (x : List CS) (a : ByteArray) (b : List CV) (c : List CG) (d e : List CA) (set : Int) (h0 : 0 ≤ set) (h1 : set < (x.length : Int)) (t : CT) :
  Ev (fun k => binding_term.f k x a b c d e set t.f0 t.f1 t.f2) (termE x b set t) := by
 have j2 : ∀ p : Bool, (p = true ↔ t.f2 < 0 ∨ (b.length : Int) ≤ t.f2) → Ev (fun k => binding_term.j2 k set p a b c d e t.f0 t.f1 t.f2) (vE b set t.f2) := by
  intro p hp
  refine Ev.succ ?_
  simp only [binding_term.j2]
  rcases bool_cases hp with ⟨h, h'⟩ | ⟨h, h'⟩
  ·exact Ev.pos h (Ev.val (if_neg (by omega)).symm)
  ·have hv : vE b set t.f2 = if (rd_T48 b t.f2).f1 = set then 0 else 17 := if_pos (by omega)
   rw [hv]
   refine Ev.neg (by simp [h]) (Ev.pos (by omega) (Ev.pos (by omega) ?_))
   refine Ev.ite (fun h => Ev.val (if_pos h).symm) (fun h => Ev.val (if_neg h).symm)
 have j1 : ∀ p : Bool, ¬ (t.f0 < 1 ∨ 99 < t.f0) → (p = true ↔ t.f1 = 2 ∨ t.f1 = 3 ∨ t.f1 = 4) → Ev (fun k => binding_term.j1 k set ((rd_T51 x set).f1.length : Int) t.f1 p a b c d e t.f0 t.f1 t.f2) (termE x b set t) := by
  intro p hw hp
  refine Ev.succ ?_
  simp only [binding_term.j1]
  rcases bool_cases hp with ⟨h, h'⟩ | ⟨h, h'⟩
  ·rw [termE_v hw (by omega) (by omega) (by omega)]
   refine Ev.pos h ?_
   refine Ev.ite (fun h => j2 _ ⟨fun _ => Or.inl h, fun _ => rfl⟩) (fun h => j2 _ ⟨fun h' => Or.inr (of_decide_eq_true h'), fun h' => decide_eq_true (by omega)⟩)
  ·refine Ev.neg (by simp [h]) ?_
   refine Ev.ite (fun h5 => ?_) (fun h5 => ?_)
   ·rw [termE_5 hw h5]
    refine Ev.ite (fun h => Ev.val (nE_1 (by omega)).symm) (fun h => ?_)
    refine Ev.ite (fun h => Ev.val (nE_1 (by omega)).symm) (fun h => Ev.val (nE_0 (by omega)).symm)
   ·refine Ev.ite (fun h5 => ?_) (fun h5 => ?_)
    ·rw [termE_1 hw h5]
     refine Ev.ite (fun h => Ev.val (nE_1 (by omega)).symm) (fun h => ?_)
     refine Ev.ite (fun h => Ev.val (nE_1 (by omega)).symm) (fun h => Ev.val (nE_0 (by omega)).symm)
    ·rw [termE_k hw (by omega)]; exact Ev.now _
 have j0 : ∀ p : Bool, (p = true ↔ t.f0 < 1 ∨ 99 < t.f0) → Ev (fun k => binding_term.j0 k x set p a b c d e t.f0 t.f1 t.f2) (termE x b set t) := by
  intro p hp
  refine Ev.succ ?_
  simp only [binding_term.j0]
  rcases bool_cases hp with ⟨h, h'⟩ | ⟨h, h'⟩
  ·rw [termE_w h']; exact Ev.pos h (Ev.now _)
  ·refine Ev.neg (by simp [h]) (Ev.pos h0 (Ev.pos h1 ?_))
   refine Ev.ite (fun h2 => ?_) (fun h2 => ?_)
   ·exact j1 _ h' (by simp [h2])
   refine Ev.ite (fun h3 => ?_) (fun h3 => ?_)
   ·exact j1 _ h' (by simp [h3])
   ·exact j1 _ h' (by simp [h2, h3])
 unfold binding_term.f
 refine Ev.ite (fun h => j0 _ ⟨fun _ => Or.inl h, fun _ => rfl⟩) (fun h => j0 _ ⟨fun h' => Or.inr (of_decide_eq_true h'), fun h' => decide_eq_true (by omega)⟩)
/-- The first error of color sets, variables, guards and terms. -/
def ctE (x : List CS) (b : List CV) (c : List CG) (set : Int) (ts : List CT) : Int :=
 if chkAll x x.length b c = 0 then (if 0 ≤ set ∧ set < (x.length : Int) then termsGo x b set ts else 1) else chkAll x x.length b c
theorem pCheckTerms (x : List CS) (a : ByteArray) (b : List CV) (c : List CG) (d e : List CA) (hs : Sm x b c) (set : Int) (ts : List CT) (hts : ts.length < 4611686018427387904) :
  Ev (fun k => binding_CheckTerms.f k x a b c d e set ts) (ctE x b c set ts) := by
 have l0 : 0 ≤ set → set < (x.length : Int) → ∀ dd i, ts.length - i = dd → i ≤ ts.length → Ev (fun k => binding_CheckTerms.l0 k x set ts (ts.length : Int) (i : Int) a b c d e) (termsGo x b set (ts.drop i)) := by
  intro h0 h1 dd
  induction dd with
  | zero =>
   intro i hd hi
   obtain rfl : i = ts.length := by omega
   refine Ev.succ ?_
   simp only [binding_CheckTerms.l0, List.drop_length, termsGo]
   exact Ev.neg (by omega) (Ev.now _)
  | succ dd ih =>
   intro i hd hi
   have hil : i < ts.length := by omega
   refine Ev.succ ?_
   simp only [binding_CheckTerms.l0, rd54 hil]
   refine Ev.pos (by omega) (Ev.pos (by omega) (Ev.pos (by omega) ?_))
   rw [List.drop_eq_getElem_cons hil]
   unfold termsGo
   refine Ev.bind (pterm x a b c d e set h0 h1 ts[i]) ?_
   refine Ev.ite (fun h => ?_) (fun h => ?_)
   ·rw [if_pos h, wrap_succ (by omega)]; exact ih (i + 1) (by omega) (by omega)
   ·rw [if_neg h]; exact Ev.now _
 have j0 : ∀ p : Bool, (p = true ↔ set < 0 ∨ (x.length : Int) ≤ set) → Ev (fun k => binding_CheckTerms.j0 k x set ts p a b c d e) (if 0 ≤ set ∧ set < (x.length : Int) then termsGo x b set ts else 1) := by
  intro p hp
  refine Ev.succ ?_
  simp only [binding_CheckTerms.j0]
  rcases bool_cases hp with ⟨h, h'⟩ | ⟨h, h'⟩
  ·rw [if_neg (by omega)]; exact Ev.pos h (Ev.now _)
  ·rw [if_pos (by omega)]
   refine Ev.neg (by simp [h]) ?_
   simpa using l0 (by omega) (by omega) _ 0 rfl (by omega)
 unfold binding_CheckTerms.f
 simp only [pCheck hs, Option.bind_some]
 unfold ctE
 refine Ev.ite (fun h => ?_) (fun h => ?_)
 ·rw [if_pos h]
  refine Ev.ite (fun h => j0 _ ⟨fun _ => Or.inl h, fun _ => rfl⟩) (fun h => j0 _ ⟨fun h' => Or.inr (of_decide_eq_true h'), fun h' => decide_eq_true (by omega)⟩)
 ·rw [if_neg h]; exact Ev.now _
end Go.Proofs.Ytapkjfnfkalibaa.BChk

/- The example that every statement on bindings checks holds. -/
namespace Go.Proofs.Ytapkjfnfkalibaa.BLives
set_option linter.unusedVariables false
set_option linter.unusedSimpArgs false
open Go.RowKit Go.Proofs.Ytapkjfnfkalibaa.Pr Go.Proofs.Ytapkjfnfkalibaa.Evs Go.Proofs.Ytapkjfnfkalibaa.Names Go.Proofs.Ytapkjfnfkalibaa.BChk Go.Proofs.YtapkjfnfkalibaaW.PrintWords Go.Proofs.YtapkjfnfkalibaaW.PrintLast Go.Proofs.YtapkjfnfkalibaaW.PrintMore
theorem lives_now : l40_lives.f 60 = some true := by decide +kernel
theorem lives : Ev (fun k => l40_lives.f k) true := Ev.of l40_lives.mono lives_now
/-- Few's answer: what it bounds. -/
theorem few (x : List CS) (a : ByteArray) (b : List CV) (c : List CG) (d e : List CA) :
  ∃ r : Bool, Ev (fun k => r40_Few.f k x a b c d e) r ∧ (r = true → (x.length ≤ 10 ∧ b.length ≤ 6 ∧ c.length ≤ 8) ∧ ∀ s ∈ x, s.f1.length ≤ 14) := by
 by_cases hs : x.length ≤ 10 ∧ b.length ≤ 6 ∧ c.length ≤ 8
 ·obtain ⟨h1, h2, h3⟩ := hs
  have l2 : ∀ dd i, b.length - i = dd → i ≤ b.length → ∃ r : Bool, Ev (fun k => r40_Few.l2 k (i : Int) a b c d e) r := by
   intro dd
   induction dd with
   | zero =>
    intro i hd hi
    refine ⟨true, Ev.succ ?_⟩
    simp only [r40_Few.l2]
    exact Ev.neg (by omega) (Ev.now _)
   | succ dd ih =>
    intro i hd hi
    obtain ⟨r, hr⟩ := ih (i + 1) (by omega) (by omega)
    by_cases h : (((rd_T48 b (i : Int)).f0).size : Int) > 20
    ·refine ⟨false, Ev.succ ?_⟩
     simp only [r40_Few.l2]
     exact Ev.pos (by omega) (Ev.pos (by omega) (Ev.pos h (Ev.now _)))
    ·refine ⟨r, Ev.succ ?_⟩
     simp only [r40_Few.l2]
     refine Ev.pos (by omega) (Ev.pos (by omega) (Ev.neg h ?_))
     rw [wrap_succ (by omega)]; exact hr
  obtain ⟨r2, hr2⟩ := l2 _ 0 rfl (by omega)
  have l0 : ∀ dd i, x.length - i = dd → i ≤ x.length → ∃ r : Bool, Ev (fun k => r40_Few.l0 k x (i : Int) a b c d e) r ∧ (r = true → ∀ s ∈ x.drop i, s.f1.length ≤ 14) := by
   intro dd
   induction dd with
   | zero =>
    intro i hd hi
    refine ⟨r2, Ev.succ ?_, fun _ s hs => ?_⟩
    ·simp only [r40_Few.l0]
     exact Ev.neg (by omega) hr2
    ·rw [List.drop_of_length_le (by omega)] at hs; cases hs
   | succ dd ih =>
    intro i hd hi
    have hil : i < x.length := by omega
    obtain ⟨r, hr, hrs⟩ := ih (i + 1) (by omega) (by omega)
    by_cases hvl : x[i].f1.length ≤ 14
    case neg =>
     refine ⟨false, Ev.succ ?_, fun h => by cases h⟩
     simp only [r40_Few.l0, rd51 hil]
     refine Ev.pos (by omega) (Ev.pos (by omega) (Ev.pos (by omega) (Ev.succ ?_)))
     simp only [r40_Few.j2]
     exact Ev.pos trivial (Ev.now _)
    have l1 : ∀ d1 j, x[i].f1.length - j = d1 → j ≤ x[i].f1.length → ∃ r' : Bool, Ev (fun k => r40_Few.l1 k x (i : Int) (j : Int) a b c d e) r' ∧ (r' = true → r = true) := by
     intro d1
     induction d1 with
     | zero =>
      intro j hd1 hj
      refine ⟨r, Ev.succ ?_, fun h => h⟩
      simp only [r40_Few.l1, rd51 hil]
      refine Ev.pos (by omega) (Ev.pos (by omega) (Ev.neg (by omega) ?_))
      rw [wrap_succ (by omega)]; exact hr
     | succ d1 ih1 =>
      intro j hd1 hj
      obtain ⟨r', hr', hrr⟩ := ih1 (j + 1) (by omega) (by omega)
      by_cases h : ((rdOf ByteArray.empty (x[i].f1) (j : Int)).size : Int) > 20
      ·refine ⟨false, Ev.succ ?_, fun h => by cases h⟩
       simp only [r40_Few.l1, rd51 hil]
       exact Ev.pos (by omega) (Ev.pos (by omega) (Ev.pos (by omega) (Ev.pos (by omega) (Ev.pos h (Ev.now _)))))
      ·refine ⟨r', Ev.succ ?_, hrr⟩
       simp only [r40_Few.l1, rd51 hil]
       refine Ev.pos (by omega) (Ev.pos (by omega) (Ev.pos (by omega) (Ev.pos (by omega) (Ev.neg h ?_))))
       rw [wrap_succ (by omega)]; exact hr'
    obtain ⟨r1, hr1, hrr⟩ := l1 _ 0 rfl (by omega)
    have j2 : ∀ p : Bool, ∃ r' : Bool, Ev (fun k => r40_Few.j2 k x (i : Int) p a b c d e) r' ∧ (r' = true → r = true) := by
     intro p
     cases p with
     | true =>
      refine ⟨false, Ev.succ ?_, fun h => by cases h⟩
      simp only [r40_Few.j2]
      exact Ev.pos trivial (Ev.now _)
     | false =>
      refine ⟨r1, Ev.succ ?_, hrr⟩
      simp only [r40_Few.j2]
      exact Ev.neg (by simp) hr1
    obtain ⟨q, hq, hqr⟩ := j2 (decide (((x[i].f0).size : Int) > 20))
    refine ⟨q, Ev.succ ?_, fun h s hs => ?_⟩
    ·simp only [r40_Few.l0, rd51 hil]
     exact Ev.pos (by omega) (Ev.pos (by omega) (Ev.neg (by omega) hq))
    ·rw [List.drop_eq_getElem_cons hil] at hs
     rcases List.mem_cons.1 hs with rfl | hs
     ·exact hvl
     ·exact hrs (hqr h) s hs
  obtain ⟨r0, hr0, hr0s⟩ := l0 _ 0 rfl (by omega)
  refine ⟨r0, ?_, fun h => ⟨⟨h1, h2, h3⟩, fun s hs => hr0s h s (by simpa using hs)⟩⟩
  unfold r40_Few.f
  refine Ev.neg (by omega) (Ev.neg (by omega) (Ev.succ ?_))
  simp only [r40_Few.j0]
  exact Ev.neg (by simp; omega) hr0
 ·refine ⟨false, ?_, fun h => by cases h⟩
  unfold r40_Few.f
  have j0 : Ev (fun k => r40_Few.j0 k x true a b c d e) false := by
   refine Ev.succ ?_
   simp only [r40_Few.j0]
   exact Ev.pos trivial (Ev.now _)
  refine Ev.ite (fun _ => j0) (fun h1 => Ev.ite (fun _ => j0) (fun h2 => ?_))
  rw [decide_eq_true (by omega)]; exact j0
theorem sm {x : List CS} {b : List CV} {c : List CG} (h : (x.length ≤ 10 ∧ b.length ≤ 6 ∧ c.length ≤ 8) ∧ ∀ s ∈ x, s.f1.length ≤ 14) : Sm x b c := ⟨by omega, by omega, by omega, fun s hs => by have := h.2 s hs; omega⟩
end Go.Proofs.Ytapkjfnfkalibaa.BLives

/- Chapter 40: bindings, sums of terms and guards, of the program and of the reference. -/
namespace Go.Proofs.Ytapkjfnfkalibaa.BEval
open Go.RowKit Go.Proofs.Ytapkjfnfkalibaa.Pr Go.Proofs.Ytapkjfnfkalibaa.Evs Go.Proofs.Ytapkjfnfkalibaa.Names Go.Proofs.Ytapkjfnfkalibaa.RName Go.Proofs.Ytapkjfnfkalibaa.BChk Go.Proofs.Ytapkjfnfkalibaa.Iter Go.Proofs.YtapkjfnfkalibaaW.PrintWords Go.Proofs.YtapkjfnfkalibaaW.PrintLast Go.Proofs.YtapkjfnfkalibaaW.PrintMore
set_option linter.unusedVariables false
set_option linter.unusedSimpArgs false

theorem rd_get {l : List Int} {i : Nat} (h : i < l.length) : rd l (i : Int) = l[i] := by simp [rd, h]
def allF (P : Nat → Bool) (i : Nat) : Nat → Bool
 | 0 => true
 | d + 1 => P i && allF P (i + 1) d
theorem allF_iff (P : Nat → Bool) : ∀ d i, allF P i d = true ↔ ∀ j, i ≤ j → j < i + d → P j = true
 | 0, i => by simp only [allF]; exact ⟨fun _ j _ _ => by omega, fun _ => trivial⟩
 | d + 1, i => by
  simp only [allF, Bool.and_eq_true, allF_iff P d (i + 1)]
  constructor
  ·rintro ⟨h0, h⟩ j h1 h2
   by_cases hj : j = i
   ·subst hj; exact h0
   ·exact h j (by omega) (by omega)
  ·intro h
   exact ⟨h i (by omega) (by omega), fun j h1 h2 => h j (by omega) (by omega)⟩
/-- A place of a binding is a color. -/
def bAt (x : List CS) (b : List CV) (l : List Int) (i : Nat) : Bool := decide (0 ≤ rd l (i : Int)) && decide (rd l (i : Int) < setOf x b i)
def boundB (x : List CS) (b : List CV) (l : List Int) : Bool := decide (l.length = b.length) && allF (bAt x b l) 0 l.length
theorem boundB_iff {x : List CS} {b : List CV} {l : List Int} : boundB x b l = true ↔ l.length = b.length ∧ ∀ i, i < b.length → 0 ≤ rd l (i : Int) ∧ rd l (i : Int) < setOf x b i := by
 unfold boundB
 simp only [Bool.and_eq_true, decide_eq_true_eq, allF_iff]
 constructor
 ·rintro ⟨h1, h2⟩
  refine ⟨h1, fun i hi => ?_⟩
  have := h2 i (by omega) (by omega)
  simpa [bAt] using this
 ·rintro ⟨h1, h2⟩
  refine ⟨h1, fun i _ hi => ?_⟩
  have := h2 i (by omega)
  simpa [bAt] using this
theorem setOf_eq {x : List CS} {b : List CV} {i : Nat} (hi : i < b.length) : setOf x b i = ((rd_T51 x b[i].f1).f1.length : Int) := by unfold setOf; rw [rd48 hi]
theorem set_get {x : List CS} {z : Int} (h0 : 0 ≤ z) (h1 : z < (x.length : Int)) : ∃ n : Nat, ∃ h : n < x.length, z = (n : Int) ∧ rd_T51 x z = x[n] := ⟨z.toNat, by omega, by omega, by
 have := rd51 (x := x) (i := z.toNat) (by omega)
 rwa [show ((z.toNat : Nat) : Int) = z by omega] at this⟩

theorem pis (x : List CS) (a : ByteArray) (b : List CV) (c : List CG) (d e : List CA) (hb : b.length < 4611686018427387904) (hs : ∀ v ∈ b, 0 ≤ v.f1 ∧ v.f1 < (x.length : Int)) (l : List Int) :
  Ev (fun k => binding_is.f k x a b c d e l) (boundB x b l) := by
 unfold binding_is.f
 by_cases hl : l.length = b.length
 ·refine Ev.pos (by omega) ?_
  have hk : ∀ dd i, b.length - i = dd → i ≤ b.length → Ev (fun k => binding_is.l0 k x l b (b.length : Int) (i : Int)) (allF (bAt x b l) i dd) := by
   intro dd
   induction dd with
   | zero =>
    intro i hd hi
    obtain rfl : i = b.length := by omega
    refine Ev.succ ?_
    simp only [binding_is.l0, allF]
    exact Ev.neg (by omega) (Ev.now _)
   | succ dd ih =>
    intro i hd hi
    have hil : i < b.length := by omega
    have hsi := hs _ (List.getElem_mem hil)
    refine Ev.succ ?_
    simp only [binding_is.l0, rd48 hil]
    refine Ev.pos (by omega) (Ev.pos (by omega) (Ev.pos (by omega) (Ev.pos (by omega) ?_)))
    have hat : bAt x b l i = (decide (0 ≤ rd l (i : Int)) && decide (rd l (i : Int) < ((rd_T51 x b[i].f1).f1.length : Int))) := by unfold bAt; rw [setOf_eq hil]
    refine Ev.ite (fun h => ?_) (fun h => ?_)
    ·refine Ev.val ?_
     rw [allF, hat, decide_eq_false (by omega)]; rfl
    ·refine Ev.pos hsi.1 (Ev.pos hsi.2 ?_)
     refine Ev.ite (fun h => ?_) (fun h => ?_)
     ·refine Ev.val ?_
      rw [allF, hat, decide_eq_false (show ¬ rd l (i : Int) < _ by omega)]; simp
     ·rw [allF, hat, decide_eq_true (by omega), decide_eq_true (by omega), wrap_succ (by omega)]
      simpa using ih (i + 1) (by omega) (by omega)
  have := hk _ 0 rfl (by omega)
  unfold boundB
  rw [decide_eq_true hl, hl]
  simpa using this
 ·refine Ev.neg (by omega) (Ev.val ?_)
  unfold boundB; rw [decide_eq_false hl]; rfl
/-- A row of n numbers. -/
def row (n : Nat) (f : Nat → Int) : List Int := (List.range n).map f
theorem row_len (n : Nat) (f : Nat → Int) : (row n f).length = n := by simp [row]
theorem rd_row {n : Nat} {f : Nat → Int} {q : Nat} (h : q < n) : rd (row n f) (q : Int) = f q := by
 rw [rd_get (by rw [row_len]; exact h)]; simp [row]
theorem row_congr {n : Nat} {f g : Nat → Int} (h : ∀ q, q < n → f q = g q) : row n f = row n g := by
 unfold row
 exact List.map_congr_left fun q hq => h q (List.mem_range.1 hq)
theorem row_set {n : Nat} {f : Nat → Int} {j : Nat} {v : Int} : (row n f).set j v = row n (fun q => if q = j then v else f q) := by
 refine List.ext_getElem (by simp [row]) (fun i h1 h2 => ?_)
 simp only [row, List.getElem_set, List.getElem_map, List.getElem_range]
 by_cases hij : i = j
 ·subst hij; simp
 ·rw [if_neg (fun h => hij h.symm), if_neg hij]
theorem row_zero (n : Nat) : List.replicate n (0 : Int) = row n (fun _ => 0) := by
 refine List.ext_getElem (by simp [row]) (fun i h1 h2 => by simp [row])

/-- The color of a term, or -1 for all colors. -/
def colAt (n : Int) (l : List Int) (t : CT) : Int :=
 if t.f1 = 1 then t.f2 else if t.f1 = 2 then rd l t.f2 else
 if t.f1 = 3 then (if rd l t.f2 + 1 = n then 0 else rd l t.f2 + 1) else
 if t.f1 = 4 then (if rd l t.f2 = 0 then n - 1 else rd l t.f2 - 1) else -1
def addT (n : Int) (l : List Int) (t : CT) (q : Nat) : Int := if colAt n l t = -1 ∨ colAt n l t = (q : Int) then t.f0 else 0
def sumT (n : Int) (l : List Int) (ts : List CT) (q : Nat) : Int := (ts.map fun t => addT n l t q).sum
theorem sumT_snoc (n : Int) (l : List Int) (ts : List CT) (t : CT) (q : Nat) : sumT n l (ts ++ [t]) q = sumT n l ts q + addT n l t q := by simp [sumT]
theorem sumT_bound (n : Int) (l : List Int) : ∀ (ts : List CT), (∀ t ∈ ts, 1 ≤ t.f0 ∧ t.f0 ≤ 99) → ∀ q, 0 ≤ sumT n l ts q ∧ sumT n l ts q ≤ 99 * (ts.length : Int)
 | [], _, q => by simp [sumT]
 | t :: ts, h, q => by
  have ih := sumT_bound n l ts (fun t' ht' => h t' (List.mem_cons_of_mem _ ht')) q
  have ht := h t List.mem_cons_self
  have e : sumT n l (t :: ts) q = addT n l t q + sumT n l ts q := by simp [sumT]
  have ha : 0 ≤ addT n l t q ∧ addT n l t q ≤ 99 := by unfold addT; split <;> omega
  rw [e, List.length_cons]
  omega

theorem tmod_lt {a n : Int} (h0 : 0 ≤ a) (h1 : a < n) : Int.tmod a n = a := Int.tmod_eq_of_lt h0 h1
theorem tmod_add {a n : Int} (h0 : 0 ≤ a) (h1 : a < n) : Int.tmod (a + n) n = a := by
 rw [Int.tmod_eq_emod_of_nonneg (by omega), Int.add_emod_right, Int.emod_eq_of_lt h0 h1]
theorem tmod_one {n : Int} (h : 1 ≤ n) : Int.tmod 1 n = if n = 1 then 0 else 1 := by
 split
 ·subst_vars; rfl
 ·exact tmod_lt (by omega) (by omega)
theorem tmod_neg {n : Int} (h : 1 ≤ n) : Int.tmod (-1) n = if n = 1 then 0 else -1 := by
 rw [Int.neg_tmod, tmod_one h]; split <;> rfl
theorem wrap_id {z : Int} (h0 : -9223372036854775808 ≤ z) (h1 : z < 9223372036854775808) : wrap64 z = z := by unfold wrap64; omega
theorem shift_core {n u v : Int} (h1 : -1000 ≤ u) (h2 : u ≤ 1000) (hn : 1 ≤ n) (hb : n ≤ 1000) (h : Int.tmod u n = v) (h3 : -n ≤ v) (h4 : v < n) :
  Int.tmod (wrap64 (Int.tmod (wrap64 u) n + n)) n = if v < 0 then v + n else v := by
 rw [wrap_id (z := u) (by omega) (by omega), h, wrap_id (z := v + n) (by omega) (by omega)]
 split
 ·exact tmod_lt (by omega) (by omega)
 ·exact tmod_add (by omega) (by omega)
theorem pshift (a : ByteArray) (s : List ByteArray) (hs : s.length ≤ 1000) (z : Int) (h0 : 0 ≤ z) (h1 : z < (s.length : Int)) :
  colorset_Shift.f a s z 0 = some z ∧ colorset_Shift.f a s z (2 - 1) = some (if z + 1 = (s.length : Int) then 0 else z + 1) ∧ colorset_Shift.f a s z (-1) = some (if z = 0 then (s.length : Int) - 1 else z - 1) := by
 have hn : 1 ≤ (s.length : Int) := by omega
 have hb : (s.length : Int) ≤ 1000 := by omega
 generalize hl : (s.length : Int) = n at *
 refine ⟨?_, ?_, ?_⟩
 ·unfold colorset_Shift.f
  rw [hl, if_neg (by omega), if_neg (by omega), if_neg (by omega), Int.zero_tmod, Int.add_zero, shift_core (v := z) (by omega) (by omega) hn hb (tmod_lt h0 h1) (by omega) (by omega), if_neg (by omega)]
 ·unfold colorset_Shift.f
  rw [hl, if_neg (by omega), if_neg (by omega), if_neg (by omega), show (2 - 1 : Int) = 1 from rfl, tmod_one hn]
  by_cases h1n : n = 1
  ·rw [if_pos h1n, Int.add_zero, shift_core (v := z) (by omega) (by omega) hn hb (tmod_lt h0 h1) (by omega) (by omega), if_neg (by omega), if_pos (by omega)]
   congr 1; omega
  ·rw [if_neg h1n]
   by_cases hz : z + 1 = n
   ·rw [if_pos hz, shift_core (v := 0) (by omega) (by omega) hn hb (by rw [hz]; exact Int.tmod_self) (by omega) (by omega), if_neg (by omega)]
   ·rw [if_neg hz, shift_core (v := z + 1) (by omega) (by omega) hn hb (tmod_lt (by omega) (by omega)) (by omega) (by omega), if_neg (by omega)]
 ·unfold colorset_Shift.f
  rw [hl, if_neg (by omega), if_neg (by omega), if_neg (by omega), tmod_neg hn]
  by_cases h1n : n = 1
  ·rw [if_pos h1n, Int.add_zero, shift_core (v := z) (by omega) (by omega) hn hb (tmod_lt h0 h1) (by omega) (by omega), if_neg (by omega), if_pos (by omega)]
   congr 1; omega
  ·rw [if_neg h1n]
   by_cases hz : z = 0
   ·rw [if_pos hz, shift_core (v := -1) (by omega) (by omega) hn hb (by rw [hz]; show Int.tmod (-1) n = -1; rw [tmod_neg hn, if_neg h1n]) (by omega) (by omega), if_pos (by omega)]
    congr 1; omega
   ·rw [if_neg hz, shift_core (u := z + -1) (v := z - 1) (by omega) (by omega) hn hb (by rw [show z + -1 = z - 1 by omega]; exact tmod_lt (by omega) (by omega)) (by omega) (by omega), if_neg (by omega)]
theorem maxGo_le : ∀ (l : List Int) (m B : Int), m ≤ B → (∀ v ∈ l, v ≤ B) → maxGo m l ≤ B := by
 intro l
 induction l with
 | nil => intro m B hm _; exact hm
 | cons v vs ih =>
  intro m B hm h
  show maxGo (mx m v) vs ≤ B
  refine ih _ B ?_ (fun v' hv' => h v' (List.mem_cons_of_mem _ hv'))
  have := h v List.mem_cons_self
  unfold mx; split <;> omega

/-- What a term without errors says. -/
theorem termsGo_zero {x : List CS} {b : List CV} {set : Int} : ∀ (ts : List CT), termsGo x b set ts = 0 → ∀ t ∈ ts, termE x b set t = 0
 | [], _, t, ht => by cases ht
 | u :: us, h, t, ht => by
  unfold termsGo at h
  by_cases h0 : termE x b set u = 0
  ·rw [if_pos h0] at h
   rcases List.mem_cons.1 ht with rfl | ht
   ·exact h0
   ·exact termsGo_zero us h t ht
  ·rw [if_neg h0] at h; exact absurd h h0
structure TOk (x : List CS) (b : List CV) (set : Int) (t : CT) : Prop where
 w : 1 ≤ t.f0 ∧ t.f0 ≤ 99
 k : 1 ≤ t.f1 ∧ t.f1 ≤ 5
 one : t.f1 = 1 → 0 ≤ t.f2 ∧ t.f2 < ((rd_T51 x set).f1.length : Int)
 five : t.f1 = 5 → t.f2 = 0
 vs : t.f1 ≠ 1 → t.f1 ≠ 5 → (0 ≤ t.f2 ∧ t.f2 < (b.length : Int)) ∧ (rd_T48 b t.f2).f1 = set
theorem termE_zero {x : List CS} {b : List CV} {set : Int} {t : CT} (h : termE x b set t = 0) : TOk x b set t := by
 have hw : ¬ (t.f0 < 1 ∨ 99 < t.f0) := fun hw => by rw [termE_w hw] at h; cases h
 have hk : ¬ (t.f1 < 1 ∨ 5 < t.f1) := fun hk => by rw [termE_k hw hk] at h; cases h
 refine ⟨by omega, by omega, fun h1 => ?_, fun h5 => ?_, fun h1 h5 => ?_⟩
 ·rw [termE_1 hw h1] at h
  exact Classical.byContradiction fun hn => by rw [nE_1 hn] at h; cases h
 ·rw [termE_5 hw h5] at h
  have : 0 ≤ t.f2 ∧ t.f2 < 1 := Classical.byContradiction fun hn => by rw [nE_1 hn] at h; cases h
  omega
 ·rw [termE_v hw hk h1 h5] at h
  unfold vE at h
  split at h
  ·rename_i hr
   split at h
   ·rename_i hr2; exact ⟨hr, hr2⟩
   ·cases h
  ·cases h
/-- The colors of terms without errors, for a binding. -/
theorem colAt_range {x : List CS} {b : List CV} {set : Int} {l : List Int} {t : CT} (ht : TOk x b set t) (hb : boundB x b l = true) (h1 : 1 ≤ (rd_T51 x set).f1.length) :
  (t.f1 ≠ 1 → t.f1 ≠ 5 → t.f2 < (l.length : Int) ∧ 0 ≤ rd l t.f2 ∧ rd l t.f2 < ((rd_T51 x set).f1.length : Int)) ∧ (t.f1 ≠ 5 → 0 ≤ colAt ((rd_T51 x set).f1.length : Int) l t ∧ colAt ((rd_T51 x set).f1.length : Int) l t < ((rd_T51 x set).f1.length : Int)) := by
 have hv : t.f1 ≠ 1 → t.f1 ≠ 5 → t.f2 < (l.length : Int) ∧ 0 ≤ rd l t.f2 ∧ rd l t.f2 < ((rd_T51 x set).f1.length : Int) := by
  intro hn1 hn5
  obtain ⟨⟨h0, hlt⟩, hset⟩ := ht.vs hn1 hn5
  obtain ⟨hll, hall⟩ := boundB_iff.1 hb
  have := hall t.f2.toNat (by omega)
  unfold setOf at this
  rw [show ((t.f2.toNat : Nat) : Int) = t.f2 by omega, hset] at this
  exact ⟨by omega, this⟩
 refine ⟨hv, fun hn5 => ?_⟩
 unfold colAt
 by_cases k1 : t.f1 = 1
 ·rw [if_pos k1]; exact ht.one k1
 ·obtain ⟨_, hr0, hr1⟩ := hv k1 hn5
  rw [if_neg k1]
  split
  ·exact ⟨hr0, hr1⟩
  ·split
   ·split <;> omega
   ·split
    ·split <;> omega
    ·have := ht.k; omega
theorem colAt_5 {n : Int} {l : List Int} {t : CT} (h : t.f1 = 5) : colAt n l t = -1 := by
 unfold colAt; rw [if_neg (by omega), if_neg (by omega), if_neg (by omega), if_neg (by omega)]
theorem addT_at {n : Int} {l : List Int} {t : CT} {q : Nat} (h : 0 ≤ colAt n l t) : addT n l t q = if q = (colAt n l t).toNat then t.f0 else 0 := by
 unfold addT
 by_cases hq : q = (colAt n l t).toNat
 ·rw [if_pos hq, if_pos (Or.inr (by omega))]
 ·rw [if_neg hq, if_neg (by omega)]
/-- One place of a row goes up by a term's weight. -/
theorem row_add {n : Nat} {l : List Int} {t : CT} {f : Nat → Int} (h0 : 0 ≤ colAt (n : Int) l t) (h1 : colAt (n : Int) l t < (n : Int)) (hf : ∀ q, 0 ≤ f q ∧ f q ≤ 99000) (hw : 1 ≤ t.f0 ∧ t.f0 ≤ 99) :
  (row n f).set (colAt (n : Int) l t).toNat (wrap64 (rd (row n f) (colAt (n : Int) l t) + t.f0)) = row n (fun q => f q + addT (n : Int) l t q) := by
 rw [row_set]
 refine row_congr fun q hq => ?_
 show (if q = _ then _ else f q) = f q + addT (n : Int) l t q
 rw [addT_at h0]
 have hr : rd (row n f) (colAt (n : Int) l t) = f (colAt (n : Int) l t).toNat := by
  have := rd_row (n := n) (f := f) (q := (colAt (n : Int) l t).toNat) (by omega)
  rwa [show (((colAt (n : Int) l t).toNat : Nat) : Int) = colAt (n : Int) l t by omega] at this
 by_cases hqe : q = (colAt (n : Int) l t).toNat
 ·rw [if_pos hqe, if_pos hqe, hr, ← hqe]
  have := hf q
  exact wrap_id (by omega) (by omega)
 ·rw [if_neg hqe, if_neg hqe]; omega

def evalR (x : List CS) (b : List CV) (c : List CG) (set : Int) (ts : List CT) (l : List Int) : List Int × Int :=
 if ctE x b c set ts = 0 then (if boundB x b l = true then (row (rd_T51 x set).f1.length (sumT ((rd_T51 x set).f1.length : Int) l ts), 0) else ([], 15)) else ([], ctE x b c set ts)
theorem ctE_zero {x : List CS} {b : List CV} {c : List CG} {set : Int} {ts : List CT} (h : ctE x b c set ts = 0) : Okk x b c ∧ (0 ≤ set ∧ set < (x.length : Int)) ∧ ∀ t ∈ ts, TOk x b set t := by
 unfold ctE at h
 split at h
 ·rename_i h0
  split at h
  ·rename_i h1
   exact ⟨chk_zero h0, h1, fun t ht => termE_zero (termsGo_zero ts h t ht)⟩
  ·cases h
 ·rename_i h0; exact absurd h h0
end Go.Proofs.Ytapkjfnfkalibaa.BEval

/- Chapter 40: Eval of the program and of the reference. -/
namespace Go.Proofs.Ytapkjfnfkalibaa.BEval
open Go.RowKit Go.Proofs.Ytapkjfnfkalibaa.Pr Go.Proofs.Ytapkjfnfkalibaa.Evs Go.Proofs.Ytapkjfnfkalibaa.Names Go.Proofs.Ytapkjfnfkalibaa.RName Go.Proofs.Ytapkjfnfkalibaa.BChk Go.Proofs.Ytapkjfnfkalibaa.Iter Go.Proofs.YtapkjfnfkalibaaW.PrintWords Go.Proofs.YtapkjfnfkalibaaW.PrintLast Go.Proofs.YtapkjfnfkalibaaW.PrintMore
set_option linter.unusedVariables false
set_option linter.unusedSimpArgs false

theorem take_bound {ts : List CT} {n : Int} {l : List Int} (hl : ts.length ≤ 1000) (hw : ∀ t ∈ ts, 1 ≤ t.f0 ∧ t.f0 ≤ 99) (i : Nat) (q : Nat) : 0 ≤ sumT n l (ts.take i) q ∧ sumT n l (ts.take i) q ≤ 99000 := by
 have := sumT_bound n l (ts.take i) (fun t ht => hw t (List.mem_of_mem_take ht)) q
 have h2 : (ts.take i).length ≤ 1000 := by simp only [List.length_take]; omega
 omega
theorem take_snoc {ts : List CT} {n : Int} {l : List Int} {i : Nat} (hi : i < ts.length) (q : Nat) : sumT n l (ts.take (i + 1)) q = sumT n l (ts.take i) q + addT n l ts[i] q := by
 rw [List.take_succ_eq_append_getElem hi, sumT_snoc]
set_option maxHeartbeats 4000000 in
theorem pEval (x : List CS) (a : ByteArray) (b : List CV) (c : List CG) (d e : List CA) (hs : Sm x b c) (set : Int) (ts : List CT) (hts : ts.length ≤ 1000) (l : List Int) :
  Ev (fun k => binding_Eval.f k x a b c d e set ts l) (evalR x b c set ts l) := by
 unfold binding_Eval.f evalR
 refine Ev.bind (pCheckTerms x a b c d e hs set ts (by omega)) ?_
 refine Ev.ite (fun h => ?_) (fun h => ?_)
 case refine_2 => rw [if_neg h]; exact Ev.now _
 rw [if_pos h]
 obtain ⟨ok, ⟨hs0, hs1⟩, htk⟩ := ctE_zero h
 refine Ev.bind (pis x a b c d e (by have := hs.hb; omega) ok.sets l) ?_
 refine Ev.ite (fun hb => ?_) (fun hb => ?_)
 case refine_2 => rw [if_neg hb]; exact Ev.now _
 rw [if_pos hb]
 refine Ev.pos hs0 (Ev.pos hs1 (Ev.pos (by omega) ?_))
 obtain ⟨sn, hsn, hse, hsx⟩ := set_get hs0 hs1
 have hcl := ok.cols _ (List.getElem_mem hsn)
 rw [← hsx] at hcl
 have hrg := fun t (ht : t ∈ ts) => colAt_range (htk t ht) hb hcl.1
 generalize hm : (rd_T51 x set).f1.length = m at *
 refine Ev.pos (by omega) ?_
 rw [Int.toNat_natCast, row_zero]
 have hwt : ∀ t ∈ ts, 1 ≤ t.f0 ∧ t.f0 ≤ 99 := fun t ht => (htk t ht).w
 have hl1 : ∀ (i : Nat) (f : Nat → Int) (t : CT) (R : List Int × Int), (∀ q, 0 ≤ f q ∧ f q ≤ 99000) → (1 ≤ t.f0 ∧ t.f0 ≤ 99) →
   Ev (fun k => binding_Eval.l0 k x set l (row m (fun q => f q + t.f0)) ts (ts.length : Int) (wrap64 ((i : Int) + 1))) R →
   ∀ dd j, m - j = dd → j ≤ m → Ev (fun k => binding_Eval.l1 k x set l (row m (fun q => f q + if q < j then t.f0 else 0)) ts (ts.length : Int) (i : Int) (m : Int) (j : Int) t.f0 t.f1 t.f2) R := by
  intro i f t R hf hw hR dd
  induction dd with
  | zero =>
   intro j hd hj
   obtain rfl : j = m := by omega
   refine Ev.succ ?_
   simp only [binding_Eval.l1]
   refine Ev.neg (by omega) ?_
   rw [row_congr (g := fun q => f q + t.f0) (fun q hq => by rw [if_pos hq])]
   exact hR
  | succ dd ih =>
   intro j hd hj
   have hjm : j < m := by omega
   refine Ev.succ ?_
   simp only [binding_Eval.l1, row_len]
   refine Ev.pos (by omega) (Ev.pos (by omega) (Ev.pos (by omega) ?_))
   rw [rd_row hjm, wrap_succ (by omega), Int.toNat_natCast, row_set]
   have := ih (j + 1) (by omega) (by omega)
   rw [row_congr (g := fun q => f q + if q < j + 1 then t.f0 else 0) (fun q hq => ?_)]
   ·exact this
   ·have := hf q
    by_cases hqj : q = j
    ·subst hqj
     rw [if_pos rfl, if_neg (by omega), if_pos (by omega), wrap_id (by omega) (by omega)]; omega
    ·rw [if_neg hqj]
     by_cases hq2 : q < j
     ·rw [if_pos hq2, if_pos (by omega)]
     ·rw [if_neg hq2, if_neg (by omega)]
 have hl0 : ∀ dd i, ts.length - i = dd → i ≤ ts.length → Ev (fun k => binding_Eval.l0 k x set l (row m (sumT (m : Int) l (ts.take i))) ts (ts.length : Int) (i : Int)) (row m (sumT (m : Int) l ts), 0) := by
  intro dd
  induction dd with
  | zero =>
   intro i hd hi
   obtain rfl : i = ts.length := by omega
   refine Ev.succ ?_
   simp only [binding_Eval.l0, List.take_length]
   refine Ev.neg (by omega) ?_
   have hbd : ∀ q, 0 ≤ sumT (m : Int) l ts q ∧ sumT (m : Int) l ts q ≤ 99000 := fun q => by
    have := take_bound (n := (m : Int)) (l := l) hts hwt ts.length q
    rwa [List.take_length] at this
   unfold slices_Max_int_int.f
   rw [if_pos (by rw [row_len]; omega)]
   simp only [Option.bind_some]
   refine Ev.neg ?_ (Ev.now _)
   have := maxGo_le ((row m (sumT (m : Int) l ts)).drop 1) (rd (row m (sumT (m : Int) l ts)) 0) 99000 (by
    have := rd_row (n := m) (f := sumT (m : Int) l ts) (q := 0) (by omega)
    rw [show ((0 : Nat) : Int) = 0 from rfl] at this
    rw [this]; exact (hbd 0).2) (fun v hv => by
     have hv' := List.mem_of_mem_drop hv
     simp only [row, List.mem_map, List.mem_range] at hv'
     obtain ⟨q, _, rfl⟩ := hv'
     exact (hbd q).2)
   omega
  | succ dd ih =>
   intro i hd hi
   have hil : i < ts.length := by omega
   have htm : ts[i] ∈ ts := List.getElem_mem hil
   have hto := htk _ htm
   have hbd := fun q => take_bound (n := (m : Int)) (l := l) hts hwt i q
   obtain ⟨hv, hc⟩ := hrg _ htm
   have hih := ih (i + 1) (by omega) (by omega)
   rw [row_congr (g := fun q => sumT (m : Int) l (ts.take i) q + addT (m : Int) l ts[i] q) (fun q _ => take_snoc hil q)] at hih
   refine Ev.succ ?_
   simp only [binding_Eval.l0, rd54 hil, row_len]
   refine Ev.pos (by omega) (Ev.pos (by omega) (Ev.pos (by omega) ?_))
   by_cases k5 : ts[i].f1 = 5
   ·refine Ev.pos k5 ?_
    have h5 : ∀ q, addT (m : Int) l ts[i] q = ts[i].f0 := fun q => by unfold addT; rw [if_pos (Or.inl (colAt_5 k5))]
    have := hl1 i (sumT (m : Int) l (ts.take i)) ts[i] (row m (sumT (m : Int) l ts), 0) hbd hto.w (by
     rw [wrap_succ (by omega)]
     simpa only [h5] using hih) m 0 (by omega) (by omega)
    simpa using this
   ·refine Ev.neg k5 ?_
    obtain ⟨c0, c1⟩ := hc k5
    have hset := row_add c0 c1 hbd hto.w
    rw [wrap_succ (by omega)]
    by_cases k1 : ts[i].f1 = 1
    ·have hcol : colAt (m : Int) l ts[i] = ts[i].f2 := by unfold colAt; rw [if_pos k1]
     rw [hcol] at hset c0 c1
     refine Ev.pos k1 (Ev.pos c0 (Ev.pos c1 ?_))
     rw [hset]; exact hih
    refine Ev.neg k1 ?_
    obtain ⟨hl2, hr0, hr1⟩ := hv k1 k5
    have hz := (hto.vs k1 k5).1.1
    have hps := pshift (rd_T51 x set).f0 (rd_T51 x set).f1 (by omega) (rd l ts[i].f2) hr0 (by rw [hm]; exact hr1)
    rw [hm] at hps
    by_cases k3 : ts[i].f1 = 3
    ·have hcol : colAt (m : Int) l ts[i] = (if rd l ts[i].f2 + 1 = (m : Int) then 0 else rd l ts[i].f2 + 1) := by unfold colAt; rw [if_neg k1, if_neg (by omega), if_pos k3]
     refine Ev.pos k3 (Ev.pos hs0 (Ev.pos hs1 (Ev.pos hz (Ev.pos hl2 ?_))))
     rw [hps.2.1]
     simp only [Option.bind_some]
     rw [hcol] at hset c0 c1
     refine Ev.pos c0 (Ev.pos c1 ?_)
     rw [hset]; exact hih
    refine Ev.neg k3 ?_
    by_cases k4 : ts[i].f1 = 4
    ·have hcol : colAt (m : Int) l ts[i] = (if rd l ts[i].f2 = 0 then (m : Int) - 1 else rd l ts[i].f2 - 1) := by unfold colAt; rw [if_neg k1, if_neg (by omega), if_neg k3, if_pos k4]
     refine Ev.pos k4 (Ev.pos hs0 (Ev.pos hs1 (Ev.pos hz (Ev.pos hl2 ?_))))
     rw [hps.2.2]
     simp only [Option.bind_some]
     rw [hcol] at hset c0 c1
     refine Ev.pos c0 (Ev.pos c1 ?_)
     rw [hset]; exact hih
    ·have k2 : ts[i].f1 = 2 := by have := hto.k; omega
     have hcol : colAt (m : Int) l ts[i] = rd l ts[i].f2 := by unfold colAt; rw [if_neg k1, if_pos k2]
     refine Ev.neg k4 (Ev.pos hs0 (Ev.pos hs1 (Ev.pos hz (Ev.pos hl2 ?_))))
     rw [hps.1]
     simp only [Option.bind_some]
     rw [hcol] at hset c0 c1
     refine Ev.pos c0 (Ev.pos c1 ?_)
     rw [hset]; exact hih
 exact hl0 _ 0 rfl (by omega)

end Go.Proofs.Ytapkjfnfkalibaa.BEval

/- Independent of the reference: the term with a variable has its weight at the color of the variable, the successor at the next one and the predecessor at the previous one, cyclically, and the term with all colors has its weight at each color. -/
namespace Go.Proofs.Ytapkjfnfkalibaa.Pure
open Go.RowKit Go.Proofs.Ytapkjfnfkalibaa.Pr Go.Proofs.Ytapkjfnfkalibaa.Evs Go.Proofs.Ytapkjfnfkalibaa.Names Go.Proofs.Ytapkjfnfkalibaa.BChk Go.Proofs.Ytapkjfnfkalibaa.BEval Go.Proofs.Ytapkjfnfkalibaa.BLives Go.Proofs.YtapkjfnfkalibaaW.PrintWords Go.Proofs.YtapkjfnfkalibaaW.PrintLast Go.Proofs.YtapkjfnfkalibaaW.PrintMore
set_option linter.unusedVariables false
/-- The first variable alone is checked, too. -/
theorem chk_one {x : List CS} {b : List CV} {c : List CG} (h : chkAll x x.length b c = 0) : chkAll x x.length (b.take 1) [] = 0 := by
 unfold chkAll at h ⊢
 by_cases hs : setsGo x = 0
 ·rw [if_pos hs] at h ⊢
  unfold chkTail at h ⊢
  split at h
  ·cases h
  ·rename_i h1
   rw [if_neg h1]
   split at h
   ·cases h
   ·rename_i h2
    rw [if_neg h2]
    split at h
    ·cases h
    ·rename_i h3
     rw [if_neg (show ¬ 4 < (b.take 1).length by simp only [List.length_take]; omega)]
     split at h
     ·rename_i h4
      have h5 : varsGo x.length (b.take 1) [] = 0 := by
       cases b with
       | nil => rfl
       | cons v vs =>
        show varsGo x.length [v] [] = 0
        unfold varsGo at h4
        by_cases h0 : varE x.length [] v = 0
        ·unfold varsGo; rw [if_pos h0]; rfl
        ·rw [if_neg h0] at h4; exact absurd h4 h0
      rw [if_pos h5]; rfl
     ·rename_i h4; exact absurd h h4
 ·rw [if_neg hs] at h; exact absurd h hs
theorem tmod_succ {n z : Int} (h0 : 0 ≤ z) (h1 : z < n) : Int.tmod (z + 1) n = if z + 1 = n then 0 else z + 1 := by
 split
 ·rename_i h; rw [h, Int.tmod_self]
 ·exact tmod_lt (by omega) (by omega)
theorem pk3 {q m i w : Int} (h0 : 0 ≤ q) : (if (if q + 1 = m then 0 else q + 1) = -1 ∨ (if q + 1 = m then 0 else q + 1) = i then w else 0) = if i = (if q + 1 = m then 0 else q + 1) then w else 0 := by
 obtain ⟨z, hz⟩ : ∃ z, z = (if q + 1 = m then 0 else q + 1) := ⟨_, rfl⟩
 rw [← hz]
 have h : 0 ≤ z := by rw [hz]; split <;> omega
 clear hz
 by_cases e : i = z
 ·rw [if_pos (Or.inr e.symm), if_pos e]
 ·rw [if_neg (by omega), if_neg e]
theorem pk4 {q m i w : Int} (h0 : 0 ≤ q) (h1 : q < m) (h2 : 0 ≤ i) (h3 : i < m) : (if (if q = 0 then m - 1 else q - 1) = -1 ∨ (if q = 0 then m - 1 else q - 1) = i then w else 0) = if q = (if i + 1 = m then 0 else i + 1) then w else 0 := by
 have hiff : ((if q = 0 then m - 1 else q - 1) = -1 ∨ (if q = 0 then m - 1 else q - 1) = i) ↔ q = (if i + 1 = m then 0 else i + 1) := by
  by_cases hq0 : q = 0
  ·rw [if_pos hq0]
   by_cases hi1 : i + 1 = m
   ·rw [if_pos hi1]; omega
   ·rw [if_neg hi1]; omega
  ·rw [if_neg hq0]
   by_cases hi1 : i + 1 = m
   ·rw [if_pos hi1]; omega
   ·rw [if_neg hi1]; omega
 by_cases hi : q = (if i + 1 = m then 0 else i + 1)
 ·rw [if_pos hi, if_pos (hiff.2 hi)]
 ·rw [if_neg hi, if_neg (fun h => hi (hiff.1 h))]
theorem pk2 {q i : Nat} {w : Int} : (if (q : Int) = -1 ∨ (q : Int) = (i : Int) then w else 0) = if i = q then w else 0 := by
 by_cases hi : i = q
 ·rw [if_pos (by omega), if_pos hi]
 ·rw [if_neg (by omega), if_neg hi]
theorem pkw {q : Nat} {m : Nat} (h : q < m) (hm : m ≤ 12) : wrap64 ((q : Int) + 1) = (q : Int) + 1 := wrap_id (by omega) (by omega)
set_option maxHeartbeats 4000000 in
theorem BindingTerms (x : List CS) (t : ByteArray × List CV × List CG × List CA × List CA) (w : Int) {P0 P1 P2 : Prop} (h0 : P0) (h1 : P1) (h2 : P2) :
  ∃ k, l40_BindingTerms.f k x t.1 t.2.1 t.2.2.1 t.2.2.2.1 t.2.2.2.2 w = some true := by
 obtain ⟨a, b, c, d, e⟩ := t
 obtain ⟨r, hr, hf⟩ := few x a b c d e
 apply Ev.rounds
 unfold l40_BindingTerms.f
 refine Ev.bind lives (Ev.pos rfl ?_)
 refine Ev.bind hr ?_
 have hyes : Ev (fun k => l40_BindingTerms.j0 k x w true a b c d e) true := by
  refine Ev.succ ?_
  simp only [l40_BindingTerms.j0]
  exact Ev.pos trivial (Ev.now _)
 refine Ev.ite (fun h => ?_) (fun _ => hyes)
 have hs := sm (hf h)
 simp only [pCheck hs, Option.bind_some]
 refine Ev.ite (fun hz => ?_) (fun _ => hyes)
 refine Ev.ite (fun _ => hyes) (fun hb0 => ?_)
 refine Ev.ite (fun _ => hyes) (fun hw1 => ?_)
 by_cases hw9 : w > 99
 ·rw [decide_eq_true hw9]; exact hyes
 rw [decide_eq_false hw9]
 refine Ev.succ ?_
 simp only [l40_BindingTerms.j0]
 have hbl : 0 < b.length := by
  have : ¬ (b.length : Int) = 0 := hb0
  omega
 have ok := chk_zero hz
 have hw1' : ¬ w < 1 := hw1
 have hs0 := ok.sets _ (List.getElem_mem hbl)
 have hr48 : rd_T48 b 0 = b[0] := rd48 (i := 0) hbl
 rw [hr48]
 refine Ev.neg (by simp) (Ev.pos (by omega) (Ev.pos (by omega) ?_))
 refine Ev.neg (by omega) ?_
 rw [decide_eq_false (show ¬ b[0].f1 ≥ (x.length : Int) by omega)]
 refine Ev.succ ?_
 simp only [l40_BindingTerms.j1]
 refine Ev.neg (by simp) (Ev.pos hs0.1 (Ev.pos hs0.2 ?_))
 have hs1 : Sm x (b.take 1) ([] : List CG) := ⟨hs.hx, by simp only [List.length_take]; omega, by simp, hs.hv⟩
 have hz1 := chk_one hz
 obtain ⟨sn, hsn, hse, hsx⟩ := set_get hs0.1 hs0.2
 have hcl := ok.cols _ (List.getElem_mem hsn)
 rw [← hsx] at hcl
 have ht1 : (b.take 1).length = 1 := by simp only [List.length_take]; omega
 have hb1 : rd_T48 (b.take 1) 0 = b[0] := by
  have := rd48 (x := b.take 1) (i := 0) (by omega)
  rw [show ((0 : Nat) : Int) = 0 from rfl] at this
  rw [this, List.getElem_take]
 have hbd : ∀ q : Nat, q < (rd_T51 x b[0].f1).f1.length → boundB x (b.take 1) [(q : Int)] = true := by
  intro q hq
  refine boundB_iff.2 ⟨by simp [ht1], fun i hi => ?_⟩
  obtain rfl : i = 0 := by omega
  unfold setOf
  rw [show ((0 : Nat) : Int) = 0 from rfl, hb1]
  have : rd [(q : Int)] 0 = (q : Int) := rfl
  rw [this]; omega
 have hct : ∀ kd : Int, 2 ≤ kd → kd ≤ 5 → ctE x (b.take 1) ([] : List CG) b[0].f1 [(⟨w, kd, 0⟩ : CT)] = 0 := by
  intro kd h2 h5
  have hw' : ¬ ((⟨w, kd, 0⟩ : CT).f0 < 1 ∨ 99 < (⟨w, kd, 0⟩ : CT).f0) := by show ¬ (w < 1 ∨ 99 < w); omega
  have ht : termE x (b.take 1) b[0].f1 (⟨w, kd, 0⟩ : CT) = 0 := by
   by_cases hk5 : kd = 5
   ·rw [termE_5 hw' hk5]; exact nE_0 (by show (0 : Int) ≤ 0 ∧ (0 : Int) < 1; omega)
   ·rw [termE_v hw' (by show ¬ (kd < 1 ∨ 5 < kd); omega) (by show ¬ kd = 1; omega) hk5]
    show vE (b.take 1) b[0].f1 0 = 0
    unfold vE
    rw [if_pos (by rw [ht1]; omega), hb1, if_pos rfl]
  unfold ctE
  rw [if_pos hz1, if_pos hs0]
  unfold termsGo
  rw [if_pos ht]; rfl
 generalize hm : (rd_T51 x b[0].f1).f1.length = m at *
 have hval : ∀ (q : Nat) (kd : Int), q < m → 2 ≤ kd → kd ≤ 5 →
   evalR x (b.take 1) ([] : List CG) b[0].f1 [(⟨w, kd, 0⟩ : CT)] [(q : Int)] = (row m (addT (m : Int) [(q : Int)] (⟨w, kd, 0⟩ : CT)), 0) := by
  intro q kd hq h2 h5
  unfold evalR
  rw [if_pos (hct kd h2 h5), if_pos (hbd q hq), hm]
  congr 1
  refine row_congr fun i _ => by simp [sumT]
 have hc2 : ∀ q : Nat, colAt (m : Int) [(q : Int)] (⟨w, 2, 0⟩ : CT) = (q : Int) := fun q => rfl
 have hc3 : ∀ q : Nat, colAt (m : Int) [(q : Int)] (⟨w, 3, 0⟩ : CT) = if (q : Int) + 1 = (m : Int) then 0 else (q : Int) + 1 := fun q => rfl
 have hc4 : ∀ q : Nat, colAt (m : Int) [(q : Int)] (⟨w, 4, 0⟩ : CT) = if (q : Int) = 0 then (m : Int) - 1 else (q : Int) - 1 := fun q => rfl
 have hc5 : ∀ q : Nat, colAt (m : Int) [(q : Int)] (⟨w, 5, 0⟩ : CT) = -1 := fun q => rfl
 have l0 : ∀ dd q, m - q = dd → q ≤ m → Ev (fun k => l40_BindingTerms.l0 k x w b[0].f1 (m : Int) (q : Int) ⟨#[]⟩ (b.take 1)) true := by
  intro dd
  induction dd with
  | zero =>
   intro q hd hq
   obtain rfl : q = m := by omega
   refine Ev.succ ?_
   simp only [l40_BindingTerms.l0]
   exact Ev.neg (by omega) (Ev.now _)
  | succ dd ih =>
   intro q hd hq
   have hqm : q < m := by omega
   refine Ev.succ ?_
   simp only [l40_BindingTerms.l0, Option.bind_some]
   refine Ev.pos (by omega) ?_
   refine Ev.bind (pEval x _ _ _ _ _ hs1 _ _ (by simp) _) (Ev.bind (pEval x _ _ _ _ _ hs1 _ _ (by simp) _) (Ev.bind (pEval x _ _ _ _ _ hs1 _ _ (by simp) _) (Ev.bind (pEval x _ _ _ _ _ hs1 _ _ (by simp) _) ?_)))
   rw [hval q 2 hqm (by omega) (by omega), hval q 3 hqm (by omega) (by omega), hval q 4 hqm (by omega) (by omega), hval q 5 hqm (by omega) (by omega)]
   simp only [row_len]
   refine Ev.pos trivial (Ev.pos trivial (Ev.pos trivial (Ev.pos trivial (Ev.pos trivial (Ev.pos trivial (Ev.pos trivial ?_))))))
   rw [bne_eq_false_iff_eq.2 rfl]
   refine Ev.succ ?_
   simp only [l40_BindingTerms.j3]
   refine Ev.neg (by simp) ?_
   have l1 : ∀ d1 i, m - i = d1 → i ≤ m → Ev (fun k => l40_BindingTerms.l1 k x w b[0].f1 (m : Int) (q : Int) (row m (addT (m : Int) [(q : Int)] (⟨w, 2, 0⟩ : CT))) (row m (addT (m : Int) [(q : Int)] (⟨w, 3, 0⟩ : CT))) (row m (addT (m : Int) [(q : Int)] (⟨w, 4, 0⟩ : CT))) (row m (addT (m : Int) [(q : Int)] (⟨w, 5, 0⟩ : CT))) (i : Int) ⟨#[]⟩ (b.take 1)) true := by
    intro d1
    induction d1 with
    | zero =>
     intro i hd1 hi
     obtain rfl : i = m := by omega
     refine Ev.succ ?_
     simp only [l40_BindingTerms.l1]
     refine Ev.neg (by omega) ?_
     rw [wrap_succ (by omega)]
     exact ih (q + 1) (by omega) (by omega)
    | succ d1 ih1 =>
     intro i hd1 hi
     have him : i < m := by omega
     have hgo := ih1 (i + 1) (by omega) (by omega)
     have e0 : (0 : Int) ≤ (i : Int) := Int.natCast_nonneg _
     have e1 : (i : Int) < (m : Int) := Int.ofNat_lt.2 him
     have f0 : (0 : Int) ≤ (q : Int) := Int.natCast_nonneg _
     have f1 : (q : Int) < (m : Int) := Int.ofNat_lt.2 hqm
     have em : ¬ (m : Int) = 0 := fun h => by rw [h] at e1; exact absurd (Int.lt_of_le_of_lt e0 e1) (Int.lt_irrefl 0)
     have hw0 : ¬ w = 0 := fun h => hw1' (by rw [h]; decide)
     have wq : wrap64 ((q : Int) + 1) = (q : Int) + 1 := pkw hqm hcl.2
     have wi : wrap64 ((i : Int) + 1) = (i : Int) + 1 := pkw him hcl.2
     have t1 := tmod_succ (n := (m : Int)) (z := (q : Int)) f0 f1
     have t2 := tmod_succ (n := (m : Int)) (z := (i : Int)) e0 e1
     have a5 : addT (m : Int) [(q : Int)] (⟨w, 5, 0⟩ : CT) i = w := by unfold addT; rw [hc5, if_pos (Or.inl rfl)]
     have a2 : addT (m : Int) [(q : Int)] (⟨w, 2, 0⟩ : CT) i = if i = q then w else 0 := by unfold addT; rw [hc2]; exact pk2
     have a3 : addT (m : Int) [(q : Int)] (⟨w, 3, 0⟩ : CT) i = if (i : Int) = (if (q : Int) + 1 = (m : Int) then 0 else (q : Int) + 1) then w else 0 := by unfold addT; rw [hc3]; exact pk3 f0
     have a4 : addT (m : Int) [(q : Int)] (⟨w, 4, 0⟩ : CT) i = if (q : Int) = (if (i : Int) + 1 = (m : Int) then 0 else (i : Int) + 1) then w else 0 := by unfold addT; rw [hc4]; exact pk4 f0 f1 e0 e1
     have sel : ∀ (p : Prop) [Decidable p], ((((if p then w else 0) == w) != decide p) = false) := by
      intro p _
      by_cases hp : p
      ·rw [if_pos hp, decide_eq_true hp]; simp
      ·rw [if_neg hp, decide_eq_false hp, beq_eq_false_iff_ne.2 (fun h => hw0 h.symm)]; rfl
     have sel0 : ∀ (p : Prop) [Decidable p], ((if p then w else 0 : Int) = 0 ∨ (if p then w else 0 : Int) = w) := by
      intro p _
      split
      ·exact Or.inr rfl
      ·exact Or.inl rfl
     have beqd : ∀ u v : Int, (u == v) = decide (u = v) := fun u v => by by_cases h : u = v <;> simp [h]
     have bi : ((i : Int) == (q : Int)) = decide (i = q) := by rw [beqd]; exact decide_eq_decide.2 Int.ofNat_inj
     refine Ev.succ ?_
     simp only [l40_BindingTerms.l1, row_len, rd_row him, a2, a3, a4, a5, wq, t1]
     refine Ev.pos e1 (Ev.pos e0 (Ev.pos e1 (Ev.pos trivial (Ev.pos e1 ?_))))
     refine Ev.neg (by rw [bi, sel]; simp) ?_
     refine Ev.pos e1 (Ev.neg em ?_)
     refine Ev.neg (by rw [beqd (i : Int), sel]; simp) ?_
     refine Ev.pos e1 ?_
     refine Ev.neg (by rw [wi, t2, beqd (q : Int), sel]; simp) ?_
     rw [wi]
     rw [show ((i + 1 : Nat) : Int) = (i : Int) + 1 from rfl] at hgo
     rcases sel0 (i = q) with s2 | s2 <;> rcases sel0 ((i : Int) = (if (q : Int) + 1 = (m : Int) then 0 else (q : Int) + 1)) with s3 | s3 <;> rcases sel0 ((q : Int) = (if (i : Int) + 1 = (m : Int) then 0 else (i : Int) + 1)) with s4 | s4 <;> simp only [s2, s3, s4] <;>
      (first
       | exact Ev.pos trivial (Ev.pos trivial (Ev.pos trivial hgo))
       | exact Ev.pos trivial (Ev.pos trivial (Ev.neg hw0 (Ev.pos trivial hgo)))
       | exact Ev.pos trivial (Ev.neg hw0 (Ev.pos trivial (Ev.pos trivial hgo)))
       | exact Ev.pos trivial (Ev.neg hw0 (Ev.pos trivial (Ev.neg hw0 (Ev.pos trivial hgo))))
       | exact Ev.neg hw0 (Ev.pos trivial (Ev.pos trivial (Ev.pos trivial hgo)))
       | exact Ev.neg hw0 (Ev.pos trivial (Ev.pos trivial (Ev.neg hw0 (Ev.pos trivial hgo))))
       | exact Ev.neg hw0 (Ev.pos trivial (Ev.neg hw0 (Ev.pos trivial (Ev.pos trivial hgo))))
       | exact Ev.neg hw0 (Ev.pos trivial (Ev.neg hw0 (Ev.pos trivial (Ev.neg hw0 (Ev.pos trivial hgo))))))
   exact l1 _ 0 rfl (by omega)
 exact l0 _ 0 rfl (by omega)
end Go.Proofs.Ytapkjfnfkalibaa.Pure

