/- Independent of the reference: without guards, there are as many bindings as the product of the sizes of the color sets; with guards, All consists of those for which Holds is true, in strictly ascending order. -/
import Derived.Test.YtapkjfnfkalibaaQBindingCounts0
import Derived.Test.YtapkjfnfkalibaaQBindingCounts1
import Derived.Test.YtapkjfnfkalibaaQBindingCounts2
import Derived.Test.YtapkjfnfkalibaaQBindingCounts3
import Derived.Test.YtapkjfnfkalibaaQBindingCounts4
import Derived.Test.YtapkjfnfkalibaaQBindingCounts5
import Derived.Test.YtapkjfnfkalibaaBBindingCounts
import Derived.Test.YtapkjfnfkalibaaVBindingCounts
import Derived.Deep.Slices
import Derived.ChangeArms
/- General lemmas of this seat's proofs, in one text. -/
/- What the references' Name answers: the same of bytes as Names.nameB. -/
namespace Go.Proofs.Ytapkjfnfkalibaa.RName
open Go.RowKit Go.Proofs.Ytapkjfnfkalibaa.Pr Go.Proofs.Ytapkjfnfkalibaa.Evs Go.Proofs.Ytapkjfnfkalibaa.Names Go.Proofs.YtapkjfnfkalibaaW.PrintWords Go.Proofs.YtapkjfnfkalibaaW.PrintLast Go.Proofs.YtapkjfnfkalibaaW.PrintMore
set_option linter.unusedVariables false
set_option linter.unusedSimpArgs false

end Go.Proofs.Ytapkjfnfkalibaa.RName

/- A datum that is read deep (the statements' reader) told as the walks tell it: rows of rows, texts, numbers. -/
namespace Go.Proofs.Ytapkjfnfkalibaa.Opens
set_option linter.unusedVariables false
open Go.RowKit Go.WideShapes Go.Deep Go.Proofs.YtapkjfnfkalibaaW.PrintWords

/-- What the statements' reader finds at cells of type t is what d tells of some a with ok. -/
structure Opens {α H : Type} (enc : TypeId × Value → H) (P : Program) (w : World) (base : Nat) (spare : Nat → Bool) (held : Bool) (d : Kd α) (t : TypeId) (ok : α → Prop) : Prop where
  cells : P.cellsOf t = d.sz
  opens : ∀ (fuel : Nat) (cs : List Value) (x : DataW H × List MemPlace), DataW.trod enc P w base spare held fuel t cs = some x → ∃ a, d.K w a cs ∧ ok a

section
variable {H : Type} {enc : TypeId × Value → H} {P : Program} {w : World} {base : Nat} {spare : Nat → Bool} {held : Bool}
theorem string {t : TypeId} (ht : P.underlying t = some .string) (hc : P.cellsOf t = 1) : Opens enc P w base spare held Kd.string t (fun s => s.size ≤ maxLen) :=
  ⟨hc, fun fuel cs x h => by obtain ⟨s, rfl, _, hs⟩ := DataW.trod_string ht h; exact ⟨s, rfl, hs⟩⟩
theorem bool {t : TypeId} (ht : P.underlying t = some .bool) (hc : P.cellsOf t = 1) : Opens enc P w base spare held Kd.bool t (fun _ => True) :=
  ⟨hc, fun fuel cs x h => by obtain ⟨s, rfl, _⟩ := DataW.trod_bool ht h; exact ⟨s, rfl, trivial⟩⟩
theorem int {t : TypeId} {k : IntKind} (ht : P.underlying t = some (.int k)) (hc : P.cellsOf t = 1) : Opens enc P w base spare held (Kd.int k) t (fun n => (Lit.int k n).wf = true) :=
  ⟨hc, fun fuel cs x h => by obtain ⟨s, rfl, _, hs⟩ := DataW.trod_int ht h; exact ⟨s, rfl, hs⟩⟩
theorem list_of {α : Type} {p : Nat → α → Prop} : ∀ (n : Nat), (∀ i, i < n → ∃ a, p i a) → ∃ xs : List α, xs.length = n ∧ ∀ i a, xs[i]? = some a → p i a
  | 0, _ => ⟨[], rfl, fun i a h => by simp at h⟩
  | n + 1, h => by
    obtain ⟨xs, hl, hx⟩ := list_of n (fun i hi => h i (by omega))
    obtain ⟨a, ha⟩ := h n (by omega)
    refine ⟨xs ++ [a], by simp [hl], fun i b hb => ?_⟩
    by_cases hi : i < xs.length
    · rw [List.getElem?_append_left hi] at hb; exact hx i b hb
    · have hlt := (List.getElem?_eq_some_iff.1 hb).1
      simp only [List.length_append, List.length_cons, List.length_nil] at hlt
      obtain rfl : i = n := by omega
      rw [List.getElem?_append_right (by omega)] at hb
      simp [hl] at hb
      rw [← hb]; exact ha
theorem slice {α : Type} {d : Kd α} {t e : TypeId} {ok : α → Prop} (h : Opens enc P w base spare held d e ok) (ht : P.underlying t = some (.slice e)) (hc : P.cellsOf t = 1) :
    Opens enc P w base spare held (Kd.slice e d) t (fun xs => xs.length ≤ maxLen ∧ ∀ x ∈ xs, ok x) := by
  refine ⟨hc, fun fuel cs x hx => ?_⟩
  rcases open_slice ht hx with ⟨rfl, _⟩ | ⟨a, len, cap, m, n, D, Pl, rfl, _, hl, hm, hmm, _, hi⟩
  · exact ⟨[], ⟨none, 0, rfl, Nat.le_refl _, Kd.C_nil _ _⟩, by simp, by simp⟩
  · have hlm : len ≤ m := by rw [hmm]; split <;> omega
    obtain ⟨xs, hxl, hxs⟩ := list_of (p := fun i b => ∃ c, c.length = d.sz ∧ d.K w b c ∧ ok b ∧ ∀ j u, c[j]? = some u → w.cell? (a.add (i * d.sz + j)) = some u) len (fun i hlt => by
      obtain ⟨cs', h1, h2⟩ := hi i (by omega)
      obtain ⟨b, hK, hok⟩ := h.opens _ _ _ h2
      obtain ⟨_, hlen, hcell⟩ := World.cells?_some h1
      refine ⟨b, cs', by rw [hlen, h.cells], hK, hok, fun j u hu => ?_⟩
      have hj := (List.getElem?_eq_some_iff.1 hu).1
      rw [← hu, ← hcell j (by omega), h.cells, Addr.add_add])
    subst hxl
    refine ⟨xs, ⟨some a, cap, rfl, hl, rfl, by unfold maxLen at hm; omega, fun _ => ⟨a, rfl, fun j p hp => ?_⟩⟩, by omega, fun y hy => ?_⟩
    · obtain ⟨c, h1, h2, _, h4⟩ := hxs j p hp
      exact ⟨c, h1, h2, h4⟩
    · obtain ⟨j, hj⟩ := List.mem_iff_getElem?.1 hy
      obtain ⟨c, _, _, h3, _⟩ := hxs j y hj
      exact h3
/-- A parameter that is a row. -/
theorem param {α : Type} {d : Kd α} {t e : TypeId} {ok : α → Prop} (h : Opens enc P w base spare held d e ok) (ht : P.underlying t = some (.slice e)) (hc : P.cellsOf t = 1) {a : Option Addr} {len cap : Nat} {D : DataW H} {ps : List MemPlace}
    (hd : DataW.Trod enc P w base spare held t (.slice a len cap) D ps) : ∃ xs : List α, len = xs.length ∧ xs.length ≤ cap ∧ d.C w a xs.length xs ∧ xs.length ≤ maxLen ∧ ∀ x ∈ xs, ok x := by
  obtain ⟨fuel, hf⟩ := hd
  obtain ⟨xs, ⟨A, c, he, hcap, hC⟩, hl, hx⟩ := (slice h ht hc).opens _ _ _ hf
  have he' : [Value.slice a len cap] = [.slice A xs.length c] := he
  simp only [List.cons.injEq, Value.slice.injEq, and_true] at he'
  obtain ⟨rfl, rfl, rfl⟩ := he'
  exact ⟨xs, rfl, hcap, hC, hl, hx⟩
/-! ### Structs -/
/-- The fields of a struct, from some place of its cells on. -/
structure OpensL {α H : Type} (enc : TypeId × Value → H) (P : Program) (w : World) (base : Nat) (spare : Nat → Bool) (held : Bool) (d : Kd α) (fs : List Field) (o : Nat) (ok : α → Prop) : Prop where
  opens : ∀ (n : Nat) (cs : List Value), (∀ f ∈ fs, ∃ y, DataW.trod enc P w base spare held n f.type ((cs.drop f.offset).take (P.cellsOf f.type)) = some y) → ∃ a, d.K w a ((cs.drop o).take d.sz) ∧ ok a
theorem one {α : Type} {d : Kd α} {f : Field} {o : Nat} {ok : α → Prop} (h : Opens enc P w base spare held d f.type ok) (ho : f.offset = o) : OpensL enc P w base spare held d [f] o ok :=
  ⟨fun n cs hf => by
    obtain ⟨y, hy⟩ := hf f List.mem_cons_self
    obtain ⟨a, hK, hok⟩ := h.opens _ _ _ hy
    rw [h.cells, ho] at hK
    exact ⟨a, hK, hok⟩⟩
theorem cons {α β : Type} {d1 : Kd α} {d2 : Kd β} {f : Field} {fs : List Field} {o o2 : Nat} {ok1 : α → Prop} {ok2 : β → Prop} (h : Opens enc P w base spare held d1 f.type ok1) (ho : f.offset = o) (ho2 : o + d1.sz = o2) (h2 : OpensL enc P w base spare held d2 fs o2 ok2) :
    OpensL enc P w base spare held (Kd.pair d1 d2) (f :: fs) o (fun a => ok1 a.1 ∧ ok2 a.2) :=
  ⟨fun n cs hf => by
    obtain ⟨y, hy⟩ := hf f List.mem_cons_self
    obtain ⟨a, hK, hok⟩ := h.opens _ _ _ hy
    rw [h.cells, ho] at hK
    obtain ⟨b, hK2, hok2⟩ := h2.opens n cs (fun g hg => hf g (List.mem_cons_of_mem _ hg))
    refine ⟨(a, b), ⟨_, _, ?_, hK, hK2⟩, hok, hok2⟩
    rw [← ho2, ← List.drop_drop]
    exact List.take_add⟩
theorem tuple {α : Type} {d : Kd α} {t : TypeId} {fs : Array Field} {ok : α → Prop} (ht : P.underlying t = some (.struct fs)) (hc : P.cellsOf t = d.sz) (h : OpensL enc P w base spare held d fs.toList 0 ok) : Opens enc P w base spare held d t ok := by
  refine ⟨hc, fun fuel cs x hx => ?_⟩
  obtain ⟨xs, n, rfl, rfl, hl, hlen, hf⟩ := DataW.trod_struct ht hx
  obtain ⟨a, hK, hok⟩ := h.opens n cs (fun f hm => by
    obtain ⟨i, hi⟩ := List.mem_iff_getElem?.1 hm
    have hi' : fs[i]? = some f := by simpa using hi
    have hlt : i < xs.length := by rw [hlen]; exact (Array.getElem?_eq_some_iff.1 hi').1
    exact ⟨xs[i], by rw [hf i f hi', List.getElem?_eq_getElem hlt]⟩)
  rw [List.drop_zero, List.take_of_length_le (by rw [hl, hc]; exact Nat.le_refl _)] at hK
  exact ⟨a, hK, hok⟩
theorem struct {α β : Type} {d : Kd α} {t : TypeId} {fs : Array Field} {ok : α → Prop} {f : β → α} (g : α → β) (hg : ∀ a, f (g a) = a) (ht : P.underlying t = some (.struct fs)) (hc : P.cellsOf t = d.sz) (h : OpensL enc P w base spare held d fs.toList 0 ok) :
    Opens enc P w base spare held (Kd.iso d f) t (fun b => ok (f b)) := by
  refine ⟨hc, fun fuel cs x hx => ?_⟩
  obtain ⟨a, hK, hok⟩ := (tuple ht hc h).opens fuel cs x hx
  exact ⟨g a, by show d.K w (f (g a)) cs; rw [hg]; exact hK, by rw [hg]; exact hok⟩
/-- A parameter that is a struct. -/
theorem value {α : Type} {d : Kd α} {t : TypeId} {ok : α → Prop} (h : Opens enc P w base spare held d t ok) {cs : Array Value} {D : DataW H} {ps : List MemPlace}
    (hd : DataW.Trod enc P w base spare held t (.agg cs) D ps) : ∃ a, d.K w a cs.toList ∧ ok a := by
  obtain ⟨fuel, hf⟩ := hd
  obtain ⟨a, hK, hok⟩ := h.opens _ _ _ hf
  exact ⟨a, by simpa [Value.cells] using hK, hok⟩
end
end Go.Proofs.Ytapkjfnfkalibaa.Opens

/- Chapter 40: Check and CheckTerms, of the program and of the reference. -/
namespace Go.Proofs.Ytapkjfnfkalibaa.BChk
open Go.RowKit Go.Proofs.Ytapkjfnfkalibaa.Pr Go.Proofs.Ytapkjfnfkalibaa.Evs Go.Proofs.Ytapkjfnfkalibaa.Names Go.Proofs.Ytapkjfnfkalibaa.RName Go.Proofs.YtapkjfnfkalibaaW.PrintWords Go.Proofs.YtapkjfnfkalibaaW.PrintLast Go.Proofs.YtapkjfnfkalibaaW.PrintMore
set_option linter.unusedVariables false
set_option linter.unusedSimpArgs false
abbrev CS := S51
abbrev CV := S48
abbrev CG := S62
abbrev CA := S111

theorem rd51 {x : List CS} {i : Nat} (h : i < x.length) : rd_T51 x (i : Int) = x[i] := by simp [rd_T51, h]
theorem rd48 {x : List CV} {i : Nat} (h : i < x.length) : rd_T48 x (i : Int) = x[i] := by simp [rd_T48, h]
theorem inV_iff {b : List CV} {z : Int} : inV b z = true ↔ 0 ≤ z ∧ z < (b.length : Int) := by simp [inV]
structure Sm (x : List CS) (b : List CV) (c : List CG) : Prop where
  hx : x.length ≤ 1000
  hb : b.length ≤ 1000
  hc : c.length ≤ 1000
  hv : ∀ s ∈ x, s.f1.length < 4611686018427387904

theorem pCheck {x : List CS} {a : ByteArray} {b : List CV} {c : List CG} {d e : List CA} (hs : Sm x b c) : binding_Check.f x a b c d e = some (chkAll x x.length b c) := by
  unfold binding_Check.f
  rw [if_pos ⟨hs.hx, hs.hc⟩]

/-- What Check's answer 0 says. -/
theorem setsGo_zero : ∀ (l : List CS), setsGo l = 0 → ∀ s ∈ l, colV s.f0 s.f1 = 0
  | [], _, s, hs => by cases hs
  | c :: cs, h, s, hs => by
    unfold setsGo at h
    by_cases h0 : colV c.f0 c.f1 = 0
    · rw [if_pos h0] at h
      rcases List.mem_cons.1 hs with rfl | hs
      · exact h0
      · exact setsGo_zero cs h s hs
    · rw [if_neg h0] at h; exact absurd h h0
theorem varsGo_zero (n : Nat) : ∀ (l pre : List CV), varsGo n l pre = 0 → ∀ v ∈ l, 0 ≤ v.f1 ∧ v.f1 < (n : Int)
  | [], _, _, v, hv => by cases hv
  | c :: cs, pre, h, v, hv => by
    unfold varsGo at h
    by_cases h0 : varE n pre c = 0
    · rw [if_pos h0] at h
      rcases List.mem_cons.1 hv with rfl | hv
      · unfold varE at h0
        split at h0
        · split at h0
          · cases h0
          · split at h0
            · cases h0
            · split at h0
              · cases h0
              · omega
        · cases h0
      · exact varsGo_zero n cs _ h v hv
    · rw [if_neg h0] at h; exact absurd h h0
theorem grdsGo_zero (b : List CV) : ∀ (l : List CG), grdsGo b l = 0 → ∀ g ∈ l, grdE b g = 0
  | [], _, s, hs => by cases hs
  | c :: cs, h, s, hs => by
    unfold grdsGo at h
    by_cases h0 : grdE b c = 0
    · rw [if_pos h0] at h
      rcases List.mem_cons.1 hs with rfl | hs
      · exact h0
      · exact grdsGo_zero b cs h s hs
    · rw [if_neg h0] at h; exact absurd h h0
structure Okk (x : List CS) (b : List CV) (c : List CG) : Prop where
  xl : 1 ≤ x.length ∧ x.length ≤ 8
  bl : b.length ≤ 4
  cols : ∀ s ∈ x, 1 ≤ s.f1.length ∧ s.f1.length ≤ 12
  sets : ∀ v ∈ b, 0 ≤ v.f1 ∧ v.f1 < (x.length : Int)
  grds : ∀ g ∈ c, (0 ≤ g.f1 ∧ g.f1 < (b.length : Int)) ∧ 0 ≤ g.f2 ∧ g.f2 < (b.length : Int)
  names : ∀ s ∈ x, colV s.f0 s.f1 = 0
theorem colV_zero {a : ByteArray} {l : List ByteArray} (h : colV a l = 0) : 1 ≤ l.length ∧ l.length ≤ 12 := by
  unfold colV at h
  split at h
  · split at h
    · cases h
    · split at h
      · cases h
      · omega
  · cases h
theorem chk_zero {x : List CS} {b : List CV} {c : List CG} (h : chkAll x x.length b c = 0) : Okk x b c := by
  unfold chkAll at h
  by_cases hs : setsGo x = 0
  · rw [if_pos hs] at h
    unfold chkTail at h
    split at h
    · cases h
    · split at h
      · cases h
      · split at h
        · cases h
        · split at h
          · rename_i h1 h2 h3 h4
            refine ⟨⟨by omega, by omega⟩, by omega, fun s hs' => colV_zero (setsGo_zero x hs s hs'), fun v hv => varsGo_zero _ _ _ h4 v hv, fun g hg => ?_, setsGo_zero x hs⟩
            have h0 := grdsGo_zero b c h g hg
            unfold grdE at h0
            split at h0
            · cases h0
            · split at h0
              · cases h0
              · split at h0
                · split at h0
                  · rename_i i1 i2
                    exact ⟨inV_iff.1 i1, inV_iff.1 i2⟩
                  · cases h0
                · cases h0
          · rename_i h4; exact absurd h h4
  · rw [if_neg hs] at h; exact absurd h hs

end Go.Proofs.Ytapkjfnfkalibaa.BChk

/- The example that every statement on bindings checks holds. -/
namespace Go.Proofs.Ytapkjfnfkalibaa.BLives
set_option linter.unusedVariables false
set_option linter.unusedSimpArgs false
open Go.RowKit Go.Proofs.Ytapkjfnfkalibaa.Pr Go.Proofs.Ytapkjfnfkalibaa.Evs Go.Proofs.Ytapkjfnfkalibaa.Names Go.Proofs.Ytapkjfnfkalibaa.BChk Go.Proofs.YtapkjfnfkalibaaW.PrintWords Go.Proofs.YtapkjfnfkalibaaW.PrintLast Go.Proofs.YtapkjfnfkalibaaW.PrintMore
theorem lives_now : petrinetlaw40_lives.f 60 = some true := by decide +kernel
theorem lives : Ev (fun k => petrinetlaw40_lives.f k) true := Ev.of petrinetlaw40_lives.mono lives_now
/-- Few's answer: what it bounds. -/
theorem few (x : List CS) (a : ByteArray) (b : List CV) (c : List CG) (d e : List CA) :
    ∃ r : Bool, Ev (fun k => petrinetref40_Few.f k x a b c d e) r ∧ (r = true → (x.length ≤ 10 ∧ b.length ≤ 6 ∧ c.length ≤ 8) ∧ ∀ s ∈ x, s.f1.length ≤ 14) := by
  by_cases hs : x.length ≤ 10 ∧ b.length ≤ 6 ∧ c.length ≤ 8
  · obtain ⟨h1, h2, h3⟩ := hs
    have l2 : ∀ dd i, b.length - i = dd → i ≤ b.length → ∃ r : Bool, Ev (fun k => petrinetref40_Few.l2 k (i : Int) a b c d e) r := by
      intro dd
      induction dd with
      | zero =>
        intro i hd hi
        refine ⟨true, Ev.succ ?_⟩
        simp only [petrinetref40_Few.l2]
        exact Ev.neg (by omega) (Ev.now _)
      | succ dd ih =>
        intro i hd hi
        obtain ⟨r, hr⟩ := ih (i + 1) (by omega) (by omega)
        by_cases h : (((rd_T48 b (i : Int)).f0).size : Int) > 20
        · refine ⟨false, Ev.succ ?_⟩
          simp only [petrinetref40_Few.l2]
          exact Ev.pos (by omega) (Ev.pos (by omega) (Ev.pos h (Ev.now _)))
        · refine ⟨r, Ev.succ ?_⟩
          simp only [petrinetref40_Few.l2]
          refine Ev.pos (by omega) (Ev.pos (by omega) (Ev.neg h ?_))
          rw [wrap_succ (by omega)]; exact hr
    obtain ⟨r2, hr2⟩ := l2 _ 0 rfl (by omega)
    have l0 : ∀ dd i, x.length - i = dd → i ≤ x.length → ∃ r : Bool, Ev (fun k => petrinetref40_Few.l0 k x (i : Int) a b c d e) r ∧ (r = true → ∀ s ∈ x.drop i, s.f1.length ≤ 14) := by
      intro dd
      induction dd with
      | zero =>
        intro i hd hi
        refine ⟨r2, Ev.succ ?_, fun _ s hs => ?_⟩
        · simp only [petrinetref40_Few.l0]
          exact Ev.neg (by omega) hr2
        · rw [List.drop_of_length_le (by omega)] at hs; cases hs
      | succ dd ih =>
        intro i hd hi
        have hil : i < x.length := by omega
        obtain ⟨r, hr, hrs⟩ := ih (i + 1) (by omega) (by omega)
        by_cases hvl : x[i].f1.length ≤ 14
        case neg =>
          refine ⟨false, Ev.succ ?_, fun h => by cases h⟩
          simp only [petrinetref40_Few.l0, rd51 hil]
          refine Ev.pos (by omega) (Ev.pos (by omega) (Ev.pos (by omega) (Ev.succ ?_)))
          simp only [petrinetref40_Few.j2]
          exact Ev.pos trivial (Ev.now _)
        have l1 : ∀ d1 j, x[i].f1.length - j = d1 → j ≤ x[i].f1.length → ∃ r' : Bool, Ev (fun k => petrinetref40_Few.l1 k x (i : Int) (j : Int) a b c d e) r' ∧ (r' = true → r = true) := by
          intro d1
          induction d1 with
          | zero =>
            intro j hd1 hj
            refine ⟨r, Ev.succ ?_, fun h => h⟩
            simp only [petrinetref40_Few.l1, rd51 hil]
            refine Ev.pos (by omega) (Ev.pos (by omega) (Ev.neg (by omega) ?_))
            rw [wrap_succ (by omega)]; exact hr
          | succ d1 ih1 =>
            intro j hd1 hj
            obtain ⟨r', hr', hrr⟩ := ih1 (j + 1) (by omega) (by omega)
            by_cases h : ((rdOf ByteArray.empty (x[i].f1) (j : Int)).size : Int) > 20
            · refine ⟨false, Ev.succ ?_, fun h => by cases h⟩
              simp only [petrinetref40_Few.l1, rd51 hil]
              exact Ev.pos (by omega) (Ev.pos (by omega) (Ev.pos (by omega) (Ev.pos (by omega) (Ev.pos h (Ev.now _)))))
            · refine ⟨r', Ev.succ ?_, hrr⟩
              simp only [petrinetref40_Few.l1, rd51 hil]
              refine Ev.pos (by omega) (Ev.pos (by omega) (Ev.pos (by omega) (Ev.pos (by omega) (Ev.neg h ?_))))
              rw [wrap_succ (by omega)]; exact hr'
        obtain ⟨r1, hr1, hrr⟩ := l1 _ 0 rfl (by omega)
        have j2 : ∀ p : Bool, ∃ r' : Bool, Ev (fun k => petrinetref40_Few.j2 k x (i : Int) p a b c d e) r' ∧ (r' = true → r = true) := by
          intro p
          cases p with
          | true =>
            refine ⟨false, Ev.succ ?_, fun h => by cases h⟩
            simp only [petrinetref40_Few.j2]
            exact Ev.pos trivial (Ev.now _)
          | false =>
            refine ⟨r1, Ev.succ ?_, hrr⟩
            simp only [petrinetref40_Few.j2]
            exact Ev.neg (by simp) hr1
        obtain ⟨q, hq, hqr⟩ := j2 (decide (((x[i].f0).size : Int) > 20))
        refine ⟨q, Ev.succ ?_, fun h s hs => ?_⟩
        · simp only [petrinetref40_Few.l0, rd51 hil]
          exact Ev.pos (by omega) (Ev.pos (by omega) (Ev.neg (by omega) hq))
        · rw [List.drop_eq_getElem_cons hil] at hs
          rcases List.mem_cons.1 hs with rfl | hs
          · exact hvl
          · exact hrs (hqr h) s hs
    obtain ⟨r0, hr0, hr0s⟩ := l0 _ 0 rfl (by omega)
    refine ⟨r0, ?_, fun h => ⟨⟨h1, h2, h3⟩, fun s hs => hr0s h s (by simpa using hs)⟩⟩
    unfold petrinetref40_Few.f
    refine Ev.neg (by omega) (Ev.neg (by omega) (Ev.succ ?_))
    simp only [petrinetref40_Few.j0]
    exact Ev.neg (by simp; omega) hr0
  · refine ⟨false, ?_, fun h => by cases h⟩
    unfold petrinetref40_Few.f
    have j0 : Ev (fun k => petrinetref40_Few.j0 k x true a b c d e) false := by
      refine Ev.succ ?_
      simp only [petrinetref40_Few.j0]
      exact Ev.pos trivial (Ev.now _)
    refine Ev.ite (fun _ => j0) (fun h1 => Ev.ite (fun _ => j0) (fun h2 => ?_))
    rw [decide_eq_true (by omega)]; exact j0
theorem sm {x : List CS} {b : List CV} {c : List CG} (h : (x.length ≤ 10 ∧ b.length ≤ 6 ∧ c.length ≤ 8) ∧ ∀ s ∈ x, s.f1.length ≤ 14) : Sm x b c := ⟨by omega, by omega, by omega, fun s hs => by have := h.2 s hs; omega⟩
end Go.Proofs.Ytapkjfnfkalibaa.BLives

/- Chapter 40: bindings, sums of terms and guards, of the program and of the reference. -/
namespace Go.Proofs.Ytapkjfnfkalibaa.BEval
open Go.RowKit Go.Proofs.Ytapkjfnfkalibaa.Pr Go.Proofs.Ytapkjfnfkalibaa.Evs Go.Proofs.Ytapkjfnfkalibaa.Names Go.Proofs.Ytapkjfnfkalibaa.RName Go.Proofs.Ytapkjfnfkalibaa.BChk Go.Proofs.Ytapkjfnfkalibaa.Iter Go.Proofs.YtapkjfnfkalibaaW.PrintWords Go.Proofs.YtapkjfnfkalibaaW.PrintLast Go.Proofs.YtapkjfnfkalibaaW.PrintMore
set_option linter.unusedVariables false
set_option linter.unusedSimpArgs false

theorem rd_get {l : List Int} {i : Nat} (h : i < l.length) : rd l (i : Int) = l[i] := by simp [rd, h]
def allF (P : Nat → Bool) (i : Nat) : Nat → Bool
  | 0 => true
  | d + 1 => P i && allF P (i + 1) d
theorem allF_iff (P : Nat → Bool) : ∀ d i, allF P i d = true ↔ ∀ j, i ≤ j → j < i + d → P j = true
  | 0, i => by simp only [allF]; exact ⟨fun _ j _ _ => by omega, fun _ => trivial⟩
  | d + 1, i => by
    simp only [allF, Bool.and_eq_true, allF_iff P d (i + 1)]
    constructor
    · rintro ⟨h0, h⟩ j h1 h2
      by_cases hj : j = i
      · subst hj; exact h0
      · exact h j (by omega) (by omega)
    · intro h
      exact ⟨h i (by omega) (by omega), fun j h1 h2 => h j (by omega) (by omega)⟩
/-- A place of a binding is a color. -/
def bAt (x : List CS) (b : List CV) (l : List Int) (i : Nat) : Bool := decide (0 ≤ rd l (i : Int)) && decide (rd l (i : Int) < setOf x b i)
def boundB (x : List CS) (b : List CV) (l : List Int) : Bool := decide (l.length = b.length) && allF (bAt x b l) 0 l.length
theorem boundB_iff {x : List CS} {b : List CV} {l : List Int} : boundB x b l = true ↔ l.length = b.length ∧ ∀ i, i < b.length → 0 ≤ rd l (i : Int) ∧ rd l (i : Int) < setOf x b i := by
  unfold boundB
  simp only [Bool.and_eq_true, decide_eq_true_eq, allF_iff]
  constructor
  · rintro ⟨h1, h2⟩
    refine ⟨h1, fun i hi => ?_⟩
    have := h2 i (by omega) (by omega)
    simpa [bAt] using this
  · rintro ⟨h1, h2⟩
    refine ⟨h1, fun i _ hi => ?_⟩
    have := h2 i (by omega)
    simpa [bAt] using this
theorem setOf_eq {x : List CS} {b : List CV} {i : Nat} (hi : i < b.length) : setOf x b i = ((rd_T51 x b[i].f1).f1.length : Int) := by unfold setOf; rw [rd48 hi]
theorem set_get {x : List CS} {z : Int} (h0 : 0 ≤ z) (h1 : z < (x.length : Int)) : ∃ n : Nat, ∃ h : n < x.length, z = (n : Int) ∧ rd_T51 x z = x[n] := ⟨z.toNat, by omega, by omega, by
  have := rd51 (x := x) (i := z.toNat) (by omega)
  rwa [show ((z.toNat : Nat) : Int) = z by omega] at this⟩

theorem pis (x : List CS) (a : ByteArray) (b : List CV) (c : List CG) (d e : List CA) (hb : b.length < 4611686018427387904) (hs : ∀ v ∈ b, 0 ≤ v.f1 ∧ v.f1 < (x.length : Int)) (l : List Int) :
    Ev (fun k => binding_is.f k x a b c d e l) (boundB x b l) := by
  unfold binding_is.f
  by_cases hl : l.length = b.length
  · refine Ev.pos (by omega) ?_
    have hk : ∀ dd i, b.length - i = dd → i ≤ b.length → Ev (fun k => binding_is.l0 k x l b (b.length : Int) (i : Int)) (allF (bAt x b l) i dd) := by
      intro dd
      induction dd with
      | zero =>
        intro i hd hi
        obtain rfl : i = b.length := by omega
        refine Ev.succ ?_
        simp only [binding_is.l0, allF]
        exact Ev.neg (by omega) (Ev.now _)
      | succ dd ih =>
        intro i hd hi
        have hil : i < b.length := by omega
        have hsi := hs _ (List.getElem_mem hil)
        refine Ev.succ ?_
        simp only [binding_is.l0, rd48 hil]
        refine Ev.pos (by omega) (Ev.pos (by omega) (Ev.pos (by omega) (Ev.pos (by omega) ?_)))
        have hat : bAt x b l i = (decide (0 ≤ rd l (i : Int)) && decide (rd l (i : Int) < ((rd_T51 x b[i].f1).f1.length : Int))) := by unfold bAt; rw [setOf_eq hil]
        refine Ev.ite (fun h => ?_) (fun h => ?_)
        · refine Ev.val ?_
          rw [allF, hat, decide_eq_false (by omega)]; rfl
        · refine Ev.pos hsi.1 (Ev.pos hsi.2 ?_)
          refine Ev.ite (fun h => ?_) (fun h => ?_)
          · refine Ev.val ?_
            rw [allF, hat, decide_eq_false (show ¬ rd l (i : Int) < _ by omega)]; simp
          · rw [allF, hat, decide_eq_true (by omega), decide_eq_true (by omega), wrap_succ (by omega)]
            simpa using ih (i + 1) (by omega) (by omega)
    have := hk _ 0 rfl (by omega)
    unfold boundB
    rw [decide_eq_true hl, hl]
    simpa using this
  · refine Ev.neg (by omega) (Ev.val ?_)
    unfold boundB; rw [decide_eq_false hl]; rfl
/-- Whether all guards hold for a binding. -/
def gOk (c : List CG) (l : List Int) : Bool := c.all fun g => !badG g.f0 (rd l g.f1) (rd l g.f2)
theorem holdsGo_eq (l : List Int) : ∀ (c : List CG), (∀ g ∈ c, (0 ≤ g.f1 ∧ g.f1 < (l.length : Int)) ∧ 0 ≤ g.f2 ∧ g.f2 < (l.length : Int)) → holdsGo l c = some (gOk c l)
  | [], _ => rfl
  | g :: gs, h => by
    unfold holdsGo
    rw [if_pos (h g List.mem_cons_self)]
    have ih := holdsGo_eq l gs (fun g' hg' => h g' (List.mem_cons_of_mem _ hg'))
    split
    · rename_i hb; simp [gOk, hb]
    · rename_i hb; rw [ih]; simp [gOk, hb]
def holdB (x : List CS) (b : List CV) (c : List CG) (l : List Int) : Bool := decide (chkAll x x.length b c = 0) && boundB x b l && gOk c l
theorem pHolds (x : List CS) (a : ByteArray) (b : List CV) (c : List CG) (d e : List CA) (hs : Sm x b c) (l : List Int) : Ev (fun k => binding_Holds.f k x a b c d e l) (holdB x b c l) := by
  unfold binding_Holds.f
  simp only [pCheck hs, Option.bind_some]
  refine Ev.ite (fun h => ?_) (fun h => Ev.val (by simp [holdB, h]))
  have ok := chk_zero h
  refine Ev.bind (pis x a b c d e (by have := hs.hb; omega) ok.sets l) ?_
  refine Ev.ite (fun hb => ?_) (fun hb => Ev.val (by simp [holdB, h, hb]))
  unfold binding_holds.f
  have hbl := (boundB_iff.1 hb).1
  rw [if_pos hs.hc, holdsGo_eq l c (by rw [hbl]; exact ok.grds)]
  refine Ev.val ?_
  simp [holdB, h, hb]
/-- A row of n numbers. -/
def row (n : Nat) (f : Nat → Int) : List Int := (List.range n).map f
theorem wrap_id {z : Int} (h0 : -9223372036854775808 ≤ z) (h1 : z < 9223372036854775808) : wrap64 z = z := by unfold wrap64; omega
end Go.Proofs.Ytapkjfnfkalibaa.BEval

/- Chapter 40: Eval of the program and of the reference. -/
namespace Go.Proofs.Ytapkjfnfkalibaa.BEval
open Go.RowKit Go.Proofs.Ytapkjfnfkalibaa.Pr Go.Proofs.Ytapkjfnfkalibaa.Evs Go.Proofs.Ytapkjfnfkalibaa.Names Go.Proofs.Ytapkjfnfkalibaa.RName Go.Proofs.Ytapkjfnfkalibaa.BChk Go.Proofs.Ytapkjfnfkalibaa.Iter Go.Proofs.YtapkjfnfkalibaaW.PrintWords Go.Proofs.YtapkjfnfkalibaaW.PrintLast Go.Proofs.YtapkjfnfkalibaaW.PrintMore
set_option linter.unusedVariables false
set_option linter.unusedSimpArgs false

theorem rsame (xs ys : List Int) (hx : xs.length < 4611686018427387904) : Ev (fun k => petrinetref04_Same.f k xs ys) (decide (xs = ys)) := by
  unfold petrinetref04_Same.f
  by_cases hl : xs.length = ys.length
  · refine Ev.pos (by omega) ?_
    have hk : ∀ dd i, xs.length - i = dd → i ≤ xs.length → (xs.take i = ys.take i) → Ev (fun k => petrinetref04_Same.l0 k xs ys (i : Int)) (decide (xs = ys)) := by
      intro dd
      induction dd with
      | zero =>
        intro i hd hi he
        obtain rfl : i = xs.length := by omega
        refine Ev.succ ?_
        simp only [petrinetref04_Same.l0]
        refine Ev.neg (by omega) (Ev.val ?_)
        rw [List.take_length, hl, List.take_length] at he
        simp [he]
      | succ dd ih =>
        intro i hd hi he
        have h1 : i < xs.length := by omega
        have h2 : i < ys.length := by omega
        refine Ev.succ ?_
        simp only [petrinetref04_Same.l0, rd_get h1, rd_get h2]
        refine Ev.pos (by omega) (Ev.pos (by omega) (Ev.pos (by omega) ?_))
        refine Ev.ite (fun h => ?_) (fun h => Ev.val ?_)
        · rw [wrap_succ (by omega)]
          refine ih (i + 1) (by omega) (by omega) ?_
          rw [List.take_succ_eq_append_getElem h1, List.take_succ_eq_append_getElem h2, he, h]
        · symm; rw [decide_eq_false_iff_not]
          rintro rfl; exact h rfl
    exact hk _ 0 rfl (by omega) (by simp)
  · refine Ev.neg (by omega) (Ev.val ?_)
    symm; rw [decide_eq_false_iff_not]
    rintro rfl; exact hl rfl
end Go.Proofs.Ytapkjfnfkalibaa.BEval

/- Chapter 40: the list of all bindings, of the program and of the reference. -/
namespace Go.Proofs.Ytapkjfnfkalibaa.BAll
open Go.RowKit Go.Proofs.Ytapkjfnfkalibaa.Pr Go.Proofs.Ytapkjfnfkalibaa.Evs Go.Proofs.Ytapkjfnfkalibaa.Names Go.Proofs.Ytapkjfnfkalibaa.BChk Go.Proofs.Ytapkjfnfkalibaa.BEval Go.Proofs.YtapkjfnfkalibaaW.PrintWords Go.Proofs.YtapkjfnfkalibaaW.PrintLast Go.Proofs.YtapkjfnfkalibaaW.PrintMore
set_option linter.unusedVariables false
set_option linter.unusedSimpArgs false

/-- How many bindings the first j variables have, and the binding number q of them. -/
def np (D : Nat → Nat) : Nat → Nat
  | 0 => 1
  | j + 1 => np D j * D j
def dec (D : Nat → Nat) : Nat → Nat → List Int
  | 0, _ => []
  | j + 1, q => dec D j (q / D j) ++ [((q % D j : Nat) : Int)]
theorem dec_len (D : Nat → Nat) : ∀ j q, (dec D j q).length = j
  | 0, _ => rfl
  | j + 1, q => by simp [dec, dec_len D j]
theorem np_pos {D : Nat → Nat} : ∀ j, (∀ i, i < j → 1 ≤ D i) → 1 ≤ np D j
  | 0, _ => Nat.le_refl _
  | j + 1, h => by
    have := np_pos j (fun i hi => h i (by omega))
    have h1 := h j (by omega)
    exact Nat.mul_pos this h1
theorem np_le {D : Nat → Nat} : ∀ j, (∀ i, i < j → D i ≤ 12) → np D j ≤ 12 ^ j
  | 0, _ => Nat.le_refl _
  | j + 1, h => by
    have := np_le j (fun i hi => h i (by omega))
    rw [Nat.pow_succ]
    exact Nat.mul_le_mul this (h j (by omega))
theorem rd_app1 {xs : List Int} {v : Int} {t : List Int} {j : Nat} (h : xs.length = j) : rd (xs ++ v :: t) (j : Int) = v := by
  subst h; simp [rd]
theorem rd_app0 {xs ys : List Int} {i : Nat} (h : i < xs.length) : rd (xs ++ ys) (i : Int) = rd xs (i : Int) := by
  simp [rd, List.getElem?_append, h]
theorem dec_rd {D : Nat → Nat} : ∀ j q i, i < j → (∀ i, i < j → 1 ≤ D i) → 0 ≤ rd (dec D j q) (i : Int) ∧ rd (dec D j q) (i : Int) < (D i : Int)
  | 0, _, _, hi, _ => by omega
  | j + 1, q, i, hi, h => by
    unfold dec
    by_cases hij : i = j
    · subst hij
      rw [rd_app1 (dec_len D i _)]
      have := Nat.mod_lt q (show D i > 0 from h i (by omega))
      omega
    · rw [rd_app0 (by rw [dec_len]; omega)]
      exact dec_rd j _ i (by omega) (fun i hi => h i (by omega))
theorem dec_zero (D : Nat → Nat) : ∀ j, dec D j 0 = List.replicate j 0
  | 0 => rfl
  | j + 1 => by
    unfold dec
    rw [Nat.zero_div, Nat.zero_mod, dec_zero D j, List.replicate_succ']; rfl

structure DimsOk (x : List CS) (b : List CV) (D : Nat → Nat) (m : Nat) : Prop where
  ins : ∀ i, i < m → inSets x b i = true
  set : ∀ i, i < m → setOf x b i = (D i : Int)
  pos : ∀ i, i < m → 1 ≤ D i
  le : ∀ i, i < m → D i ≤ 12
theorem DimsOk.less {x : List CS} {b : List CV} {D : Nat → Nat} {m k : Nat} (h : DimsOk x b D m) (hk : k ≤ m) : DimsOk x b D k :=
  ⟨fun i hi => h.ins i (by omega), fun i hi => h.set i (by omega), fun i hi => h.pos i (by omega), fun i hi => h.le i (by omega)⟩
theorem carry_dec {x : List CS} {b : List CV} {D : Nat → Nat} : ∀ j, DimsOk x b D j → ∀ q, q < np D j → ∀ t : List Int,
    carry x b j (dec D j q ++ t) = some (if q + 1 < np D j then some (dec D j (q + 1) ++ t) else none)
  | 0, _, q, hq, t => by
    have h1 : np D 0 = 1 := rfl
    simp only [carry]
    rw [if_neg (by omega)]
  | j + 1, h, q, hq, t => by
    have hD := h.pos j (by omega)
    have hD2 := h.le j (by omega)
    have hr := Nat.mod_lt q (show D j > 0 by omega)
    have hdm := Nat.div_add_mod q (D j)
    unfold carry
    rw [if_pos (h.ins j (by omega)), h.set j (by omega)]
    unfold dec
    rw [List.append_assoc, List.singleton_append, rd_app1 (dec_len D j _)]
    have hset : ∀ v : Int, (dec D j (q / D j) ++ ((q % D j : Nat) : Int) :: t).set j v = dec D j (q / D j) ++ v :: t := by
      intro v
      rw [List.set_append_right _ _ (by rw [dec_len]; omega), dec_len, Nat.sub_self]; rfl
    rw [hset, hset]
    have hnp : np D (j + 1) = np D j * D j := rfl
    have hqd : q / D j < np D j := (Nat.div_lt_iff_lt_mul (by omega)).2 (hnp ▸ hq)
    by_cases hc : q % D j + 1 = D j
    · rw [if_pos (by rw [wrap_id (by omega) (by omega)]; omega)]
      have e : q + 1 = (q / D j + 1) * D j := by rw [Nat.add_mul, Nat.one_mul, Nat.mul_comm]; omega
      have e1 : (q + 1) / D j = q / D j + 1 := by rw [e, Nat.mul_div_cancel _ (by omega)]
      have e2 : (q + 1) % D j = 0 := by rw [e]; exact Nat.mul_mod_left _ _
      rw [carry_dec j (h.less (by omega)) _ hqd, e1, e2]
      have hiff : q / D j + 1 < np D j ↔ q + 1 < np D (j + 1) := by
        rw [e, hnp]; exact (Nat.mul_lt_mul_right (by omega)).symm
      by_cases hl : q / D j + 1 < np D j
      · rw [if_pos hl, if_pos (hiff.1 hl)]; simp
      · rw [if_neg hl, if_neg (fun h => hl (hiff.2 h))]
    · rw [if_neg (by rw [wrap_id (by omega) (by omega)]; omega)]
      have e1 : (q + 1) / D j = q / D j := by
        rw [Nat.div_eq_iff (by omega)]
        have : q / D j * D j = D j * (q / D j) := Nat.mul_comm _ _
        rw [this]; omega
      have e2 : (q + 1) % D j = q % D j + 1 := by
        have h3 := Nat.div_add_mod (q + 1) (D j)
        rw [e1] at h3
        omega
      have hlt : q + 1 < np D (j + 1) := by
        rw [hnp]
        have h3 : (q / D j + 1) * D j ≤ np D j * D j := Nat.mul_le_mul_right _ hqd
        rw [Nat.add_mul, Nat.one_mul, Nat.mul_comm] at h3
        omega
      rw [if_pos hlt, e1, e2, wrap_id (by omega) (by omega)]
      simp
theorem seqB_dec {x : List CS} {b : List CV} {D : Nat → Nat} (h : DimsOk x b D b.length) : ∀ d q, np D b.length - q = d + 1 → q < np D b.length → ∀ k, d < k →
    seqB x b k (dec D b.length q) = some ((List.range' q (d + 1)).map (dec D b.length)) := by
  intro d
  induction d with
  | zero =>
    intro q hd hq k hk
    obtain ⟨k, rfl⟩ : ∃ j, k = j + 1 := ⟨k - 1, by omega⟩
    have := carry_dec b.length h q hq []
    rw [List.append_nil, if_neg (by omega)] at this
    simp only [seqB, this, Option.bind_some, List.range'_succ, List.range'_zero, List.map_cons, List.map_nil]
  | succ d ih =>
    intro q hd hq k hk
    obtain ⟨k, rfl⟩ : ∃ j, k = j + 1 := ⟨k - 1, by omega⟩
    have := carry_dec b.length h q hq []
    rw [List.append_nil, List.append_nil, if_pos (by omega)] at this
    rw [List.range'_succ, List.map_cons]
    simp only [seqB, this, Option.bind_some]
    rw [ih (q + 1) (by omega) (by omega) k (by omega)]
    rfl

def dm (x : List CS) (b : List CV) (j : Nat) : Nat := (rd_T51 x (rd_T48 b (j : Int)).f1).f1.length
theorem dims_ok {x : List CS} {b : List CV} {c : List CG} (h : Okk x b c) : DimsOk x b (dm x b) b.length := by
  have hg : ∀ i, i < b.length → (0 ≤ (rd_T48 b (i : Int)).f1 ∧ (rd_T48 b (i : Int)).f1 < (x.length : Int)) ∧ 1 ≤ dm x b i ∧ dm x b i ≤ 12 := by
    intro i hi
    have hs := h.sets _ (List.getElem_mem hi)
    rw [← rd48 hi] at hs
    obtain ⟨n, hn, he, hx⟩ := set_get hs.1 hs.2
    have hc := h.cols _ (List.getElem_mem hn)
    unfold dm
    rw [hx]
    exact ⟨hs, hc⟩
  exact ⟨fun i hi => by unfold inSets; rw [decide_eq_true (hg i hi).1.1, decide_eq_true (hg i hi).1.2]; rfl, fun i hi => rfl, fun i hi => (hg i hi).2.1, fun i hi => (hg i hi).2.2⟩
theorem np_small {x : List CS} {b : List CV} {c : List CG} (h : Okk x b c) : 1 ≤ np (dm x b) b.length ∧ np (dm x b) b.length ≤ 20736 := by
  have hd := dims_ok h
  refine ⟨np_pos _ hd.pos, Nat.le_trans (np_le _ hd.le) ?_⟩
  have hb := h.bl
  calc 12 ^ b.length ≤ 12 ^ 4 := Nat.pow_le_pow_right (by omega) hb
    _ = 20736 := by decide
def bindings (x : List CS) (b : List CV) : List (List Int) := (List.range (np (dm x b) b.length)).map (dec (dm x b) b.length)
def allL (x : List CS) (b : List CV) (c : List CG) : List (List Int) := if chkAll x x.length b c = 0 then (bindings x b).filter (gOk c) else []
theorem dec_bound {x : List CS} {b : List CV} {c : List CG} (h : Okk x b c) (q : Nat) : boundB x b (dec (dm x b) b.length q) = true := by
  refine boundB_iff.2 ⟨dec_len _ _ _, fun i hi => ?_⟩
  have := dec_rd (D := dm x b) b.length q i hi (dims_ok h).pos
  rw [(dims_ok h).set i hi]
  exact this
theorem holds_gOk {a : ByteArray} {b : List CV} {c : List CG} {d e : List CA} {l : List Int} (hc : c.length ≤ 1000) (hg : ∀ g ∈ c, (0 ≤ g.f1 ∧ g.f1 < (l.length : Int)) ∧ 0 ≤ g.f2 ∧ g.f2 < (l.length : Int)) :
    (binding_holds.f a b c d e l == some true) = gOk c l := by
  unfold binding_holds.f
  rw [if_pos hc, holdsGo_eq l c hg]
  cases gOk c l <;> rfl
theorem pAll {x : List CS} {a : ByteArray} {b : List CV} {c : List CG} {d e : List CA} (hs : Sm x b c) : binding_All.f x a b c d e = some (allL x b c) := by
  unfold binding_All.f allL
  rw [pCheck hs]
  simp only [Option.bind_some]
  by_cases h : chkAll x x.length b c = 0
  · rw [if_neg (by omega), if_pos hs.hb, if_pos h]
    have ok := chk_zero h
    have hn := np_small ok
    have := seqB_dec (dims_ok ok) (np (dm x b) b.length - 1) 0 (by omega) (by omega) 100000 (by omega)
    rw [dec_zero] at this
    rw [this]
    simp only [Option.bind_some]
    rw [show np (dm x b) b.length - 1 + 1 = np (dm x b) b.length by omega, ← List.range_eq_range']
    rw [if_pos ⟨by simp; omega, hs.hc, List.all_eq_true.2 fun g hg => decide_eq_true (ok.grds g hg)⟩]
    congr 1
    refine List.filter_congr fun l hl => ?_
    obtain ⟨q, _, rfl⟩ := List.mem_map.1 hl
    exact holds_gOk hs.hc (by rw [dec_len]; exact ok.grds)
  · rw [if_pos h, if_neg h]

theorem rd_L {l : List (List Int)} {i : Nat} (h : i < l.length) : rd_L15 l (i : Int) = l[i] := by simp [rd_L15, h]
/-- The next binding is greater. -/
def Lex (m : Nat) (u v : List Int) : Prop := ∃ i, i < m ∧ (∀ j, j < i → rd u (j : Int) = rd v (j : Int)) ∧ rd u (i : Int) < rd v (i : Int)
theorem dec_lex {D : Nat → Nat} : ∀ m, (∀ i, i < m → 1 ≤ D i) → ∀ q, q + 1 < np D m → Lex m (dec D m q) (dec D m (q + 1))
  | 0, _, q, hq => by simp only [np] at hq; omega
  | m + 1, h, q, hq => by
    have hD := h m (by omega)
    have hr := Nat.mod_lt q (show D m > 0 by omega)
    have hdm := Nat.div_add_mod q (D m)
    simp only [np] at hq
    by_cases hc : q % D m + 1 = D m
    · have e : q + 1 = (q / D m + 1) * D m := by rw [Nat.add_mul, Nat.one_mul, Nat.mul_comm]; omega
      have e1 : (q + 1) / D m = q / D m + 1 := by rw [e, Nat.mul_div_cancel _ (by omega)]
      have hlt : q / D m + 1 < np D m := by
        rw [e] at hq; exact (Nat.mul_lt_mul_right (by omega)).1 hq
      obtain ⟨i, hi, hj, hv⟩ := dec_lex m (fun i hi => h i (by omega)) _ hlt
      refine ⟨i, by omega, fun j hj' => ?_, ?_⟩
      · unfold dec
        rw [rd_app0 (by rw [dec_len]; omega), rd_app0 (by rw [dec_len]; omega), e1]
        exact hj j hj'
      · unfold dec
        rw [rd_app0 (by rw [dec_len]; omega), rd_app0 (by rw [dec_len]; omega), e1]
        exact hv
    · have e1 : (q + 1) / D m = q / D m := by
        rw [Nat.div_eq_iff (by omega)]
        have : q / D m * D m = D m * (q / D m) := Nat.mul_comm _ _
        rw [this]; omega
      have e2 : (q + 1) % D m = q % D m + 1 := by
        have h3 := Nat.div_add_mod (q + 1) (D m)
        rw [e1] at h3
        omega
      refine ⟨m, by omega, fun j hj => ?_, ?_⟩
      · unfold dec
        rw [rd_app0 (by rw [dec_len]; omega), rd_app0 (by rw [dec_len]; omega), e1]
      · unfold dec
        rw [rd_app1 (dec_len D m _), rd_app1 (dec_len D m _), e2]
        omega
theorem rcompare (u v : List Int) (m : Nat) (hu : u.length = m) (hv : v.length = m) (hm : m < 4611686018427387904) (h : Lex m u v) : Ev (fun k => petrinetref04_Compare.f k u v) (-1) := by
  unfold petrinetref04_Compare.f
  obtain ⟨i, hi, he, hlt⟩ := h
  have l0 : ∀ dd j, i - j = dd → j ≤ i → Ev (fun k => petrinetref04_Compare.l0 k u v (j : Int)) (-1) := by
    intro dd
    induction dd with
    | zero =>
      intro j hd hj
      obtain rfl : j = i := by omega
      refine Ev.succ ?_
      simp only [petrinetref04_Compare.l0, hu, hv]
      refine Ev.pos (by omega) (Ev.succ ?_)
      simp only [petrinetref04_Compare.j1, hu, hv]
      exact Ev.pos (decide_eq_true (by omega)) (Ev.pos (by omega) (Ev.pos (by omega) (Ev.pos (by omega) (Ev.pos hlt (Ev.now _)))))
    | succ dd ih =>
      intro j hd hj
      refine Ev.succ ?_
      simp only [petrinetref04_Compare.l0, hu, hv]
      refine Ev.pos (by omega) (Ev.succ ?_)
      simp only [petrinetref04_Compare.j1, hu, hv]
      refine Ev.pos (decide_eq_true (by omega)) (Ev.pos (by omega) (Ev.pos (by omega) (Ev.pos (by omega) ?_)))
      have := he j (by omega)
      refine Ev.neg (by omega) (Ev.neg (by omega) ?_)
      rw [wrap_succ (by omega)]
      exact ih (j + 1) (by omega) (by omega)
  exact l0 _ 0 rfl (by omega)
end Go.Proofs.Ytapkjfnfkalibaa.BAll

/- Independent of the reference: without guards, there are as many bindings as the product of the sizes of the color sets; with guards, All consists of those for which Holds is true, in strictly ascending order. -/
namespace Go.Proofs.Ytapkjfnfkalibaa.Pure
open Go.RowKit Go.Proofs.Ytapkjfnfkalibaa.Pr Go.Proofs.Ytapkjfnfkalibaa.Evs Go.Proofs.Ytapkjfnfkalibaa.BChk Go.Proofs.Ytapkjfnfkalibaa.BEval Go.Proofs.Ytapkjfnfkalibaa.BLives Go.Proofs.Ytapkjfnfkalibaa.BAll Go.Proofs.YtapkjfnfkalibaaW.PrintWords Go.Proofs.YtapkjfnfkalibaaW.PrintLast Go.Proofs.YtapkjfnfkalibaaW.PrintMore
set_option linter.unusedVariables false
theorem chk_bare {x : List CS} {b : List CV} {c : List CG} (h : chkAll x x.length b c = 0) : chkAll x x.length b [] = 0 := by
  unfold chkAll at h ⊢
  by_cases hs : setsGo x = 0
  · rw [if_pos hs] at h ⊢
    unfold chkTail at h ⊢
    split at h
    · cases h
    · rename_i h1
      rw [if_neg h1]
      split at h
      · cases h
      · rename_i h2
        rw [if_neg h2]
        split at h
        · cases h
        · rename_i h3
          rw [if_neg h3]
          split at h
          · rename_i h4; rw [if_pos h4]; rfl
          · rename_i h4; exact absurd h h4
  · rw [if_neg hs] at h; exact absurd h hs
theorem filter_bare (l : List (List Int)) : l.filter (gOk []) = l := List.filter_eq_self.2 fun _ _ => rfl
set_option maxHeartbeats 2000000 in
theorem BindingCounts (x : List CS) (t : ByteArray × List CV × List CG × List CA × List CA) {P0 P1 : Prop} (h0 : P0) (h1 : P1) :
    ∃ k, petrinetlaw40_BindingCounts.f k x t.1 t.2.1 t.2.2.1 t.2.2.2.1 t.2.2.2.2 = some true := by
  obtain ⟨a, b, c, d, e⟩ := t
  obtain ⟨r, hr, hf⟩ := few x a b c d e
  apply Ev.rounds
  unfold petrinetlaw40_BindingCounts.f
  refine Ev.bind lives (Ev.pos rfl ?_)
  refine Ev.bind hr ?_
  have hyes : Ev (fun k => petrinetlaw40_BindingCounts.j0 k x true a b c d e) true := by
    refine Ev.succ ?_
    simp only [petrinetlaw40_BindingCounts.j0]
    exact Ev.pos trivial (Ev.now _)
  refine Ev.ite (fun h => ?_) (fun _ => hyes)
  have hs := sm (hf h)
  simp only [pCheck hs, Option.bind_some]
  show Ev (fun k => petrinetlaw40_BindingCounts.j0 k x (chkAll x x.length b c != 0) a b c d e) true
  by_cases hz : chkAll x x.length b c = 0
  case neg => rw [bne_iff_ne.2 hz]; exact hyes
  rw [bne_eq_false_iff_eq.2 hz]
  refine Ev.succ ?_
  simp only [petrinetlaw40_BindingCounts.j0]
  refine Ev.neg (by simp) ?_
  have ok := chk_zero hz
  have hD := dims_ok ok
  have hn := np_small ok
  have hbl := ok.bl
  have hs' : Sm x b ([] : List CG) := ⟨hs.hx, hs.hb, by simp, hs.hv⟩
  have hB : (bindings x b).length = np (dm x b) b.length := by simp [bindings]
  have hBi : ∀ i (hi : i < (bindings x b).length), (bindings x b)[i] = dec (dm x b) b.length i := fun i hi => by simp [bindings]
  have hall : allL x b c = (bindings x b).filter (gOk c) := by unfold allL; rw [if_pos hz]
  have hbare : allL x b ([] : List CG) = bindings x b := by unfold allL; rw [if_pos (chk_bare hz), filter_bare]
  have l1 : ∀ dd i, np (dm x b) b.length - i = dd → i ≤ np (dm x b) b.length →
      Ev (fun k => petrinetlaw40_BindingCounts.l1 k x (allL x b c) (bindings x b) ((((List.range i).map (dec (dm x b) b.length)).filter (gOk c)).length : Int) (i : Int) a b c d e) true := by
    intro dd
    induction dd with
    | zero =>
      intro i hd hi
      obtain rfl : i = np (dm x b) b.length := by omega
      refine Ev.succ ?_
      simp only [petrinetlaw40_BindingCounts.l1, hB]
      refine Ev.neg (by omega) (Ev.val ?_)
      rw [hall]; simp [bindings]
    | succ dd ih =>
      intro i hd hi
      have hil : i < (bindings x b).length := by omega
      have hih := ih (i + 1) (by omega) (by omega)
      rw [List.range_succ, List.map_append, List.filter_append] at hih
      have hlen : (((List.range i).map (dec (dm x b) b.length)).filter (gOk c)).length ≤ i := Nat.le_trans (List.length_filter_le _ _) (by simp)
      have j3 : Ev (fun k => petrinetlaw40_BindingCounts.j3 k x (allL x b c) (bindings x b) ((((List.range i).map (dec (dm x b) b.length)).filter (gOk c)).length : Int) (i : Int) false a b c d e) true := by
        refine Ev.succ ?_
        simp only [petrinetlaw40_BindingCounts.j3, rd_L hil, hBi i hil]
        refine Ev.neg (by simp) (Ev.pos (by omega) (Ev.pos (by omega) ?_))
        refine Ev.bind (pHolds x a b c d e hs _) ?_
        have hh : holdB x b c (dec (dm x b) b.length i) = gOk c (dec (dm x b) b.length i) := by
          unfold holdB; rw [decide_eq_true hz, dec_bound ok]; rfl
        rw [hh]
        refine Ev.ite (fun hg => ?_) (fun hg => ?_)
        · have hsp : allL x b c = ((List.range i).map (dec (dm x b) b.length)).filter (gOk c) ++ dec (dm x b) b.length i :: ((List.range' (i + 1) (np (dm x b) b.length - (i + 1))).map (dec (dm x b) b.length)).filter (gOk c) := by
            rw [hall]
            unfold bindings
            have : List.range (np (dm x b) b.length) = List.range i ++ i :: List.range' (i + 1) (np (dm x b) b.length - (i + 1)) := by
              rw [List.range_eq_range', List.range_eq_range', show np (dm x b) b.length = i + (np (dm x b) b.length - i) by omega, ← List.range'_append_1, show 0 + i = i by omega, show i + (np (dm x b) b.length - i) - (i + 1) = np (dm x b) b.length - (i + 1) by omega]
              congr 1
              rw [show np (dm x b) b.length - i = (np (dm x b) b.length - (i + 1)) + 1 by omega, List.range'_succ]
            rw [this, List.map_append, List.map_cons, List.filter_append, List.filter_cons, if_pos hg]
          have hlt : (((List.range i).map (dec (dm x b) b.length)).filter (gOk c)).length < (allL x b c).length := by
            rw [hsp]; simp
          have hget : (allL x b c)[(((List.range i).map (dec (dm x b) b.length)).filter (gOk c)).length] = dec (dm x b) b.length i := by
            simp only [hsp]; simp
          refine Ev.neg (by omega) (Ev.pos (by omega) (Ev.pos (by omega) ?_))
          rw [rd_L hlt, hget]
          refine Ev.bind (rsame _ _ (by rw [dec_len]; omega)) (Ev.pos (by simp) ?_)
          rw [wrap_succ (by omega), wrap_succ (by omega)]
          simpa [hg] using hih
        · rw [wrap_succ (by omega)]
          simpa [hg] using hih
      refine Ev.succ ?_
      simp only [petrinetlaw40_BindingCounts.l1, hB]
      refine Ev.pos (by omega) ?_
      refine Ev.ite (fun hi0 => ?_) (fun _ => j3)
      obtain ⟨j, rfl⟩ : ∃ j, i = j + 1 := ⟨i - 1, by omega⟩
      have hw : wrap64 (((j + 1 : Nat) : Int) - 1) = (j : Int) := by rw [wrap_pred (by omega) (by omega)]; rfl
      rw [hw, rd_L (show j < (bindings x b).length by omega), rd_L hil, hBi, hBi]
      refine Ev.pos (by omega) (Ev.pos (by omega) (Ev.pos (by omega) ?_))
      refine Ev.bind (rcompare _ _ b.length (dec_len _ _ _) (dec_len _ _ _) (by omega) (dec_lex _ hD.pos j (by omega))) ?_
      exact j3
  have l0 : ∀ dd i, b.length - i = dd → i ≤ b.length → Ev (fun k => petrinetlaw40_BindingCounts.l0 k x ((np (dm x b) i : Nat) : Int) (i : Int) a b c d e) true := by
    intro dd
    induction dd with
    | zero =>
      intro i hd hi
      obtain rfl : i = b.length := by omega
      refine Ev.succ ?_
      simp only [petrinetlaw40_BindingCounts.l0, pAll hs, pAll hs', Option.bind_some, hbare, hB]
      refine Ev.neg (by omega) ?_
      refine Ev.ite (fun _ => Ev.now _) (fun _ => ?_)
      refine Ev.pos trivial ?_
      have := l1 _ 0 rfl (by omega)
      simpa using this
    | succ dd ih =>
      intro i hd hi
      have hil : i < b.length := by omega
      have hsi := ok.sets _ (List.getElem_mem hil)
      refine Ev.succ ?_
      simp only [petrinetlaw40_BindingCounts.l0, rd48 hil]
      have e1 : (rd_T51 x b[i].f1).f1.length = dm x b i := by unfold dm; rw [rd48 hil]
      rw [e1]
      refine Ev.pos (by omega) (Ev.pos (by omega) (Ev.neg (by omega) (Ev.neg (by omega) (Ev.pos hsi.1 (Ev.pos hsi.2 ?_)))))
      have hni : np (dm x b) i ≤ 20736 := by
        refine Nat.le_trans (np_le i (fun q hq => hD.le q (by omega))) ?_
        calc 12 ^ i ≤ 12 ^ 4 := Nat.pow_le_pow_right (by omega) (by omega)
          _ = 20736 := by decide
      have hdi := hD.le i hil
      have hm : np (dm x b) i * dm x b i ≤ 20736 * 12 := Nat.mul_le_mul hni hdi
      rw [wrap_succ (by omega), ← Int.natCast_mul, wrap_id (by omega) (by omega)]
      exact ih (i + 1) (by omega) (by omega)
  exact l0 _ 0 rfl (by omega)
end Go.Proofs.Ytapkjfnfkalibaa.Pure

