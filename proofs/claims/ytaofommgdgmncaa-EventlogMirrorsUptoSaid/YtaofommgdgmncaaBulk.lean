/- The bulk of a datum that is read (the second form of the statements), told of what the walks tell of. -/
import Derived.Test.YtaofommgdgmncaaOpens
import Derived.Test.YtaofommgdgmncaaRows
namespace Go.Proofs.Ytaofommgdgmncaa.Bulk
set_option linter.unusedVariables false
open Go.RowKit Go.WideShapes Go.Deep Go.Proofs.YtaofommgdgmncaaW.PrintWords Go.Proofs.Ytaofommgdgmncaa.Rows Go.Proofs.Ytaofommgdgmncaa.Opens

/-- What the statements' reader finds at cells of type t is what d tells of some a with ok, and of a measure no greater than the bulk. -/
structure OpensM {α H : Type} (enc : TypeId × Value → H) (P : Program) (w : World) (base : Nat) (spare : Nat → Bool) (held : Bool) (d : Kd α) (t : TypeId) (ok : α → Prop) (m : α → Nat) : Prop where
  cells : P.cellsOf t = d.sz
  opens : ∀ (fuel : Nat) (cs : List Value) (x : DataW H × List MemPlace), DataW.trod enc P w base spare held fuel t cs = some x → ∃ a, d.K w a cs ∧ ok a ∧ m a ≤ uptoBulk x.1

section
variable {H : Type} {enc : TypeId × Value → H} {P : Program} {w : World} {base : Nat} {spare : Nat → Bool} {held : Bool}
theorem string {t : TypeId} (ht : P.underlying t = some .string) (hc : P.cellsOf t = 1) : OpensM enc P w base spare held Kd.string t (fun s => s.size ≤ maxLen) (fun s => s.size + 1) :=
  ⟨hc, fun fuel cs x h => by
    obtain ⟨s, rfl, rfl, hs⟩ := DataW.trod_string ht h
    exact ⟨s, rfl, hs, by simp [uptoBulk]⟩⟩
theorem bool {t : TypeId} (ht : P.underlying t = some .bool) (hc : P.cellsOf t = 1) : OpensM enc P w base spare held Kd.bool t (fun _ => True) (fun _ => 1) :=
  ⟨hc, fun fuel cs x h => by
    obtain ⟨s, rfl, rfl⟩ := DataW.trod_bool ht h
    exact ⟨s, rfl, trivial, by simp [uptoBulk]⟩⟩
theorem int {t : TypeId} {k : IntKind} (ht : P.underlying t = some (.int k)) (hc : P.cellsOf t = 1) : OpensM enc P w base spare held (Kd.int k) t (fun n => (Lit.int k n).wf = true) (fun _ => 1) :=
  ⟨hc, fun fuel cs x h => by
    obtain ⟨s, rfl, rfl, hs⟩ := DataW.trod_int ht h
    exact ⟨s, rfl, hs, by simp [uptoBulk]⟩⟩
theorem bulkAll_range {D : Nat → DataW H} : ∀ (n : Nat), uptoBulkAll ((List.range n).map D) = ((List.range n).map fun i => uptoBulk (D i)).sum := by
  intro n
  have h : ∀ l : List (DataW H), uptoBulkAll l = (l.map uptoBulk).sum := by
    intro l
    induction l with
    | nil => rfl
    | cons d r ih => rw [uptoBulkAll, ih, List.map_cons, List.sum_cons]
  rw [h, List.map_map]; rfl
def measL {α : Type} (m : α → Nat) (xs : List α) : Nat := (xs.map m).sum + 1
theorem sum_le_range {α : Type} {m : α → Nat} {g : Nat → Nat} : ∀ (xs : List α), (∀ i a, xs[i]? = some a → m a ≤ g i) → (xs.map m).sum ≤ ((List.range xs.length).map g).sum := by
  intro xs
  induction xs generalizing g with
  | nil => intro _; simp
  | cons x xs ih =>
    intro h
    have h0 := h 0 x rfl
    have h1 := ih (g := fun i => g (i + 1)) (fun i a ha => h (i + 1) a (by simpa using ha))
    rw [List.map_cons, List.sum_cons, List.length_cons, List.range_succ_eq_map, List.map_cons, List.sum_cons, List.map_map]
    have : ((List.range xs.length).map fun i => g (i + 1)).sum = ((List.range xs.length).map (g ∘ Nat.succ)).sum := rfl
    omega
theorem slice {α : Type} {d : Kd α} {t e : TypeId} {ok : α → Prop} {m : α → Nat} (h : OpensM enc P w base spare held d e ok m) (ht : P.underlying t = some (.slice e)) (hc : P.cellsOf t = 1) :
    OpensM enc P w base spare held (Kd.slice e d) t (fun xs => xs.length ≤ maxLen ∧ ∀ x ∈ xs, ok x) (measL m) := by
  refine ⟨hc, fun fuel cs x hx => ?_⟩
  rcases open_slice ht hx with ⟨rfl, rfl⟩ | ⟨a, len, cap, m', n, D, Pl, rfl, _, hl, hm, hmm, rfl, hi⟩
  · exact ⟨[], ⟨none, 0, rfl, Nat.le_refl _, Kd.C_nil _ _⟩, ⟨by simp, by simp⟩, by simp [measL, uptoBulk]⟩
  · have hlm : len ≤ m' := by rw [hmm]; split <;> omega
    obtain ⟨xs, hxl, hxs⟩ := list_of (p := fun i b => ∃ c, c.length = d.sz ∧ d.K w b c ∧ ok b ∧ m b ≤ uptoBulk (D i) ∧ ∀ j u, c[j]? = some u → w.cell? (a.add (i * d.sz + j)) = some u) len (fun i hlt => by
      obtain ⟨cs', h1, h2⟩ := hi i (by omega)
      obtain ⟨b, hK, hok, hme⟩ := h.opens _ _ _ h2
      obtain ⟨_, hlen, hcell⟩ := World.cells?_some h1
      refine ⟨b, cs', by rw [hlen, h.cells], hK, hok, hme, fun j u hu => ?_⟩
      have hj := (List.getElem?_eq_some_iff.1 hu).1
      rw [← hu, ← hcell j (by omega), h.cells, Addr.add_add])
    subst hxl
    refine ⟨xs, ⟨some a, cap, rfl, hl, rfl, by unfold maxLen at hm; omega, fun _ => ⟨a, rfl, fun j p hp => ?_⟩⟩, ⟨by omega, fun y hy => ?_⟩, ?_⟩
    · obtain ⟨c, h1, h2, _, _, h4⟩ := hxs j p hp
      exact ⟨c, h1, h2, h4⟩
    · obtain ⟨j, hj⟩ := List.mem_iff_getElem?.1 hy
      obtain ⟨c, _, _, h3, _⟩ := hxs j y hj
      exact h3
    · have := sum_le_range (g := fun i => uptoBulk (D i)) xs (fun i b hb => by obtain ⟨c, _, _, _, h4, _⟩ := hxs i b hb; exact h4)
      rw [uptoBulk, bulkAll_range]
      unfold measL
      omega
/-- A parameter that is a row. -/
theorem param {α : Type} {d : Kd α} {t e : TypeId} {ok : α → Prop} {m : α → Nat} (h : OpensM enc P w base spare held d e ok m) (ht : P.underlying t = some (.slice e)) (hc : P.cellsOf t = 1) {a : Option Addr} {len cap : Nat} {D : DataW H} {ps : List MemPlace}
    (hd : DataW.Trod enc P w base spare held t (.slice a len cap) D ps) : ∃ xs : List α, len = xs.length ∧ xs.length ≤ cap ∧ d.C w a xs.length xs ∧ (xs.length ≤ maxLen ∧ ∀ x ∈ xs, ok x) ∧ measL m xs ≤ uptoBulk D := by
  obtain ⟨fuel, hf⟩ := hd
  obtain ⟨xs, ⟨A, c, he, hcap, hC⟩, hl, hm⟩ := (slice h ht hc).opens _ _ _ hf
  have he' : [Value.slice a len cap] = [.slice A xs.length c] := he
  simp only [List.cons.injEq, Value.slice.injEq, and_true] at he'
  obtain ⟨rfl, rfl, rfl⟩ := he'
  exact ⟨xs, rfl, hcap, hC, hl, hm⟩
theorem small_mem {ds : List (DataW H)} (h : uptoSmall H ds = true) {d : DataW H} (hd : d ∈ ds) : uptoBulk d ≤ 1048576 := by
  have h1 : uptoBulkAll ds ≤ 1048576 := of_decide_eq_true h
  have h2 : ∀ l : List (DataW H), d ∈ l → uptoBulk d ≤ uptoBulkAll l := by
    intro l
    induction l with
    | nil => intro h; simp at h
    | cons x r ih =>
      intro h
      rw [uptoBulkAll]
      rcases List.mem_cons.1 h with rfl | h
      · omega
      · have := ih h; omega
  exact Nat.le_trans (h2 ds hd) h1
end
end Go.Proofs.Ytaofommgdgmncaa.Bulk
