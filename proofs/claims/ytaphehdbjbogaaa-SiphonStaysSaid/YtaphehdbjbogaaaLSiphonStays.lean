/- A siphon without tokens gets none, and a marked trap keeps some. -/
import Derived.Test.YtaphehdbjbogaaaQSiphonStays0
import Derived.Test.YtaphehdbjbogaaaQSiphonStays1
import Derived.Test.YtaphehdbjbogaaaQSiphonStays2
import Derived.Test.YtaphehdbjbogaaaQSiphonStays3
import Derived.Test.YtaphehdbjbogaaaQSiphonStays4
import Derived.Test.YtaphehdbjbogaaaQSiphonStays5
import Derived.Test.YtaphehdbjbogaaaBSiphonStays
import Derived.Test.YtaphehdbjbogaaaVSiphonStays
import Derived.Deep.Slices
import Derived.ChangeArms
/- General lemmas of this seat's proofs, in one text. -/
/- What the references' Name answers: the same of bytes as Names.nameB. -/
namespace Go.Proofs.Ytaphehdbjbogaaa.RName
open Go.RowKit Go.Proofs.Ytaphehdbjbogaaa.Pr Go.Proofs.Ytaphehdbjbogaaa.Evs Go.Proofs.Ytaphehdbjbogaaa.Names Go.Proofs.YtaphehdbjbogaaaW.PrintWords Go.Proofs.YtaphehdbjbogaaaW.PrintLast Go.Proofs.YtaphehdbjbogaaaW.PrintMore
set_option linter.unusedVariables false
set_option linter.unusedSimpArgs false

theorem bt_byte {s : ByteArray} {i : Nat} (h : i < s.size) : bt s (i : Int) = (byteAt s i : Int) := by
  rw [byteAt_get s i h]
  simp [bt, h]
set_option maxHeartbeats 2000000 in
theorem name_l0 (s : ByteArray) (h1 : 1 ≤ s.size) (h16 : s.size ≤ 16) : ∀ (d i : Nat), i ≤ s.size → s.size - i = d → (∀ j, j < i → okB j (byteAt s j) = true) → Ev (fun k => petrinetref09_Name.l0 k s (i : Int)) (nameB s) := by
  intro d
  induction d with
  | zero =>
    intro i hi hd hok
    obtain rfl : i = s.size := by omega
    refine Ev.succ ?_
    simp only [petrinetref09_Name.l0]
    exact Ev.neg (by omega) (Ev.val (nameB_true h1 h16 hok).symm)
  | succ d ih =>
    intro i hi hd hok
    have hlt : i < s.size := by omega
    have hb := bt_byte hlt
    obtain ⟨c, hc⟩ : ∃ c, byteAt s i = c := ⟨_, rfl⟩
    rw [hc] at hb
    have hgo : okB i c = true → Ev (fun k => petrinetref09_Name.l0 k s (wrap64 ((i : Int) + 1))) (nameB s) := by
      intro hk
      rw [wrap_succ (by omega)]
      refine ih (i + 1) (by omega) (by omega) (fun j hj => ?_)
      by_cases hji : j = i
      · subst hji; rw [hc]; exact hk
      · exact hok j (by omega)
    have hstop : okB i c = false → Ev (fun _ : Nat => some false) (nameB s) := fun hk => Ev.val (nameB_false hlt (by rw [hc]; exact hk)).symm
    refine Ev.succ ?_
    simp only [petrinetref09_Name.l0, hb]
    refine Ev.pos (by omega) (Ev.pos (by omega) ?_)
    repeat' (refine Ev.ite (fun _ => ?_) (fun _ => ?_))
    all_goals first
      | exact hgo (okB_of (by omega))
      | exact hstop (okB_not (by omega))
      | (exfalso; omega)
theorem rname (s : ByteArray) : Ev (fun k => petrinetref09_Name.f k s) (nameB s) := by
  unfold petrinetref09_Name.f
  have hj : ∀ b : Bool, (b = true → nameB s = false) → (b = false → 1 ≤ s.size ∧ s.size ≤ 16) → Ev (fun k => petrinetref09_Name.j0 k s b) (nameB s) := by
    intro b ht hf
    refine Ev.succ ?_
    simp only [petrinetref09_Name.j0]
    refine Ev.ite (fun h => Ev.val (ht h).symm) (fun h => ?_)
    obtain ⟨h1, h2⟩ := hf (by simpa using h)
    exact name_l0 s h1 h2 _ 0 (by omega) rfl (fun j hj => by omega)
  refine Ev.ite (fun h => hj true (fun _ => ?_) (fun h => by cases h)) (fun h => hj _ (fun h2 => ?_) (fun h2 => ?_))
  · unfold nameB; rw [decide_eq_false (show ¬ 1 ≤ s.size by omega)]; rfl
  · have h3 := of_decide_eq_true h2
    unfold nameB; rw [decide_eq_false (show ¬ s.size ≤ 16 by omega)]; simp
  · have h3 := of_decide_eq_false h2
    omega
end Go.Proofs.Ytaphehdbjbogaaa.RName

/- What the functions of package bitset answer, told of vectors of bits. -/
namespace Go.Proofs.Ytaphehdbjbogaaa.Sets
open Go.RowKit Go.Proofs.Ytaphehdbjbogaaa.Evs Go.Proofs.Ytaphehdbjbogaaa.Pr Go.Proofs.Ytaphehdbjbogaaa.Bits Go.Proofs.YtaphehdbjbogaaaW.PrintWords Go.Proofs.YtaphehdbjbogaaaW.PrintLast Go.Proofs.YtaphehdbjbogaaaW.PrintMore
set_option linter.unusedVariables false
set_option linter.unusedSimpArgs false


theorem has_U (a : BitVec 64) (i : Int) : bitset_Has.f (U a) i = some (decide (0 ≤ i) && a.getLsbD i.toNat) := by
  unfold bitset_Has.f
  by_cases h0 : 0 ≤ i
  · rw [if_pos h0]
    by_cases h1 : i < 64
    · obtain ⟨n, rfl⟩ := Int.eq_ofNat_of_zero_le h0
      rw [if_pos h1, wrap_idx h0 h1, if_pos h0, shr_at (by omega), bit_at]
      simp
    · rw [if_neg h1, BitVec.getLsbD_of_ge _ _ (by omega)]
      simp
  · rw [if_neg h0]; simp [h0]
def withB (a : BitVec 64) (i : Int) : BitVec 64 := if i < 0 then a else a ||| tp i.toNat
def withoutB (a : BitVec 64) (i : Int) : BitVec 64 := if i < 0 then a else a &&& ~~~ tp i.toNat
theorem tp_big {i : Nat} (h : 64 ≤ i) : tp i = 0#64 := by
  apply ext_bit
  intro j hj
  rw [tp_bit]
  simp
  omega
theorem with_U (a : BitVec 64) (i : Int) : bitset_With.f (U a) i = some (U (withB a i)) := by
  unfold bitset_With.f withB
  by_cases h0 : i < 0
  · rw [if_pos h0, if_pos h0]
  · rw [if_neg h0, if_neg h0]
    obtain ⟨n, rfl⟩ := Int.eq_ofNat_of_zero_le (show 0 ≤ i by omega)
    by_cases h1 : (n : Int) > 63
    · rw [if_pos h1, tp_big (by omega)]; simp
    · rw [if_neg h1, wrap_idx (by omega) (by omega), if_pos (by omega), shl_one (by omega), bits_or]; simp
/-- The numbers below k. -/
def allTo : Nat → BitVec 64
  | 0 => 0#64
  | k + 1 => allTo k ||| tp k
theorem all_l0 (n : Int) : ∀ (d i : Nat), i ≤ 64 → (i : Int) ≤ max 0 n → (min n.toNat 64) - i = d → Ev (fun k => bitset_All.l0 k n (U (allTo i)) (i : Int)) (U (allTo (min n.toNat 64))) := by
  intro d
  induction d with
  | zero =>
    intro i h64 hi hd
    refine Ev.succ ?_
    simp only [bitset_All.l0]
    have e : min n.toNat 64 = i := by omega
    rw [e]
    refine Ev.same (funext fun k => ?_)
    by_cases h : (i : Int) < n
    · rw [if_pos h, if_neg (by omega)]
    · rw [if_neg h]
  | succ d ih =>
    intro i h64 hi hd
    refine Ev.succ ?_
    simp only [bitset_All.l0]
    have h2 := ih (i + 1) (by omega) (by omega) (by omega)
    refine Ev.congr (fun k => ?_) h2
    have hw : wrap64 ((i : Int) + 1) = ((i + 1 : Nat) : Int) := by unfold wrap64; omega
    rw [if_pos (by omega), if_pos (by omega), wrap_idx (by omega) (by omega), if_pos (by omega), shl_one (by omega), bits_or, hw]
    rfl
theorem all_U (n : Int) : Ev (fun k => bitset_All.f k n) (U (allTo (min n.toNat 64))) := by
  have := all_l0 n _ 0 (by omega) (by omega) rfl
  exact this
end Go.Proofs.Ytaphehdbjbogaaa.Sets

/- What the functions of the reference of bitset answer, told of vectors of bits. -/
namespace Go.Proofs.Ytaphehdbjbogaaa.Refs
open Go.RowKit Go.Proofs.Ytaphehdbjbogaaa.Evs Go.Proofs.Ytaphehdbjbogaaa.Pr Go.Proofs.Ytaphehdbjbogaaa.Bits Go.Proofs.Ytaphehdbjbogaaa.Sets Go.Proofs.YtaphehdbjbogaaaW.PrintWords Go.Proofs.YtaphehdbjbogaaaW.PrintLast Go.Proofs.YtaphehdbjbogaaaW.PrintMore
set_option linter.unusedVariables false
set_option linter.unusedSimpArgs false

theorem tp_double {i : Nat} (h : i + 1 < 64) : IntKind.u64.wrap (U (tp i) * 2) = U (tp (i + 1)) := by
  rw [U_tp (by omega), U_tp h, IntKind.wrap_u64, Int.pow_succ]
  have h1 : (2 : Int) ^ (i + 1) < 2 ^ 64 := by
    have : 2 ^ (i + 1) < 2 ^ 64 := Nat.pow_lt_pow_right (by decide) h
    have := (Int.ofNat_lt).2 this
    simpa using this
  have h0 : (0 : Int) < 2 ^ i := Int.pow_pos (by decide)
  rw [Int.pow_succ] at h1
  omega
theorem bit_l0 (n : Nat) (hn : n < 64) : ∀ (d i : Nat), i ≤ n → n - i = d → Ev (fun k => petrinetref06_bit.l0 k (n : Int) (U (tp i)) (i : Int)) (U (tp n)) := by
  intro d
  induction d with
  | zero =>
    intro i hi hd
    obtain rfl : i = n := by omega
    refine Ev.succ ?_
    simp only [petrinetref06_bit.l0]
    exact Ev.same (funext fun k => by rw [if_neg (by omega)])
  | succ d ih =>
    intro i hi hd
    refine Ev.succ ?_
    simp only [petrinetref06_bit.l0]
    refine Ev.congr (fun k => ?_) (ih (i + 1) (by omega) (by omega))
    rw [if_pos (by omega), tp_double (by omega), wrap_succ (by omega)]
theorem tp_zero : U (tp 0) = 1 := by rw [U_tp (by decide)]; rfl
theorem rbit {n : Nat} (hn : n < 64) : Ev (fun k => petrinetref06_bit.f k (n : Int)) (U (tp n)) := by
  have h := bit_l0 n hn _ 0 (by omega) rfl
  rw [tp_zero] at h
  exact h
theorem rhas (a : BitVec 64) (i : Int) : Ev (fun k => petrinetref06_Has.f k (U a) i) (decide (0 ≤ i) && a.getLsbD i.toNat) := by
  unfold petrinetref06_Has.f
  by_cases h0 : 0 ≤ i
  · by_cases h1 : i < 64
    · obtain ⟨n, rfl⟩ := Int.eq_ofNat_of_zero_le h0
      simp only [ge_iff_le, h0, h1, if_true]
      refine Ev.bind (rbit (by omega)) ?_
      have hne : ¬ U (tp n) = 0 := by
        rw [U_tp (by omega)]
        exact Int.ne_of_gt (Int.pow_pos (by decide))
      refine Ev.same (funext fun k => ?_)
      rw [if_neg hne]
      congr 1
      have e1 : Int.tdiv (U a) (U (tp n)) = U a / 2 ^ n := by
        rw [Int.tdiv_eq_ediv_of_nonneg (U_nonneg _), U_tp (by omega)]
      have e2 : IntKind.u64.wrap (U a / 2 ^ n) = U a / 2 ^ n := by
        rw [div_U, IntKind.wrap_u64]
        have := U_nonneg (a >>> n); have := U_lt (a >>> n); omega
      rw [e1, e2, Int.tmod_eq_emod_of_nonneg (by rw [div_U]; exact U_nonneg _), div_bit]
      cases hb : a.getLsbD n <;> simp [hb]
    · simp only [ge_iff_le, h0, h1, if_true, if_false]
      rw [BitVec.getLsbD_of_ge _ _ (by omega), Bool.and_false]
      exact Ev.now _
  · simp only [ge_iff_le, h0, if_false]
    exact Ev.same (funext fun k => by simp [h0])
theorem rwith (a : BitVec 64) (i : Int) : Ev (fun k => petrinetref06_With.f k (U a) i) (U (withB a i)) := by
  unfold petrinetref06_With.f withB
  by_cases h0 : i < 0
  · simp only [h0, if_true]; exact Ev.now _
  · obtain ⟨n, rfl⟩ := Int.eq_ofNat_of_zero_le (show 0 ≤ i by omega)
    by_cases h1 : (n : Int) > 63
    · simp only [h0, h1, if_true, if_false]
      rw [tp_big (by omega)]
      exact Ev.same (funext fun k => by simp)
    · simp only [h0, h1, if_false]
      refine Ev.bind (rhas a n) ?_
      cases hb : a.getLsbD n with
      | true =>
        refine Ev.same (funext fun k => ?_)
        simp [hb]
        congr 1
        apply ext_bit
        intro j hj
        rw [BitVec.getLsbD_or, tp_bit]
        by_cases e : n = j
        · subst e; simp [hb]
        · simp [e]
      | false =>
        simp [hb]
        refine Ev.bind (rbit (by omega)) ?_
        refine Ev.same (funext fun k => ?_)
        rw [wrap_add, add_tp hb]
end Go.Proofs.Ytaphehdbjbogaaa.Refs

/- What package bitset's Minimal and Next answer: order, members, the next subset. -/
namespace Go.Proofs.Ytaphehdbjbogaaa.Mins
open Go.RowKit Go.Proofs.Ytaphehdbjbogaaa.Evs Go.Proofs.Ytaphehdbjbogaaa.Pr Go.Proofs.Ytaphehdbjbogaaa.Bits Go.Proofs.Ytaphehdbjbogaaa.Sets Go.Proofs.YtaphehdbjbogaaaW.PrintWords Go.Proofs.YtaphehdbjbogaaaW.PrintLast Go.Proofs.YtaphehdbjbogaaaW.PrintMore
set_option linter.unusedVariables false
set_option linter.unusedSimpArgs false

/-! ### the order -/
/-! ### Minimal -/
/-! ### Next -/
end Go.Proofs.Ytaphehdbjbogaaa.Mins

/- What the reference's Minimal answers. -/
namespace Go.Proofs.Ytaphehdbjbogaaa.RMins
set_option linter.unusedVariables false
set_option linter.unusedSimpArgs false
open Go.RowKit Go.Proofs.Ytaphehdbjbogaaa.Evs Go.Proofs.Ytaphehdbjbogaaa.Pr Go.Proofs.Ytaphehdbjbogaaa.Bits Go.Proofs.Ytaphehdbjbogaaa.Sets Go.Proofs.Ytaphehdbjbogaaa.Mins Go.Proofs.Ytaphehdbjbogaaa.Refs Go.Proofs.YtaphehdbjbogaaaW.PrintWords Go.Proofs.YtaphehdbjbogaaaW.PrintLast Go.Proofs.YtaphehdbjbogaaaW.PrintMore

section
variable (l : List (BitVec 64)) (hl : l.length ≤ 100000)
include hl
end

end Go.Proofs.Ytaphehdbjbogaaa.RMins

/- A datum that is read deep (the statements' reader) told as the walks tell it: rows of rows, texts, numbers. -/
namespace Go.Proofs.Ytaphehdbjbogaaa.Opens
set_option linter.unusedVariables false
open Go.RowKit Go.WideShapes Go.Deep Go.Proofs.YtaphehdbjbogaaaW.PrintWords

/-- What the statements' reader finds at cells of type t is what d tells of some a with ok. -/
structure Opens {α H : Type} (enc : TypeId × Value → H) (P : Program) (w : World) (base : Nat) (spare : Nat → Bool) (held : Bool) (d : Kd α) (t : TypeId) (ok : α → Prop) : Prop where
  cells : P.cellsOf t = d.sz
  opens : ∀ (fuel : Nat) (cs : List Value) (x : DataW H × List MemPlace), DataW.trod enc P w base spare held fuel t cs = some x → ∃ a, d.K w a cs ∧ ok a

section
variable {H : Type} {enc : TypeId × Value → H} {P : Program} {w : World} {base : Nat} {spare : Nat → Bool} {held : Bool}
theorem string {t : TypeId} (ht : P.underlying t = some .string) (hc : P.cellsOf t = 1) : Opens enc P w base spare held Kd.string t (fun s => s.size ≤ maxLen) :=
  ⟨hc, fun fuel cs x h => by obtain ⟨s, rfl, _, hs⟩ := DataW.trod_string ht h; exact ⟨s, rfl, hs⟩⟩
theorem bool {t : TypeId} (ht : P.underlying t = some .bool) (hc : P.cellsOf t = 1) : Opens enc P w base spare held Kd.bool t (fun _ => True) :=
  ⟨hc, fun fuel cs x h => by obtain ⟨s, rfl, _⟩ := DataW.trod_bool ht h; exact ⟨s, rfl, trivial⟩⟩
theorem int {t : TypeId} {k : IntKind} (ht : P.underlying t = some (.int k)) (hc : P.cellsOf t = 1) : Opens enc P w base spare held (Kd.int k) t (fun n => (Lit.int k n).wf = true) :=
  ⟨hc, fun fuel cs x h => by obtain ⟨s, rfl, _, hs⟩ := DataW.trod_int ht h; exact ⟨s, rfl, hs⟩⟩
theorem list_of {α : Type} {p : Nat → α → Prop} : ∀ (n : Nat), (∀ i, i < n → ∃ a, p i a) → ∃ xs : List α, xs.length = n ∧ ∀ i a, xs[i]? = some a → p i a
  | 0, _ => ⟨[], rfl, fun i a h => by simp at h⟩
  | n + 1, h => by
    obtain ⟨xs, hl, hx⟩ := list_of n (fun i hi => h i (by omega))
    obtain ⟨a, ha⟩ := h n (by omega)
    refine ⟨xs ++ [a], by simp [hl], fun i b hb => ?_⟩
    by_cases hi : i < xs.length
    · rw [List.getElem?_append_left hi] at hb; exact hx i b hb
    · have hlt := (List.getElem?_eq_some_iff.1 hb).1
      simp only [List.length_append, List.length_cons, List.length_nil] at hlt
      obtain rfl : i = n := by omega
      rw [List.getElem?_append_right (by omega)] at hb
      simp [hl] at hb
      rw [← hb]; exact ha
theorem slice {α : Type} {d : Kd α} {t e : TypeId} {ok : α → Prop} (h : Opens enc P w base spare held d e ok) (ht : P.underlying t = some (.slice e)) (hc : P.cellsOf t = 1) :
    Opens enc P w base spare held (Kd.slice e d) t (fun xs => xs.length ≤ maxLen ∧ ∀ x ∈ xs, ok x) := by
  refine ⟨hc, fun fuel cs x hx => ?_⟩
  rcases open_slice ht hx with ⟨rfl, _⟩ | ⟨a, len, cap, m, n, D, Pl, rfl, _, hl, hm, hmm, _, hi⟩
  · exact ⟨[], ⟨none, 0, rfl, Nat.le_refl _, Kd.C_nil _ _⟩, by simp, by simp⟩
  · have hlm : len ≤ m := by rw [hmm]; split <;> omega
    obtain ⟨xs, hxl, hxs⟩ := list_of (p := fun i b => ∃ c, c.length = d.sz ∧ d.K w b c ∧ ok b ∧ ∀ j u, c[j]? = some u → w.cell? (a.add (i * d.sz + j)) = some u) len (fun i hlt => by
      obtain ⟨cs', h1, h2⟩ := hi i (by omega)
      obtain ⟨b, hK, hok⟩ := h.opens _ _ _ h2
      obtain ⟨_, hlen, hcell⟩ := World.cells?_some h1
      refine ⟨b, cs', by rw [hlen, h.cells], hK, hok, fun j u hu => ?_⟩
      have hj := (List.getElem?_eq_some_iff.1 hu).1
      rw [← hu, ← hcell j (by omega), h.cells, Addr.add_add])
    subst hxl
    refine ⟨xs, ⟨some a, cap, rfl, hl, rfl, by unfold maxLen at hm; omega, fun _ => ⟨a, rfl, fun j p hp => ?_⟩⟩, by omega, fun y hy => ?_⟩
    · obtain ⟨c, h1, h2, _, h4⟩ := hxs j p hp
      exact ⟨c, h1, h2, h4⟩
    · obtain ⟨j, hj⟩ := List.mem_iff_getElem?.1 hy
      obtain ⟨c, _, _, h3, _⟩ := hxs j y hj
      exact h3
/-- A parameter that is a row. -/
theorem param {α : Type} {d : Kd α} {t e : TypeId} {ok : α → Prop} (h : Opens enc P w base spare held d e ok) (ht : P.underlying t = some (.slice e)) (hc : P.cellsOf t = 1) {a : Option Addr} {len cap : Nat} {D : DataW H} {ps : List MemPlace}
    (hd : DataW.Trod enc P w base spare held t (.slice a len cap) D ps) : ∃ xs : List α, len = xs.length ∧ xs.length ≤ cap ∧ d.C w a xs.length xs ∧ xs.length ≤ maxLen ∧ ∀ x ∈ xs, ok x := by
  obtain ⟨fuel, hf⟩ := hd
  obtain ⟨xs, ⟨A, c, he, hcap, hC⟩, hl, hx⟩ := (slice h ht hc).opens _ _ _ hf
  have he' : [Value.slice a len cap] = [.slice A xs.length c] := he
  simp only [List.cons.injEq, Value.slice.injEq, and_true] at he'
  obtain ⟨rfl, rfl, rfl⟩ := he'
  exact ⟨xs, rfl, hcap, hC, hl, hx⟩
/-! ### Structs -/
/-- The fields of a struct, from some place of its cells on. -/
structure OpensL {α H : Type} (enc : TypeId × Value → H) (P : Program) (w : World) (base : Nat) (spare : Nat → Bool) (held : Bool) (d : Kd α) (fs : List Field) (o : Nat) (ok : α → Prop) : Prop where
  opens : ∀ (n : Nat) (cs : List Value), (∀ f ∈ fs, ∃ y, DataW.trod enc P w base spare held n f.type ((cs.drop f.offset).take (P.cellsOf f.type)) = some y) → ∃ a, d.K w a ((cs.drop o).take d.sz) ∧ ok a
theorem one {α : Type} {d : Kd α} {f : Field} {o : Nat} {ok : α → Prop} (h : Opens enc P w base spare held d f.type ok) (ho : f.offset = o) : OpensL enc P w base spare held d [f] o ok :=
  ⟨fun n cs hf => by
    obtain ⟨y, hy⟩ := hf f List.mem_cons_self
    obtain ⟨a, hK, hok⟩ := h.opens _ _ _ hy
    rw [h.cells, ho] at hK
    exact ⟨a, hK, hok⟩⟩
theorem cons {α β : Type} {d1 : Kd α} {d2 : Kd β} {f : Field} {fs : List Field} {o o2 : Nat} {ok1 : α → Prop} {ok2 : β → Prop} (h : Opens enc P w base spare held d1 f.type ok1) (ho : f.offset = o) (ho2 : o + d1.sz = o2) (h2 : OpensL enc P w base spare held d2 fs o2 ok2) :
    OpensL enc P w base spare held (Kd.pair d1 d2) (f :: fs) o (fun a => ok1 a.1 ∧ ok2 a.2) :=
  ⟨fun n cs hf => by
    obtain ⟨y, hy⟩ := hf f List.mem_cons_self
    obtain ⟨a, hK, hok⟩ := h.opens _ _ _ hy
    rw [h.cells, ho] at hK
    obtain ⟨b, hK2, hok2⟩ := h2.opens n cs (fun g hg => hf g (List.mem_cons_of_mem _ hg))
    refine ⟨(a, b), ⟨_, _, ?_, hK, hK2⟩, hok, hok2⟩
    rw [← ho2, ← List.drop_drop]
    exact List.take_add⟩
theorem tuple {α : Type} {d : Kd α} {t : TypeId} {fs : Array Field} {ok : α → Prop} (ht : P.underlying t = some (.struct fs)) (hc : P.cellsOf t = d.sz) (h : OpensL enc P w base spare held d fs.toList 0 ok) : Opens enc P w base spare held d t ok := by
  refine ⟨hc, fun fuel cs x hx => ?_⟩
  obtain ⟨xs, n, rfl, rfl, hl, hlen, hf⟩ := DataW.trod_struct ht hx
  obtain ⟨a, hK, hok⟩ := h.opens n cs (fun f hm => by
    obtain ⟨i, hi⟩ := List.mem_iff_getElem?.1 hm
    have hi' : fs[i]? = some f := by simpa using hi
    have hlt : i < xs.length := by rw [hlen]; exact (Array.getElem?_eq_some_iff.1 hi').1
    exact ⟨xs[i], by rw [hf i f hi', List.getElem?_eq_getElem hlt]⟩)
  rw [List.drop_zero, List.take_of_length_le (by rw [hl, hc]; exact Nat.le_refl _)] at hK
  exact ⟨a, hK, hok⟩
theorem struct {α β : Type} {d : Kd α} {t : TypeId} {fs : Array Field} {ok : α → Prop} {f : β → α} (g : α → β) (hg : ∀ a, f (g a) = a) (ht : P.underlying t = some (.struct fs)) (hc : P.cellsOf t = d.sz) (h : OpensL enc P w base spare held d fs.toList 0 ok) :
    Opens enc P w base spare held (Kd.iso d f) t (fun b => ok (f b)) := by
  refine ⟨hc, fun fuel cs x hx => ?_⟩
  obtain ⟨a, hK, hok⟩ := (tuple ht hc h).opens fuel cs x hx
  exact ⟨g a, by show d.K w (f (g a)) cs; rw [hg]; exact hK, by rw [hg]; exact hok⟩
/-- A parameter that is a struct. -/
theorem value {α : Type} {d : Kd α} {t : TypeId} {ok : α → Prop} (h : Opens enc P w base spare held d t ok) {cs : Array Value} {D : DataW H} {ps : List MemPlace}
    (hd : DataW.Trod enc P w base spare held t (.agg cs) D ps) : ∃ a, d.K w a cs.toList ∧ ok a := by
  obtain ⟨fuel, hf⟩ := hd
  obtain ⟨a, hK, hok⟩ := h.opens _ _ _ hf
  exact ⟨a, by simpa [Value.cells] using hK, hok⟩
end
end Go.Proofs.Ytaphehdbjbogaaa.Opens

/- Nets: what the checks of program and reference answer. -/
namespace Go.Proofs.Ytaphehdbjbogaaa.Nets
open Go.RowKit Go.Proofs.Ytaphehdbjbogaaa.Pr Go.Proofs.Ytaphehdbjbogaaa.Evs Go.Proofs.Ytaphehdbjbogaaa.Names Go.Proofs.Ytaphehdbjbogaaa.RName Go.Proofs.Ytaphehdbjbogaaa.Bits Go.Proofs.Ytaphehdbjbogaaa.Sets Go.Proofs.Ytaphehdbjbogaaa.Refs Go.Proofs.YtaphehdbjbogaaaW.PrintWords Go.Proofs.YtaphehdbjbogaaaW.PrintLast Go.Proofs.YtaphehdbjbogaaaW.PrintMore
set_option linter.unusedVariables false
set_option linter.unusedSimpArgs false

abbrev Pl := S56
abbrev Ar := S58
abbrev Tr := S40
theorem rdP {l : List Pl} {i : Nat} : rd_T56 l (i : Int) = l.getD i z56 := by simp [rd_T56]
theorem rdA {l : List Ar} {i : Nat} : rd_T58 l (i : Int) = l.getD i z58 := by simp [rd_T58]
theorem rdT {l : List Tr} {i : Nat} : rd_T40 l (i : Int) = l.getD i z40 := by simp [rd_T40]
def plE (p : Pl) : Int := if p.f2 < 0 ∨ 1048576 < p.f2 then 1 else if p.f1 < 0 ∨ 1048576 < p.f1 then 10 else if p.f2 = 0 then 0 else if p.f2 < p.f1 then 10 else 0
def arcE (np : Int) (l : List Ar) (i : Nat) : Int := if (l.getD i z58).f0 < 0 ∨ np ≤ (l.getD i z58).f0 then 7 else if 0 < i ∧ (l.getD i z58).f0 ≤ (l.getD (i - 1) z58).f0 then 8 else if (l.getD i z58).f1 < 1 ∨ 99 < (l.getD i z58).f1 then 9 else 0
def arcsE (np : Int) (l : List Ar) : Nat → Nat → Int
  | 0, _ => 0
  | d + 1, i => if arcE np l i = 0 then arcsE np l d (i + 1) else arcE np l i
theorem arcsE_go {np : Int} {l : List Ar} {d i : Nat} (h : arcE np l i = 0) : arcsE np l (d + 1) i = arcsE np l d (i + 1) := by rw [arcsE, if_pos h]
theorem arcsE_no {np : Int} {l : List Ar} {d i : Nat} {e : Int} (h : arcE np l i = e) (he : ¬ e = 0) : arcsE np l (d + 1) i = e := by rw [arcsE, h, if_neg he]
theorem arcE_7 {np : Int} {l : List Ar} {i : Nat} (h : (l.getD i z58).f0 < 0 ∨ np ≤ (l.getD i z58).f0) : arcE np l i = 7 := by rw [arcE, if_pos h]
theorem arcE_8 {np : Int} {l : List Ar} {i : Nat} (h : ¬ ((l.getD i z58).f0 < 0 ∨ np ≤ (l.getD i z58).f0)) (h2 : 0 < i ∧ (l.getD i z58).f0 ≤ (l.getD (i - 1) z58).f0) : arcE np l i = 8 := by rw [arcE, if_neg h, if_pos h2]
theorem arcE_9 {np : Int} {l : List Ar} {i : Nat} (h : ¬ ((l.getD i z58).f0 < 0 ∨ np ≤ (l.getD i z58).f0)) (h2 : ¬ (0 < i ∧ (l.getD i z58).f0 ≤ (l.getD (i - 1) z58).f0)) (h3 : (l.getD i z58).f1 < 1 ∨ 99 < (l.getD i z58).f1) : arcE np l i = 9 := by rw [arcE, if_neg h, if_neg h2, if_pos h3]
theorem arcE_0 {np : Int} {l : List Ar} {i : Nat} (h : ¬ ((l.getD i z58).f0 < 0 ∨ np ≤ (l.getD i z58).f0)) (h2 : ¬ (0 < i ∧ (l.getD i z58).f0 ≤ (l.getD (i - 1) z58).f0)) (h3 : ¬ ((l.getD i z58).f1 < 1 ∨ 99 < (l.getD i z58).f1)) : arcE np l i = 0 := by rw [arcE, if_neg h, if_neg h2, if_neg h3]
def arcsV (np : Int) (l : List Ar) : Int := arcsE np l l.length 0
def trE (np : Int) (t : Tr) : Int := if t.f4 < 0 ∨ 9 < t.f4 then 1 else if arcsV np t.f1 = 0 then (if arcsV np t.f2 = 0 then arcsV np t.f3 else arcsV np t.f2) else arcsV np t.f1
def nmE (names : List ByteArray) (s : ByteArray) : Int := (addB names s).1
theorem addB_ok {names : List ByteArray} {s : ByteArray} (h : nmE names s = 0) : (addB names s).2 = names ++ [s] := by
  unfold nmE at h
  unfold addB at h ⊢
  by_cases h1 : nameB s = true
  · by_cases h2 : (names.any fun y => y.toList == s.toList) = true
    · rw [if_pos h1, if_pos h2] at h; cases h
    · rw [if_pos h1, if_neg h2]
  · rw [if_neg h1] at h; cases h
theorem plE_1 {p : Pl} (h : p.f2 < 0 ∨ 1048576 < p.f2) : plE p = 1 := by unfold plE; rw [if_pos h]
theorem plE_2 {p : Pl} (h : ¬ (p.f2 < 0 ∨ 1048576 < p.f2)) (h1 : p.f1 < 0 ∨ 1048576 < p.f1) : plE p = 10 := by unfold plE; rw [if_neg h, if_pos h1]
theorem plE_3 {p : Pl} (h : ¬ (p.f2 < 0 ∨ 1048576 < p.f2)) (h1 : ¬ (p.f1 < 0 ∨ 1048576 < p.f1)) (h2 : p.f2 = 0) : plE p = 0 := by unfold plE; rw [if_neg h, if_neg h1, if_pos h2]
theorem plE_4 {p : Pl} (h : ¬ (p.f2 < 0 ∨ 1048576 < p.f2)) (h1 : ¬ (p.f1 < 0 ∨ 1048576 < p.f1)) (h2 : ¬ p.f2 = 0) (h3 : p.f2 < p.f1) : plE p = 10 := by unfold plE; rw [if_neg h, if_neg h1, if_neg h2, if_pos h3]
theorem plE_5 {p : Pl} (h : ¬ (p.f2 < 0 ∨ 1048576 < p.f2)) (h1 : ¬ (p.f1 < 0 ∨ 1048576 < p.f1)) (h2 : ¬ p.f2 = 0) (h3 : ¬ p.f2 < p.f1) : plE p = 0 := by unfold plE; rw [if_neg h, if_neg h1, if_neg h2, if_neg h3]
def chkPV : List Pl → Nat → List ByteArray → (Int × Int) ⊕ List ByteArray
  | [], _, names => .inr names
  | p :: ps, i, names => if nmE names p.f0 = 0 then (if plE p = 0 then chkPV ps (i + 1) (names ++ [p.f0]) else .inl (plE p, (i : Int))) else .inl (nmE names p.f0, (i : Int))
def chkTV (np : Nat) : List Tr → Nat → List ByteArray → Int × Int
  | [], _, names => (0, 0)
  | t :: ts, i, names => if nmE names t.f0 = 0 then (if trE np t = 0 then chkTV np ts (i + 1) (names ++ [t.f0]) else (trE np t, ((np + i : Nat) : Int))) else (nmE names t.f0, ((np + i : Nat) : Int))
def checkV (a : ByteArray) (l1 : List Pl) (l2 : List Tr) : Int × Int :=
  if nameB a then (if l1.length < 1 ∨ 24 < l1.length ∨ 24 < l2.length then (2, 0) else match chkPV l1 0 [] with | .inl e => e | .inr names => chkTV l1.length l2 0 names) else (5, 0)
def Short (l2 : List Tr) : Prop := ∀ t ∈ l2, t.f1.length ≤ 26 ∧ t.f2.length ≤ 26 ∧ t.f3.length ≤ 26

/-! ### the program's check -/
theorem mValid1 (x : Int) : Ev (fun k => marking_Valid.f k [x] 1) (decide (0 ≤ x ∧ x ≤ 1048576)) := by
  unfold marking_Valid.f
  refine Ev.pos (by simp) ?_
  refine Ev.succ ?_
  simp only [marking_Valid.l0]
  refine Ev.pos (by simp) (Ev.pos (by omega) (Ev.pos (by simp) ?_))
  rw [show rd [x] 0 = x from rfl]
  refine Ev.ite (fun h => Ev.val (by simp; omega)) (fun h => Ev.ite (fun h2 => Ev.val (by simp; omega)) (fun h2 => ?_))
  refine Ev.succ ?_
  simp only [marking_Valid.l0]
  exact Ev.neg (by rw [show wrap64 ((0 : Int) + 1) = 1 by unfold wrap64; omega]; simp) (Ev.val (by simp; omega))
theorem pPlace (p : Pl) : Ev (fun k => net_checkPlace.f k p.f0 p.f1 p.f2) (plE p) := by
  unfold net_checkPlace.f
  have hj : ∀ b : Bool, b = decide (p.f2 < 0 ∨ 1048576 < p.f2) → Ev (fun k => net_checkPlace.j0 k b p.f0 p.f1 p.f2) (plE p) := by
    intro b hb
    refine Ev.succ ?_
    simp only [net_checkPlace.j0]
    refine Ev.ite (fun h => Ev.val ?_) (fun h => ?_)
    · rw [hb] at h; exact (plE_1 (of_decide_eq_true h)).symm
    · have hn : ¬ (p.f2 < 0 ∨ 1048576 < p.f2) := by rw [hb] at h; intro hh; exact h (decide_eq_true hh)
      refine Ev.bind (mValid1 _) ?_
      by_cases h1 : 0 ≤ p.f1 ∧ p.f1 ≤ 1048576
      · have hn1 : ¬ (p.f1 < 0 ∨ 1048576 < p.f1) := by omega
        exact Ev.pos (decide_eq_true h1) (Ev.ite (fun h2 => Ev.val (plE_3 hn hn1 h2).symm) (fun h2 => Ev.ite (fun h3 => Ev.val (plE_4 hn hn1 h2 h3).symm) (fun h3 => Ev.val (plE_5 hn hn1 h2 h3).symm)))
      · exact Ev.neg (by simpa using h1) (Ev.val (plE_2 hn (by omega)).symm)
  refine Ev.ite (fun h => hj _ ?_) (fun h => hj _ ?_)
  · exact (decide_eq_true (.inl h)).symm
  · exact decide_eq_decide.2 (by omega)
theorem pArcs_l0 (np : Int) (l : List Ar) (hl : l.length ≤ 1000) : ∀ (d i : Nat), i ≤ l.length → l.length - i = d → Ev (fun k => net_checkArcs.l0 k l np l (l.length : Int) (i : Int)) (arcsE np l d i) := by
  intro d
  induction d with
  | zero =>
    intro i hi hd
    refine Ev.succ ?_
    simp only [net_checkArcs.l0]
    exact Ev.neg (by omega) (Ev.now _)
  | succ d ih =>
    intro i hi hd
    have hih := ih (i + 1) (by omega) (by omega)
    refine Ev.succ ?_
    simp only [net_checkArcs.l0, rdA]
    have hj2 : ∀ b : Bool, ¬ ((l.getD i z58).f0 < 0 ∨ np ≤ (l.getD i z58).f0) → b = decide (0 < i ∧ (l.getD i z58).f0 ≤ (l.getD (i - 1) z58).f0) → Ev (fun k => net_checkArcs.j2 k l np l (l.length : Int) (i : Int) b (l.getD i z58).f0 (l.getD i z58).f1) (arcsE np l (d + 1) i) := by
      intro b h7 hb
      refine Ev.succ ?_
      simp only [net_checkArcs.j2]
      refine Ev.ite (fun h => ?_) (fun h => ?_)
      · rw [hb] at h
        exact Ev.val (arcsE_no (arcE_8 h7 (of_decide_eq_true h)) (by decide)).symm
      · have h8 : ¬ (0 < i ∧ (l.getD i z58).f0 ≤ (l.getD (i - 1) z58).f0) := by rw [hb] at h; intro hh; exact h (decide_eq_true hh)
        refine (Ev.ite (fun h2 => Ev.val (arcsE_no (arcE_9 h7 h8 (.inl h2)) (by decide)).symm) (fun h2 => Ev.ite (fun h3 => Ev.val (arcsE_no (arcE_9 h7 h8 (.inr h3)) (by decide)).symm) (fun h3 => ?_)))
        rw [arcsE_go (arcE_0 h7 h8 (by omega)), wrap_succ (by omega)]
        exact hih
    have hj1 : ∀ b : Bool, b = decide ((l.getD i z58).f0 < 0 ∨ np ≤ (l.getD i z58).f0) → Ev (fun k => net_checkArcs.j1 k l np (i : Int) l (l.length : Int) (i : Int) b (l.getD i z58).f0 (l.getD i z58).f1) (arcsE np l (d + 1) i) := by
      intro b hb
      refine Ev.succ ?_
      simp only [net_checkArcs.j1]
      refine Ev.ite (fun h => ?_) (fun h => ?_)
      · rw [hb] at h
        exact Ev.val (arcsE_no (arcE_7 (of_decide_eq_true h)) (by decide)).symm
      · rw [hb] at h
        have h7 : ¬ ((l.getD i z58).f0 < 0 ∨ np ≤ (l.getD i z58).f0) := fun hh => h (decide_eq_true hh)
        refine Ev.ite (fun h2 => ?_) (fun h2 => hj2 _ h7 ?_)
        · rw [wrap_pred (by omega) (by omega)]
          refine Ev.pos (by omega) (Ev.pos (by omega) ?_)
          rw [rdA]
          exact hj2 _ h7 (decide_eq_decide.2 (by omega))
        · exact (decide_eq_false (by omega)).symm
    refine Ev.pos (by omega) (Ev.pos (by omega) (Ev.pos (by omega) ?_))
    refine Ev.ite (fun h => hj1 _ ?_) (fun h => hj1 _ ?_)
    · exact (decide_eq_true (.inl h)).symm
    · exact decide_eq_decide.2 (by omega)
theorem pArcs (np : Int) (l : List Ar) (hl : l.length ≤ 1000) : Ev (fun k => net_checkArcs.f k l np) (arcsV np l) := pArcs_l0 np l hl _ 0 (by omega) rfl
theorem pTrans (np : Int) (t : Tr) (h1 : t.f1.length ≤ 1000) (h2 : t.f2.length ≤ 1000) (h3 : t.f3.length ≤ 1000) : Ev (fun k => net_checkTrans.f k t.f0 t.f1 t.f2 t.f3 t.f4 np) (trE np t) := by
  unfold net_checkTrans.f
  have hj : ∀ b : Bool, b = decide (t.f4 < 0 ∨ 9 < t.f4) → Ev (fun k => net_checkTrans.j0 k np b t.f0 t.f1 t.f2 t.f3 t.f4) (trE np t) := by
    intro b hb
    refine Ev.succ ?_
    simp only [net_checkTrans.j0, Option.bind_some]
    unfold trE
    refine Ev.ite (fun h => Ev.val ?_) (fun h => ?_)
    · rw [hb] at h; rw [if_pos (of_decide_eq_true h)]
    · rw [if_neg (show ¬ (t.f4 < 0 ∨ 9 < t.f4) by rw [hb] at h; intro hh; exact h (decide_eq_true hh))]
      have w1 : wrap64 ((0 : Int) + 1) = 1 := by unfold wrap64; omega
      have w2 : wrap64 ((1 : Int) + 1) = 2 := by unfold wrap64; omega
      have w3 : wrap64 ((2 : Int) + 1) = 3 := by unfold wrap64; omega
      have hn : (([t.f1, t.f2, t.f3] : List (List Ar)).length : Int) = 3 := rfl
      rw [hn]
      refine Ev.succ ?_
      simp only [net_checkTrans.l0, hn, w1]
      refine Ev.pos (by decide) (Ev.pos (by decide) (Ev.pos (by decide) (Ev.bind (a := arcsV np t.f1) (pArcs np t.f1 h1) (Ev.ite (fun e1 => ?_) (fun e1 => Ev.val (by rw [if_neg e1]))))))
      rw [if_pos e1]
      refine Ev.succ ?_
      simp only [net_checkTrans.l0, hn, w2]
      refine Ev.pos (by decide) (Ev.pos (by decide) (Ev.pos (by decide) (Ev.bind (a := arcsV np t.f2) (pArcs np t.f2 h2) (Ev.ite (fun e2 => ?_) (fun e2 => Ev.val (by rw [if_neg e2]))))))
      rw [if_pos e2]
      refine Ev.succ ?_
      simp only [net_checkTrans.l0, hn, w3]
      refine Ev.pos (by decide) (Ev.pos (by decide) (Ev.pos (by decide) (Ev.bind (a := arcsV np t.f3) (pArcs np t.f3 h3) (Ev.ite (fun e3 => ?_) (fun e3 => Ev.now _)))))
      refine Ev.succ ?_
      simp only [net_checkTrans.l0]
      exact Ev.neg (by decide) (Ev.val e3.symm)
  refine Ev.ite (fun h => hj _ ?_) (fun h => hj _ ?_)
  · exact (decide_eq_true (.inl h)).symm
  · exact decide_eq_decide.2 (by omega)
theorem pchkP : ∀ (l : List Pl) (i : Nat) (names : List ByteArray), Ev (fun k => chkP k l i names) (chkPV l i names)
  | [], i, names => Ev.now _
  | p :: ps, i, names => by
    simp only [chkP, chkPV]
    refine Ev.ite (fun h => ?_) (fun h => Ev.val (by rw [if_neg (show ¬ nmE names p.f0 = 0 from h)]; rfl))
    rw [if_pos (show nmE names p.f0 = 0 from h), addB_ok h]
    exact Ev.bind (pPlace p) (Ev.ite (fun e => by rw [if_pos e]; exact pchkP ps _ _) (fun e => Ev.val (by rw [if_neg e])))
theorem pchkT (np : Nat) : ∀ (l : List Tr), Short l → ∀ (i : Nat) (names : List ByteArray), Ev (fun k => chkT k np l i names) (chkTV np l i names)
  | [], _, i, names => Ev.now _
  | t :: ts, hs, i, names => by
    have h0 := hs t (List.mem_cons_self)
    simp only [chkT, chkTV]
    refine Ev.ite (fun h => ?_) (fun h => Ev.val (by rw [if_neg (show ¬ nmE names t.f0 = 0 from h)]; rfl))
    rw [if_pos (show nmE names t.f0 = 0 from h), addB_ok h]
    exact Ev.bind (pTrans np t (by omega) (by omega) (by omega)) (Ev.ite (fun e => by rw [if_pos e]; exact pchkT np ts (fun x hx => hs x (List.mem_cons_of_mem _ hx)) _ _) (fun e => Ev.val (by rw [if_neg e])))
theorem pCheck (a : ByteArray) (l1 : List Pl) (l2 : List Tr) (hs : Short l2) : Ev (fun k => net_Check.f k a l1 l2) (checkV a l1 l2) := by
  unfold net_Check.f checkV
  refine Ev.ite (fun h => ?_) (fun h => Ev.val (by rw [if_neg h]))
  rw [if_pos h]
  refine Ev.ite (fun h2 => Ev.val (by rw [if_pos h2])) (fun h2 => ?_)
  rw [if_neg h2]
  refine Ev.bind (pchkP l1 0 []) ?_
  cases chkPV l1 0 [] with
  | inl e => exact Ev.now _
  | inr names => exact pchkT _ l2 hs 0 names

/-! ### the reference's check -/
theorem rArcs_l0 (a : ByteArray) (l1 : List Pl) (l2 : List Tr) (l : List Ar) (hl : l.length ≤ 1000) : ∀ (d i : Nat), i ≤ l.length → l.length - i = d → Ev (fun k => petrinetref09_arcs.l0 k l (i : Int) a l1 l2) (arcsE l1.length l d i) := by
  intro d
  induction d with
  | zero =>
    intro i hi hd
    refine Ev.succ ?_
    simp only [petrinetref09_arcs.l0]
    exact Ev.neg (by omega) (Ev.now _)
  | succ d ih =>
    intro i hi hd
    have hih := ih (i + 1) (by omega) (by omega)
    refine Ev.succ ?_
    simp only [petrinetref09_arcs.l0, rdA]
    have hj2 : ∀ b : Bool, ¬ ((l.getD i z58).f0 < 0 ∨ (l1.length : Int) ≤ (l.getD i z58).f0) → b = decide (0 < i ∧ (l.getD i z58).f0 ≤ (l.getD (i - 1) z58).f0) → Ev (fun k => petrinetref09_arcs.j2 k l (i : Int) b a l1 l2) (arcsE l1.length l (d + 1) i) := by
      intro b h7 hb
      refine Ev.succ ?_
      simp only [petrinetref09_arcs.j2, rdA]
      refine Ev.ite (fun h => ?_) (fun h => ?_)
      · rw [hb] at h
        exact Ev.val (arcsE_no (arcE_8 h7 (of_decide_eq_true h)) (by decide)).symm
      · have h8 : ¬ (0 < i ∧ (l.getD i z58).f0 ≤ (l.getD (i - 1) z58).f0) := by rw [hb] at h; intro hh; exact h (decide_eq_true hh)
        refine Ev.pos (by omega) (Ev.pos (by omega) (Ev.ite (fun h2 => Ev.val (arcsE_no (arcE_9 h7 h8 (.inl h2)) (by decide)).symm) (fun h2 => Ev.ite (fun h3 => Ev.val (arcsE_no (arcE_9 h7 h8 (.inr h3)) (by decide)).symm) (fun h3 => ?_))))
        rw [arcsE_go (arcE_0 h7 h8 (by omega)), wrap_succ (by omega)]
        exact hih
    have hj1 : ∀ b : Bool, b = decide ((l.getD i z58).f0 < 0 ∨ (l1.length : Int) ≤ (l.getD i z58).f0) → Ev (fun k => petrinetref09_arcs.j1 k l (i : Int) b a l1 l2) (arcsE l1.length l (d + 1) i) := by
      intro b hb
      refine Ev.succ ?_
      simp only [petrinetref09_arcs.j1]
      refine Ev.ite (fun h => ?_) (fun h => ?_)
      · rw [hb] at h
        exact Ev.val (arcsE_no (arcE_7 (of_decide_eq_true h)) (by decide)).symm
      · rw [hb] at h
        have h7 : ¬ ((l.getD i z58).f0 < 0 ∨ (l1.length : Int) ≤ (l.getD i z58).f0) := fun hh => h (decide_eq_true hh)
        refine Ev.ite (fun h2 => ?_) (fun h2 => hj2 _ h7 ?_)
        · rw [wrap_pred (by omega) (by omega)]
          refine Ev.pos (by omega) (Ev.pos (by omega) (Ev.pos (by omega) (Ev.pos (by omega) ?_)))
          rw [rdA, rdA]
          exact hj2 _ h7 (decide_eq_decide.2 (by omega))
        · exact (decide_eq_false (by omega)).symm
    refine Ev.pos (by omega) (Ev.pos (by omega) ?_)
    refine Ev.ite (fun h => hj1 _ ?_) (fun h => hj1 _ ?_)
    · exact (decide_eq_true (.inl h)).symm
    · exact decide_eq_decide.2 (by omega)
theorem rArcs (a : ByteArray) (l1 : List Pl) (l2 : List Tr) (l : List Ar) (hl : l.length ≤ 1000) : Ev (fun k => petrinetref09_arcs.f k a l1 l2 l) (arcsV l1.length l) := rArcs_l0 a l1 l2 l hl _ 0 (by omega) rfl
theorem nmE_names {names : List ByteArray} {s : ByteArray} : nmE names s = if nameB s then (if (names.any fun y => y.toList == s.toList) then 6 else 0) else 5 := by
  unfold nmE addB
  split
  · split <;> rfl
  · rfl
theorem namesP (l1 : List Pl) (i : Nat) (s : ByteArray) : (((l1.take i).map fun p => p.f0).any fun y => y.toList == s.toList) = ((l1.take i).any fun y => y.f0.toList == s.toList) := by
  rw [List.any_map]
  rfl
theorem rPlace (a : ByteArray) (l1 : List Pl) (l2 : List Tr) (i : Nat) (hi : i < l1.length) (hl : l1.length ≤ 1000) : Ev (fun k => petrinetref09_place.f k a l1 l2 (i : Int)) (if nmE ((l1.take i).map fun p => p.f0) (l1.getD i z56).f0 = 0 then plE (l1.getD i z56) else nmE ((l1.take i).map fun p => p.f0) (l1.getD i z56).f0) := by
  unfold petrinetref09_place.f placeF
  rw [nmE_names, namesP]
  refine Ev.pos ⟨by omega, by omega, hl⟩ ?_
  rw [rdP, Int.toNat_natCast]
  refine Ev.bind (rname _) (Ev.ite (fun h => ?_) (fun h => Ev.val (by rw [if_neg h]; rfl)))
  rw [if_pos h]
  refine Ev.ite (fun hm => Ev.val (by rw [if_pos hm]; rfl)) (fun hm => Ev.val (by rw [if_neg hm, if_pos rfl]; rfl))
theorem namesT (l1 : List Pl) (l2 : List Tr) (i : Nat) (s : ByteArray) : (((l1.map fun p => p.f0) ++ ((l2.take i).map fun t => t.f0)).any fun y => y.toList == s.toList) = ((l1.any fun y => y.f0.toList == s.toList) || ((l2.take i).any fun y => y.f0.toList == s.toList)) := by
  rw [List.any_append, List.any_map, List.any_map]
  rfl
theorem rTrans (a : ByteArray) (l1 : List Pl) (l2 : List Tr) (hs : Short l2) (i : Nat) (hi : i < l2.length) (hl : l2.length ≤ 1000) (hl1 : l1.length ≤ 1000) : Ev (fun k => petrinetref09_trans.f k a l1 l2 (i : Int)) (if nmE ((l1.map fun p => p.f0) ++ ((l2.take i).map fun t => t.f0)) (l2.getD i z40).f0 = 0 then trE l1.length (l2.getD i z40) else nmE ((l1.map fun p => p.f0) ++ ((l2.take i).map fun t => t.f0)) (l2.getD i z40).f0) := by
  have hb : (l2.getD i z40).f1.length ≤ 26 ∧ (l2.getD i z40).f2.length ≤ 26 ∧ (l2.getD i z40).f3.length ≤ 26 := by
    rw [show l2.getD i z40 = l2[i] by simp [hi]]
    exact hs _ (List.getElem_mem hi)
  unfold petrinetref09_trans.f transF
  rw [nmE_names, namesT]
  refine Ev.pos ⟨by omega, by omega, hl1, hl⟩ ?_
  rw [rdT, Int.toNat_natCast]
  refine Ev.bind (rname _) (Ev.ite (fun h => ?_) (fun h => Ev.val (by rw [if_neg h]; rfl)))
  rw [if_pos h]
  refine Ev.ite (fun hm => Ev.val (by rw [if_pos hm]; rfl)) (fun hm => ?_)
  rw [if_neg hm, if_pos rfl]
  unfold trE
  refine Ev.ite (fun h4 => Ev.val (by rw [if_pos h4])) (fun h4 => ?_)
  rw [if_neg h4]
  refine Ev.bind (rArcs a l1 l2 _ (by omega)) (Ev.ite (fun e1 => ?_) (fun e1 => Ev.val (by rw [if_neg e1])))
  rw [if_pos e1]
  refine Ev.bind (rArcs a l1 l2 _ (by omega)) (Ev.ite (fun e2 => ?_) (fun e2 => Ev.val (by rw [if_neg e2])))
  rw [if_pos e2]
  exact rArcs a l1 l2 _ (by omega)
theorem rCheck_l1 (a : ByteArray) (l1 : List Pl) (l2 : List Tr) (hs : Short l2) (hl : l2.length ≤ 1000) (hl1 : l1.length ≤ 1000) : ∀ (d i : Nat), i ≤ l2.length → l2.length - i = d → Ev (fun k => petrinetref09_Check.l1 k (i : Int) a l1 l2) (chkTV l1.length (l2.drop i) i ((l1.map fun p => p.f0) ++ ((l2.take i).map fun t => t.f0))) := by
  intro d
  induction d with
  | zero =>
    intro i hi hd
    refine Ev.succ ?_
    simp only [petrinetref09_Check.l1]
    exact Ev.neg (by omega) (Ev.val (by rw [List.drop_eq_nil_of_le (by omega)]; rfl))
  | succ d ih =>
    intro i hi hd
    have hlt : i < l2.length := by omega
    have hih := ih (i + 1) (by omega) (by omega)
    have e : l2.getD i z40 = l2[i] := by simp [hlt]
    have hr := rTrans a l1 l2 hs i hlt hl hl1
    rw [e] at hr
    rw [List.take_succ_eq_append_getElem hlt, List.map_append, ← List.append_assoc, List.map_singleton] at hih
    refine Ev.succ ?_
    simp only [petrinetref09_Check.l1]
    rw [List.drop_eq_getElem_cons hlt, chkTV]
    refine Ev.pos (by omega) (Ev.bind hr ?_)
    by_cases h1 : nmE ((l1.map fun p => p.f0) ++ ((l2.take i).map fun t => t.f0)) l2[i].f0 = 0
    · rw [if_pos h1, if_pos h1]
      refine Ev.ite (fun h2 => ?_) (fun h2 => Ev.val ?_)
      · rw [if_pos h2, wrap_succ (by omega)]; exact hih
      · rw [if_neg h2, show wrap64 ((l1.length : Int) + (i : Int)) = ((l1.length + i : Nat) : Int) by unfold wrap64; omega]
    · rw [if_neg h1, if_neg h1]
      exact Ev.neg h1 (Ev.val (by rw [show wrap64 ((l1.length : Int) + (i : Int)) = ((l1.length + i : Nat) : Int) by unfold wrap64; omega]))
theorem rCheck_l0 (a : ByteArray) (l1 : List Pl) (l2 : List Tr) (hs : Short l2) (hl : l2.length ≤ 1000) (hl1 : l1.length ≤ 1000) : ∀ (d i : Nat), i ≤ l1.length → l1.length - i = d → Ev (fun k => petrinetref09_Check.l0 k (i : Int) a l1 l2) (match chkPV (l1.drop i) i ((l1.take i).map fun p => p.f0) with | .inl e => e | .inr names => chkTV l1.length l2 0 names) := by
  intro d
  induction d with
  | zero =>
    intro i hi hd
    obtain rfl : i = l1.length := by omega
    refine Ev.succ ?_
    simp only [petrinetref09_Check.l0]
    rw [List.drop_length, List.take_length, chkPV]
    have := rCheck_l1 a l1 l2 hs hl hl1 _ 0 (by omega) rfl
    rw [List.drop_zero, List.take_zero, List.map_nil, List.append_nil] at this
    exact Ev.neg (by omega) this
  | succ d ih =>
    intro i hi hd
    have hlt : i < l1.length := by omega
    have hih := ih (i + 1) (by omega) (by omega)
    have e : l1.getD i z56 = l1[i] := by simp [hlt]
    have hr := rPlace a l1 l2 i hlt hl1
    rw [e] at hr
    rw [List.take_succ_eq_append_getElem hlt, List.map_append, List.map_singleton] at hih
    refine Ev.succ ?_
    simp only [petrinetref09_Check.l0]
    rw [List.drop_eq_getElem_cons hlt, chkPV]
    refine Ev.pos (by omega) (Ev.bind hr ?_)
    by_cases h1 : nmE ((l1.take i).map fun p => p.f0) l1[i].f0 = 0
    · rw [if_pos h1, if_pos h1]
      refine Ev.ite (fun h2 => ?_) (fun h2 => Ev.val ?_)
      · rw [if_pos h2, wrap_succ (by omega)]; exact hih
      · rw [if_neg h2]
    · rw [if_neg h1, if_neg h1]
      exact Ev.neg h1 (Ev.now _)
theorem rCheck (a : ByteArray) (l1 : List Pl) (l2 : List Tr) (hs : Short l2) (hl : l2.length ≤ 1000) (hl1 : l1.length ≤ 1000) : Ev (fun k => petrinetref09_Check.f k a l1 l2) (checkV a l1 l2) := by
  unfold petrinetref09_Check.f checkV
  refine Ev.bind (rname a) (Ev.ite (fun h => ?_) (fun h => Ev.val (by rw [if_neg h])))
  rw [if_pos h]
  have hj : ∀ b : Bool, b = decide (l1.length < 1 ∨ 24 < l1.length ∨ 24 < l2.length) → Ev (fun k => petrinetref09_Check.j0 k b a l1 l2) (if l1.length < 1 ∨ 24 < l1.length ∨ 24 < l2.length then (2, 0) else match chkPV l1 0 [] with | .inl e => e | .inr names => chkTV l1.length l2 0 names) := by
    intro b hb
    refine Ev.succ ?_
    simp only [petrinetref09_Check.j0]
    by_cases h2 : l1.length < 1 ∨ 24 < l1.length ∨ 24 < l2.length
    · rw [if_pos h2]; exact Ev.pos (by rw [hb]; exact decide_eq_true h2) (Ev.now _)
    · rw [if_neg h2]
      refine Ev.neg (by rw [hb, decide_eq_false h2]; simp) ?_
      have := rCheck_l0 a l1 l2 hs hl hl1 _ 0 (by omega) rfl
      rw [List.drop_zero, List.take_zero, List.map_nil] at this
      exact this
  refine Ev.ite (fun h2 => hj _ ?_) (fun h2 => Ev.ite (fun h3 => hj _ ?_) (fun h3 => hj _ ?_))
  · exact (decide_eq_true (.inl (by omega))).symm
  · exact (decide_eq_true (.inr (.inl (by omega)))).symm
  · exact decide_eq_decide.2 (by omega)
theorem rValid (a : ByteArray) (l1 : List Pl) (l2 : List Tr) (hs : Short l2) (hl1 : l1.length ≤ 1000) (hl : l2.length ≤ 1000) : Ev (fun k => petrinetref09_Valid.f k a l1 l2) (decide ((checkV a l1 l2).1 = 0)) := by
  unfold petrinetref09_Valid.f
  exact Ev.bind (rCheck a l1 l2 hs hl hl1) (Ev.val (by rw [Bool.eq_iff_iff, beq_iff_eq, decide_eq_true_eq]))
/-- What Small lets in. -/
theorem small_of {a : ByteArray} {l1 : List Pl} {l2 : List Tr} (h : petrinetref09_Small.f a l1 l2 = some true) : l1.length ≤ 26 ∧ l2.length ≤ 26 ∧ Short l2 := by
  unfold petrinetref09_Small.f at h
  simp only [Option.some.injEq, Bool.and_eq_true, decide_eq_true_eq, List.all_eq_true] at h
  obtain ⟨⟨h1, h2, _⟩, _, h4⟩ := h
  exact ⟨h1, h2, fun t ht => by have := h4 t ht; unfold smallT at this; simp only [decide_eq_true_eq] at this; omega⟩
theorem small_some (a : ByteArray) (l1 : List Pl) (l2 : List Tr) : ∃ b, petrinetref09_Small.f a l1 l2 = some b := ⟨_, rfl⟩
end Go.Proofs.Ytaphehdbjbogaaa.Nets

/- Siphons and traps: what the functions of program and reference answer, told of vectors of bits. -/
namespace Go.Proofs.Ytaphehdbjbogaaa.Siph
open Go.RowKit Go.Proofs.Ytaphehdbjbogaaa.Pr Go.Proofs.Ytaphehdbjbogaaa.Evs Go.Proofs.Ytaphehdbjbogaaa.Nets Go.Proofs.Ytaphehdbjbogaaa.Names Go.Proofs.Ytaphehdbjbogaaa.Bits Go.Proofs.Ytaphehdbjbogaaa.Sets Go.Proofs.Ytaphehdbjbogaaa.Refs Go.Proofs.YtaphehdbjbogaaaW.PrintWords Go.Proofs.YtaphehdbjbogaaaW.PrintLast Go.Proofs.YtaphehdbjbogaaaW.PrintMore
set_option linter.unusedVariables false
set_option linter.unusedSimpArgs false

theorem lives_now : petrinetlaw33_exampleHolds.f 100 = some true := by decide +kernel
theorem lives : Ev (fun k => petrinetlaw33_exampleHolds.f k) true := Ev.of petrinetlaw33_exampleHolds.mono lives_now
theorem lives' : Ev (fun k => (petrinetlaw33_exampleHolds.f k).bind fun t => some t) true := Ev.bind lives (Ev.now _)

def inL (l : List Ar) (i : Nat) : Bool := l.any fun a => decide (0 ≤ a.f0 ∧ a.f0.toNat = i)
def meetB (l : List Ar) (v : BitVec 64) : Bool := l.any fun a => decide (0 ≤ a.f0) && v.getLsbD a.f0.toNat
def plsV (l : List Ar) : BitVec 64 := l.foldl (fun s a => withB s a.f0) 0#64
def remB (l : List Ar) (v : BitVec 64) : BitVec 64 := l.foldl (fun s a => withoutB s a.f0) v
theorem meet_iff {l : List Ar} {v : BitVec 64} : meetB l v = true ↔ ∃ i, v.getLsbD i = true ∧ inL l i = true := by
  unfold meetB inL
  simp only [List.any_eq_true, Bool.and_eq_true, decide_eq_true_eq]
  constructor
  · rintro ⟨a, ha, h0, hv⟩; exact ⟨a.f0.toNat, hv, a, ha, h0, rfl⟩
  · rintro ⟨i, hv, a, ha, h0, rfl⟩; exact ⟨a, ha, h0, hv⟩
theorem withB_bit (s : BitVec 64) (x : Int) (i : Nat) : (withB s x).getLsbD i = (s.getLsbD i || (decide (0 ≤ x ∧ x.toNat = i) && decide (i < 64))) := by
  unfold withB
  by_cases h : x < 0
  · rw [if_pos h, decide_eq_false (show ¬ (0 ≤ x ∧ x.toNat = i) by omega)]; simp
  · rw [if_neg h, BitVec.getLsbD_or, tp_bit]
    congr 1
    by_cases e : x.toNat = i
    · subst e; rw [decide_eq_true (show 0 ≤ x ∧ x.toNat = x.toNat from ⟨by omega, rfl⟩)]; simp
    · rw [decide_eq_false (show ¬ (0 ≤ x ∧ x.toNat = i) by omega), decide_eq_false e]; simp
theorem withoutB_bit (s : BitVec 64) (x : Int) (i : Nat) (hi : i < 64) : (withoutB s x).getLsbD i = (s.getLsbD i && !decide (0 ≤ x ∧ x.toNat = i)) := by
  unfold withoutB
  by_cases h : x < 0
  · rw [if_pos h, decide_eq_false (show ¬ (0 ≤ x ∧ x.toNat = i) by omega)]; simp
  · rw [if_neg h, BitVec.getLsbD_and, BitVec.getLsbD_not, tp_bit, decide_eq_true hi]
    by_cases e : x.toNat = i
    · subst e; rw [decide_eq_true (show 0 ≤ x ∧ x.toNat = x.toNat from ⟨by omega, rfl⟩), decide_eq_true hi]; simp
    · rw [decide_eq_false (show ¬ (0 ≤ x ∧ x.toNat = i) by omega), decide_eq_false e]; simp
theorem pls_go (i : Nat) : ∀ (l : List Ar) (s : BitVec 64), (l.foldl (fun s a => withB s a.f0) s).getLsbD i = (s.getLsbD i || (inL l i && decide (i < 64)))
  | [], s => by simp [inL]
  | a :: tl, s => by
    rw [List.foldl_cons, pls_go i tl, withB_bit]
    unfold inL
    rw [List.any_cons]
    cases s.getLsbD i <;> cases decide (0 ≤ a.f0 ∧ a.f0.toNat = i) <;> simp
theorem pls_bit (l : List Ar) (i : Nat) : (plsV l).getLsbD i = (inL l i && decide (i < 64)) := by unfold plsV; rw [pls_go]; simp
theorem rem_bit (i : Nat) (hi : i < 64) : ∀ (l : List Ar) (s : BitVec 64), (remB l s).getLsbD i = (s.getLsbD i && !inL l i)
  | [], s => by simp [inL, remB]
  | a :: tl, s => by
    have := rem_bit i hi tl (withoutB s a.f0)
    unfold remB at *
    rw [List.foldl_cons, this, withoutB_bit _ _ _ hi]
    unfold inL
    rw [List.any_cons]
    cases s.getLsbD i <;> cases decide (0 ≤ a.f0 ∧ a.f0.toNat = i) <;> simp
theorem rem_pls (l : List Ar) (v : BitVec 64) : v &&& ~~~plsV l = remB l v := by
  apply ext_bit
  intro i hi
  rw [rem_bit i hi, BitVec.getLsbD_and, BitVec.getLsbD_not, pls_bit, decide_eq_true hi]
  simp
theorem lt_bit {v : BitVec 64} {i : Nat} (h : v.getLsbD i = true) : i < 64 := by
  by_cases hi : i < 64
  · exact hi
  · rw [BitVec.getLsbD_of_ge _ _ (by omega)] at h; cases h
theorem pls_meet (l : List Ar) (v : BitVec 64) : (plsV l &&& v = 0#64) ↔ meetB l v = false := by
  constructor
  · intro h
    rw [Bool.eq_false_iff]
    intro hm
    obtain ⟨i, hv, hi⟩ := meet_iff.1 hm
    have e := congrArg (fun z => z.getLsbD i) h
    simp only [BitVec.getLsbD_and, pls_bit, hv, hi, decide_eq_true (lt_bit hv)] at e
    simp at e
  · intro h
    apply ext_bit
    intro i hi
    rw [BitVec.getLsbD_and, pls_bit]
    cases hv : v.getLsbD i with
    | false => simp
    | true =>
      cases hl : inL l i with
      | false => simp
      | true => rw [meet_iff.2 ⟨i, hv, hl⟩] at h; cases h

def markGo (v : BitVec 64) (l : List Int) : Nat → Nat → Bool
  | 0, _ => false
  | d + 1, i => if l.getD i 0 > 0 ∧ v.getLsbD i = true then true else markGo v l d (i + 1)
theorem rd_nat {l : List Int} {i : Nat} : rd l (i : Int) = l.getD i 0 := by simp [rd]
/-! ### the program -/
theorem pPlaces_l0 (l : List Ar) (hl : l.length ≤ 1000) : ∀ (d i : Nat) (s : BitVec 64), i ≤ l.length → l.length - i = d → Ev (fun k => siphon_places.l0 k (U s) l (l.length : Int) (i : Int)) (U ((l.drop i).foldl (fun s a => withB s a.f0) s)) := by
  intro d
  induction d with
  | zero =>
    intro i s hi hd
    refine Ev.succ ?_
    simp only [siphon_places.l0]
    exact Ev.neg (by omega) (Ev.val (by rw [List.drop_eq_nil_of_le (by omega)]; rfl))
  | succ d ih =>
    intro i s hi hd
    have hlt : i < l.length := by omega
    refine Ev.succ ?_
    simp only [siphon_places.l0, rdA, with_U, Option.bind_some]
    refine Ev.pos (by omega) (Ev.pos (by omega) (Ev.pos (by omega) ?_))
    rw [wrap_succ (by omega), List.drop_eq_getElem_cons hlt, List.foldl_cons]
    have e : l.getD i z58 = l[i] := by simp [hlt]
    rw [e]
    exact ih (i + 1) _ (by omega) (by omega)
theorem pPlaces (l : List Ar) (hl : l.length ≤ 1000) : Ev (fun k => siphon_places.f k l) (U (plsV l)) := pPlaces_l0 l hl _ 0 0#64 (by omega) rfl
def fromL (trap : Bool) (t : Tr) : List Ar := if trap then t.f1 else t.f2
def toL (trap : Bool) (t : Tr) : List Ar := if trap then t.f2 else t.f1
theorem pSide (trap : Bool) (t : Tr) (h1 : t.f1.length ≤ 1000) (h2 : t.f2.length ≤ 1000) : Ev (fun k => siphon_side.f k t.f0 t.f1 t.f2 t.f3 t.f4 trap) (U (plsV (fromL trap t)), U (plsV (toL trap t))) := by
  unfold siphon_side.f
  cases trap with
  | true => exact Ev.pos rfl (Ev.bind (pPlaces _ h1) (Ev.bind (pPlaces _ h2) (Ev.now _)))
  | false => exact Ev.neg (by simp) (Ev.bind (pPlaces _ h2) (Ev.bind (pPlaces _ h1) (Ev.now _)))
def okT (trap : Bool) (v : BitVec 64) (t : Tr) : Bool := !meetB (fromL trap t) v || meetB (toL trap t) v
def holdsV (trap : Bool) (l2 : List Tr) (v : BitVec 64) : Bool := l2.all (okT trap v)
theorem and_zero (l : List Ar) (v : BitVec 64) : (Go.bits .and .u64 (U (plsV l)) (U v) = 0) ↔ meetB l v = false := by rw [bits_and, U_eq_zero, pls_meet]
/-! ### the reference -/
end Go.Proofs.Ytaphehdbjbogaaa.Siph

/- The greatest siphon or trap within a set: the loops of program and reference find the same. -/
namespace Go.Proofs.Ytaphehdbjbogaaa.Great
open Go.RowKit Go.Proofs.Ytaphehdbjbogaaa.Pr Go.Proofs.Ytaphehdbjbogaaa.Evs Go.Proofs.Ytaphehdbjbogaaa.Nets Go.Proofs.Ytaphehdbjbogaaa.Siph Go.Proofs.Ytaphehdbjbogaaa.Bits Go.Proofs.Ytaphehdbjbogaaa.Sets Go.Proofs.Ytaphehdbjbogaaa.Refs Go.Proofs.YtaphehdbjbogaaaW.PrintWords Go.Proofs.YtaphehdbjbogaaaW.PrintLast Go.Proofs.YtaphehdbjbogaaaW.PrintMore
set_option linter.unusedVariables false
set_option linter.unusedSimpArgs false

def Sub (a b : BitVec 64) : Prop := ∀ i, a.getLsbD i = true → b.getLsbD i = true
theorem Sub.refl (a : BitVec 64) : Sub a a := fun _ h => h
theorem Sub.trans {a b c : BitVec 64} (h : Sub a b) (k : Sub b c) : Sub a c := fun i hi => k i (h i hi)
theorem Sub.anti {a b : BitVec 64} (h : Sub a b) (k : Sub b a) : a = b := by
  apply ext_bit
  intro i _
  rw [Bool.eq_iff_iff]
  exact ⟨h i, k i⟩
theorem and_left (a b : BitVec 64) : Sub (a &&& b) a := fun i hi => by rw [BitVec.getLsbD_and, Bool.and_eq_true] at hi; exact hi.1
theorem and_right (a b : BitVec 64) : Sub (a &&& b) b := fun i hi => by rw [BitVec.getLsbD_and, Bool.and_eq_true] at hi; exact hi.2
theorem rem_sub (l : List Ar) (v : BitVec 64) : Sub (remB l v) v := fun i hi => by
  rw [rem_bit i (lt_bit hi), Bool.and_eq_true] at hi
  exact hi.1
theorem meet_mono {l : List Ar} {a b : BitVec 64} (h : Sub a b) (hm : meetB l a = true) : meetB l b = true := by
  obtain ⟨i, hi, hl⟩ := meet_iff.1 hm
  exact meet_iff.2 ⟨i, h i hi, hl⟩
/-- A closed set keeps out of what a violating transition removes. -/
theorem closed_rem {tr : Bool} {t : Tr} {c v : BitVec 64} (hc : okT tr c t = true) (hcv : Sub c v) (hto : meetB (toL tr t) v = false) : Sub c (remB (fromL tr t) v) := by
  intro i hi
  rw [rem_bit i (lt_bit hi), hcv i hi, Bool.true_and, Bool.not_eq_true']
  cases hl : inL (fromL tr t) i with
  | false => rfl
  | true =>
    have hf := meet_iff.2 ⟨i, hi, hl⟩
    unfold okT at hc
    rw [hf, Bool.not_true, Bool.false_or] at hc
    rw [meet_mono hcv hc] at hto
    cases hto
/-- r is the greatest closed set within v. -/
def Gr (tr : Bool) (l2 : List Tr) (v r : BitVec 64) : Prop := Sub r v ∧ holdsV tr l2 r = true ∧ ∀ c, holdsV tr l2 c = true → Sub c v → Sub c r
theorem Gr.uniq {tr : Bool} {l2 : List Tr} {v r r' : BitVec 64} (h : Gr tr l2 v r) (k : Gr tr l2 v r') : r = r' := Sub.anti (k.2.2 r h.2.1 h.1) (h.2.2 r' k.2.1 k.1)
theorem Gr.of_sub {tr : Bool} {l2 : List Tr} {v w r : BitVec 64} (hs : Sub w v) (hk : ∀ c, holdsV tr l2 c = true → Sub c v → Sub c w) (h : Gr tr l2 w r) : Gr tr l2 v r := ⟨h.1.trans hs, h.2.1, fun c hc hcv => h.2.2 c hc (hk c hc hcv)⟩
theorem Gr.self {tr : Bool} {l2 : List Tr} {v : BitVec 64} (h : holdsV tr l2 v = true) : Gr tr l2 v v := ⟨Sub.refl v, h, fun _ _ h => h⟩
def cnt (v : BitVec 64) : Nat := (els v 64).length
theorem cnt_lt {a b : BitVec 64} (h : Sub a b) {i : Nat} (hb : b.getLsbD i = true) (ha : a.getLsbD i = false) : cnt a < cnt b := by
  have hs : (els a 64).Sublist (els b 64) := by
    unfold els
    have e : (List.range 64).filter (fun i => a.getLsbD i) = ((List.range 64).filter (fun i => b.getLsbD i)).filter (fun i => a.getLsbD i) := by
      rw [List.filter_filter]
      exact List.filter_congr fun x _ => by
        cases hx : a.getLsbD x with
        | false => rfl
        | true => rw [h x hx]; rfl
    rw [e]
    exact List.filter_sublist
  have hne : els a 64 ≠ els b 64 := fun e => by
    have h1 : i ∈ els b 64 := mem_els.2 ⟨lt_bit hb, hb⟩
    rw [← e, mem_els, ha] at h1
    exact absurd h1.2 (by simp)
  unfold cnt
  rcases Nat.lt_or_ge (els a 64).length (els b 64).length with h1 | h1
  · exact h1
  · exact absurd (hs.eq_of_length_le h1) hne
theorem cnt_rem {l : List Ar} {v : BitVec 64} (h : meetB l v = true) : cnt (remB l v) < cnt v := by
  obtain ⟨i, hi, hl⟩ := meet_iff.1 h
  exact cnt_lt (rem_sub l v) hi (by rw [rem_bit i (lt_bit hi), hl]; simp)

/-! ### the program -/
theorem pGreat (tr : Bool) (a : ByteArray) (l1 : List Pl) (l2 : List Tr) (hs : Short l2) (hl : l2.length ≤ 1000) : ∀ (n : Nat) (v : BitVec 64), cnt v ≤ n → ∃ r, Gr tr l2 v r ∧ Ev (fun k => siphon_greatest.l0 k tr (U v) a l1 l2) (U r) := by
  intro n
  induction n using Nat.strongRecOn with
  | _ n ihn =>
    intro v hv
    have loop : ∀ (d i : Nat), i ≤ l2.length → l2.length - i = d → (l2.take i).all (okT tr v) = true → ∃ r, Gr tr l2 v r ∧ Ev (fun k => siphon_greatest.l1 k tr (U v) l2 (l2.length : Int) (i : Int) a l1 l2) (U r) := by
      intro d
      induction d with
      | zero =>
        intro i hi hd hok
        obtain rfl : i = l2.length := by omega
        rw [List.take_length] at hok
        refine ⟨v, Gr.self hok, Ev.succ ?_⟩
        simp only [siphon_greatest.l1]
        exact Ev.neg (by omega) (Ev.now _)
      | succ d ih =>
        intro i hi hd hok
        have hlt : i < l2.length := by omega
        have e : l2.getD i z40 = l2[i] := by simp [hlt]
        obtain ⟨b1, b2, b3⟩ := hs l2[i] (List.getElem_mem hlt)
        have hside := pSide tr l2[i] (show l2[i].f1.length ≤ 1000 by omega) (show l2[i].f2.length ≤ 1000 by omega)
        have hnext : okT tr v l2[i] = true → ∃ r, Gr tr l2 v r ∧ Ev (fun k => siphon_greatest.l1 k tr (U v) l2 (l2.length : Int) ((i + 1 : Nat) : Int) a l1 l2) (U r) := fun h => ih (i + 1) (by omega) (by omega) (by rw [List.take_succ_eq_append_getElem hlt, List.all_append, hok]; simp [h])
        cases hf : meetB (fromL tr l2[i]) v with
        | false =>
          obtain ⟨r, hr, he⟩ := hnext (by unfold okT; rw [hf]; rfl)
          refine ⟨r, hr, Ev.succ ?_⟩
          simp only [siphon_greatest.l1, rdT]
          rw [e, wrap_succ (by omega)]
          exact Ev.pos (by omega) (Ev.pos (by omega) (Ev.pos (by omega) (Ev.bind hside (Ev.pos ((and_zero _ _).2 hf) he))))
        | true =>
          cases ht : meetB (toL tr l2[i]) v with
          | true =>
            obtain ⟨r, hr, he⟩ := hnext (by unfold okT; rw [ht]; simp)
            refine ⟨r, hr, Ev.succ ?_⟩
            simp only [siphon_greatest.l1, rdT]
            rw [e, wrap_succ (by omega)]
            exact Ev.pos (by omega) (Ev.pos (by omega) (Ev.pos (by omega) (Ev.bind hside (Ev.neg (fun hz => by rw [(and_zero _ _).1 hz] at hf; cases hf) (Ev.neg (fun hz => by rw [(and_zero _ _).1 hz] at ht; cases ht) he)))))
          | false =>
            obtain ⟨r, hr, he⟩ := ihn (cnt (remB (fromL tr l2[i]) v)) (Nat.lt_of_lt_of_le (cnt_rem hf) hv) _ (Nat.le_refl _)
            refine ⟨r, hr.of_sub (rem_sub _ _) (fun c hc hcv => closed_rem (List.all_eq_true.1 hc _ (List.getElem_mem hlt)) hcv ht), Ev.succ ?_⟩
            simp only [siphon_greatest.l1, rdT]
            rw [e, wrap_succ (by omega)]
            refine Ev.pos (by omega) (Ev.pos (by omega) (Ev.pos (by omega) (Ev.bind hside (Ev.neg (fun hz => by rw [(and_zero _ _).1 hz] at hf; cases hf) (Ev.pos ((and_zero _ _).2 ht) ?_)))))
            rw [bits_andNot, rem_pls]
            exact he
    obtain ⟨r, hr, he⟩ := loop _ 0 (by omega) rfl rfl
    refine ⟨r, hr, Ev.succ ?_⟩
    simp only [siphon_greatest.l0]
    exact he
theorem gr_exists (tr : Bool) (l2 : List Tr) (hs : Short l2) (hl : l2.length ≤ 1000) (v : BitVec 64) : ∃ r, Gr tr l2 v r := by
  obtain ⟨r, hr, _⟩ := pGreat tr ByteArray.empty [] l2 hs hl (cnt v) v (Nat.le_refl _)
  exact ⟨r, hr⟩
theorem pMax (tr : Bool) (a : ByteArray) (l1 : List Pl) (l2 : List Tr) (hs : Short l2) (hl : l2.length ≤ 1000) (v r : BitVec 64) (h0 : (checkV a l1 l2).1 = 0) (hr : Gr tr l2 (v &&& allTo (min l1.length 64)) r) : Ev (fun k => siphon_greatest.f k a l1 l2 (U v) tr) (U r) := by
  unfold siphon_greatest.f
  refine Ev.bind (pCheck a l1 l2 hs) (Ev.pos h0 ?_)
  refine Ev.bind (all_U _) ?_
  rw [Int.toNat_natCast, bits_and]
  obtain ⟨r', hr', he⟩ := pGreat tr a l1 l2 hs hl _ (v &&& allTo (min l1.length 64)) (Nat.le_refl _)
  rw [hr.uniq hr']
  exact he
/-! ### the reference -/
end Go.Proofs.Ytaphehdbjbogaaa.Great

/- Firing, told of the reference: weights, enabled transitions, the next marking; and what a valid net says of its arcs. -/
namespace Go.Proofs.Ytaphehdbjbogaaa.Fires
open Go.RowKit Go.Proofs.Ytaphehdbjbogaaa.Pr Go.Proofs.Ytaphehdbjbogaaa.Evs Go.Proofs.Ytaphehdbjbogaaa.Names Go.Proofs.Ytaphehdbjbogaaa.Nets Go.Proofs.YtaphehdbjbogaaaW.PrintWords Go.Proofs.YtaphehdbjbogaaaW.PrintLast Go.Proofs.YtaphehdbjbogaaaW.PrintMore
set_option linter.unusedVariables false
set_option linter.unusedSimpArgs false

theorem rdN {l : List Int} {i : Nat} : rd l (i : Int) = l.getD i 0 := by simp [rd]
theorem getT {l2 : List Tr} {j : Nat} (h : j < l2.length) : l2.getD j z40 = l2[j] := by simp [h]
theorem getP {l1 : List Pl} {j : Nat} (h : j < l1.length) : l1.getD j z56 = l1[j] := by simp [h]
/-! ### what a valid net says -/
theorem arcsE_zero {np : Int} {l : List Ar} : ∀ {d i : Nat}, arcsE np l d i = 0 → ∀ j, i ≤ j → j < i + d → arcE np l j = 0
  | 0, i, _, j, h1, h2 => by omega
  | d + 1, i, h, j, h1, h2 => by
    rw [arcsE] at h
    by_cases e : arcE np l i = 0
    · rw [if_pos e] at h
      by_cases hj : j = i
      · rw [hj]; exact e
      · exact arcsE_zero h j (by omega) (by omega)
    · rw [if_neg e] at h; exact absurd h e
theorem arcs_ok {np : Int} {l : List Ar} (h : arcsV np l = 0) : ∀ a ∈ l, 0 ≤ a.f0 ∧ a.f0 < np ∧ 1 ≤ a.f1 ∧ a.f1 ≤ 99 := by
  intro a ha
  obtain ⟨j, hj, rfl⟩ := List.mem_iff_getElem.1 ha
  have e := arcsE_zero h j (Nat.zero_le _) (by omega)
  have eg : l.getD j z58 = l[j] := by simp [hj]
  unfold arcE at e
  rw [eg] at e
  by_cases c1 : l[j].f0 < 0 ∨ np ≤ l[j].f0
  · rw [if_pos c1] at e; cases e
  · rw [if_neg c1] at e
    split at e
    · cases e
    · by_cases c3 : l[j].f1 < 1 ∨ 99 < l[j].f1
      · rw [if_pos c3] at e; cases e
      · omega
theorem trE_zero {np : Int} {t : Tr} (h : trE np t = 0) : arcsV np t.f1 = 0 ∧ arcsV np t.f2 = 0 ∧ arcsV np t.f3 = 0 ∧ 0 ≤ t.f4 := by
  unfold trE at h
  by_cases c : t.f4 < 0 ∨ 9 < t.f4
  · rw [if_pos c] at h; cases h
  · rw [if_neg c] at h
    by_cases c1 : arcsV np t.f1 = 0
    · rw [if_pos c1] at h
      by_cases c2 : arcsV np t.f2 = 0
      · rw [if_pos c2] at h; exact ⟨c1, c2, h, by omega⟩
      · rw [if_neg c2] at h; exact absurd h c2
    · rw [if_neg c1] at h; exact absurd h c1
theorem chkTV_zero {np : Nat} : ∀ {l : List Tr} {i : Nat} {names : List ByteArray}, (chkTV np l i names).1 = 0 → ∀ t ∈ l, trE np t = 0
  | [], _, _, _, t, ht => by cases ht
  | x :: l, i, names, h, t, ht => by
    rw [chkTV] at h
    by_cases c1 : nmE names x.f0 = 0
    · rw [if_pos c1] at h
      by_cases c2 : trE np x = 0
      · rw [if_pos c2] at h
        rcases List.mem_cons.1 ht with rfl | ht
        · exact c2
        · exact chkTV_zero h t ht
      · rw [if_neg c2] at h; exact absurd h c2
    · rw [if_neg c1] at h; exact absurd h c1
theorem chkPV_places : ∀ {l : List Pl} {i : Nat} {names names' : List ByteArray}, chkPV l i names = .inr names' → ∀ p ∈ l, plE p = 0
  | [], _, _, _, _, p, hp => by cases hp
  | x :: l, i, names, names', h, p, hp => by
    rw [chkPV] at h
    by_cases c1 : nmE names x.f0 = 0
    · rw [if_pos c1] at h
      by_cases c2 : plE x = 0
      · rw [if_pos c2] at h
        rcases List.mem_cons.1 hp with rfl | hp
        · exact c2
        · exact chkPV_places h p hp
      · rw [if_neg c2] at h; cases h
    · rw [if_neg c1] at h; cases h
theorem chkPV_err : ∀ {l : List Pl} {i : Nat} {names : List ByteArray} {e : Int × Int}, chkPV l i names = .inl e → ¬ e.1 = 0
  | [], _, _, _, h => by cases h
  | x :: l, i, names, e, h => by
    rw [chkPV] at h
    by_cases c1 : nmE names x.f0 = 0
    · rw [if_pos c1] at h
      by_cases c2 : plE x = 0
      · rw [if_pos c2] at h; exact chkPV_err h
      · rw [if_neg c2] at h; cases h; exact c2
    · rw [if_neg c1] at h; cases h; exact c1
structure Net0 (l1 : List Pl) (l2 : List Tr) : Prop where
  places : 1 ≤ l1.length ∧ l1.length ≤ 24
  count : l2.length ≤ 24
  pls : ∀ p ∈ l1, plE p = 0
  trs : ∀ t ∈ l2, trE l1.length t = 0
theorem net_ok {a : ByteArray} {l1 : List Pl} {l2 : List Tr} (h : (checkV a l1 l2).1 = 0) : Net0 l1 l2 := by
  unfold checkV at h
  by_cases c : nameB a = true
  · rw [if_pos c] at h
    by_cases c2 : l1.length < 1 ∨ 24 < l1.length ∨ 24 < l2.length
    · rw [if_pos c2] at h; cases h
    · rw [if_neg c2] at h
      cases hp : chkPV l1 0 [] with
      | inl e => rw [hp] at h; exact absurd h (chkPV_err hp)
      | inr names => rw [hp] at h; exact ⟨by omega, by omega, chkPV_places hp, chkTV_zero h⟩
  · rw [if_neg c] at h; cases h
theorem Net0.pre {l1 : List Pl} {l2 : List Tr} (h : Net0 l1 l2) {t : Tr} (ht : t ∈ l2) : ∀ a ∈ t.f1, 0 ≤ a.f0 ∧ a.f0 < (l1.length : Int) ∧ 1 ≤ a.f1 ∧ a.f1 ≤ 99 := arcs_ok (trE_zero (h.trs t ht)).1
theorem Net0.post {l1 : List Pl} {l2 : List Tr} (h : Net0 l1 l2) {t : Tr} (ht : t ∈ l2) : ∀ a ∈ t.f2, 0 ≤ a.f0 ∧ a.f0 < (l1.length : Int) ∧ 1 ≤ a.f1 ∧ a.f1 ≤ 99 := arcs_ok (trE_zero (h.trs t ht)).2.1
theorem Net0.place {l1 : List Pl} {l2 : List Tr} (h : Net0 l1 l2) {p : Pl} (hp : p ∈ l1) : 0 ≤ p.f1 ∧ p.f1 ≤ 1048576 ∧ 0 ≤ p.f2 := by
  have e := h.pls p hp
  unfold plE at e
  by_cases c1 : p.f2 < 0 ∨ 1048576 < p.f2
  · rw [if_pos c1] at e; cases e
  · rw [if_neg c1] at e
    by_cases c2 : p.f1 < 0 ∨ 1048576 < p.f1
    · rw [if_pos c2] at e; cases e
    · omega

/-! ### weights -/
def wt : List Ar → Nat → Int
  | [], _ => 0
  | a :: l, p => if a.f0 = (p : Int) then a.f1 else wt l p
theorem wt_range {np : Int} : ∀ {l : List Ar}, (∀ a ∈ l, 0 ≤ a.f0 ∧ a.f0 < np ∧ 1 ≤ a.f1 ∧ a.f1 ≤ 99) → ∀ p, 0 ≤ wt l p ∧ wt l p ≤ 99
  | [], _, p => by simp [wt]
  | a :: l, h, p => by
    rw [wt]
    split
    · have := h a List.mem_cons_self; omega
    · exact wt_range (fun b hb => h b (List.mem_cons_of_mem _ hb)) p
theorem wt_pos {np : Int} : ∀ {l : List Ar}, (∀ a ∈ l, 0 ≤ a.f0 ∧ a.f0 < np ∧ 1 ≤ a.f1 ∧ a.f1 ≤ 99) → ∀ p, (1 ≤ wt l p ↔ ∃ a ∈ l, a.f0 = (p : Int))
  | [], _, p => by simp [wt]
  | a :: l, h, p => by
    rw [wt]
    have ih := wt_pos (fun b hb => h b (List.mem_cons_of_mem _ hb)) p
    by_cases e : a.f0 = (p : Int)
    · rw [if_pos e]
      have := h a List.mem_cons_self
      exact ⟨fun _ => ⟨a, List.mem_cons_self, e⟩, fun _ => by omega⟩
    · rw [if_neg e, ih]
      constructor
      · rintro ⟨b, hb, e⟩; exact ⟨b, List.mem_cons_of_mem _ hb, e⟩
      · rintro ⟨b, hb, e2⟩
        rcases List.mem_cons.1 hb with rfl | hb
        · exact absurd e2 e
        · exact ⟨b, hb, e2⟩
theorem rWeight_l0 (l : List Ar) (hl : l.length ≤ 1000) (p : Nat) : ∀ (d i : Nat), i ≤ l.length → l.length - i = d → Ev (fun k => petrinetref11_weight.l0 k l (p : Int) (i : Int)) (wt (l.drop i) p) := by
  intro d
  induction d with
  | zero =>
    intro i hi hd
    refine Ev.succ ?_
    simp only [petrinetref11_weight.l0]
    exact Ev.neg (by omega) (Ev.val (by rw [List.drop_eq_nil_of_le (by omega)]; rfl))
  | succ d ih =>
    intro i hi hd
    have hlt : i < l.length := by omega
    have hih := ih (i + 1) (by omega) (by omega)
    have e : l.getD i z58 = l[i] := by simp [hlt]
    refine Ev.succ ?_
    simp only [petrinetref11_weight.l0, rdA]
    rw [e, wrap_succ (by omega), List.drop_eq_getElem_cons hlt, wt]
    refine Ev.pos (by omega) (Ev.pos (by omega) (Ev.ite (fun h => Ev.val (by rw [if_pos h])) (fun h => ?_)))
    rw [if_neg h]
    exact hih
theorem rWeight (l : List Ar) (hl : l.length ≤ 1000) (p : Nat) : Ev (fun k => petrinetref11_weight.f k l (p : Int)) (wt l p) := rWeight_l0 l hl p _ 0 (by omega) rfl

/-! ### markings -/
def okN (x : Int) : Bool := decide (0 ≤ x ∧ x ≤ 1048576)
def okM (m : List Int) : Bool := m.all okN
theorem okM_at {m : List Int} (h : okM m = true) (p : Nat) (hp : p < m.length) : 0 ≤ m.getD p 0 ∧ m.getD p 0 ≤ 1048576 := by
  have := List.all_eq_true.1 h m[p] (List.getElem_mem hp)
  rw [show m.getD p 0 = m[p] by simp [hp]]
  exact of_decide_eq_true this
theorem rMValid_l0 (m : List Int) (hm : m.length ≤ 9223372036854775807) (n : Int) : ∀ (d i : Nat), i ≤ m.length → m.length - i = d → Ev (fun k => petrinetref04_Valid.l0 k m n (i : Int)) (okM (m.drop i) && decide ((m.length : Int) = n)) := by
  intro d
  induction d with
  | zero =>
    intro i hi hd
    refine Ev.succ ?_
    simp only [petrinetref04_Valid.l0]
    exact Ev.neg (by omega) (Ev.val (by rw [List.drop_eq_nil_of_le (by omega), Bool.eq_iff_iff]; simp [okM]))
  | succ d ih =>
    intro i hi hd
    have hlt : i < m.length := by omega
    have hih := ih (i + 1) (by omega) (by omega)
    have e : m.getD i 0 = m[i] := by simp [hlt]
    refine Ev.succ ?_
    simp only [petrinetref04_Valid.l0, rdN]
    rw [e, wrap_succ (by omega), List.drop_eq_getElem_cons hlt, okM, List.all_cons]
    refine Ev.pos (by omega) (Ev.pos (by omega) (Ev.ite (fun h => Ev.val ?_) (fun h => Ev.ite (fun h2 => Ev.val ?_) (fun h2 => ?_))))
    · rw [show okN m[i] = false from decide_eq_false (by omega)]; rfl
    · rw [show okN m[i] = false from decide_eq_false (by omega)]; rfl
    · rw [show okN m[i] = true from decide_eq_true (by omega), Bool.true_and]; exact hih
theorem rMValid (m : List Int) (hm : m.length ≤ 9223372036854775807) (n : Int) : Ev (fun k => petrinetref04_Valid.f k m n) (okM m && decide ((m.length : Int) = n)) := rMValid_l0 m hm n _ 0 (by omega) rfl
/-! ### enabled transitions -/
def newAt (t : Tr) (m : List Int) (p : Nat) : Int := wrap64 (wrap64 (m.getD p 0 - wt t.f1 p) + wt t.f2 p)
def okAt (l1 : List Pl) (t : Tr) (m : List Int) (p : Nat) : Prop := ¬ m.getD p 0 < wt t.f1 p ∧ ¬ (wt t.f3 p > 0 ∧ m.getD p 0 ≥ wt t.f3 p) ∧ ¬ ((l1.getD p z56).f2 > 0 ∧ newAt t m p > (l1.getD p z56).f2)
instance (l1 : List Pl) (t : Tr) (m : List Int) (p : Nat) : Decidable (okAt l1 t m p) := by unfold okAt; exact inferInstance
def readyV (l1 : List Pl) (t : Tr) (m : List Int) : Bool := decide (∀ p, p < l1.length → okAt l1 t m p)
theorem rReady_l0 (a : ByteArray) (l1 : List Pl) (l2 : List Tr) (t : Tr) (h1 : t.f1.length ≤ 1000) (h2 : t.f2.length ≤ 1000) (h3 : t.f3.length ≤ 1000) (m : List Int) (hm : m.length = l1.length) (hl : l1.length ≤ 1000) : ∀ (d i : Nat), i ≤ l1.length → l1.length - i = d → (∀ p, p < i → okAt l1 t m p) → Ev (fun k => petrinetref11_Ready.l0 k m (i : Int) a l1 l2 t.f0 t.f1 t.f2 t.f3 t.f4) (readyV l1 t m) := by
  intro d
  induction d with
  | zero =>
    intro i hi hd hok
    refine Ev.succ ?_
    simp only [petrinetref11_Ready.l0]
    exact Ev.neg (by omega) (Ev.val (decide_eq_true (fun p hp => hok p (by omega))).symm)
  | succ d ih =>
    intro i hi hd hok
    have hlt : i < l1.length := by omega
    have hno : ¬ okAt l1 t m i → Ev (fun _ : Nat => some false) (readyV l1 t m) := fun hn => Ev.val (decide_eq_false (fun hall => hn (hall i hlt))).symm
    have hgo : okAt l1 t m i → Ev (fun k => petrinetref11_Ready.l0 k m ((i + 1 : Nat) : Int) a l1 l2 t.f0 t.f1 t.f2 t.f3 t.f4) (readyV l1 t m) := fun ho => ih (i + 1) (by omega) (by omega) (fun p hp => by
      by_cases e : p = i
      · rw [e]; exact ho
      · exact hok p (by omega))
    refine Ev.succ ?_
    simp only [petrinetref11_Ready.l0, rdN, rdP]
    rw [wrap_succ (by omega)]
    refine Ev.pos (by omega) (Ev.bind (rWeight t.f3 h3 i) (Ev.pos (by omega) (Ev.pos (by omega) (Ev.bind (rWeight t.f1 h1 i) (Ev.bind (rWeight t.f2 h2 i) (Ev.bind (rWeight t.f1 h1 i) (Ev.ite (fun c => hno (fun h => h.1 c)) (fun c => ?_))))))))
    refine Ev.ite (fun c2 => Ev.ite (fun c3 => hno (fun h => h.2.1 ⟨c2, c3⟩)) (fun c3 => ?_)) (fun c2 => ?_)
    · refine Ev.ite (fun c4 => Ev.ite (fun c5 => hno (fun h => h.2.2 ⟨c4, c5⟩)) (fun c5 => hgo ⟨c, fun h => c3 h.2, fun h => c5 h.2⟩)) (fun c4 => hgo ⟨c, fun h => c3 h.2, fun h => c4 h.1⟩)
    · refine Ev.ite (fun c4 => Ev.ite (fun c5 => hno (fun h => h.2.2 ⟨c4, c5⟩)) (fun c5 => hgo ⟨c, fun h => c2 h.1, fun h => c5 h.2⟩)) (fun c4 => hgo ⟨c, fun h => c2 h.1, fun h => c4 h.1⟩)
theorem rReady (a : ByteArray) (l1 : List Pl) (l2 : List Tr) (hs : Short l2) (m : List Int) (hm : m.length = l1.length) (hl : l1.length ≤ 1000) (j : Nat) (hj : j < l2.length) : Ev (fun k => petrinetref11_Ready.f k a l1 l2 m (j : Int)) (readyV l1 l2[j] m) := by
  obtain ⟨b1, b2, b3⟩ := hs l2[j] (List.getElem_mem hj)
  unfold petrinetref11_Ready.f
  refine Ev.pos (by omega) (Ev.pos (by omega) ?_)
  rw [rdT, getT hj]
  exact rReady_l0 a l1 l2 l2[j] (by omega) (by omega) (by omega) m hm hl _ 0 (by omega) rfl (fun p hp => by omega)

/-! ### the transitions that may fire -/
def rdyL (l1 : List Pl) (l2 : List Tr) (m : List Int) (i : Nat) : List Int := ((List.range i).filter fun j => readyV l1 (l2.getD j z40) m).map Int.ofNat
def mostV (l1 : List Pl) (l2 : List Tr) (m : List Int) : Nat → Int
  | 0 => 0
  | i + 1 => if readyV l1 (l2.getD i z40) m = true then mx (mostV l1 l2 m i) (l2.getD i z40).f4 else mostV l1 l2 m i
def firesV (l1 : List Pl) (l2 : List Tr) (m : List Int) : List Int := (rdyL l1 l2 m l2.length).filter fun j => decide ((l2.getD j.toNat z40).f4 = mostV l1 l2 m l2.length)
theorem rdyL_mem {l1 : List Pl} {l2 : List Tr} {m : List Int} {i : Nat} {x : Int} : x ∈ rdyL l1 l2 m i ↔ ∃ j : Nat, x = (j : Int) ∧ j < i ∧ readyV l1 (l2.getD j z40) m = true := by
  unfold rdyL
  simp only [List.mem_map, List.mem_filter, List.mem_range]
  constructor
  · rintro ⟨j, ⟨h1, h2⟩, rfl⟩; exact ⟨j, rfl, h1, h2⟩
  · rintro ⟨j, rfl, h1, h2⟩; exact ⟨j, ⟨h1, h2⟩, rfl⟩
theorem rdyL_len (l1 : List Pl) (l2 : List Tr) (m : List Int) (i : Nat) : (rdyL l1 l2 m i).length ≤ i := by
  unfold rdyL
  rw [List.length_map]
  exact Nat.le_trans (List.length_filter_le _ _) (by rw [List.length_range]; exact Nat.le_refl _)
theorem rFires_l1 (a : ByteArray) (l1 : List Pl) (l2 : List Tr) (R : List Int) (most : Int) (hR : ∀ x ∈ R, ∃ j : Nat, x = (j : Int) ∧ j < l2.length) (hl : R.length ≤ 1000) : ∀ (d i : Nat), i ≤ R.length → R.length - i = d → Ev (fun k => petrinetref11_Fires.l1 k R most ((R.take i).filter fun j => decide ((l2.getD j.toNat z40).f4 = most)) (i : Int) a l1 l2) (R.filter fun j => decide ((l2.getD j.toNat z40).f4 = most)) := by
  intro d
  induction d with
  | zero =>
    intro i hi hd
    obtain rfl : i = R.length := by omega
    refine Ev.succ ?_
    simp only [petrinetref11_Fires.l1]
    exact Ev.neg (by omega) (Ev.val (by rw [List.take_length]))
  | succ d ih =>
    intro i hi hd
    have hlt : i < R.length := by omega
    have hih := ih (i + 1) (by omega) (by omega)
    have e : R.getD i 0 = R[i] := by simp [hlt]
    obtain ⟨j, hj, hjl⟩ := hR R[i] (List.getElem_mem hlt)
    have hlen : ((R.take i).filter fun j => decide ((l2.getD j.toNat z40).f4 = most)).length ≤ 1000 := Nat.le_trans (List.length_filter_le _ _) (by rw [List.length_take]; omega)
    rw [List.take_succ_eq_append_getElem hlt, List.filter_append] at hih
    refine Ev.succ ?_
    simp only [petrinetref11_Fires.l1, rdN]
    rw [e, wrap_succ (by omega), hj]
    refine Ev.pos (by omega) (Ev.pos (by omega) (Ev.pos (by omega) (Ev.pos (by omega) ?_)))
    rw [rdT]
    refine Ev.ite (fun h => Ev.pos (by omega) ?_) (fun h => ?_)
    · rw [hj, show List.filter (fun j => decide ((l2.getD j.toNat z40).f4 = most)) [(j : Int)] = [(j : Int)] from List.filter_cons_of_pos (by rw [Int.toNat_natCast]; exact decide_eq_true h)] at hih
      exact hih
    · rw [hj, show List.filter (fun j => decide ((l2.getD j.toNat z40).f4 = most)) [(j : Int)] = [] from List.filter_cons_of_neg (by rw [Int.toNat_natCast]; simpa using h), List.append_nil] at hih
      exact hih
theorem rFires_l0 (a : ByteArray) (l1 : List Pl) (l2 : List Tr) (hs : Short l2) (m : List Int) (hm : m.length = l1.length) (hl1 : l1.length ≤ 1000) (hl : l2.length ≤ 1000) : ∀ (d i : Nat), i ≤ l2.length → l2.length - i = d → Ev (fun k => petrinetref11_Fires.l0 k m (rdyL l1 l2 m i) (mostV l1 l2 m i) (i : Int) a l1 l2) (firesV l1 l2 m) := by
  intro d
  induction d with
  | zero =>
    intro i hi hd
    obtain rfl : i = l2.length := by omega
    refine Ev.succ ?_
    simp only [petrinetref11_Fires.l0]
    refine Ev.neg (by omega) ?_
    have := rFires_l1 a l1 l2 (rdyL l1 l2 m l2.length) (mostV l1 l2 m l2.length) (fun x hx => by obtain ⟨j, e, h, _⟩ := rdyL_mem.1 hx; exact ⟨j, e, h⟩) (Nat.le_trans (rdyL_len _ _ _ _) hl) _ 0 (by omega) rfl
    rw [List.take_zero] at this
    exact this
  | succ d ih =>
    intro i hi hd
    have hlt : i < l2.length := by omega
    have hih := ih (i + 1) (by omega) (by omega)
    have hlen := rdyL_len l1 l2 m i
    have hr := rReady a l1 l2 hs m hm hl1 i hlt
    have e := getT hlt
    have hR : rdyL l1 l2 m (i + 1) = if readyV l1 l2[i] m = true then rdyL l1 l2 m i ++ [(i : Int)] else rdyL l1 l2 m i := by
      unfold rdyL
      rw [List.range_succ, List.filter_append, List.map_append]
      by_cases hv : readyV l1 l2[i] m = true
      · rw [if_pos hv, List.filter_cons_of_pos (by rw [e]; exact hv)]; rfl
      · rw [if_neg hv, List.filter_cons_of_neg (by rw [e]; exact hv)]; simp
    rw [hR, mostV, e] at hih
    refine Ev.succ ?_
    simp only [petrinetref11_Fires.l0, rdT]
    rw [e, wrap_succ (by omega)]
    refine Ev.pos (by omega) (Ev.bind hr (Ev.ite (fun h => Ev.pos (by omega) (Ev.pos (by omega) ?_)) (fun h => ?_)))
    · rw [if_pos h, if_pos h] at hih; exact hih
    · rw [if_neg h, if_neg h] at hih; exact hih
theorem rFires (a : ByteArray) (l1 : List Pl) (l2 : List Tr) (hs : Short l2) (m : List Int) (hm : m.length = l1.length) (hl1 : l1.length ≤ 1000) (hl : l2.length ≤ 1000) : Ev (fun k => petrinetref11_Fires.f k a l1 l2 m) (firesV l1 l2 m) := rFires_l0 a l1 l2 hs m hm hl1 hl _ 0 (by omega) rfl
theorem fires_mem {l1 : List Pl} {l2 : List Tr} {m : List Int} {x : Int} (h : x ∈ firesV l1 l2 m) : ∃ j : Nat, ∃ hj : j < l2.length, x = (j : Int) ∧ readyV l1 l2[j] m = true := by
  obtain ⟨j, e, hj, hr⟩ := rdyL_mem.1 (List.mem_filter.1 h).1
  rw [getT hj] at hr
  exact ⟨j, hj, e, hr⟩
/-! ### plain and ordinary nets -/
def plainT (t : Tr) : Bool := decide (t.f3 = []) && decide (t.f4 = 0)
def plainV (a : ByteArray) (l1 : List Pl) (l2 : List Tr) : Bool := decide ((checkV a l1 l2).1 = 0) && ((l1.all fun p => decide (p.f2 = 0)) && l2.all plainT)
theorem plain_iff {a : ByteArray} {l1 : List Pl} {l2 : List Tr} : plainV a l1 l2 = true ↔ (checkV a l1 l2).1 = 0 ∧ (∀ p ∈ l1, p.f2 = 0) ∧ ∀ t ∈ l2, t.f3 = [] ∧ t.f4 = 0 := by
  unfold plainV plainT
  simp only [Bool.and_eq_true, decide_eq_true_eq, List.all_eq_true]
theorem rPlain_l1 (a : ByteArray) (l1 : List Pl) (l2 : List Tr) (hl : l2.length ≤ 1000) : ∀ (d i : Nat), i ≤ l2.length → l2.length - i = d → Ev (fun k => petrinetref09_Plain.l1 k (i : Int) a l1 l2) ((l2.drop i).all plainT) := by
  intro d
  induction d with
  | zero =>
    intro i hi hd
    refine Ev.succ ?_
    simp only [petrinetref09_Plain.l1]
    exact Ev.neg (by omega) (Ev.val (by rw [List.drop_eq_nil_of_le (by omega)]; rfl))
  | succ d ih =>
    intro i hi hd
    have hlt : i < l2.length := by omega
    have hih := ih (i + 1) (by omega) (by omega)
    refine Ev.succ ?_
    simp only [petrinetref09_Plain.l1, rdT]
    rw [getT hlt, wrap_succ (by omega), List.drop_eq_getElem_cons hlt, List.all_cons]
    refine Ev.pos (by omega) (Ev.pos (by omega) (Ev.ite (fun h => Ev.val ?_) (fun h => Ev.ite (fun h2 => ?_) (fun h2 => Ev.val ?_))))
    · unfold plainT
      rw [decide_eq_false (show ¬ l2[i].f3 = [] from fun hh => by rw [hh] at h; simp at h)]; rfl
    · rw [show plainT l2[i] = true by unfold plainT; rw [decide_eq_true (show l2[i].f3 = [] from List.length_eq_zero_iff.1 (by omega)), decide_eq_true h2]; rfl, Bool.true_and]
      exact hih
    · unfold plainT
      rw [decide_eq_false h2]; simp
theorem rPlain_l0 (a : ByteArray) (l1 : List Pl) (l2 : List Tr) (hl1 : l1.length ≤ 1000) (hl : l2.length ≤ 1000) : ∀ (d i : Nat), i ≤ l1.length → l1.length - i = d → Ev (fun k => petrinetref09_Plain.l0 k (i : Int) a l1 l2) (((l1.drop i).all fun p => decide (p.f2 = 0)) && l2.all plainT) := by
  intro d
  induction d with
  | zero =>
    intro i hi hd
    refine Ev.succ ?_
    simp only [petrinetref09_Plain.l0]
    rw [List.drop_eq_nil_of_le (by omega), List.all_nil, Bool.true_and]
    exact Ev.neg (by omega) (rPlain_l1 a l1 l2 hl _ 0 (by omega) rfl)
  | succ d ih =>
    intro i hi hd
    have hlt : i < l1.length := by omega
    have hih := ih (i + 1) (by omega) (by omega)
    refine Ev.succ ?_
    simp only [petrinetref09_Plain.l0, rdP]
    rw [getP hlt, wrap_succ (by omega), List.drop_eq_getElem_cons hlt, List.all_cons]
    refine Ev.pos (by omega) (Ev.pos (by omega) (Ev.ite (fun h => ?_) (fun h => Ev.val ?_)))
    · rw [decide_eq_true h, Bool.true_and]; exact hih
    · rw [decide_eq_false h]; rfl
theorem rPlain (a : ByteArray) (l1 : List Pl) (l2 : List Tr) (hs : Short l2) (hl1 : l1.length ≤ 1000) (hl : l2.length ≤ 1000) : Ev (fun k => petrinetref09_Plain.f k a l1 l2) (plainV a l1 l2) := by
  unfold petrinetref09_Plain.f plainV
  refine Ev.bind (rValid a l1 l2 hs hl1 hl) (Ev.ite (fun h => ?_) (fun h => Ev.val (by rw [Bool.not_eq_true] at h; rw [h]; rfl)))
  rw [h, Bool.true_and]
  exact rPlain_l0 a l1 l2 hl1 hl _ 0 (by omega) rfl
def onesV (l : List Ar) : Bool := l.all fun a => decide (a.f1 = 1)
theorem rOnes_l0 (l : List Ar) (hl : l.length ≤ 1000) : ∀ (d i : Nat), i ≤ l.length → l.length - i = d → Ev (fun k => petrinetref09_ones.l0 k l (i : Int)) (onesV (l.drop i)) := by
  intro d
  induction d with
  | zero =>
    intro i hi hd
    refine Ev.succ ?_
    simp only [petrinetref09_ones.l0]
    exact Ev.neg (by omega) (Ev.val (by rw [List.drop_eq_nil_of_le (by omega)]; rfl))
  | succ d ih =>
    intro i hi hd
    have hlt : i < l.length := by omega
    have hih := ih (i + 1) (by omega) (by omega)
    have e : l.getD i z58 = l[i] := by simp [hlt]
    refine Ev.succ ?_
    simp only [petrinetref09_ones.l0, rdA]
    rw [e, wrap_succ (by omega), List.drop_eq_getElem_cons hlt, onesV, List.all_cons]
    refine Ev.pos (by omega) (Ev.pos (by omega) (Ev.ite (fun h => ?_) (fun h => Ev.val ?_)))
    · rw [decide_eq_true h, Bool.true_and]; exact hih
    · rw [decide_eq_false h]; rfl
def ordT (t : Tr) : Bool := onesV t.f1 && onesV t.f2
def ordV (a : ByteArray) (l1 : List Pl) (l2 : List Tr) : Bool := decide ((checkV a l1 l2).1 = 0) && l2.all ordT
theorem rOrd_l0 (a : ByteArray) (l1 : List Pl) (l2 : List Tr) (hs : Short l2) (hl : l2.length ≤ 1000) : ∀ (d i : Nat), i ≤ l2.length → l2.length - i = d → Ev (fun k => petrinetref09_Ordinary.l0 k (i : Int) a l1 l2) ((l2.drop i).all ordT) := by
  intro d
  induction d with
  | zero =>
    intro i hi hd
    refine Ev.succ ?_
    simp only [petrinetref09_Ordinary.l0]
    exact Ev.neg (by omega) (Ev.val (by rw [List.drop_eq_nil_of_le (by omega)]; rfl))
  | succ d ih =>
    intro i hi hd
    have hlt : i < l2.length := by omega
    have hih := ih (i + 1) (by omega) (by omega)
    obtain ⟨b1, b2, b3⟩ := hs l2[i] (List.getElem_mem hlt)
    refine Ev.succ ?_
    simp only [petrinetref09_Ordinary.l0, rdT]
    rw [getT hlt, wrap_succ (by omega), List.drop_eq_getElem_cons hlt, List.all_cons]
    refine Ev.pos (by omega) (Ev.pos (by omega) (Ev.bind (rOnes_l0 l2[i].f1 (by omega) _ 0 (by omega) rfl) (Ev.ite (fun h => Ev.bind (rOnes_l0 l2[i].f2 (by omega) _ 0 (by omega) rfl) (Ev.ite (fun h2 => ?_) (fun h2 => Ev.val ?_))) (fun h => Ev.val ?_))))
    · rw [show ordT l2[i] = true by unfold ordT; rw [Bool.and_eq_true]; exact ⟨h, h2⟩, Bool.true_and]; exact hih
    · rw [show ordT l2[i] = false by unfold ordT; rw [Bool.and_eq_false_iff]; exact .inr (Bool.not_eq_true _ ▸ h2)]; rfl
    · rw [show ordT l2[i] = false by unfold ordT; rw [Bool.and_eq_false_iff]; exact .inl (Bool.not_eq_true _ ▸ h)]; rfl
theorem rOrd (a : ByteArray) (l1 : List Pl) (l2 : List Tr) (hs : Short l2) (hl1 : l1.length ≤ 1000) (hl : l2.length ≤ 1000) : Ev (fun k => petrinetref09_Ordinary.f k a l1 l2) (ordV a l1 l2) := by
  unfold petrinetref09_Ordinary.f ordV
  refine Ev.bind (rValid a l1 l2 hs hl1 hl) (Ev.ite (fun h => ?_) (fun h => Ev.val (by rw [Bool.not_eq_true] at h; rw [h]; rfl)))
  rw [h, Bool.true_and]
  exact rOrd_l0 a l1 l2 hs hl _ 0 (by omega) rfl
end Go.Proofs.Ytaphehdbjbogaaa.Fires

/- The places without tokens, as a vector of bits; sets and their greatest closed part. -/
namespace Go.Proofs.Ytaphehdbjbogaaa.Empties
open Go.RowKit Go.Proofs.Ytaphehdbjbogaaa.Pr Go.Proofs.Ytaphehdbjbogaaa.Evs Go.Proofs.Ytaphehdbjbogaaa.Nets Go.Proofs.Ytaphehdbjbogaaa.Siph Go.Proofs.Ytaphehdbjbogaaa.Great Go.Proofs.Ytaphehdbjbogaaa.Fires Go.Proofs.Ytaphehdbjbogaaa.Bits Go.Proofs.Ytaphehdbjbogaaa.Sets Go.Proofs.YtaphehdbjbogaaaW.PrintWords Go.Proofs.YtaphehdbjbogaaaW.PrintLast Go.Proofs.YtaphehdbjbogaaaW.PrintMore
set_option linter.unusedVariables false
set_option linter.unusedSimpArgs false
def emptyB (m : List Int) : Nat → Nat → BitVec 64 → BitVec 64
  | 0, _, s => s
  | d + 1, i, s => emptyB m d (i + 1) (if m.getD i 0 = 0 then withB s (i : Int) else s)
theorem empty_bit (m : List Int) (b : Nat) (hb : b < 64) : ∀ (d i : Nat) (s : BitVec 64), (emptyB m d i s).getLsbD b = true ↔ (s.getLsbD b = true ∨ (i ≤ b ∧ b < i + d ∧ m.getD b 0 = 0))
  | 0, i, s => by
    rw [emptyB]
    exact ⟨.inl, fun h => h.resolve_right (fun h => by omega)⟩
  | d + 1, i, s => by
    rw [emptyB, empty_bit m b hb d (i + 1)]
    by_cases e : m.getD i 0 = 0
    · rw [if_pos e, withB_bit]
      simp only [Bool.or_eq_true, Bool.and_eq_true, decide_eq_true_eq]
      constructor
      · rintro ((h | h) | h)
        · exact .inl h
        · obtain rfl : i = b := by omega
          exact .inr ⟨by omega, by omega, e⟩
        · exact .inr ⟨by omega, by omega, h.2.2⟩
      · rintro (h | h)
        · exact .inl (.inl h)
        · by_cases eb : i = b
          · exact .inl (.inr (by omega))
          · exact .inr ⟨by omega, by omega, h.2.2⟩
    · rw [if_neg e]
      constructor
      · rintro (h | h)
        · exact .inl h
        · exact .inr ⟨by omega, by omega, h.2.2⟩
      · rintro (h | h)
        · exact .inl h
        · refine .inr ⟨?_, by omega, h.2.2⟩
          by_cases eb : i = b
          · rw [eb] at e; exact absurd h.2.2 e
          · omega
theorem meet_arc {l : List Ar} {v : BitVec 64} {np : Int} (hl : ∀ a ∈ l, 0 ≤ a.f0 ∧ a.f0 < np ∧ 1 ≤ a.f1 ∧ a.f1 ≤ 99) : meetB l v = true ↔ ∃ p : Nat, v.getLsbD p = true ∧ (p : Int) < np ∧ 1 ≤ wt l p := by
  rw [meet_iff]
  constructor
  · rintro ⟨i, hv, hi⟩
    obtain ⟨a, ha, hd⟩ := List.any_eq_true.1 hi
    have hd := of_decide_eq_true hd
    have h4 := hl a ha
    exact ⟨i, hv, by omega, (wt_pos hl i).2 ⟨a, ha, by omega⟩⟩
  · rintro ⟨i, hv, _, hw⟩
    obtain ⟨a, ha, e⟩ := (wt_pos hl i).1 hw
    exact ⟨i, hv, List.any_eq_true.2 ⟨a, ha, decide_eq_true (by omega)⟩⟩
end Go.Proofs.Ytaphehdbjbogaaa.Empties

/- Firing, told of the reference: the next marking. -/
namespace Go.Proofs.Ytaphehdbjbogaaa.Nexts
open Go.RowKit Go.Proofs.Ytaphehdbjbogaaa.Pr Go.Proofs.Ytaphehdbjbogaaa.Evs Go.Proofs.Ytaphehdbjbogaaa.Nets Go.Proofs.Ytaphehdbjbogaaa.Fires Go.Proofs.YtaphehdbjbogaaaW.PrintWords Go.Proofs.YtaphehdbjbogaaaW.PrintLast Go.Proofs.YtaphehdbjbogaaaW.PrintMore
set_option linter.unusedVariables false
set_option linter.unusedSimpArgs false

/-! ### the next marking -/
theorem rHas_l0 (l : List Int) (hl : l.length ≤ 1000) (x : Int) : ∀ (d i : Nat), i ≤ l.length → l.length - i = d → Ev (fun k => petrinetref11_has.l0 k l x (i : Int)) (decide (x ∈ l.drop i)) := by
  intro d
  induction d with
  | zero =>
    intro i hi hd
    refine Ev.succ ?_
    simp only [petrinetref11_has.l0]
    exact Ev.neg (by omega) (Ev.val (by rw [List.drop_eq_nil_of_le (by omega)]; rfl))
  | succ d ih =>
    intro i hi hd
    have hlt : i < l.length := by omega
    have hih := ih (i + 1) (by omega) (by omega)
    have e : l.getD i 0 = l[i] := by simp [hlt]
    refine Ev.succ ?_
    simp only [petrinetref11_has.l0, rdN]
    rw [e, wrap_succ (by omega), List.drop_eq_getElem_cons hlt]
    refine Ev.pos (by omega) (Ev.pos (by omega) (Ev.ite (fun h => Ev.val ?_) (fun h => ?_)))
    · exact (decide_eq_true (by rw [h]; exact List.mem_cons_self)).symm
    · rw [show decide (x ∈ l[i] :: l.drop (i + 1)) = decide (x ∈ l.drop (i + 1)) from decide_eq_decide.2 (by rw [List.mem_cons]; exact ⟨fun hh => hh.resolve_left (fun e => h e.symm), .inr⟩)]
      exact hih
def afterGo (t : Tr) (m : List Int) : Nat → Nat → List Int → List Int × Bool
  | 0, _, acc => (acc, true)
  | d + 1, i, acc => if newAt t m i > 1048576 then ([], false) else afterGo t m d (i + 1) (acc ++ [newAt t m i])
theorem after_ok {t : Tr} {m : List Int} : ∀ {d i : Nat}, (afterGo t m d i ((List.range i).map (newAt t m))).2 = true → (afterGo t m d i ((List.range i).map (newAt t m))).1 = (List.range (i + d)).map (newAt t m) ∧ ∀ p, i ≤ p → p < i + d → newAt t m p ≤ 1048576
  | 0, i, h => ⟨rfl, fun p h1 h2 => by omega⟩
  | d + 1, i, h => by
    rw [afterGo] at h ⊢
    by_cases c : newAt t m i > 1048576
    · rw [if_pos c] at h; cases h
    · rw [if_neg c] at h ⊢
      have e : (List.range i).map (newAt t m) ++ [newAt t m i] = (List.range (i + 1)).map (newAt t m) := by rw [List.range_succ, List.map_append]; rfl
      rw [e] at h ⊢
      obtain ⟨h1, h2⟩ := after_ok h
      rw [show i + (d + 1) = i + 1 + d by omega]
      refine ⟨h1, fun p hp hp2 => ?_⟩
      by_cases ep : p = i
      · rw [ep]; omega
      · exact h2 p (by omega) (by omega)
theorem rAfter_l0 (a : ByteArray) (l1 : List Pl) (l2 : List Tr) (hs : Short l2) (m : List Int) (hm : m.length = l1.length) (hl : l1.length ≤ 1000) (j : Nat) (hj : j < l2.length) : ∀ (d i : Nat) (acc : List Int), i ≤ l1.length → l1.length - i = d → acc.length = i → Ev (fun k => petrinetref11_After.l0 k m (j : Int) acc (i : Int) a l1 l2) (afterGo l2[j] m d i acc) := by
  obtain ⟨b1, b2, b3⟩ := hs l2[j] (List.getElem_mem hj)
  intro d
  induction d with
  | zero =>
    intro i acc hi hd ha
    refine Ev.succ ?_
    simp only [petrinetref11_After.l0]
    exact Ev.neg (by omega) (Ev.now _)
  | succ d ih =>
    intro i acc hi hd ha
    refine Ev.succ ?_
    simp only [petrinetref11_After.l0, rdN, rdT]
    rw [getT hj, wrap_succ (by omega), afterGo]
    refine Ev.pos (by omega) (Ev.pos (by omega) (Ev.pos (by omega) (Ev.pos (by omega) (Ev.pos (by omega) (Ev.bind (rWeight l2[j].f1 (by omega) i) (Ev.bind (rWeight l2[j].f2 (by omega) i) (Ev.ite (fun h => Ev.val (by rw [if_pos (show newAt l2[j] m i > 1048576 from h)])) (fun h => Ev.pos (by omega) ?_))))))))
    rw [if_neg (show ¬ newAt l2[j] m i > 1048576 from h)]
    exact ih (i + 1) _ (by omega) (by omega) (by simp [ha])
/-- What firing answers at a valid net and marking: where it answers OK, the transition is enabled and the marking is the next one. -/
theorem rFire (a : ByteArray) (l1 : List Pl) (l2 : List Tr) (hs : Short l2) (hl1 : l1.length ≤ 1000) (hl : l2.length ≤ 1000) (h0 : (checkV a l1 l2).1 = 0) (m : List Int) (hm : m.length = l1.length) (hk : okM m = true) (x : Int) :
    ∃ r, Ev (fun k => petrinetref11_Fire.f k a l1 l2 m x) r ∧ (r.2 = 0 → ∃ j : Nat, ∃ hj : j < l2.length, readyV l1 l2[j] m = true ∧ r.1 = (List.range l1.length).map (newAt l2[j] m) ∧ ∀ p, p < l1.length → newAt l2[j] m p ≤ 1048576) := by
  unfold petrinetref11_Fire.f
  have hc := rCheck a l1 l2 hs hl hl1
  have hv := rMValid m (by omega) (l1.length : Int)
  have hvt : (okM m && decide ((m.length : Int) = (l1.length : Int))) = true := by rw [hk, decide_eq_true (by omega)]; rfl
  by_cases hx : x < 0
  · exact ⟨([], 1), Ev.bind hc (Ev.pos h0 (Ev.bind hv (Ev.pos hvt (Ev.pos hx (Ev.now _))))), fun h => by cases h⟩
  by_cases hx2 : (l2.length : Int) ≤ x
  · exact ⟨([], 1), Ev.bind hc (Ev.pos h0 (Ev.bind hv (Ev.pos hvt (Ev.neg hx (Ev.pos hx2 (Ev.now _)))))), fun h => by cases h⟩
  obtain ⟨j, rfl⟩ : ∃ j : Nat, x = (j : Int) := ⟨x.toNat, by omega⟩
  have hj : j < l2.length := by omega
  have hf := rFires a l1 l2 hs m hm hl1 hl
  have hlen : (firesV l1 l2 m).length ≤ 1000 := Nat.le_trans (List.length_filter_le _ _) (Nat.le_trans (rdyL_len _ _ _ _) hl)
  have hh : Ev (fun k => petrinetref11_has.f k (firesV l1 l2 m) (j : Int)) (decide ((j : Int) ∈ firesV l1 l2 m)) := by
    have := rHas_l0 (firesV l1 l2 m) hlen (j : Int) _ 0 (by omega) rfl
    rw [List.drop_zero] at this
    exact this
  by_cases hin : (j : Int) ∈ firesV l1 l2 m
  · have ha : Ev (fun k => petrinetref11_After.f k a l1 l2 m (j : Int)) (afterGo l2[j] m (l1.length - 0) 0 []) := rAfter_l0 a l1 l2 hs m hm hl1 j hj _ 0 [] (by omega) rfl rfl
    by_cases hok : (afterGo l2[j] m (l1.length - 0) 0 []).2 = true
    · refine ⟨((afterGo l2[j] m (l1.length - 0) 0 []).1, 0), Ev.bind hc (Ev.pos h0 (Ev.bind hv (Ev.pos hvt (Ev.neg hx (Ev.neg hx2 (Ev.bind hf (Ev.bind hh (Ev.pos (decide_eq_true hin) (Ev.bind ha (Ev.pos hok (Ev.now _))))))))))), fun _ => ?_⟩
      obtain ⟨j', hj', e, hr⟩ := fires_mem hin
      obtain rfl : j = j' := by omega
      have := after_ok (t := l2[j]) (m := m) (d := l1.length - 0) (i := 0) hok
      refine ⟨j, hj, hr, ?_, fun p hp => this.2 p (by omega) (by omega)⟩
      have h1 := this.1
      rw [show 0 + (l1.length - 0) = l1.length by omega] at h1
      exact h1
    · exact ⟨([], 3), Ev.bind hc (Ev.pos h0 (Ev.bind hv (Ev.pos hvt (Ev.neg hx (Ev.neg hx2 (Ev.bind hf (Ev.bind hh (Ev.pos (decide_eq_true hin) (Ev.bind ha (Ev.neg hok (Ev.now _))))))))))), fun h => by cases h⟩
  · exact ⟨([], 13), Ev.bind hc (Ev.pos h0 (Ev.bind hv (Ev.pos hvt (Ev.neg hx (Ev.neg hx2 (Ev.bind hf (Ev.bind hh (Ev.neg (by simpa using hin) (Ev.now _))))))))), fun h => by cases h⟩
end Go.Proofs.Ytaphehdbjbogaaa.Nexts

/- A siphon without tokens gets none, and a marked trap keeps some. -/
namespace Go.Proofs.Ytaphehdbjbogaaa.Pure
open Go.RowKit Go.Proofs.Ytaphehdbjbogaaa.Pr Go.Proofs.Ytaphehdbjbogaaa.Evs Go.Proofs.Ytaphehdbjbogaaa.Nets Go.Proofs.Ytaphehdbjbogaaa.Siph Go.Proofs.Ytaphehdbjbogaaa.Great Go.Proofs.Ytaphehdbjbogaaa.Fires Go.Proofs.Ytaphehdbjbogaaa.Nexts Go.Proofs.Ytaphehdbjbogaaa.Empties Go.Proofs.Ytaphehdbjbogaaa.Bits Go.Proofs.Ytaphehdbjbogaaa.Sets Go.Proofs.Ytaphehdbjbogaaa.Refs Go.Proofs.YtaphehdbjbogaaaW.PrintWords Go.Proofs.YtaphehdbjbogaaaW.PrintLast Go.Proofs.YtaphehdbjbogaaaW.PrintMore
set_option linter.unusedVariables false
set_option linter.unusedSimpArgs false
theorem pMarked_l0 (v : BitVec 64) (l : List Int) (hl : l.length ≤ 9223372036854775807) : ∀ (d i : Nat), i ≤ l.length → l.length - i = d → Ev (fun k => siphon_Marked.l0 k (U v) l (l.length : Int) (i : Int)) (markGo v l d i) := by
  intro d
  induction d with
  | zero =>
    intro i hi hd
    refine Ev.succ ?_
    simp only [siphon_Marked.l0]
    exact Ev.neg (by omega) (Ev.now _)
  | succ d ih =>
    intro i hi hd
    have hih := ih (i + 1) (by omega) (by omega)
    refine Ev.succ ?_
    simp only [siphon_Marked.l0, has_U, Option.bind_some, rd_nat]
    rw [wrap_succ (by omega), markGo]
    refine Ev.pos (by omega) (Ev.pos (by omega) (Ev.pos (by omega) (Ev.ite (fun h => Ev.ite (fun h2 => ?_) (fun h2 => ?_)) (fun h => ?_))))
    · rw [if_pos ⟨h, by simpa using h2⟩]; exact Ev.now _
    · rw [if_neg (fun hh => h2 (by simpa using hh.2))]; exact hih
    · rw [if_neg (fun hh => h hh.1)]; exact hih
def markV (v : BitVec 64) (l : List Int) : Bool := markGo v l l.length 0
theorem pMarked (v : BitVec 64) (l : List Int) (hl : l.length ≤ 9223372036854775807) : Ev (fun k => siphon_Marked.f k (U v) l) (markV v l) := pMarked_l0 v l hl _ 0 (by omega) rfl
theorem markGo_iff (v : BitVec 64) (l : List Int) : ∀ (d i : Nat), markGo v l d i = true ↔ ∃ p, i ≤ p ∧ p < i + d ∧ l.getD p 0 > 0 ∧ v.getLsbD p = true
  | 0, i => by
    rw [markGo]
    exact ⟨fun h => (by cases h), fun ⟨p, h1, h2, _⟩ => (by omega)⟩
  | d + 1, i => by
    rw [markGo]
    by_cases c : l.getD i 0 > 0 ∧ v.getLsbD i = true
    · rw [if_pos c]
      exact ⟨fun _ => ⟨i, by omega, by omega, c.1, c.2⟩, fun _ => rfl⟩
    · rw [if_neg c, markGo_iff v l d (i + 1)]
      constructor
      · rintro ⟨p, h1, h2, h3⟩; exact ⟨p, by omega, by omega, h3⟩
      · rintro ⟨p, h1, h2, h3⟩
        by_cases e : p = i
        · rw [e] at h3; exact absurd h3 c
        · exact ⟨p, by omega, by omega, h3⟩
theorem mark_iff {v : BitVec 64} {l : List Int} : markV v l = true ↔ ∃ p, p < l.length ∧ l.getD p 0 > 0 ∧ v.getLsbD p = true := by
  unfold markV
  rw [markGo_iff]
  exact ⟨fun ⟨p, _, h2, h3⟩ => ⟨p, by omega, h3⟩, fun ⟨p, h2, h3⟩ => ⟨p, Nat.zero_le _, by omega, h3⟩⟩
def initV (l1 : List Pl) : List Int := l1.map fun p => p.f1
theorem initV_take {l1 : List Pl} {i : Nat} (h : i < l1.length) : initV (l1.take (i + 1)) = initV (l1.take i) ++ [l1[i].f1] := by
  unfold initV
  rw [List.take_succ_eq_append_getElem h, List.map_append]
  rfl
theorem rInit_l0 (a : ByteArray) (l1 : List Pl) (l2 : List Tr) (hs : Short l2) (hl1 : l1.length ≤ 26) (hl : l2.length ≤ 26) (h0 : (checkV a l1 l2).1 = 0) : ∀ (d i : Nat), i ≤ l1.length → l1.length - i = d → Ev (fun k => petrinetref09_Initial.l0 k (initV (l1.take i)) (i : Int) a l1 l2) (initV l1) := by
  intro d
  induction d with
  | zero =>
    intro i hi hd
    obtain rfl : i = l1.length := by omega
    refine Ev.succ ?_
    simp only [petrinetref09_Initial.l0]
    exact Ev.neg (by omega) (Ev.val (by rw [List.take_length]))
  | succ d ih =>
    intro i hi hd
    have hlt : i < l1.length := by omega
    have hih := ih (i + 1) (by omega) (by omega)
    rw [initV_take hlt] at hih
    refine Ev.succ ?_
    simp only [petrinetref09_Initial.l0, rdP]
    rw [getP hlt, wrap_succ (by omega)]
    exact Ev.pos (by omega) (Ev.bind (rValid a l1 l2 hs (by omega) (by omega)) (Ev.pos (decide_eq_true h0) (Ev.pos (by omega) (Ev.pos (by unfold initV; rw [List.length_map, List.length_take]; omega) hih))))
theorem init_ok {l1 : List Pl} {l2 : List Tr} (hn : Net0 l1 l2) : okM (initV l1) = true := by
  unfold okM initV
  rw [List.all_map, List.all_eq_true]
  intro p hp
  have := hn.place hp
  exact decide_eq_true (show 0 ≤ p.f1 ∧ p.f1 ≤ 1048576 by omega)
/-- What one step does to the places: the plain numbers. -/
theorem new_at {l1 : List Pl} {l2 : List Tr} (hn : Net0 l1 l2) {t : Tr} (ht : t ∈ l2) {m : List Int} (hlen : m.length = l1.length) (hok : okM m = true) (hr : readyV l1 t m = true) {p : Nat} (hp : p < l1.length) : wt t.f1 p ≤ m.getD p 0 ∧ 0 ≤ wt t.f1 p ∧ 0 ≤ wt t.f2 p ∧ 0 ≤ m.getD p 0 ∧ newAt t m p = m.getD p 0 - wt t.f1 p + wt t.f2 p := by
  have h1 := wt_range (hn.pre ht) p
  have h2 := wt_range (hn.post ht) p
  have h3 := okM_at hok p (by omega)
  have h4 := (of_decide_eq_true hr p hp).1
  refine ⟨by omega, h1.1, h2.1, h3.1, ?_⟩
  unfold newAt
  generalize m.getD p 0 = x at *
  generalize wt t.f1 p = y at *
  generalize wt t.f2 p = z at *
  unfold wrap64
  omega
theorem new_get {t : Tr} {m : List Int} {n p : Nat} (hp : p < n) : ((List.range n).map (newAt t m)).getD p 0 = newAt t m p := by simp [hp]
theorem stays_l1 (a : ByteArray) (l1 : List Pl) (l2 : List Tr) (hs : Short l2) (hl1 : l1.length ≤ 26) (hl : l2.length ≤ 26) (h0 : (checkV a l1 l2).1 = 0) (seq : List Int) (hq : seq.length ≤ 1000) (g1 g2 : BitVec 64) (c1 : holdsV false l2 g1 = true) (c2 : holdsV true l2 g2 = true) (held : Bool) : ∀ (d i : Nat) (m : List Int), i ≤ seq.length → seq.length - i = d → m.length = l1.length → okM m = true → (∀ p, g1.getLsbD p = true → m.getD p 0 = 0) → (held = true → markV g2 m = true) → Ev (fun k => petrinetlaw33_SiphonStays.l1 k seq m (U g1) (U g2) held (i : Int) a l1 l2) true := by
  have hn := net_ok h0
  intro d
  induction d with
  | zero =>
    intro i m hi hd hlen hok he hk
    refine Ev.succ ?_
    simp only [petrinetlaw33_SiphonStays.l1]
    exact Ev.neg (by omega) lives'
  | succ d ih =>
    intro i m hi hd hlen hok he hk
    obtain ⟨r, hr, hr2⟩ := rFire a l1 l2 hs (by omega) (by omega) h0 m hlen hok (rd seq (i : Int))
    refine Ev.succ ?_
    simp only [petrinetlaw33_SiphonStays.l1]
    rw [wrap_succ (by omega)]
    refine Ev.pos (by omega) (Ev.pos (by omega) (Ev.bind hr (Ev.ite (fun h => ?_) (fun _ => lives'))))
    obtain ⟨j, hj, hrdy, hm', hmax⟩ := hr2 h
    have ht : l2[j] ∈ l2 := List.getElem_mem hj
    have hlen' : r.1.length = l1.length := by rw [hm', List.length_map, List.length_range]
    have hat : ∀ p, p < l1.length → r.1.getD p 0 = newAt l2[j] m p := fun p hp => by rw [hm']; exact new_get hp
    have hok' : okM r.1 = true := by
      rw [hm']
      unfold okM
      rw [List.all_map, List.all_eq_true]
      intro p hp
      have hp := List.mem_range.1 hp
      have h1 := new_at hn ht hlen hok hrdy hp
      have h2 := hmax p hp
      exact decide_eq_true ⟨by omega, by omega⟩
    have he' : ∀ p, g1.getLsbD p = true → r.1.getD p 0 = 0 := by
      intro p hp
      by_cases hpl : p < l1.length
      · rw [hat p hpl]
        have hm0 := he p hp
        have h1 := new_at hn ht hlen hok hrdy hpl
        have hc : (!meetB l2[j].f2 g1 || meetB l2[j].f1 g1) = true := List.all_eq_true.1 c1 _ ht
        have hpre : meetB l2[j].f1 g1 = false := by
          rw [Bool.eq_false_iff]
          intro hm
          obtain ⟨q, hq1, hq2, hq3⟩ := (meet_arc (hn.pre ht)).1 hm
          have h2 := new_at hn ht hlen hok hrdy (show q < l1.length by omega)
          have := he q hq1
          omega
        have hpost : meetB l2[j].f2 g1 = false := by
          rw [hpre] at hc
          simpa using hc
        have hw : ¬ 1 ≤ wt l2[j].f2 p := fun hw => by
          rw [(meet_arc (hn.post ht)).2 ⟨p, hp, by omega, hw⟩] at hpost
          cases hpost
        omega
      · simp [hlen', hpl]
    have hk' : held = true → markV g2 r.1 = true := by
      intro hh
      have hc : (!meetB l2[j].f1 g2 || meetB l2[j].f2 g2) = true := List.all_eq_true.1 c2 _ ht
      by_cases hpost : meetB l2[j].f2 g2 = true
      · obtain ⟨q, hq1, hq2, hq3⟩ := (meet_arc (hn.post ht)).1 hpost
        have hql : q < l1.length := by omega
        have h2 := new_at hn ht hlen hok hrdy hql
        exact mark_iff.2 ⟨q, by omega, by rw [hat q hql]; omega, hq1⟩
      · rw [Bool.not_eq_true] at hpost
        have hpre : meetB l2[j].f1 g2 = false := by
          rw [hpost] at hc
          simpa using hc
        obtain ⟨q, hq1, hq2, hq3⟩ := mark_iff.1 (hk hh)
        have hql : q < l1.length := by omega
        have h2 := new_at hn ht hlen hok hrdy hql
        have hw : ¬ 1 ≤ wt l2[j].f1 q := fun hw => by
          rw [(meet_arc (hn.pre ht)).2 ⟨q, hq3, by omega, hw⟩] at hpre
          cases hpre
        exact mark_iff.2 ⟨q, by omega, by rw [hat q hql]; omega, hq3⟩
    have hih := ih (i + 1) r.1 (by omega) (by omega) hlen' hok' he' hk'
    have hno : ¬ markV g1 r.1 = true := fun hm => by
      obtain ⟨p, _, h2, h3⟩ := mark_iff.1 hm
      rw [he' p h3] at h2
      omega
    refine Ev.bind (pMarked g1 r.1 (by omega)) (Ev.neg hno (Ev.ite (fun hh => Ev.bind (pMarked g2 r.1 (by omega)) (Ev.pos (hk' hh) hih)) (fun _ => hih)))
theorem stays_l0 (a : ByteArray) (l1 : List Pl) (l2 : List Tr) (hs : Short l2) (hl1 : l1.length ≤ 26) (hl : l2.length ≤ 26) (h0 : (checkV a l1 l2).1 = 0) (seq : List Int) (hq : seq.length ≤ 1000) (v : BitVec 64) (E : BitVec 64) (hE : emptyB (initV l1) (initV l1).length 0 0#64 = E) : ∀ (d i : Nat) (s : BitVec 64), i ≤ (initV l1).length → (initV l1).length - i = d → emptyB (initV l1) d i s = E → Ev (fun k => petrinetlaw33_SiphonStays.l0 k (U v) seq (initV l1) (U s) (i : Int) a l1 l2) true := by
  have hlen : (initV l1).length = l1.length := by unfold initV; rw [List.length_map]
  have hok := init_ok (net_ok h0)
  intro d
  induction d with
  | zero =>
    intro i s hi hd he
    obtain rfl : s = E := he
    obtain ⟨g1, hg1⟩ := gr_exists false l2 hs (by omega) ((v &&& s) &&& allTo (min l1.length 64))
    obtain ⟨g2, hg2⟩ := gr_exists true l2 hs (by omega) (v &&& allTo (min l1.length 64))
    have e1 : Ev (fun k => siphon_MaxSiphon.f k a l1 l2 (U (v &&& s))) (U g1) := by unfold siphon_MaxSiphon.f; exact Ev.bind (pMax false a l1 l2 hs (by omega) _ g1 h0 hg1) (Ev.now _)
    have e2 : Ev (fun k => siphon_MaxTrap.f k a l1 l2 (U v)) (U g2) := by unfold siphon_MaxTrap.f; exact Ev.bind (pMax true a l1 l2 hs (by omega) _ g2 h0 hg2) (Ev.now _)
    have hz : ∀ p, g1.getLsbD p = true → (initV l1).getD p 0 = 0 := by
      intro p hp
      have hs1 := (and_right v s) p ((and_left _ _) p (hg1.1 p hp))
      rw [← hE] at hs1
      rcases (empty_bit _ p (lt_bit hp) _ 0 0#64).1 hs1 with h | h
      · simp at h
      · exact h.2.2
    have hgo : ∀ held : Bool, (held = true → markV g2 (initV l1) = true) → Ev (fun k => petrinetlaw33_SiphonStays.j2 k seq (initV l1) (U g1) (U g2) held a l1 l2) true := fun held hk => by
      refine Ev.succ ?_
      simp only [petrinetlaw33_SiphonStays.j2]
      exact stays_l1 a l1 l2 hs hl1 hl h0 seq hq g1 g2 hg1.2.1 hg2.2.1 held _ 0 (initV l1) (by omega) rfl hlen hok hz hk
    refine Ev.succ ?_
    simp only [petrinetlaw33_SiphonStays.l0]
    rw [bits_and]
    exact Ev.neg (by omega) (Ev.bind e1 (Ev.bind e2 (Ev.bind (rOrd a l1 l2 hs (by omega) (by omega)) (Ev.ite (fun _ => Ev.bind (pMarked g2 (initV l1) (by omega)) (hgo _ (fun h => h))) (fun _ => hgo false (fun h => by cases h))))))
  | succ d ih =>
    intro i s hi hd he
    rw [emptyB] at he
    have hih := fun s => ih (i + 1) s (by omega) (by omega)
    refine Ev.succ ?_
    simp only [petrinetlaw33_SiphonStays.l0, rdN]
    rw [wrap_succ (by omega)]
    refine Ev.pos (by omega) (Ev.pos (by omega) (Ev.ite (fun h => ?_) (fun h => ?_)))
    · rw [if_pos h] at he
      exact Ev.bind (rwith s _) (hih _ he)
    · rw [if_neg h] at he
      exact hih _ he
theorem SiphonStays (a : ByteArray × List Pl × List Tr) (s : Int) (seq : List Int) {P : Prop} (ha : P) (hs : (Lit.int .u64 s).wf = true) {Q : Prop} (hq : seq.length ≤ maxLen ∧ Q) : ∃ k, petrinetlaw33_SiphonStays.f k a.1 a.2.1 a.2.2 s seq = some true := by
  obtain ⟨v, rfl⟩ := U_of hs
  obtain ⟨b, hb⟩ := small_some a.1 a.2.1 a.2.2
  apply Ev.rounds
  unfold petrinetlaw33_SiphonStays.f
  simp only [hb, Option.bind_some]
  refine Ev.ite (fun h => ?_) (fun _ => lives')
  rw [h] at hb
  obtain ⟨h1, h2, h3⟩ := small_of hb
  have hjt : Ev (fun k => petrinetlaw33_SiphonStays.j0 k (U v) seq true a.1 a.2.1 a.2.2) true := by
    refine Ev.succ ?_
    simp only [petrinetlaw33_SiphonStays.j0]
    exact Ev.pos (by simp) lives'
  refine Ev.bind (rPlain _ _ _ h3 (by omega) (by omega)) (Ev.ite (fun hp => ?_) (fun _ => hjt))
  have h0 := (plain_iff.1 hp).1
  cases hd : decide ((seq.length : Int) > 60) with
  | true => exact hjt
  | false =>
    have hq2 : seq.length ≤ 60 := by have := of_decide_eq_false hd; omega
    refine Ev.succ ?_
    simp only [petrinetlaw33_SiphonStays.j0]
    exact Ev.neg (by simp) (Ev.bind (rInit_l0 _ _ _ h3 h1 h2 h0 _ 0 (by omega) rfl) (stays_l0 _ _ _ h3 h1 h2 h0 seq (by omega) v _ rfl _ 0 0#64 (by omega) rfl rfl))
end Go.Proofs.Ytaphehdbjbogaaa.Pure

