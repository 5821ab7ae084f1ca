/- General lemmas of this seat's proofs, in one text. -/
import Derived.Laws.RangeAny
import Derived.Laws.RangeString
import Derived.Below
import Derived.WalkKit
import Derived.Test.YtapkjfnfkalibaaVBindingTerms
import Derived.RangeFuncNested
import Derived.RangeFuncBound
import Derived.RangeFuncCalls
import Derived.RangeFuncLeaves
import Derived.RangeFuncWrites
import Derived.RangeFuncBox
import Derived.Shelf.Abstract
import Derived.OwnWalkIn
import Derived.TacticsInMore
import Derived.LoopNIn
import Derived.LoopIn
import Derived.Maps.AppendAt
import Derived.Lib.Hide
import Derived.IntWalk
import Derived.Laws.CopyOwn
import Derived.Deep.RegionLaw
import Derived.OrdersIn
import Derived.Laws.Bits64
import Derived.Laws.CopyRow
import Derived.Laws.IdiomCopy
/- Valid names, told of bytes: what a walk over a string's runes and a look at its bytes say. -/
namespace Go.Proofs.Ytapkjfnfkalibaa.Names
set_option linter.unusedVariables false
set_option linter.unusedSimpArgs false
open Go.RowKit

/-- A byte that may begin a name. -/
def letterB (c : Nat) : Bool := (decide (97 ≤ c) && decide (c ≤ 122)) || decide (c = 95)
/-- A byte that may stand at place i of a name. -/
def okB (i c : Nat) : Bool := letterB c || (decide (0 < i) && ((decide (48 ≤ c) && decide (c ≤ 57)) || decide (c = 46)))
def byteAt (s : ByteArray) (i : Nat) : Nat := (s.data.toList[i]?.getD 0).toNat
def nameB (s : ByteArray) : Bool := decide (1 ≤ s.size) && decide (s.size ≤ 16) && (List.range s.size).all fun i => okB i (byteAt s i)

theorem byteAt_get (s : ByteArray) (i : Nat) (h : i < s.size) : byteAt s i = (s[i]'h).toNat := by
 have h' : i < s.data.toList.length := by simpa using h
 unfold byteAt
 rw [List.getElem?_eq_getElem h']
 rfl
theorem below_iter (w : World) (s : ByteArray) (pos : Nat) : Below w.heap.size w (w.iter s pos) := (Below.refl _ w).alloc (Nat.le_refl _) _

/-- What the round at place pos meets: the rune, and how far it goes on. -/
theorem rune_low (s : ByteArray) (pos : Nat) (h : pos < s.size) (ha : byteAt s pos < 128) : Utf8.decode s pos = (byteAt s pos, 1) := by
 rw [byteAt_get s pos h] at ha ⊢
 exact decode_ascii s pos h ha
theorem rune_high (s : ByteArray) (pos : Nat) (h : pos < s.size) (ha : ¬ byteAt s pos < 128) : 128 ≤ (Utf8.decode s pos).1 := by
 rw [byteAt_get s pos h] at ha
 exact (decode_high s pos h (by omega)).1
theorem okB_high {i c : Nat} (h : ¬ c < 128) : okB i c = false := by
 have h1 : ¬ c ≤ 122 := by omega
 have h2 : ¬ c = 95 := by omega
 have h3 : ¬ c ≤ 57 := by omega
 have h4 : ¬ c = 46 := by omega
 simp [okB, letterB, h1, h2, h3, h4]
theorem nameB_false {s : ByteArray} {i : Nat} (h : i < s.size) (hk : okB i (byteAt s i) = false) : nameB s = false := by
 cases hn : nameB s with
 | false => rfl
 | true =>
  unfold nameB at hn
  simp only [Bool.and_eq_true, List.all_eq_true, List.mem_range] at hn
  rw [hn.2 i h] at hk; cases hk
theorem nameB_true {s : ByteArray} (h1 : 1 ≤ s.size) (h2 : s.size ≤ 16) (h : ∀ i, i < s.size → okB i (byteAt s i) = true) : nameB s = true := by
 unfold nameB
 simp only [Bool.and_eq_true, List.all_eq_true, List.mem_range, decide_eq_true_eq]
 exact ⟨⟨h1, h2⟩, h⟩
theorem okB_of {i c : Nat} (h : (97 ≤ c ∧ c ≤ 122) ∨ c = 95 ∨ (0 < i ∧ ((48 ≤ c ∧ c ≤ 57) ∨ c = 46))) : okB i c = true := by
 simp only [okB, letterB, Bool.or_eq_true, Bool.and_eq_true, decide_eq_true_eq]
 omega
theorem okB_not {i c : Nat} (h : ¬ ((97 ≤ c ∧ c ≤ 122) ∨ c = 95 ∨ (0 < i ∧ ((48 ≤ c ∧ c ≤ 57) ∨ c = 46)))) : okB i c = false := by
 cases hk : okB i c with
 | false => rfl
 | true =>
  simp only [okB, letterB, Bool.or_eq_true, Bool.and_eq_true, decide_eq_true_eq] at hk
  omega
theorem is46 {c : Nat} (h : (!((c : Int) == 46)) = false) : c = 46 := by simp at h; omega
theorem not46 {c : Nat} (h : (!((c : Int) == 46)) = true) : ¬ c = 46 := by simp at h; omega
end Go.Proofs.Ytapkjfnfkalibaa.Names

/- Functions with rounds: what they answer from some number of rounds on. -/
namespace Go.Proofs.Ytapkjfnfkalibaa.Evs
set_option linter.unusedVariables false
open Go.RowKit Go.Proofs.YtapkjfnfkalibaaW.PrintWords Go.Proofs.YtapkjfnfkalibaaW.PrintLast Go.Proofs.YtapkjfnfkalibaaW.PrintMore

theorem Ev.succ {α : Type} {g : Nat → Option α} {r : α} (h : Ev (fun k => g (k + 1)) r) : Ev g r := Ev.step (fun _ => rfl) h
theorem Ev.same {α : Type} {r : α} {g : Nat → Option α} (h : g = fun _ => some r) : Ev g r := by rw [h]; exact Ev.now r
theorem Ev.pos {α : Type} {c : Prop} [Decidable c] {f g : Nat → Option α} {r : α} (hc : c) (h : Ev f r) : Ev (fun k => if c then f k else g k) r := Ev.congr (fun _ => if_pos hc) h
theorem Ev.neg {α : Type} {c : Prop} [Decidable c] {f g : Nat → Option α} {r : α} (hc : ¬ c) (h : Ev g r) : Ev (fun k => if c then f k else g k) r := Ev.congr (fun _ => if_neg hc) h
theorem Ev.ite {α : Type} {c : Prop} [Decidable c] {f g : Nat → Option α} {r : α} (h1 : c → Ev f r) (h2 : ¬ c → Ev g r) : Ev (fun k => if c then f k else g k) r := if h : c then Ev.pos h (h1 h) else Ev.neg h (h2 h)
theorem Ev.val {α : Type} {r r' : α} (h : r' = r) : Ev (fun _ : Nat => some r') r := h ▸ Ev.now _
theorem wrap_succ {i : Nat} (h : i < 9223372036854775807) : wrap64 ((i : Int) + 1) = ((i + 1 : Nat) : Int) := by unfold wrap64; omega
end Go.Proofs.Ytapkjfnfkalibaa.Evs

/- General lemmas on loops over iterator functions: what a box of the call's own keeps. -/
namespace Go.Proofs.Ytapkjfnfkalibaa.Iter
set_option linter.unusedVariables false
set_option linter.unusedSimpArgs false
open Go.RowKit Go.Shelf

theorem boxed_putObj {W : World} {B : Nat} {t : TypeId} {v : Value} (b : Boxed W B t v) {l : Nat} {o : Obj} (o' : Obj) (h : W.heap[l]? = some o) (hc : o.isCells = false) : Boxed (W.putObj l o') B t v := by
 refine Boxed.kept b (grownBy_putObj' W l o') ?_
 intro e
 cases e
 have b' : W.heap[B]? = some (.cells #[v] t (0, 0)) := b
 rw [b'] at h; cases h
 simp [Obj.isCells] at hc
end Go.Proofs.Ytapkjfnfkalibaa.Iter

/- Rows of rows of the call's own within a loop over an iterator: append, and what the loop's book-keeping leaves. -/
namespace Go.Proofs.Ytapkjfnfkalibaa.Iter
set_option linter.unusedVariables false
set_option linter.unusedSimpArgs false
open Go.RowKit Go.Shelf Go.Proofs.YtapkjfnfkalibaaW.PrintWords Go.Proofs.YtapkjfnfkalibaaW.PrintLast

section
variable {F : Fence} {n : Nat} {P : Program} {ops : Array Oper} {rest : List Oper} {o : Oper} {a : Act} {Q : Exit → Act → World → Prop} {α : Type}
end
/-- Rows of the call's own abide the turn of a block that is no cells. -/
theorem R_own {α β : Type} {d : β → Kd α} (e : Nat) (base : Nat) (ok : β → Nat → Prop) (v : β → Value) (xs : β → List α) : Own (fun s W => (d s).R e W base (ok s) (v s) (xs s)) := by
 intro s X Y row h hg hrow
 refine Kd.R_mono (Kd.R_step (Kd.R_bound h) (fun k hk hlt => ?_)) (fun _ hk => hk.1)
 obtain ⟨_, _, _, q, _, cells, hc⟩ := hk
 refine hg.block k hlt (fun he => ?_)
 obtain ⟨o, ho, hoc⟩ := hrow k he.symm
 rw [hc] at ho; cases ho; simp [Obj.isCells] at hoc
theorem S_own {α β : Type} (d : Kd α) (e : Nat) (base : Nat) (ok : Nat → Prop) (v : β → Value) (xs : β → List α) : Own (fun s W => Kd.S d e W base ok (v s) (xs s)) := by
 intro s X Y row h hg hrow
 obtain ⟨f, h⟩ := h
 exact ⟨f, R_own (d := fun _ : β => Kd.tag f d) e base (fun _ => ok) v (fun s => (xs s).zipIdx) s X Y row h hg hrow⟩
/-- A block of the call's own, whole. -/
def Blk (W : World) (B : Nat) (t : TypeId) (cs : List Value) : Prop := W.heap[B]? = some (.cells cs.toArray t (0, 0))
theorem blk_own {β : Type} (B : Nat) (t : TypeId) (f : β → List Value) : Own (fun s W => Blk W B t (f s)) := by
 intro s X Y row h hg hrow
 have h' : X.heap[B]? = some (.cells (f s).toArray t (0, 0)) := h
 refine (hg.block B (Array.getElem?_eq_some_iff.1 h').1 (fun he => ?_)).trans h'
 obtain ⟨o, ho, hoc⟩ := hrow B he.symm
 rw [h'] at ho; cases ho; simp [Obj.isCells] at hoc
theorem blk_set {W : World} {B : Nat} {t : TypeId} {cs : List Value} (i : Nat) (v : Value) (h : Blk W B t cs) : Blk (W.setCell ⟨B, i, none⟩ v) B t (cs.set i v) := by
 obtain ⟨hlt, hk⟩ := Array.getElem?_eq_some_iff.1 (show W.heap[B]? = _ from h)
 show (W.heap.modify B _)[B]? = _
 rw [Array.getElem?_eq_getElem (by rw [Array.size_modify]; exact hlt), Array.getElem_modify_self, hk]
 simp
theorem blk_other {W : World} {B : Nat} {t : TypeId} {cs : List Value} {p : Addr} (h : Blk W B t cs) (hne : B ≠ p.block) (v : Value) : Blk (W.setCell p v) B t cs := (Below.heap_setCell W p v B hne).trans h
theorem boxed_later {W W' : World} {B : Nat} {t : TypeId} {v : Value} (h : Boxed W B t v) (hb : Below W.heap.size W W') : Boxed W' B t v := (hb.block B h.lt).trans h
theorem blk_later {W W' : World} {B : Nat} {t : TypeId} {cs : List Value} (h : Blk W B t cs) (hb : Below W.heap.size W W') : Blk W' B t cs := (hb.block B (Array.getElem?_eq_some_iff.1 h).1).trans h
theorem keeps_later {W W' : World} (hb : Below W.heap.size W W') : KeepsOthers W W' := ⟨hb.size, fun k o hk _ => (hb.block k (Array.getElem?_eq_some_iff.1 hk).1).trans hk⟩
theorem Own.ex {β γ : Type} {I : γ → β → World → Prop} (h : ∀ c, Own (I c)) : Own (fun s W => ∃ c, I c s W) := by
 rintro s X Y row ⟨c, hc⟩ hg hr
 exact ⟨c, h c s X Y row hc hg hr⟩
theorem Own.and' {β : Type} {I J : β → World → Prop} (h : Own I) (k : Own J) : Own (fun s W => I s W ∧ J s W) := fun s X Y row hs hg hr => ⟨h s X Y row hs.1 hg hr, k s X Y row hs.2 hg hr⟩
theorem S_keeps {α : Type} {d : Kd α} {e base : Nat} {W3 w1 : World} {ok : Nat → Prop} {v : Value} {xs : List α} {tmp : Obj} (h : Kd.S d e W3 base ok v xs) (hb : base ≤ W3.heap.size) (hg : (W3.alloc tmp).grownBy w1 v.ownBlock) : KeepsOthers W3 w1 ∧ Below base W3 w1 := by
 have hR := (Kd.R_bound (Kd.S_R h)).1
 refine ⟨(KeepsOthers.alloc W3 tmp).trans (KeepsOthers.of_grownBy hg fun j o ej hj => ?_), ((Below.refl base W3).alloc hb tmp).grown hg (by simp; omega) (fun k ek => (hR k ek).2.1)⟩
 obtain ⟨_, _, hlt, q, _, cells, hc⟩ := hR j ej
 rw [Below.heap_alloc _ _ _ hlt, hc] at hj
 cases hj; rfl
theorem S_putObj {α : Type} {d : Kd α} {e base base' : Nat} {X : World} {ok : Nat → Prop} {v : Value} {xs : List α} {D : Nat} {o : Obj} (o' : Obj) (h : Kd.S d e X base ok v xs) (hX : X.heap[D]? = some o) (hc : o.isCells = false) (hb : base' ≤ base) : Kd.S d e (X.putObj D o') base' (fun _ => True) v xs := by
 obtain ⟨f, hf⟩ := Kd.S_step (Kd.S_bound h) (w1 := X.putObj D o') (fun k hk hlt => by
  refine (grownBy_putObj' X D o').block k hlt (fun e => ?_)
  cases e
  obtain ⟨_, _, _, q, _, cells, hcc⟩ := hk
  rw [hX] at hcc; cases hcc; simp [Obj.isCells] at hc)
 exact Kd.S_mono ⟨f, Kd.R_lower hf hb⟩ (fun _ _ => trivial)
/-! ### Results in boxes -/
/-! ### A region that draws its order, within a round -/
theorem Oper.wpIn_round {F : Fence} {n : Nat} {P : Program} {o : Oper} {a : Act} {w : World} {K : Act → World → Prop} {Q : Exit → Act → World → Prop} (l : Nat) (hd : ∀ c, o.op ≠ .defer c) (h : o.wpIn F n P a w K Q) : o.wpIn (F.inRound l) n P a w K Q := by
 unfold Oper.wpIn at *
 rw [Oper.semAt_eq _ _ _ hd] at *
 exact h
theorem wpOpsIn_round {F : Fence} {n : Nat} {P : Program} {ops : Array Oper} {Q : Exit → Act → World → Prop} (l : Nat) (hd : ∀ (i : Nat) (o : Oper), ops[i]? = some o → ∀ c, o.op ≠ .defer c) : ∀ (is : List Nat) (a : Act) (w : World), wpOpsIn F n P ops Q is a w → wpOpsIn (F.inRound l) n P ops Q is a w := by
 intro is
 induction is with
 | nil => intro a w h; exact h
 | cons i is ih =>
  intro a w h
  rw [wpOpsIn_cons] at h ⊢
  unfold wpOpIn at h ⊢
  cases ho : ops[i]? with
  | none => rw [ho] at h; exact ih _ _ h
  | some o =>
   rw [ho] at h
   dsimp only at h ⊢
   split
   ·rename_i hw
    rw [if_pos hw] at h
    exact Oper.wpIn_round l (hd i o ho) (Oper.wpIn_mono (fun _ _ => ih _ _) h)
   ·rename_i hw
    rw [if_neg hw] at h
    exact ⟨h.1, ih _ _ h.2⟩
def isDefer : Op → Bool
 | .defer _ => true
 | _ => false
theorem wpIn_region_round {F : Fence} {n : Nat} {P : Program} {ops : Array Oper} {Q : Exit → Act → World → Prop} {id l : Nat} {a : Act} {w : World} (hm : P.follows .mixedOrders = true) (hd : ops.toList.all (fun o => !isDefer o.op) = true)
  (h : wpAnyIn F n P .any ops Q ops.size (Array.replicate ops.size false) a (World.drew w)) : (Code.region id ops true).wpIn (F.inRound l) n P Q a w :=
 wpIn_region_draw fun t => by
  refine wpOpsIn_round l (fun i o ho c hc => ?_) _ _ _ ?_
  ·have := List.all_eq_true.1 hd o (by rw [← Array.getElem?_toList] at ho; exact List.mem_of_getElem? ho)
   rw [hc] at this
   simp [isDefer] at this
  ·simp only [Region.schedule, hm, Bool.true_or, if_true]
   exact wpAnyIn_sound ops.size t _ a _ h

end Go.Proofs.Ytapkjfnfkalibaa.Iter

/- Sets of numbers below 64 as vectors of bits: what Go's operations on a uint64 say of them. -/
namespace Go.Proofs.Ytapkjfnfkalibaa.Bits
set_option linter.unusedVariables false
set_option linter.unusedSimpArgs false
open Go.RowKit Go.Proofs.YtapkjfnfkalibaaW.PrintWords Go.Proofs.YtapkjfnfkalibaaW.PrintLast Go.Proofs.YtapkjfnfkalibaaW.PrintMore

end Go.Proofs.Ytapkjfnfkalibaa.Bits

/- The parts of a text between separators, by bytes. -/
namespace Go.Proofs.Ytapkjfnfkalibaa.Parts
set_option linter.unusedVariables false
set_option linter.unusedSimpArgs false

end Go.Proofs.Ytapkjfnfkalibaa.Parts

/- A loop over an iterator function that yields a row of its own (whose cells it turns between two rounds): the rule. -/
namespace Go.Proofs.Ytapkjfnfkalibaa.Iter
set_option linter.unusedVariables false
set_option linter.unusedSimpArgs false
open Go.RowKit Go.Shelf Go.Proofs.YtapkjfnfkalibaaW.PrintWords Go.Proofs.YtapkjfnfkalibaaW.PrintLast

/-- Block B is a row of whole numbers, each of which is written out. -/
def IntRow (e : TypeId) (B : Nat) (b : List Int) (W : World) : Prop := W.heap[B]? = some (.cells (b.map (Value.int .i64)).toArray e (0, 0))

/-- What a round of the loop leaves. -/
def RowPost {α : Type} (n₀ : Nat) (Kp : World → World → Prop) (Held : α → World → Prop) (I : List α → World → Prop) (xs : List α) (x : α) (W : World) : Exit → Act → World → Prop
 | .normal, _, W' => KeepsFrom n₀ W W' ∧ Kp W W' ∧ Held x W' ∧ I xs W'
 | _, _, _ => False

/-- The iterator's word: whatever J is that a turn of its own row leaves alone. -/
def SeqRow {α : Type} (F : Fence) (n : Nat) (P : Program) (g : Nat) (lb : Array Value) (encs : α → Array Value) (B : Nat) (Kp : World → World → Prop) (Held : α → World → Prop) (S : List α → Prop) (N : Nat) (w : World) : Prop :=
 ∀ (l : Nat) (J : List α → World → Prop) (W : World), Below w.heap.size w W → W.heap.size = B →
  (∀ pre X Y row, J pre X → X.grownBy Y row → (∀ r, row = some r → r = B) → J pre Y) →
  (∀ pre x W1, J pre W1 → Held x W1 → Kp W W1 → pre.length < N → YieldAt F (n - 1) P l (encs x) W1 fun e W' => e = .returned (.bool true) ∧ J (pre ++ [x]) W' ∧ Held x W' ∧ Kp W1 W') →
  J [] W → CallsIn F n P g (#[.func (.yield l) #[] #[]] ++ lb) W fun e W' => (∃ v, e = .returned v) ∧ ∃ xs, S xs ∧ J xs W'

theorem rangeFunc_row {α : Type} {F : Fence} {n : Nat} {P : Program} {g : Operand} {ps : Array Tmp} {assign body : Code} {Q : Exit → Act → World → Prop} {a : Act} {w : World}
  (hro : F.round = none) (h1 : 1 ≤ n) {gf : Nat} {lb : Array Value} (hg : a.eval g = .func (.func gf) #[] lb) (hFg : F.fn gf) (eg : ∀ args w, (callFunc gf args).run P w = .ok (.enter gf args) w)
  {encs : α → Array Value} {Kp : World → World → Prop} {Held : α → World → Prop} {S : List α → Prop} {N : Nat} (hseq : SeqRow F (n - 1) P gf lb encs (w.heap.size + 2) Kp Held S N w)
  (hKt : ∀ {A B C : World}, Kp A B → Kp B C → Kp A C) (hKb : ∀ (W : World) (l : Nat) (o o' : Obj), w.heap.size ≤ l → W.heap[l]? = some o → o.isCells = false → o.isWalk = false → Kp W (W.putObj l o'))
  (hHb : ∀ (x : α) (W : World) (o o' : Obj), W.heap[w.heap.size + 1]? = some o → o.isCells = false → Held x W → Held x (W.putObj (w.heap.size + 1) o'))
  (hps : ∀ x, (encs x).size = ps.size)
  (I : List α → World → Prop) (hI : OwnFrom w.heap.size I) (hIr : ∀ pre X Y, I pre X → X.grownBy Y (some (w.heap.size + 2)) → I pre Y) (h0 : I [] w) (a₁ : α → Act)
  (hassign : ∀ (l : Nat) (x : α) (W : World) (K : Act → World → Prop), K (a₁ x) W →
   assign.wpIn (F.inRound l) (n - 1 - 1) P (Exit.then K (fun _ _ _ => False)) { tmps := (ps.zip (encs x)).foldl (fun t (p, v) => t.setIfInBounds p v) a.tmps, defers := [] } W)
  (hbody : ∀ (l : Nat) (pre : List α) (x : α) (W : World), I pre W → Held x W → pre.length < N → w.heap.size ≤ W.heap.size → body.wpIn (F.inRound l) (n - 1 - 1) P (RowPost w.heap.size Kp Held I (pre ++ [x]) x W) (a₁ x) W)
  (hdone : ∀ (D : Nat) (xs : List α) (W : World), w.heap.size ≤ D → S xs → I xs W → W.heap[D]? = some (.deferred (some [])) → Q .normal { a with defers := { target := .collected D, args := #[] } :: a.defers } W) :
  (Code.rangeFunc g ps assign body).wpIn F n P Q a w := by
 refine wpIn_rangeFunc fun fn hfn => ?_
 rw [hro]
 let rc : LoopState → Option Code → Loop := fun st pe => { state := st, pending := pe, fn, tmps := a.tmps, params := ps, assign, body, defers := w.heap.size }
 let V : World := (w.alloc (.deferred (some []))).alloc (.loop (rc .ready none))
 have sV : V.heap.size = w.heap.size + 2 := by simp [V]
 have atRec : V.heap[w.heap.size + 1]? = some (.loop (rc .ready none)) := by
  have q := World.alloc_heap_new (w.alloc (.deferred (some []))) (.loop (rc .ready none))
  rwa [World.size_alloc] at q
 have atDef : V.heap[w.heap.size]? = some (.deferred (some [])) := (Below.heap_alloc _ _ _ (by simp)).trans (World.alloc_heap_new w _)
 have inV : I [] V := hI.alloc _ (hI.alloc _ h0)
 have belowV : Below w.heap.size w V := ((Below.refl _ w).alloc (Nat.le_refl _) _).alloc (by simp) _
 refine ⟨w.heap.size + 1, [{ target := .collected w.heap.size, args := #[] }], V, { target := .fn (.func gf) lb, args := #[.func (.yield (w.heap.size + 1)) #[] #[]] }, V, gf,
  #[.func (.yield (w.heap.size + 1)) #[] #[]] ++ lb, V, run_enterLoop_outer _ _ _ _ _, ?_, ?_, ?_, fun _ => h1, ?_⟩
 ·simp only [resolve, hg]
  simp [go_sem]
 ·intro f' hf'
  simp [Target.leads] at hf'
  subst hf'
  exact hFg
 ·simp [invoke, go_sem, eg]
 ·refine (hseq (w.heap.size + 1) (fun pre W => (I pre W ∧ w.heap.size + 2 ≤ W.heap.size) ∧ W.heap[w.heap.size + 1]? = some (.loop (rc .ready none)) ∧ W.heap[w.heap.size]? = some (.deferred (some []))) V belowV sV ?_ ?_ ⟨⟨inV, by omega⟩, atRec, atDef⟩).mono ?_
  ·rintro pre X Y row ⟨⟨hi, hz⟩, hl, hk⟩ hgr hrow
   refine ⟨⟨?_, Nat.le_trans hz hgr.size⟩, (hgr.block _ (by omega) (fun e => by have := hrow _ e.symm; omega)).trans hl, (hgr.block _ (by omega) (fun e => by have := hrow _ e.symm; omega)).trans hk⟩
   cases row with
   | none => exact hI pre X Y none hi hgr (fun r e => by cases e)
   | some r =>
    have er := hrow r rfl
    subst er
    exact hIr pre X Y hi hgr
  ·rintro pre x W ⟨⟨hi, hz⟩, hl, hk⟩ hheld _ hlen
   have hy := run_yield (P := P) (args := encs x) hl (by exact hps x)
   refine ⟨fn, _, assign, body, hy, roundIn_of_wpIn hfn (hassign _ x W _ ⟨_, run_beginRound hl rfl, ?_⟩)⟩
   have busyAt : (W.putObj (w.heap.size + 1) (.loop { rc .ready none with state := .busy })).heap[w.heap.size + 1]? = some (.loop { rc .ready none with state := .busy }) := World.putObj_heap_same (by omega)
   have defAt : (W.putObj (w.heap.size + 1) (.loop { rc .ready none with state := .busy })).heap[w.heap.size]? = some (.deferred (some [])) := (World.putObj_heap_other (by omega)).trans hk
   have kp1 : Kp W (W.putObj (w.heap.size + 1) (.loop { rc .ready none with state := .busy })) := hKb _ _ _ _ (by omega) hl rfl rfl
   refine wpIn_mono (hbody _ pre x _ (hI.putObj _ hi (by omega) hl rfl) (hHb x W _ _ hl rfl hheld) hlen (by simp; omega)) ?_
   intro e a3 W3 hp
   cases e with
   | normal =>
    obtain ⟨hk3, hkp3, hheld3, hi3⟩ := hp
    have rec3 := hk3.same _ _ (by omega) busyAt rfl
    have def3 := hk3.same _ _ (Nat.le_refl _) defAt rfl
    have sz3 : W.heap.size ≤ W3.heap.size := by have h_ := hk3.size; simpa using h_
    have hrun := run_endRound (P := P) (none : Option Code) rec3
    exact ⟨_, _, hrun, ⟨rfl, ⟨⟨hI.putObj _ hi3 (by omega) rec3 rfl, by simp; omega⟩, World.putObj_heap_same (by omega), (World.putObj_heap_other (by omega)).trans def3⟩, hHb x W3 _ _ rec3 rfl hheld3, hKt (hKt kp1 hkp3) (hKb _ _ _ _ (by omega) rec3 rfl rfl)⟩⟩
   | ret => exact hp.elim
   | exit id => exact hp.elim
   | goto t => exact hp.elim
   | panic ch => exact hp.elim
   | outgrown => exact hp.elim
  ·rintro e W2 ⟨⟨v, rfl⟩, xs, hS, ⟨⟨hi, hz⟩, hl, hk⟩⟩
   exact ⟨none, _, run_endLoop (P := P) hl (by simp [rc]), hdone _ xs _ (Nat.le_refl _) hS (hI.putObj _ hi (by omega) hl rfl) ((World.putObj_heap_other (by omega)).trans hk)⟩

end Go.Proofs.Ytapkjfnfkalibaa.Iter

/- 'copy' into a row of elements of more than one cell, and a pair put into a row behind a shift of what follows. -/
namespace Go.Proofs.Ytapkjfnfkalibaa.CopyN
set_option linter.unusedVariables false
set_option linter.unusedSimpArgs false
open Go.RowKit Go.Proofs.YtapkjfnfkalibaaW.PrintWords Go.Proofs.YtapkjfnfkalibaaW.PrintLast Go.Proofs.YtapkjfnfkalibaaW.PrintMore Go.Proofs.Ytapkjfnfkalibaa.Iter

end Go.Proofs.Ytapkjfnfkalibaa.CopyN

