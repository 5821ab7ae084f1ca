/- General lemmas of this seat's proofs, in one text. -/
import Derived.Laws.RangeAny
import Derived.Laws.RangeString
import Derived.Below
import Derived.WalkKit
import Derived.Test.YtaofommgdgmncaaVEventlogBack
import Derived.RangeFuncNested
import Derived.RangeFuncBound
import Derived.RangeFuncCalls
import Derived.RangeFuncLeaves
import Derived.RangeFuncWrites
import Derived.RangeFuncBox
import Derived.Shelf.Abstract
import Derived.OwnWalkIn
import Derived.TacticsInMore
import Derived.LoopNIn
import Derived.LoopIn
import Derived.Maps.AppendAt
import Derived.Lib.Hide
import Derived.IntWalk
import Derived.Laws.CopyOwn
import Derived.Deep.RegionLaw
import Derived.OrdersIn
import Derived.Laws.Bits64
/- Valid names, told of bytes: what a walk over a string's runes and a look at its bytes say. -/
namespace Go.Proofs.Ytaofommgdgmncaa.Names
set_option linter.unusedVariables false
set_option linter.unusedSimpArgs false
open Go.RowKit

/-- A byte that may begin a name. -/
def letterB (c : Nat) : Bool := (decide (97 ≤ c) && decide (c ≤ 122)) || decide (c = 95)
/-- A byte that may stand at place i of a name. -/
def okB (i c : Nat) : Bool := letterB c || (decide (0 < i) && ((decide (48 ≤ c) && decide (c ≤ 57)) || decide (c = 46)))
def byteAt (s : ByteArray) (i : Nat) : Nat := (s.data.toList[i]?.getD 0).toNat
def nameB (s : ByteArray) : Bool := decide (1 ≤ s.size) && decide (s.size ≤ 16) && (List.range s.size).all fun i => okB i (byteAt s i)

theorem byteAt_get (s : ByteArray) (i : Nat) (h : i < s.size) : byteAt s i = (s[i]'h).toNat := by
  have h' : i < s.data.toList.length := by simpa using h
  unfold byteAt
  rw [List.getElem?_eq_getElem h']
  rfl
theorem below_iter (w : World) (s : ByteArray) (pos : Nat) : Below w.heap.size w (w.iter s pos) := (Below.refl _ w).alloc (Nat.le_refl _) _

/-- What the round at place pos meets: the rune, and how far it goes on. -/
theorem rune_low (s : ByteArray) (pos : Nat) (h : pos < s.size) (ha : byteAt s pos < 128) : Utf8.decode s pos = (byteAt s pos, 1) := by
  rw [byteAt_get s pos h] at ha ⊢
  exact decode_ascii s pos h ha
theorem rune_high (s : ByteArray) (pos : Nat) (h : pos < s.size) (ha : ¬ byteAt s pos < 128) : 128 ≤ (Utf8.decode s pos).1 := by
  rw [byteAt_get s pos h] at ha
  exact (decode_high s pos h (by omega)).1
theorem okB_high {i c : Nat} (h : ¬ c < 128) : okB i c = false := by
  have h1 : ¬ c ≤ 122 := by omega
  have h2 : ¬ c = 95 := by omega
  have h3 : ¬ c ≤ 57 := by omega
  have h4 : ¬ c = 46 := by omega
  simp [okB, letterB, h1, h2, h3, h4]
theorem nameB_false {s : ByteArray} {i : Nat} (h : i < s.size) (hk : okB i (byteAt s i) = false) : nameB s = false := by
  cases hn : nameB s with
  | false => rfl
  | true =>
    unfold nameB at hn
    simp only [Bool.and_eq_true, List.all_eq_true, List.mem_range] at hn
    rw [hn.2 i h] at hk; cases hk
theorem nameB_true {s : ByteArray} (h1 : 1 ≤ s.size) (h2 : s.size ≤ 16) (h : ∀ i, i < s.size → okB i (byteAt s i) = true) : nameB s = true := by
  unfold nameB
  simp only [Bool.and_eq_true, List.all_eq_true, List.mem_range, decide_eq_true_eq]
  exact ⟨⟨h1, h2⟩, h⟩
theorem okB_of {i c : Nat} (h : (97 ≤ c ∧ c ≤ 122) ∨ c = 95 ∨ (0 < i ∧ ((48 ≤ c ∧ c ≤ 57) ∨ c = 46))) : okB i c = true := by
  simp only [okB, letterB, Bool.or_eq_true, Bool.and_eq_true, decide_eq_true_eq]
  omega
theorem okB_not {i c : Nat} (h : ¬ ((97 ≤ c ∧ c ≤ 122) ∨ c = 95 ∨ (0 < i ∧ ((48 ≤ c ∧ c ≤ 57) ∨ c = 46)))) : okB i c = false := by
  cases hk : okB i c with
  | false => rfl
  | true =>
    simp only [okB, letterB, Bool.or_eq_true, Bool.and_eq_true, decide_eq_true_eq] at hk
    omega
theorem is46 {c : Nat} (h : (!((c : Int) == 46)) = false) : c = 46 := by simp at h; omega
theorem not46 {c : Nat} (h : (!((c : Int) == 46)) = true) : ¬ c = 46 := by simp at h; omega
end Go.Proofs.Ytaofommgdgmncaa.Names

/- Functions with rounds: what they answer from some number of rounds on. -/
namespace Go.Proofs.Ytaofommgdgmncaa.Evs
set_option linter.unusedVariables false
open Go.RowKit Go.Proofs.YtaofommgdgmncaaW.PrintWords Go.Proofs.YtaofommgdgmncaaW.PrintLast Go.Proofs.YtaofommgdgmncaaW.PrintMore

theorem Ev.succ {α : Type} {g : Nat → Option α} {r : α} (h : Ev (fun k => g (k + 1)) r) : Ev g r := Ev.step (fun _ => rfl) h
theorem Ev.same {α : Type} {r : α} {g : Nat → Option α} (h : g = fun _ => some r) : Ev g r := by rw [h]; exact Ev.now r
theorem Ev.pos {α : Type} {c : Prop} [Decidable c] {f g : Nat → Option α} {r : α} (hc : c) (h : Ev f r) : Ev (fun k => if c then f k else g k) r := Ev.congr (fun _ => if_pos hc) h
theorem Ev.neg {α : Type} {c : Prop} [Decidable c] {f g : Nat → Option α} {r : α} (hc : ¬ c) (h : Ev g r) : Ev (fun k => if c then f k else g k) r := Ev.congr (fun _ => if_neg hc) h
theorem Ev.ite {α : Type} {c : Prop} [Decidable c] {f g : Nat → Option α} {r : α} (h1 : c → Ev f r) (h2 : ¬ c → Ev g r) : Ev (fun k => if c then f k else g k) r := if h : c then Ev.pos h (h1 h) else Ev.neg h (h2 h)
theorem Ev.val {α : Type} {r r' : α} (h : r' = r) : Ev (fun _ : Nat => some r') r := h ▸ Ev.now _
theorem wrap_succ {i : Nat} (h : i < 9223372036854775807) : wrap64 ((i : Int) + 1) = ((i + 1 : Nat) : Int) := by unfold wrap64; omega
theorem rdOf_get {α : Type} {d : α} {l : List α} {i : Nat} (h : i < l.length) : rdOf d l (i : Int) = l[i] := by simp [rdOf, h]
theorem bytes_eq (a b : ByteArray) : a.toList = b.toList ↔ a = b := by
  rw [ByteArray.toList_eq, ByteArray.toList_eq]
  constructor
  · intro h
    have := Array.toList_inj.1 h
    cases a; cases b; simp at this; rw [this]
  · rintro rfl; rfl
end Go.Proofs.Ytaofommgdgmncaa.Evs

/- General lemmas on loops over iterator functions: what a box of the call's own keeps. -/
namespace Go.Proofs.Ytaofommgdgmncaa.Iter
set_option linter.unusedVariables false
set_option linter.unusedSimpArgs false
open Go.RowKit Go.Shelf

/-- What lay below n lies as it lay, and each of the boxes reads as it did. -/
def BoxesIn (bs : List (Nat × TypeId × Value)) (W : World) : Prop := ∀ p ∈ bs, Boxed W p.1 p.2.1 p.2.2
def KpBs (n : Nat) (bs : List (Nat × TypeId × Value)) (W W' : World) : Prop := Below n W W' ∧ (BoxesIn bs W → BoxesIn bs W')
theorem kpBs_t {n : Nat} {bs : List (Nat × TypeId × Value)} {X Y Z : World} (h : KpBs n bs X Y) (k : KpBs n bs Y Z) : KpBs n bs X Z := ⟨h.1.trans k.1, fun b => k.2 (h.2 b)⟩
theorem boxed_putObj {W : World} {B : Nat} {t : TypeId} {v : Value} (b : Boxed W B t v) {l : Nat} {o : Obj} (o' : Obj) (h : W.heap[l]? = some o) (hc : o.isCells = false) : Boxed (W.putObj l o') B t v := by
  refine Boxed.kept b (grownBy_putObj' W l o') ?_
  intro e
  cases e
  have b' : W.heap[B]? = some (.cells #[v] t (0, 0)) := b
  rw [b'] at h; cases h
  simp [Obj.isCells] at hc
theorem kpBs_b {n : Nat} {bs : List (Nat × TypeId × Value)} {w : World} (hn : n ≤ w.heap.size) (W : World) (l : Nat) (o o' : Obj) (hl : w.heap.size ≤ l) (h : W.heap[l]? = some o) (hc : o.isCells = false) (hw : o.isWalk = false) : KpBs n bs W (W.putObj l o') :=
  ⟨belowK_b hn W l o o' hl h hc hw, fun b p hp => boxed_putObj (b p hp) o' h hc⟩
theorem kpBs_refl (n : Nat) (bs : List (Nat × TypeId × Value)) (W : World) : KpBs n bs W W := ⟨Below.refl _ _, fun b => b⟩

end Go.Proofs.Ytaofommgdgmncaa.Iter

/- Rows of rows of the call's own within a loop over an iterator: append, and what the loop's book-keeping leaves. -/
namespace Go.Proofs.Ytaofommgdgmncaa.Iter
set_option linter.unusedVariables false
set_option linter.unusedSimpArgs false
open Go.RowKit Go.Shelf Go.Proofs.YtaofommgdgmncaaW.PrintWords Go.Proofs.YtaofommgdgmncaaW.PrintLast

theorem wpListIn_append_at {F : Fence} {n : Nat} {P : Program} (w : World) {ops : Array Oper} {rest : List Oper} {o : Oper} {a : Act} {Q : Exit → Act → World → Prop}
    (hg : o.guard = none) (s x : Operand) (t : TypeId) (hop : o.op = Op.call { callee := Callee.builtin Builtin.append, args := #[s, x], argTypes := #[t, t] })
    (base : Nat) (e : TypeId) (i : TypeInfo) (z : Value) (size bytes : Nat) (h1 : P.underlying t = some (.slice e)) (h2 : P.info? e = some i) (h3 : i.zero = some z) (h4 : i.size = size) (h5 : i.bytes = bytes) (h6 : z.cells.size = size) (h7 : 0 < size)
    (v : Value) (k : Nat) (xs : List Value) (hs : a.eval s = v) (hown : w.ownsRow base e size v k xs) (ad : Addr) (m c : Nat) (news : List Value) (hx : a.eval x = .slice (some ad) m c) (hn : news.length = m * size)
    (hc : ∀ j u, news[j]? = some u → w.cell? (ad.add j) = some u) (h1c : ∀ u ∈ news, u.oneCell' = true) (b1 : k + m ≤ maxLen) (b2 : (k + m) * bytes ≤ 140737488355328) (b3 : base ≤ w.heap.size)
    (hK : ∀ v' w', w'.ownsRow base e size v' (k + m) (xs ++ news) → w.grownBy w' v.ownBlock → (v'.ownBlock = v.ownBlock ∨ v'.ownBlock = some w.heap.size) → wpListIn F n P ops Q rest (a.put o.dst v') w') :
    wpListIn F n P ops Q (o :: rest) a w := by
  refine wpListIn_plain hg fun K hK' => ?_
  obtain ⟨v', w', hrun, r1, r2, r3, r4⟩ := run_append_own_at (P := P) w base t o.type e i z size bytes h1 h2 h3 h4 h5 h6 h7 v k xs hown ad m c news hn hc h1c b1 b2 b3
  unfold Oper.wpIn
  refine ⟨?_, ?_⟩
  · simp [Oper.about, hop, resolve, Target.leads, Sem.run_pure]
  · rw [Oper.semAt_plain F _ _ (by rw [hop]; intro c hc'; cases hc')]
    simp [execOp, hop, resolve, invoke, builtin, hs, hx, hrun, Result.andThen]
    exact hK' _ _ (hK v' w' r1 r2 r4)

section
variable {F : Fence} {n : Nat} {P : Program} {ops : Array Oper} {rest : List Oper} {o : Oper} {a : Act} {Q : Exit → Act → World → Prop} {α : Type}
theorem R_appendIn (d : Kd α) {W : World} (base : Nat) (hgd : o.guard = none) (s x : Operand) (t e : TypeId) (z : Value) (bytes : Nat)
    (ho : o.op = .call { callee := .builtin .append, args := #[s, x], argTypes := #[t, t] })
    (ht : P.underlying t = some (.slice e)) (hinfo : (P.info? e).map (fun i => (i.zero, i.size, i.bytes)) = some (some z, d.sz, bytes)) (hz : z.cells.size = d.sz) (hs0 : 0 < d.sz) (hb0 : 0 < bytes)
    (v : Value) (xs : List α) (p : α) (cs : List Value) (ok okp : Nat → Prop) (hs : a.eval s = v) (hx : a.eval x = .slice (some ⟨W.heap.size, 0, none⟩) 1 1) (hp : d.M W base okp p cs) (hokp : ∀ k, okp k → ok k ∧ some k ≠ v.ownBlock) (hfresh : ∀ k, W.heap.size ≤ k → ok k)
    (HO : d.R e W base ok v xs) (hbase : base ≤ W.heap.size) (hl : (xs.length + 1) * bytes ≤ 140737488355328)
    (h : ∀ v1 w1, d.R e w1 base ok v1 (xs ++ [p]) → (W.alloc (.cells cs.toArray e)).grownBy w1 v.ownBlock → (∃ g cap, v1 = .slice (some ⟨g, 0, none⟩) (xs.length + 1) cap) → wpListIn F n P ops Q rest (a.put o.dst v1) w1) :
    wpListIn F n P ops Q (o :: rest) a (W.alloc (.cells cs.toArray e)) := by
  obtain ⟨h0, inner, hown, hr⟩ := HO
  obtain ⟨i0, hi, hzz⟩ := Option.map_eq_some_iff.1 hinfo
  simp only [Prod.mk.injEq] at hzz
  obtain ⟨hz0, hz1, hz2⟩ := hzz
  have hlen : xs.length + 1 ≤ 140737488355328 := Nat.le_trans (Nat.le_mul_of_pos_right _ hb0) hl
  have hcs := d.K_len (d.K_of_M hp)
  refine wpListIn_append_at (W.alloc (.cells cs.toArray e)) hgd s x t ho base e i0 z d.sz bytes ht hi hz0 hz1 hz2 hz hs0 v xs.length inner hs (hown.alloc _) ⟨W.heap.size, 0, none⟩ 1 1 cs hx (by rw [hcs]; simp)
    (by simpa using World.news_of_block (cs := cs.toArray) (t := e) (fr := (0, 0)) (heap_alloc_new W (.cells cs.toArray e))) (d.K_one (d.K_of_M hp)) (by simp only [maxLen]; omega) hl (by simp; omega) ?_
  intro v1 w1 hown1 hg hat
  refine h v1 w1 (Kd.R_appended h0 hr hp hokp hfresh hown1 (World.grownBy.trans (World.grownBy_alloc W _ _) hg) ?_) hg (ownsRow_succ hown1)
  rcases hat with hat | hat
  · exact .inl hat
  · exact .inr ⟨_, hat, by simp⟩
theorem S_appendIn (d : Kd α) {W : World} (base : Nat) (hgd : o.guard = none) (s x : Operand) (t e : TypeId) (z : Value) (bytes : Nat)
    (ho : o.op = .call { callee := .builtin .append, args := #[s, x], argTypes := #[t, t] })
    (ht : P.underlying t = some (.slice e)) (hinfo : (P.info? e).map (fun i => (i.zero, i.size, i.bytes)) = some (some z, d.sz, bytes)) (hz : z.cells.size = d.sz) (hs0 : 0 < d.sz) (hb0 : 0 < bytes)
    (v : Value) (xs : List α) (p : α) (cs : List Value) (ok okp : Nat → Prop) (hs : a.eval s = v) (hx : a.eval x = .slice (some ⟨W.heap.size, 0, none⟩) 1 1) (hp : d.M W base okp p cs) (hokp : ∀ k, okp k → ok k ∧ some k ≠ v.ownBlock) (hfresh : ∀ k, W.heap.size ≤ k → ok k)
    (HO : Kd.S d e W base (fun k => ok k ∧ ¬ okp k) v xs) (hbase : base ≤ W.heap.size) (hl : (xs.length + 1) * bytes ≤ 140737488355328)
    (h : ∀ v1 w1, Kd.S d e w1 base ok v1 (xs ++ [p]) → (W.alloc (.cells cs.toArray e)).grownBy w1 v.ownBlock → (∃ g cap, v1 = .slice (some ⟨g, 0, none⟩) (xs.length + 1) cap) → wpListIn F n P ops Q rest (a.put o.dst v1) w1) :
    wpListIn F n P ops Q (o :: rest) a (W.alloc (.cells cs.toArray e)) := by
  obtain ⟨f, hf, hR⟩ := Kd.S_tag HO xs.length okp (fun _ hk h2 => h2.2 hk)
  refine R_appendIn (Kd.tag f d) base hgd s x t e z bytes ho ht hinfo hz hs0 hb0 v xs.zipIdx (p, xs.length) cs ok okp hs hx (d.M_mono (fun k hk => ⟨hk, hf k hk⟩) hp) hokp hfresh (Kd.R_mono hR (fun _ hk => hk.1)) hbase (by rw [List.length_zipIdx]; exact hl) ?_
  intro v1 w1 hr
  rw [← Kd.zip_snoc] at hr
  rw [List.length_zipIdx]
  exact h v1 w1 ⟨f, hr⟩
end
/-- Rows of the call's own abide the turn of a block that is no cells. -/
theorem R_own {α β : Type} {d : β → Kd α} (e : Nat) (base : Nat) (ok : β → Nat → Prop) (v : β → Value) (xs : β → List α) : Own (fun s W => (d s).R e W base (ok s) (v s) (xs s)) := by
  intro s X Y row h hg hrow
  refine Kd.R_mono (Kd.R_step (Kd.R_bound h) (fun k hk hlt => ?_)) (fun _ hk => hk.1)
  obtain ⟨_, _, _, q, _, cells, hc⟩ := hk
  refine hg.block k hlt (fun he => ?_)
  obtain ⟨o, ho, hoc⟩ := hrow k he.symm
  rw [hc] at ho; cases ho; simp [Obj.isCells] at hoc
theorem S_own {α β : Type} (d : Kd α) (e : Nat) (base : Nat) (ok : Nat → Prop) (v : β → Value) (xs : β → List α) : Own (fun s W => Kd.S d e W base ok (v s) (xs s)) := by
  intro s X Y row h hg hrow
  obtain ⟨f, h⟩ := h
  exact ⟨f, R_own (d := fun _ : β => Kd.tag f d) e base (fun _ => ok) v (fun s => (xs s).zipIdx) s X Y row h hg hrow⟩
/-- A block of the call's own, whole. -/
def Blk (W : World) (B : Nat) (t : TypeId) (cs : List Value) : Prop := W.heap[B]? = some (.cells cs.toArray t (0, 0))
theorem blk_own {β : Type} (B : Nat) (t : TypeId) (f : β → List Value) : Own (fun s W => Blk W B t (f s)) := by
  intro s X Y row h hg hrow
  have h' : X.heap[B]? = some (.cells (f s).toArray t (0, 0)) := h
  refine (hg.block B (Array.getElem?_eq_some_iff.1 h').1 (fun he => ?_)).trans h'
  obtain ⟨o, ho, hoc⟩ := hrow B he.symm
  rw [h'] at ho; cases ho; simp [Obj.isCells] at hoc
theorem blk_set {W : World} {B : Nat} {t : TypeId} {cs : List Value} (i : Nat) (v : Value) (h : Blk W B t cs) : Blk (W.setCell ⟨B, i, none⟩ v) B t (cs.set i v) := by
  obtain ⟨hlt, hk⟩ := Array.getElem?_eq_some_iff.1 (show W.heap[B]? = _ from h)
  show (W.heap.modify B _)[B]? = _
  rw [Array.getElem?_eq_getElem (by rw [Array.size_modify]; exact hlt), Array.getElem_modify_self, hk]
  simp
theorem blk_other {W : World} {B : Nat} {t : TypeId} {cs : List Value} {p : Addr} (h : Blk W B t cs) (hne : B ≠ p.block) (v : Value) : Blk (W.setCell p v) B t cs := (Below.heap_setCell W p v B hne).trans h
theorem boxed_later {W W' : World} {B : Nat} {t : TypeId} {v : Value} (h : Boxed W B t v) (hb : Below W.heap.size W W') : Boxed W' B t v := (hb.block B h.lt).trans h
theorem blk_later {W W' : World} {B : Nat} {t : TypeId} {cs : List Value} (h : Blk W B t cs) (hb : Below W.heap.size W W') : Blk W' B t cs := (hb.block B (Array.getElem?_eq_some_iff.1 h).1).trans h
theorem keeps_later {W W' : World} (hb : Below W.heap.size W W') : KeepsOthers W W' := ⟨hb.size, fun k o hk _ => (hb.block k (Array.getElem?_eq_some_iff.1 hk).1).trans hk⟩
theorem Own.ex {β γ : Type} {I : γ → β → World → Prop} (h : ∀ c, Own (I c)) : Own (fun s W => ∃ c, I c s W) := by
  rintro s X Y row ⟨c, hc⟩ hg hr
  exact ⟨c, h c s X Y row hc hg hr⟩
theorem Own.pure {β : Type} (p : β → Prop) : Own (fun s (_ : World) => p s) := fun _ _ _ _ h _ _ => h
theorem Own.and' {β : Type} {I J : β → World → Prop} (h : Own I) (k : Own J) : Own (fun s W => I s W ∧ J s W) := fun s X Y row hs hg hr => ⟨h s X Y row hs.1 hg hr, k s X Y row hs.2 hg hr⟩
/-- The results' cells are written within a round that leaves: a value and a pair of numbers. -/
theorem err_world {W3 : World} {n₀ : Nat} {T Ft : TypeId} {v0 : Value} {fs : List Value} (hl : fs.length = 2) (b0 : Boxed W3 n₀ T v0) (b1 : Blk W3 (n₀ + 1) Ft fs) (v e a : Value) :
    Boxed ((((W3.setCell ⟨n₀, 0, none⟩ v).setCell ⟨n₀ + 1, 0, none⟩ e).setCell ⟨n₀ + 1, 1, none⟩ a).drew) n₀ T v ∧ Blk ((((W3.setCell ⟨n₀, 0, none⟩ v).setCell ⟨n₀ + 1, 0, none⟩ e).setCell ⟨n₀ + 1, 1, none⟩ a).drew) (n₀ + 1) Ft [e, a] ∧
      KeepsOthers W3 ((((W3.setCell ⟨n₀, 0, none⟩ v).setCell ⟨n₀ + 1, 0, none⟩ e).setCell ⟨n₀ + 1, 1, none⟩ a).drew) ∧ Below n₀ W3 ((((W3.setCell ⟨n₀, 0, none⟩ v).setCell ⟨n₀ + 1, 0, none⟩ e).setCell ⟨n₀ + 1, 1, none⟩ a).drew) := by
  match fs, hl with
  | [x, y], _ =>
    refine ⟨?_, ?_, ?_, ?_⟩
    · exact ((b0.set v).kept (grownBy_setCell' _ (n₀ + 1) e) (by simp)).kept (W' := (((W3.setCell ⟨n₀, 0, none⟩ v).setCell ⟨n₀ + 1, 0, none⟩ e).setCell ⟨n₀ + 1, 1, none⟩ a)) (row := some (n₀ + 1)) ⟨rfl, rfl, rfl, by simp, fun k _ hk => Below.heap_setCell _ _ _ k (fun e => hk (by rw [e]))⟩ (by simp)
    · exact blk_set 1 a (blk_set 0 e (blk_other b1 (by simp) v))
    · exact (((KeepsOthers.setCell _ _ _).trans (KeepsOthers.setCell _ _ _)).trans (KeepsOthers.setCell _ _ _)).trans (KeepsOthers.drew _)
    · exact below_drew1 ((((Below.refl n₀ W3).setCell (p := ⟨n₀, 0, none⟩) (by simp) v).setCell (p := ⟨n₀ + 1, 0, none⟩) (by simp) e).setCell (p := ⟨n₀ + 1, 1, none⟩) (by simp) a)
theorem S_keeps {α : Type} {d : Kd α} {e base : Nat} {W3 w1 : World} {ok : Nat → Prop} {v : Value} {xs : List α} {tmp : Obj} (h : Kd.S d e W3 base ok v xs) (hb : base ≤ W3.heap.size) (hg : (W3.alloc tmp).grownBy w1 v.ownBlock) : KeepsOthers W3 w1 ∧ Below base W3 w1 := by
  have hR := (Kd.R_bound (Kd.S_R h)).1
  refine ⟨(KeepsOthers.alloc W3 tmp).trans (KeepsOthers.of_grownBy hg fun j o ej hj => ?_), ((Below.refl base W3).alloc hb tmp).grown hg (by simp; omega) (fun k ek => (hR k ek).2.1)⟩
  obtain ⟨_, _, hlt, q, _, cells, hc⟩ := hR j ej
  rw [Below.heap_alloc _ _ _ hlt, hc] at hj
  cases hj; rfl
theorem S_putObj {α : Type} {d : Kd α} {e base base' : Nat} {X : World} {ok : Nat → Prop} {v : Value} {xs : List α} {D : Nat} {o : Obj} (o' : Obj) (h : Kd.S d e X base ok v xs) (hX : X.heap[D]? = some o) (hc : o.isCells = false) (hb : base' ≤ base) : Kd.S d e (X.putObj D o') base' (fun _ => True) v xs := by
  obtain ⟨f, hf⟩ := Kd.S_step (Kd.S_bound h) (w1 := X.putObj D o') (fun k hk hlt => by
    refine (grownBy_putObj' X D o').block k hlt (fun e => ?_)
    cases e
    obtain ⟨_, _, _, q, _, cells, hcc⟩ := hk
    rw [hX] at hcc; cases hcc; simp [Obj.isCells] at hc)
  exact Kd.S_mono ⟨f, Kd.R_lower hf hb⟩ (fun _ _ => trivial)
/-! ### Results in boxes -/
theorem run_loadVar_box {P : Program} {ty t : TypeId} {d : TypeDesc} {w : World} {g : Nat} {v : Value} (hg : Boxed w g t v) (hu : P.underlying ty = some d) (hd : (match d with | .struct _ | .array _ _ => true | _ => false) = false) :
    (loadVar ty ⟨g, 0, none⟩).run P w = .ok v w := by
  have hagg : (isAgg ty).run P w = .ok false w := by
    unfold isAgg
    rw [Sem.run_bind, run_underlying hu w]
    cases d <;> simp_all
  simp [loadVar, Sem.run_bind, hagg, load, Sem.run, hg.cell]
theorem results_bc {P : Program} {fn : Func} {p p' : Tmp} {ty ty' : TypeId} (h : fn.results = #[.cell p ty, .cell p' ty']) (tmps : Array Value) (w : World) (g g' : Nat) (t t' : TypeId) (v : Value) (cs' : Array Value) (d d' : TypeDesc)
    (hp : tmps.getD p undef = .pointer (some ⟨g, 0, none⟩)) (hg : Boxed w g t v) (hu : P.underlying ty = some d) (hd : (match d with | .struct _ | .array _ _ => true | _ => false) = false)
    (hp' : tmps.getD p' undef = .pointer (some ⟨g', 0, none⟩)) (hg' : w.heap[g']? = some (.cells cs' t' (0, 0)))
    (hu' : P.underlying ty' = some d') (hd' : (match d' with | .struct _ | .array _ _ => true | _ => false) = true) (hi' : (P.info? ty').map (·.size) = some cs'.size) :
    (results fn tmps).run P w = .ok (.tuple #[v, .agg cs']) w := by
  have h1 : tmps[p]?.getD undef = .pointer (some ⟨g, 0, none⟩) := by simpa using hp
  have h2 : tmps[p']?.getD undef = .pointer (some ⟨g', 0, none⟩) := by simpa using hp'
  simp [results, h, h1, h2, asAddr, run_loadVar_box hg hu hd, run_loadVar_row w g' t' ty' cs' (0, 0) d' hg' hu' hd' hi']

/-! ### A region that draws its order, within a round -/
theorem Oper.wpIn_round {F : Fence} {n : Nat} {P : Program} {o : Oper} {a : Act} {w : World} {K : Act → World → Prop} {Q : Exit → Act → World → Prop} (l : Nat) (hd : ∀ c, o.op ≠ .defer c) (h : o.wpIn F n P a w K Q) : o.wpIn (F.inRound l) n P a w K Q := by
  unfold Oper.wpIn at *
  rw [Oper.semAt_eq _ _ _ hd] at *
  exact h
theorem wpOpsIn_round {F : Fence} {n : Nat} {P : Program} {ops : Array Oper} {Q : Exit → Act → World → Prop} (l : Nat) (hd : ∀ (i : Nat) (o : Oper), ops[i]? = some o → ∀ c, o.op ≠ .defer c) : ∀ (is : List Nat) (a : Act) (w : World), wpOpsIn F n P ops Q is a w → wpOpsIn (F.inRound l) n P ops Q is a w := by
  intro is
  induction is with
  | nil => intro a w h; exact h
  | cons i is ih =>
    intro a w h
    rw [wpOpsIn_cons] at h ⊢
    unfold wpOpIn at h ⊢
    cases ho : ops[i]? with
    | none => rw [ho] at h; exact ih _ _ h
    | some o =>
      rw [ho] at h
      dsimp only at h ⊢
      split
      · rename_i hw
        rw [if_pos hw] at h
        exact Oper.wpIn_round l (hd i o ho) (Oper.wpIn_mono (fun _ _ => ih _ _) h)
      · rename_i hw
        rw [if_neg hw] at h
        exact ⟨h.1, ih _ _ h.2⟩
def isDefer : Op → Bool
  | .defer _ => true
  | _ => false
theorem wpIn_region_round {F : Fence} {n : Nat} {P : Program} {ops : Array Oper} {Q : Exit → Act → World → Prop} {id l : Nat} {a : Act} {w : World} (hm : P.follows .mixedOrders = true) (hd : ops.toList.all (fun o => !isDefer o.op) = true)
    (h : wpAnyIn F n P .any ops Q ops.size (Array.replicate ops.size false) a (World.drew w)) : (Code.region id ops true).wpIn (F.inRound l) n P Q a w :=
  wpIn_region_draw fun t => by
    refine wpOpsIn_round l (fun i o ho c hc => ?_) _ _ _ ?_
    · have := List.all_eq_true.1 hd o (by rw [← Array.getElem?_toList] at ho; exact List.mem_of_getElem? ho)
      rw [hc] at this
      simp [isDefer] at this
    · simp only [Region.schedule, hm, Bool.true_or, if_true]
      exact wpAnyIn_sound ops.size t _ a _ h

end Go.Proofs.Ytaofommgdgmncaa.Iter

/- Sets of numbers below 64 as vectors of bits: what Go's operations on a uint64 say of them. -/
namespace Go.Proofs.Ytaofommgdgmncaa.Bits
set_option linter.unusedVariables false
set_option linter.unusedSimpArgs false
open Go.RowKit Go.Proofs.YtaofommgdgmncaaW.PrintWords Go.Proofs.YtaofommgdgmncaaW.PrintLast Go.Proofs.YtaofommgdgmncaaW.PrintMore

end Go.Proofs.Ytaofommgdgmncaa.Bits

/- The parts of a text between separators, by bytes. -/
namespace Go.Proofs.Ytaofommgdgmncaa.Parts
set_option linter.unusedVariables false
set_option linter.unusedSimpArgs false

/-- Is there a separator at place k (or the text's end)? -/
def cutAt (s : ByteArray) (by_ : Int) (k : Nat) : Bool := match s.data.toList[k]? with | some c => ((c.toNat : Int) == by_) | none => true
/-- The parts that end before place k, and where the next one begins. -/
def pf (s : ByteArray) (by_ : Int) : Nat → List ByteArray × Nat
  | 0 => ([], 0)
  | k + 1 => if cutAt s by_ k then ((pf s by_ k).1 ++ [s.extract (pf s by_ k).2 k], k + 1) else pf s by_ k
def partsOf (s : ByteArray) (by_ : Int) : List ByteArray := (pf s by_ (s.size + 1)).1
theorem pf_from (s : ByteArray) (b : Int) (k : Nat) : (pf s b k).2 ≤ k := by
  induction k with
  | zero => exact Nat.le_refl _
  | succ k ih =>
    rw [pf]
    split
    · exact Nat.le_refl _
    · omega
theorem pf_len (s : ByteArray) (b : Int) (k : Nat) : (pf s b k).1.length ≤ k := by
  induction k with
  | zero => exact Nat.le_refl _
  | succ k ih =>
    rw [pf]
    split
    · simp; omega
    · omega
theorem pf_hit {s : ByteArray} {b : Int} {k : Nat} (h : cutAt s b k = true) : pf s b (k + 1) = ((pf s b k).1 ++ [s.extract (pf s b k).2 k], k + 1) := by rw [pf, if_pos h]
theorem pf_miss {s : ByteArray} {b : Int} {k : Nat} (h : cutAt s b k = false) : pf s b (k + 1) = pf s b k := by rw [pf, if_neg (by simp [h])]
theorem blen (s : ByteArray) : s.data.toList.length = s.size := by rw [Array.length_toList]; rfl
theorem cut_end (s : ByteArray) (b : Int) : cutAt s b s.size = true := by
  have h : s.data.toList[s.size]? = none := List.getElem?_eq_none (by rw [blen]; exact Nat.le_refl _)
  unfold cutAt
  rw [h]
theorem cut_get {s : ByteArray} {b : Int} {k : Nat} (h : k < s.size) : cutAt s b k = (((s[k]'h).toNat : Int) == b) := by
  have h' : k < s.data.toList.length := by rw [blen]; exact h
  unfold cutAt
  rw [List.getElem?_eq_getElem h']
  rfl
theorem pf_prefix (s : ByteArray) (b : Int) (k d : Nat) : ∃ r, (pf s b (k + d)).1 = (pf s b k).1 ++ r := by
  induction d with
  | zero => exact ⟨[], by simp⟩
  | succ d ih =>
    obtain ⟨r, hr⟩ := ih
    rw [← Nat.add_assoc]
    cases hc : cutAt s b (k + d) with
    | true => rw [pf_hit hc]; exact ⟨r ++ [_], by rw [hr, List.append_assoc]⟩
    | false => rw [pf_miss hc]; exact ⟨r, hr⟩
theorem parts_prefix {s : ByteArray} {b : Int} {k : Nat} (h : k ≤ s.size) : ∃ r, partsOf s b = (pf s b (k + 1)).1 ++ r := by
  obtain ⟨r, hr⟩ := pf_prefix s b (k + 1) (s.size - k)
  exact ⟨r, by rw [← hr, partsOf]; congr 2; omega⟩

end Go.Proofs.Ytaofommgdgmncaa.Parts

